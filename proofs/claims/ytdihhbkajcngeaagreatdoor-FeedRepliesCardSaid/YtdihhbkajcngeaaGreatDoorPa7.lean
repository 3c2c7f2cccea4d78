/- What Print of package fields returns. What Print of package reply returns. What cut of package feed does. The steps of Put of a feed: bytes and replies are appended. What Print of the reference of fields returns. What Over of the reference of fields returns. Whether two replies of the document are the same. What the laws' Own and Back make of fields and of replies. What Over and Print of the reference of reply return. -/
import Derived.Test.YtdihhbkajcngeaaGreatDoorPa6
import Derived.Deep.RegionWith
import Derived.Deep.RegionHeld3
import Derived.Deep.AppendLies
import Derived.BigQuiet
import Derived.Outline
set_option linter.unusedVariables false
namespace Go.Proofs.YtdihhbkajcngeaaGreatDoor
open Go.RowKit

/-- a text of bs, whatever is told of the list -/
theorem ret_pair {x x' : ByteArray} {E E' : Int} (h : x = x') (h2 : E = E') : Ending.returned (.tuple #[.string x, .int .i64 E]) = .returned (.tuple #[.string x', .int .i64 E']) := by rw [h, h2]
theorem fieldE_not (n v : List UInt8) (h : printOk n v = false) : fieldE n v = 4 ∧ fieldS n v = [] := by
  have h1 : fieldE n v = 4 := by unfold fieldE; rw [h]; rfl
  exact ⟨h1, by unfold fieldS; rw [h1]; rfl⟩

theorem box_cells (w : World) (n v : ByteArray) (t : TypeId) : (w.alloc (.cells #[.string n, .string v] t)).cell? ⟨w.heap.size, 0, none⟩ = some (.string n) ∧ (w.alloc (.cells #[.string n, .string v] t)).cell? ⟨w.heap.size, 1, none⟩ = some (.string v) := by
  have hh := heap_alloc_new w (.cells #[.string n, .string v] t)
  exact ⟨by unfold World.cell?; rw [hh]; rfl, by unfold World.cell?; rw [hh]; rfl⟩
theorem below_box2 (w : World) (x y : Value) (t : TypeId) : Below w.heap.size w (w.alloc (.cells #[x, y] t)) := (Below.refl _ _).alloc (Nat.le_refl _) _
theorem fieldE_yes (n v : List UInt8) (h : printOk n v = true) : (256 < (printL n v).length → fieldE n v = 5 ∧ fieldS n v = []) ∧ ((printL n v).length ≤ 256 → fieldE n v = 0 ∧ fieldS n v = printL n v) := by
  constructor
  · intro hl
    have h1 : fieldE n v = 5 := by unfold fieldE; rw [h, if_pos rfl, if_pos hl]
    exact ⟨h1, by unfold fieldS; rw [h1]; rfl⟩
  · intro hl
    have h1 : fieldE n v = 0 := by unfold fieldE; rw [h, if_pos rfl, if_neg (by omega)]
    exact ⟨h1, by unfold fieldS; rw [h1]; rfl⟩

end Go.Proofs.YtdihhbkajcngeaaGreatDoor
namespace Go.Proofs.YtdihhbkajcngeaaGreatDoor
open Go.RowKit

theorem own_tagF {w : World} {base : Nat} {e : TypeId} {size : Nat} {v : Value} {n : Nat} {xs : List Value} (h : w.ownsRow base e size v n xs) (g : Nat) (hg : v.ownBlock = some g) : ∃ cur, w.heap[g]? = some (.cells cur e (0, 0)) := by
  rcases h.2 with ⟨rfl, _⟩ | ⟨g', cap, cur, rfl, _, hgg, _⟩
  · cases hg
  · obtain rfl : g' = g := by simpa [Value.ownBlock] using hg
    exact ⟨cur, hgg⟩
theorem own_apartF {w : World} {b1 b2 : Nat} {e1 e2 : TypeId} {s1 s2 n1 n2 : Nat} {v1 v2 : Value} {x1 x2 : List Value} (h1 : w.ownsRow b1 e1 s1 v1 n1 x1) (h2 : w.ownsRow b2 e2 s2 v2 n2 x2) (hne : e1 ≠ e2) : v1.ownBlock = none ∨ v1.ownBlock ≠ v2.ownBlock := by
  cases hv : v1.ownBlock with
  | none => exact .inl rfl
  | some g =>
    refine .inr (fun e => ?_)
    obtain ⟨c1, k1⟩ := own_tagF h1 g hv
    obtain ⟨c2, k2⟩ := own_tagF h2 g e.symm
    rw [k1] at k2
    simp only [Option.some.injEq, Obj.cells.injEq] at k2
    exact hne k2.2.1
/-- a row of fields stays behind an append to a row of texts -/
theorem own_stays {w w' : World} {b1 b2 : Nat} {e1 e2 : TypeId} {s1 s2 n1 n2 : Nat} {v1 v2 : Value} {x1 x2 : List Value} (h1 : w.ownsRow b1 e1 s1 v1 n1 x1) (h2 : w.ownsRow b2 e2 s2 v2 n2 x2) (hne : e1 ≠ e2) (g : w.grownBy w' v2.ownBlock) : w'.ownsRow b1 e1 s1 v1 n1 x1 := by
  refine ⟨h1.1, ?_⟩
  rcases h1.2 with h0 | ⟨b, cap, cur, e, e2', e3, e4⟩
  · exact .inl h0
  · refine .inr ⟨b, cap, cur, e, e2', (g.block b (Array.getElem?_eq_some_iff.1 e3).1 (fun hh => ?_)).trans e3, e4⟩
    rcases own_apartF h1 h2 hne with hx | hx
    · rw [e] at hx; cases hx
    · rw [e] at hx; exact hx hh
theorem own_mono {w : World} {b1 b2 : Nat} {e : TypeId} {s n : Nat} {v : Value} {x : List Value} (h : w.ownsRow b1 e s v n x) (hb : b2 ≤ b1) : w.ownsRow b2 e s v n x := by
  refine ⟨h.1, ?_⟩
  rcases h.2 with h0 | ⟨b, cap, cur, e1, e2, e3⟩
  · exact .inl h0
  · exact .inr ⟨b, cap, cur, e1, Nat.le_trans hb e2, e3⟩
theorem own_fslice {w : World} {base : Nat} {e : TypeId} {size n : Nat} {v : Value} {xs : List Value} (h : w.ownsRow base e size v n xs) : ∃ a c, v = .slice a n c := by
  rcases h.2 with ⟨rfl, rfl⟩ | ⟨g, cap, cur, rfl, _⟩
  · exact ⟨_, _, rfl⟩
  · exact ⟨_, _, rfl⟩
theorem EnvF.env {w : World} (h : EnvF w) : Env w := ⟨h.m, h.pow, h.big⟩
theorem own_fcell {w : World} {base n g cap : Nat} {e : TypeId} {fs : List (List UInt8 × List UInt8)} (h : w.ownsRow base e 2 (.slice (some ⟨g, 0, none⟩) n cap) n (fcells fs)) (j : Nat) (hj : j < fs.length) :
    w.cell? ⟨g, j * 2, none⟩ = some (.string (bs fs[j].1)) ∧ w.cell? ⟨g, j * 2 + 1, none⟩ = some (.string (bs fs[j].2)) := by
  have h1 := h.cells (g := g) rfl (j * 2) _ (fcells_get fs j hj).1
  have h2 := h.cells (g := g) rfl (j * 2 + 1) _ (fcells_get fs j hj).2
  have e0 : ∀ k, (⟨g, 0, none⟩ : Addr).add k = ⟨g, k, none⟩ := fun k => by unfold Addr.add; split <;> simp_all
  rw [e0] at h1 h2
  exact ⟨h1, h2⟩
theorem own_scell {w : World} {base n g cap : Nat} {e : TypeId} {xs : List (List UInt8)} (h : w.ownsRow base e 1 (.slice (some ⟨g, 0, none⟩) n cap) n (strs xs)) (j : Nat) (hj : j < xs.length) :
    w.cell? ⟨g, j, none⟩ = some (.string (bs xs[j])) := by
  have h1 := h.cells (g := g) rfl j _ (strs_get xs j hj)
  have e0 : ∀ k, (⟨g, 0, none⟩ : Addr).add k = ⟨g, k, none⟩ := fun k => by unfold Addr.add; split <;> simp_all
  rw [e0] at h1
  exact h1
theorem own_block_lt {w : World} {base n : Nat} {e : TypeId} {size : Nat} {v : Value} {xs : List Value} (h : w.ownsRow base e size v n xs) : ∀ k, v.ownBlock = some k → k < w.heap.size := by
  intro k hk
  obtain ⟨cur, hc⟩ := own_tagF h k hk
  exact (Array.getElem?_eq_some_iff.1 hc).1
theorem own_form {w : World} {base n : Nat} {e : TypeId} {size : Nat} {v : Value} {xs : List Value} (h : w.ownsRow base e size v n xs) (hn : 0 < n) : ∃ g cap, v = .slice (some ⟨g, 0, none⟩) n cap ∧ base ≤ g := by
  rcases h.2 with ⟨-, h0⟩ | ⟨g, cap, cur, hv, hb, -⟩
  · omega
  · exact ⟨g, cap, hv, hb⟩
def InsPost (base N : Nat) (gs : List (List UInt8 × List UInt8)) (w : World) (e : Ending) (w' : World) : Prop :=
  ∃ g cap, e = .returned (.slice (some ⟨g, 0, none⟩) N cap) ∧ w'.ownsRow base 73 2 (.slice (some ⟨g, 0, none⟩) N cap) N (fcells gs) ∧ Below base w w'
/-- append of one text, the new value written out -/
theorem append_strL {ops : Array Oper} {rest : List Oper} {o : Oper} {a : Act} {Q : Exit → Act → World → Prop} (w0 : World) (hgd : o.guard = none) (s x : Operand)
    (ho : o.op = .call { callee := .builtin .append, args := #[s, x], argTypes := #[22, 22] })
    (base n : Nat) (v : Value) (xs : List (List UInt8)) (hs : a.eval s = v) (hown : w0.ownsRow base 9 1 v n (strs xs))
    (b : ByteArray) (l : List UInt8) (hbl : b = bs l) (hx : a.eval x = .slice (some ⟨w0.heap.size, 0, none⟩) 1 1) (hn : n < 2147483648) (hbase : base ≤ w0.heap.size)
    (h : ∀ g cap w', w'.ownsRow base 9 1 (.slice (some ⟨g, 0, none⟩) (n + 1) cap) (n + 1) (strs (xs ++ [l])) → w0.grownBy w' v.ownBlock → wpList Tryz.prog ops Q rest (a.put o.dst (.slice (some ⟨g, 0, none⟩) (n + 1) cap)) w') :
    wpList Tryz.prog ops Q (o :: rest) a (w0.alloc (.cells #[.string b] 9)) := by
  obtain ⟨i0, hi, hz0, hz1, hz2⟩ := info_parts info_str
  subst hbl
  refine wpList_append_lies _ hgd s x 22 ho base 9 i0 _ 1 16 Tryz.underlying22 hi hz0 hz1 hz2 rfl (by decide) v n (strs xs) hs (hown.alloc _) ⟨w0.heap.size, 0, none⟩ 1 1 [.string (bs l)] hx rfl (cell_one_new w0 _ _) (by simp [Value.oneCell']) (by decide) (by unfold maxLen; omega) (by omega) (by simp; omega) _ rfl ?_
  intro g cap w' h2 h3 h4 h5
  refine h g cap w' ?_ ?_
  · rw [strs_append, strs_one]; exact h2
  · exact ⟨h3.os, h3.tape, h3.output, Nat.le_trans (by simp) h3.size, fun k hk hne => (h3.block k (by simp; omega) hne).trans (heap_alloc_old w0 _ hk)⟩
theorem ownE_bad (fs : List (List UInt8 × List UInt8)) (j : Nat) (hj : j < fs.length) (hok : ∀ i (hi : i < fs.length), i < j → fs[i].1 ≠ clen ∧ fieldE fs[i].1 fs[i].2 = 0) :
    (fs[j].1 = clen → ownE fs = 22) ∧ (fs[j].1 ≠ clen → fieldE fs[j].1 fs[j].2 ≠ 0 → ownE fs = fieldE fs[j].1 fs[j].2) := by
  rw [ownE_at fs j hok, List.drop_eq_getElem_cons hj]
  refine ⟨fun h => if_pos h, fun h1 h2 => ?_⟩
  unfold ownE
  rw [if_neg h1, if_pos h2]
theorem ownE_good (fs : List (List UInt8 × List UInt8)) (hok : ∀ i (hi : i < fs.length), fs[i].1 ≠ clen ∧ fieldE fs[i].1 fs[i].2 = 0) : ownE fs = 0 := by
  rw [ownE_at fs fs.length (fun j hj _ => hok j hj), List.drop_length]; rfl
def RPost (c : Int) (fs : List (List UInt8 × List UInt8)) (b : List UInt8) (w : World) (e : Ending) (w' : World) : Prop :=
  e = .returned (.tuple #[.string (bs (repS c fs b)), .int .i64 (repE c fs : Nat)]) ∧ Below w.heap.size w w'
end Go.Proofs.YtdihhbkajcngeaaGreatDoor
namespace Go.Proofs.YtdihhbkajcngeaaGreatDoor
open Go.RowKit Go.Shelf Go.Lib
theorem cut_fin {p : Nat} {m : Int} {l l' : List UInt8} {v v1 : Value} {w w1 : World} {b : Nat} {e : Nat} (hF : FAt w p m l e v) (hB : Below w.heap.size w w1) (h1 : w1.ownsRow b 5 1 v1 l'.length (bytesV l')) (hb : w.heap.size ≤ b) :
    ∃ v', FAt (w1.setCell ⟨p, 2, none⟩ v1) p m l' e v' ∧ Touch (fun g => g = p) w (w1.setCell ⟨p, 2, none⟩ v1) ∧ (∀ g, v'.ownBlock = some g → w.heap.size ≤ g) := by
  have hpl := hF.lt
  refine ⟨v1, ⟨row_set4 ((hB.block p hpl).trans hF.blk) v1, ?_⟩, touch_set v1 (Touch.of_below hB) (.inl rfl), fun g hg => Nat.le_trans hb (h1.lt g hg).1⟩
  refine own_of_block (own_mono h1 (Nat.zero_le _)) (fun g hg => set_far (fun e => ?_))
  have := (h1.lt g hg).1
  have e2 : g = p := e
  omega
set_option maxRecDepth 100000 in
set_option maxHeartbeats 2000000 in
theorem feed_cut_at {p : Nat} {m : Int} {l : List UInt8} {v : Value} {w : World} (n : Nat) (h : FAt w p m l 0 v) (hn : n ≤ l.length) (hp : 0 < l.length) (hl : l.length ≤ 2000000) :
    Calls Tryz.prog 23 #[.pointer (some ⟨p, 0, none⟩), .int .i64 n] w fun e w' => e = .returned (.tuple #[]) ∧ ∃ v', FAt w' p m (l.drop n) 0 v' ∧ Touch (fun g => g = p) w w' ∧ (∀ g, v'.ownBlock = some g → w.heap.size ≤ g) := by
  obtain ⟨c0, c1, c2, c3, f2, f3⟩ := h.cells
  obtain ⟨g, cap, rfl, hg0⟩ : ∃ g cap, v = .slice (some ⟨g, 0, none⟩) l.length cap ∧ l.length ≤ cap := by
    rcases h.own.2 with ⟨-, h0⟩ | ⟨g, cap, cur, rfl, h1, h2, h3, h4⟩
    · omega
    · exact ⟨g, cap, rfl, h3⟩
  have hgl : g < w.heap.size := (h.own.lt g rfl).2
  have hcell := h.own.cells (g := g) rfl
  have HC := Lib.hid (fun W o k (hW : Below w.heap.size w W) (ho : o = n ∨ l.length = n) (hk : k = l.length - n) => clone_bytes g o k k (l.drop n) W (by rw [List.length_drop, hk]) (by omega) (Nat.lt_of_lt_of_le hgl hW.size) (fun j u hu => by
    have e0 : ∀ k, (⟨g, 0, none⟩ : Addr).add k = ⟨g, k, none⟩ := fun k => by unfold Addr.add; split <;> simp_all
    rcases ho with rfl | ho
    · have hd : (bytesV l)[o + j]? = some u := by
        rw [← hu]; unfold bytesV; rw [List.map_drop, List.getElem?_drop]
      have := hcell (o + j) u hd
      rw [e0] at this
      exact (hW.cell (p := ⟨g, o + j, none⟩) hgl).trans this
    · rw [List.drop_eq_nil_of_le (by omega)] at hu
      cases hu))
  have HF := Lib.hid h
  have hpl := h.lt
  obtain ⟨L, hL⟩ : ∃ L, l.length = L := ⟨_, rfl⟩
  rw [hL] at c2 hn hp hg0
  have HL := Lib.hid hL
  rw [hL] at HC
  have hnI : (n : Int) ≤ (L : Int) := by omega
  have hLc : (L : Int) ≤ (cap : Int) := by omega
  clear hcell h hL
  go_enter Tryz.func23, Tryz.ntmps23
  go_wp2_with fail
  go_quiet (fail)
  have hbq : Below w.heap.size w (w.drewN nq) := ⟨rfl, rfl, rfl, Nat.le_refl _, fun _ _ => rfl⟩
  have HBQ := Lib.hid hbq
  generalize hwq : w.drewN nq = wq at HBQ ⊢
  clear hbq hwq
  go_wp2_with fail
  case' inl h => have HC1 := HC.out wq 0 0 HBQ.out (.inr h) (by omega)
  case' inr => have HC1 := HC.out wq n (L - n) HBQ.out (.inl rfl) rfl
  all_goals
    refine HC1.mono ?_
    rintro e w1 ⟨v1, rfl, h1, h2⟩
    obtain ⟨N1, hN1, hown⟩ : ∃ N1, N1 = (l.drop n).length ∧ w1.ownsRow wq.heap.size 5 1 v1 N1 (bytesV (l.drop n)) := ⟨_, by first | (rw [List.length_drop, HL.out]; done) | (rw [List.length_drop, HL.out]; omega), h1⟩
    subst hN1
    obtain ⟨a1, k1, hv1⟩ := slice_of_own hown
    have H1 := Lib.hid hown
    obtain ⟨N2, hN2⟩ : ∃ N2, (l.drop n).length = N2 := ⟨_, rfl⟩
    rw [hN2] at hv1
    subst hv1
    have H2 := Lib.hid h2
    have B1 := HBQ.out.trans (h2.mono HBQ.out.size)
    have HB1 := Lib.hid B1
    have c2' := (B1.cell (p := ⟨p, 2, none⟩) hpl).trans c2
    have f2' := (B1.frozen (p := ⟨p, 2, none⟩) hpl).trans f2
    clear h1 h2 hown hN2 HC1 B1 c0 c1 c2 c3 f2 f3
    try clear h
    go_wp2_with fail
    go_end0
    exact ⟨rfl, cut_fin HF.out HB1.out H1.out HBQ.out.size⟩
end Go.Proofs.YtdihhbkajcngeaaGreatDoor
namespace Go.Proofs.YtdihhbkajcngeaaGreatDoor
open Go.RowKit Go.Shelf Go.Lib
theorem run_append_string_at0 (w : World) (t u ty e : TypeId) (i : TypeInfo) (ht : Tryz.prog.underlying t = some (.slice e)) (hu : Tryz.prog.underlying u = some .string) (hi : Tryz.prog.info? e = some i) (hz : i.zero = some (.int .u8 0)) (hsize : i.size = 1) (hby : i.bytes = 1)
    (v : Value) (n : Nat) (xs : List Value) (hown : w.ownsRow 0 e 1 v n xs) (s : ByteArray) (h63 : n + s.size ≤ maxLen) (hbytes : n + s.size ≤ 140737488355328) (v' : Value) (w' : World) (hr : (Builtin.append_ #[t, u] ty #[v, .string s]).run Tryz.prog w = .ok v' w') (h0 : v = .slice none 0 0 → s.size = 0 → v' = .slice none 0 0) :
    v'.ownBlock = v.ownBlock ∨ v'.ownBlock = some w.heap.size := by
  by_cases hs : 0 < s.size
  · exact run_append_string_at w t u ty e i ht hu hi hz hsize hby v n xs hown s hs h63 hbytes v' w' hr
  have hs0 : s.size = 0 := by omega
  have hown2 := hown
  rcases hown2.2 with ⟨hv, rfl⟩ | ⟨g, cap, cur, rfl, hbg, hg, hnc, hcm, hcs, htake⟩
  · rw [h0 hv hs0, hv]; exact .inl rfl
  · have h := Lib.run_append_room_string (P := Tryz.prog) w t u ty e i ht hu hi hsize g n cap cur hg s (by omega) (by have : cur.size = cap := (by simpa using hcs); omega)
    rw [h] at hr
    injection hr with e1 _
    exact .inl (by rw [← e1]; rfl)
/-- bytes are appended to what is left -/
theorem append_left {ops : Array Oper} {rest : List Oper} {o : Oper} {a : Act} {Q : Exit → Act → World → Prop} (W : World) {p : Nat} {m : Int} {l : List UInt8} {e : Nat} {v : Value} (S : ByteArray) (h : FAt W p m l e v) (hl : l.length + S.size ≤ 4000000)
    (hgd : o.guard = none) (x y : Operand) (ho : o.op = .call { callee := .builtin .append, args := #[x, y], argTypes := #[53, 9] }) (hx : a.eval x = v) (hy : a.eval y = .string S)
    (k : ∀ a1 n1 c1 w1, w1.cell? ⟨p, 2, none⟩ = some v → w1.frozen? ⟨p, 2, none⟩ = false → FAt (w1.setCell ⟨p, 2, none⟩ (.slice a1 n1 c1)) p m (l ++ S.data.toList) e (.slice a1 n1 c1) → Touch (FS p v) W (w1.setCell ⟨p, 2, none⟩ (.slice a1 n1 c1)) → (∀ g, (Value.slice a1 n1 c1).ownBlock = some g → v.ownBlock = some g ∨ W.heap.size ≤ g) → wpList Tryz.prog ops Q rest (a.put o.dst (.slice a1 n1 c1)) w1) :
    wpList Tryz.prog ops Q (o :: rest) a W := by
  refine wpList_plain hgd fun K hK => ?_
  obtain ⟨i0, hi, hz0, hz1, hz2⟩ := info_parts info_byteF
  have hb := h.blk
  have hpl := h.lt
  obtain ⟨v', w1, hr, h1, h2, h3⟩ := Lib.run_append_own_string (P := Tryz.prog) W 0 53 9 o.type 5 i0 Tryz.underlying53 Tryz.underlying9 hi hz0 hz1 hz2 v l.length (bytesV l) h.own S (by unfold maxLen; omega) (by omega) (Nat.zero_le _)
  have h4 := run_append_string_at0 W 53 9 o.type 5 i0 Tryz.underlying53 Tryz.underlying9 hi hz0 hz1 hz2 v l.length (bytesV l) h.own S (by unfold maxLen; omega) (by omega) v' w1 hr (fun e1 e2 => h3.2 ⟨e1, e2⟩)
  have hown : w1.ownsRow 0 5 1 v' (l ++ S.data.toList).length (bytesV (l ++ S.data.toList)) := by
    rw [bytesV_str, ← bytesV_append] at h1
    rw [List.length_append, size_len]
    exact h1
  obtain ⟨a1, c1, hv'⟩ := slice_of_own hown
  have hne : v.ownBlock ≠ some p := h.apart
  have hb1 : w1.heap[p]? = some (.cells #[.bool true, .int .i64 m, v, .int .i64 (e : Nat)] 55 (0, 0)) := (h2.block p hpl (fun e => hne e.symm)).trans hb
  have hne' : v'.ownBlock ≠ some p := own_not_row hown hb1 (by decide)
  have hc : w1.cell? ⟨p, 2, none⟩ = some v := by unfold World.cell?; rw [hb1]; rfl
  have hf : w1.frozen? ⟨p, 2, none⟩ = false := by unfold World.frozen?; rw [hb1]; rfl
  generalize (l ++ S.data.toList).length = n1 at hv'
  subst hv'
  unfold Oper.wp execOp
  simp only [ho, resolve, invoke, builtin, Sem.run_bind, Sem.run_pure, Result.andThen_ok, List.map_toArray, List.map_cons, List.map_nil, hx, hy, hr]
  refine hK _ _ (k a1 n1 c1 w1 hc hf ⟨row_set4 hb1 _, own_of_block hown (fun g hg => set_far (fun e => hne' (by rw [hg, show g = p from e])))⟩ ?_ ?_)
  · exact touch_set _ (Touch.of_grown h2 (fun g hg => .inl (.inr hg))) (.inl (.inl rfl))
  · intro g hg
    rcases h4 with h4 | h4
    · exact .inl (h4 ▸ hg)
    · rw [h4] at hg
      exact .inr (by injection hg with hg; omega)
/-- a reply is appended -/
theorem append_reply {ops : Array Oper} {rest : List Oper} {o : Oper} {a : Act} {Q : Exit → Act → World → Prop} (w0 : World) (c : Int) (af : Option Addr) (cf : Nat) (F : List (List UInt8 × List UInt8)) (B : ByteArray) (hgd : o.guard = none) (s x : Operand)
    (ho : o.op = .call { callee := .builtin .append, args := #[s, x], argTypes := #[31, 31] })
    (base : Nat) (v : Value) (rs : List (Int × List (List UInt8 × List UInt8) × List UInt8)) (hs : a.eval s = v) (hown : ROwn w0 base v rs) (r : Int × List (List UInt8 × List UInt8) × List UInt8) (hr : r.1 = c ∧ r.2.1 = F ∧ bs r.2.2 = B) (hF : w0.ownsRow 0 73 2 (.slice af F.length cf) F.length (fcells F))
    (hx : a.eval x = .slice (some ⟨w0.heap.size, 0, none⟩) 1 1) (hn : rs.length < 2147483648) (hbase : base ≤ w0.heap.size)
    (h : ∀ g n cap w', ROwn w' base (.slice (some ⟨g, 0, none⟩) n cap) (rs ++ [r]) → w0.grownBy w' v.ownBlock → wpList Tryz.prog ops Q rest (a.put o.dst (.slice (some ⟨g, 0, none⟩) n cap)) w') :
    wpList Tryz.prog ops Q (o :: rest) a (w0.alloc (.cells #[.int .i64 c, .slice af F.length cf, .string B] 52)) := by
  obtain ⟨i0, hi, hz0, hz1, hz2⟩ := info_parts info_reply
  obtain ⟨fs, h1, h2, h3⟩ := hown
  obtain ⟨r1, r2, r3⟩ := hr
  refine wpList_append_lies _ hgd s x 31 ho base 52 i0 _ 3 48 Tryz.underlying31 hi hz0 hz1 hz2 rfl (by decide) v rs.length (rcells rs fs) hs (h2.alloc _) ⟨w0.heap.size, 0, none⟩ 1 1 [.int .i64 c, .slice af F.length cf, .string B] hx rfl (World.news_of_block (heap_alloc_new w0 _)) (by simp [Value.oneCell']) (by decide) (by unfold maxLen; omega) (by omega) (by simp; omega) _ rfl ?_
  intro g cap w' k2 k3 k4 k5
  have hg : w0.grownBy w' v.ownBlock := ⟨k3.os, k3.tape, k3.output, Nat.le_trans (by simp) k3.size, fun k hk hne => (k3.block k (by simp; omega) hne).trans (heap_alloc_old w0 _ hk)⟩
  have keepF : ∀ u n ys, w0.ownsRow 0 73 2 u n ys → w'.ownsRow 0 73 2 u n ys := fun u n ys hu => own_of_block hu (fun g' hg' => hg.block g' (hu.lt g' hg').2 (fun e => by
    rcases own_apart hu h2 (by decide) with hh | hh
    · rw [hh] at hg'; cases hg'
    · exact hh (by rw [hg', e])))
  refine h g _ cap w' ⟨fs ++ [.slice af F.length cf], by rw [List.length_append, List.length_append, h1]; rfl, ?_, fun j hj hf => ?_⟩ hg
  · rw [rcells_snoc rs r _ fs h1, r1, r3, List.length_append]
    exact k2
  · by_cases hj2 : j < rs.length
    · obtain ⟨a, c, e1, e2⟩ := h3 j hj2 (by omega)
      rw [List.getElem_append_left hj2, List.getElem_append_left (by omega)]
      exact ⟨a, c, e1, keepF _ _ _ e2⟩
    · have hjl : j = rs.length := by simp at hj; omega
      subst hjl
      have e1 : (fs ++ [.slice af F.length cf])[rs.length]'hf = .slice af F.length cf := by
        rw [List.getElem_append_right (by omega)]; simp [h1]
      have e2 : (rs ++ [r])[rs.length]'hj = r := by
        rw [List.getElem_append_right (by omega)]; simp
      rw [e1, e2, r2]
      exact ⟨af, cf, rfl, keepF _ _ _ hF⟩
end Go.Proofs.YtdihhbkajcngeaaGreatDoor
namespace Go.Proofs.YtdihhbkajcngeaaGreatDoor
open Go.RowKit

theorem conv_int (W : World) (z : Int) (c : UInt8) (h : z = (c.toNat : Int)) : (convert 53 9 (.slice (some ⟨W.heap.size, 0, none⟩) 1 1)).run Tryz.prog (W.alloc (.cells #[.int .u8 z] 5)) = .ok (.string ⟨#[c]⟩) (W.alloc (.cells #[.int .u8 z] 5)) := by
  subst h; exact conv_one W c
/-- does a part of a name begin at a place? -/
def begAt (N : List UInt8) (i : Nat) : Bool := match i with | 0 => true | m + 1 => match N[m]? with | none => true | some c => stB c
theorem titL_succ (N : List UInt8) (i : Nat) (h : i < N.length) : titL true (N.take (i + 1)) = titL true (N.take i) ++ [UInt8.ofNat (titN (begAt N i) N[i].toNat)] := by
  rw [List.take_succ_eq_append_getElem h, titL_append]
  congr 1
  show [UInt8.ofNat (titN _ _)] = _
  congr 3
  cases i with
  | zero => rfl
  | succ m =>
    have : (N.take (m + 1)).getLast? = some (N[m]'(by omega)) := by
      rw [List.take_succ_eq_append_getElem (by omega), List.getLast?_append]; rfl
    rw [this]
    show _ = (match N[m]? with | none => true | some c => stB c)
    rw [List.getElem?_eq_getElem (by omega)]
theorem tit_keep (c : UInt8) (b : Bool) (h : (b && letN c.toNat) = false) : UInt8.ofNat (titN b c.toNat) = c := by
  unfold titN; rw [h, if_neg (by decide)]; exact UInt8.ofNat_toNat
theorem tit_up (c : UInt8) (b : Bool) (h : (b && letN c.toNat) = true) (h2 : 97 ≤ c.toNat) : (UInt8.ofNat (titN b c.toNat)).toNat = c.toNat - 32 := by
  unfold titN; rw [if_pos h, UInt8.toNat_ofNat']; have := c.toNat_lt; omega

set_option maxRecDepth 100000 in
set_option maxHeartbeats 4000000 in
theorem ref_fprint (n v : ByteArray) (w : World) (hn : n.size ≤ 1000000) (hv : v.size ≤ 1000000) :
    Calls Tryz.prog 30 #[.agg #[.string n, .string v]] w fun e w' => e = .returned (.tuple #[.string (bs (fieldS n.data.toList v.data.toList)), .int .i64 (fieldE n.data.toList v.data.toList)]) ∧ Below w.heap.size w w' := by
  have HNm := Lib.hid (fun w => ref_name n w (by omega))
  have HPl := Lib.hid (fun w => ref_fplain v w (by omega))
  obtain ⟨N, hN⟩ : ∃ N, N = n.data.toList := ⟨_, rfl⟩
  obtain ⟨V, hV⟩ : ∃ V, V = v.data.toList := ⟨_, rfl⟩
  rw [← hN] at HNm
  rw [← hV] at HPl
  rw [← hN, ← hV]
  have HNV := Lib.hid (And.intro hN hV)
  clear hN hV
  have box := box_cells w n v 70
  have hb0 := below_box2 w (.string n) (.string v) 70
  have hbl : w.heap.size < (w.alloc (.cells #[.string n, .string v] 70)).heap.size := by simp
  obtain ⟨k0, k1⟩ := box
  cases h1 : nameL N with
  | false =>
    have HF := Lib.hid (fieldE_not N V (by unfold printOk; rw [h1]; rfl))
    rw [h1] at HNm
    clear h1 HPl
    go_enter Tryz.func30, Tryz.ntmps30
    go_wp2_with (go_at_call 45; refine (HNm.out _).mono ?_; rintro e w' ⟨rfl, rfl⟩)
    go_ret2
    exact ⟨ret_pair (by rw [HF.out.2]; rfl) (by rw [HF.out.1]; rfl), hb0⟩
  | true =>
    rw [h1] at HNm
    have hn1 := Lib.hid h1
    clear h1
    cases h2 : (V.all fun c => plainB c.toNat) with
    | false =>
      have HF := Lib.hid (fieldE_not N V (by unfold printOk plainAll; rw [h2, Bool.and_false]; rfl))
      rw [h2] at HPl
      clear h2
      go_enter Tryz.func30, Tryz.ntmps30
      go_wp2_with (first
        | (go_at_call 45; refine (HNm.out _).mono ?_; rintro e w' ⟨rfl, rfl⟩)
        | (go_at_call 46; refine (HPl.out _).mono ?_; rintro e w' ⟨rfl, rfl⟩))
      go_ret2
      exact ⟨ret_pair (by rw [HF.out.2]; rfl) (by rw [HF.out.1]; rfl), hb0⟩
    | true =>
      rw [h2] at HPl
      have hp1 := Lib.hid h2
      clear h2
      by_cases hpos : 0 < v.size
      case' pos =>
        obtain ⟨m, hm⟩ : ∃ m, v.size = m + 1 := ⟨v.size - 1, by omega⟩
        have hlm : m < v.size := by omega
        have hmi : ((v.size : Int) - 1) = (m : Int) := by omega
        have hg0 : headGap V = gapB v[0] := by rw [HNV.out.2, drop_one v hpos]; rfl
        have hgm : headGap V.reverse = gapB v[m] := by rw [HNV.out.2, drop_last v m hm, List.reverse_append]; rfl
        have HG0 := Lib.hid (fun w => ref_gap v[0] w)
        have HGm := Lib.hid (fun w => ref_gap v[m] w)
        have HM := Lib.hid hm
        clear hm
        rw [← hg0] at HG0
        rw [← hgm] at HGm
        clear hg0 hgm
        cases h3 : headGap V
        case true =>
          have HF := Lib.hid (fieldE_not N V (by unfold printOk noGap; rw [h3]; simp))
          rw [h3] at HG0
          clear h3
          go_enter Tryz.func30, Tryz.ntmps30
          go_wp2_with (first
            | (go_at_call 45; refine (HNm.out _).mono ?_; rintro e w' ⟨rfl, rfl⟩)
            | (go_at_call 46; refine (HPl.out _).mono ?_; rintro e w' ⟨rfl, rfl⟩)
            | (go_at_call 47; refine (HG0.out _).mono ?_; rintro e w' ⟨rfl, rfl⟩))
          go_ret2
          exact ⟨ret_pair (by rw [HF.out.2]; rfl) (by rw [HF.out.1]; rfl), hb0⟩
        case' false =>
          rw [h3] at HG0
          cases h4 : headGap V.reverse
          case true =>
            have HF := Lib.hid (fieldE_not N V (by unfold printOk noGap; rw [h4]; simp))
            rw [h4] at HGm
            clear h3 h4
            go_enter Tryz.func30, Tryz.ntmps30
            go_wp2_with (first
              | (go_at_call 45; refine (HNm.out _).mono ?_; rintro e w' ⟨rfl, rfl⟩)
              | (go_at_call 46; refine (HPl.out _).mono ?_; rintro e w' ⟨rfl, rfl⟩)
              | fail)
            refine (HG0.out _).mono ?_
            rintro e w' ⟨rfl, rfl⟩
            go_wp2_with fail
            refine (HGm.out _).mono ?_
            rintro e w' ⟨rfl, rfl⟩
            go_wp2_with fail
            go_ret2
            exact ⟨ret_pair (by rw [HF.out.2]; rfl) (by rw [HF.out.1]; rfl), hb0⟩
          case' false =>
            rw [h4] at HGm
            have hok : Hid (printOk N V = true) := Lib.hid (by unfold printOk noGap; rw [hn1.out, h3, h4]; rw [show plainAll V = true from hp1.out]; rfl)
            clear h3 h4
            go_enter Tryz.func30, Tryz.ntmps30
            go_wp2_with (first
              | (go_at_call 45; refine (HNm.out _).mono ?_; rintro e w' ⟨rfl, rfl⟩)
              | (go_at_call 46; refine (HPl.out _).mono ?_; rintro e w' ⟨rfl, rfl⟩)
              | fail)
            refine (HG0.out _).mono ?_
            rintro e w' ⟨rfl, rfl⟩
            go_wp2_with fail
            refine (HGm.out _).mono ?_
            rintro e w' ⟨rfl, rfl⟩
            go_wp2_with fail
            clear HG0 HGm hmi HM
      case' neg =>
        have hok : Hid (printOk N V = true) := Lib.hid (by
          have hV0 : V = [] := List.length_eq_zero_iff.1 (by rw [HNV.out.2, size_len]; omega)
          unfold printOk; rw [hn1.out, show plainAll V = true from hp1.out, hV0]; rfl)
        have t0 : decide ((v.size : Int) > 0) = false := decide_eq_false (by omega)
        go_enter Tryz.func30, Tryz.ntmps30
        go_wp2_with (first
          | (go_at_call 45; refine (HNm.out _).mono ?_; rintro e w' ⟨rfl, rfl⟩)
          | (go_at_call 46; refine (HPl.out _).mono ?_; rintro e w' ⟨rfl, rfl⟩))
        clear t0
      all_goals
        clear HPl HNm
        have H5 := fieldE_yes N V hok.out
        have HY := Lib.hid H5
        clear H5
        have hlN : N.length = n.size := by rw [HNV.out.1]; exact size_len n
        have hlV : V.length = v.size := by rw [HNV.out.2]; exact size_len v
        go_loopw [5, 6] (fun s i wr => ∃ k : Nat, k ≤ n.size ∧ i = .int .i64 k ∧ s = .string (bs (titL true (N.take k))) ∧ Below (w.alloc (.cells #[.string n, .string v] 70)).heap.size (w.alloc (.cells #[.string n, .string v] 70)) wr) (fun _ i _ => n.size - (intOf i).toNat)
        case atStart => exact ⟨0, by omega, rfl, rfl, Below.refl _ _⟩
        case round =>
          obtain ⟨k, hk, rfl, rfl, hb⟩ := hrel
          have k0' := (hb.cell (p := ⟨w.heap.size, 0, none⟩) hbl).trans k0
          by_cases hlt : k < n.size
          · have hNk : N[k]'(by omega) = n[k] := by have := HNV.out.1; subst this; rfl
            have hX := titL_succ N k (by omega)
            rw [hNk] at hX
            have hsz : (bs (titL true (N.take k))).size + 1 ≤ 9223372036854775807 := by rw [bs_size, titL_len, List.length_take]; omega
            have hst : Hid (bs (titL true (N.take k)) ++ ⟨#[UInt8.ofNat (titN (begAt N k) n[k].toNat)]⟩ = bs (titL true (N.take (k + 1)))) := Lib.hid (by rw [hX, bs_snoc])
            clear hX hNk
            have hone : ∀ X : UInt8, (ByteArray.mk #[X]).size = 1 := fun _ => rfl
            obtain ⟨S, hS⟩ : ∃ S, S = bs (titL true (N.take k)) := ⟨_, rfl⟩
            rw [← hS] at hst hsz ⊢
            clear hS
            by_cases c1 : n[k].toNat < 97
            case' pos =>
              have e := tit_keep n[k] (begAt N k) (by rw [letN_lo _ c1, Bool.and_false])
              rw [e] at hst
              have hcv := conv_one wr n[k]
              have t1 : decide ((n[k].toNat : Int) ≥ 97) = false := decide_eq_false (by omega)
              clear e
            case' neg =>
              by_cases c2 : 122 < n[k].toNat
              case' pos =>
                have e := tit_keep n[k] (begAt N k) (by rw [letN_hi _ c2, Bool.and_false])
                rw [e] at hst
                have hcv := conv_one wr n[k]
                have t1 : decide ((n[k].toNat : Int) ≤ 122) = false := decide_eq_false (by omega)
                clear e
              case' neg =>
                have hlet := letN_in n[k].toNat (by omega) (by omega)
                have t1 : decide ((n[k].toNat : Int) ≤ 122) = true := decide_eq_true (by omega)
                have t0 : 97 ≤ n[k].toNat := by omega
                rcases Nat.eq_zero_or_pos k with hz | hp
                case' inl =>
                  subst hz
                  have e := tit_up n[0] true (by rw [hlet]; rfl) t0
                  have hcv := conv_int wr ((n[0].toNat : Int) - 32) (UInt8.ofNat (titN true n[0].toNat)) (by rw [e]; omega)
                  change Hid (S ++ ⟨#[UInt8.ofNat (titN true n[0].toNat)]⟩ = _) at hst
                  clear e hlet
                case' inr =>
                  obtain ⟨m, rfl⟩ : ∃ m, k = m + 1 := ⟨k - 1, by omega⟩
                  have hm : m < n.size := by omega
                  have hbm : begAt N (m + 1) = stB n[m] := by
                    show (match N[m]? with | none => true | some c => stB c) = _
                    rw [List.getElem?_eq_getElem (by omega)]
                    have := HNV.out.1; subst this; rfl
                  rw [hbm] at hst
                  clear hbm hp
                  by_cases c45 : n[m].toNat = 45
                  case' pos =>
                    have hs : stB n[m] = true := by unfold stB; rw [c45]; rfl
                    have t2 : ((n[m].toNat : Int) == 45) = true := by rw [c45]; rfl
                    rw [hs] at hst
                    have e := tit_up n[m + 1] true (by rw [hlet]; rfl) t0
                    have hcv := conv_int wr ((n[m + 1].toNat : Int) - 32) (UInt8.ofNat (titN true n[m + 1].toNat)) (by rw [e]; omega)
                    clear e hlet hs c45
                  case' neg =>
                    have t2 : ((n[m].toNat : Int) == 45) = false := by rw [beq_eq_false_iff_ne]; omega
                    have hs : stB n[m] = false := t2
                    rw [hs] at hst
                    have e := tit_keep n[m + 1] false rfl
                    rw [e] at hst
                    have hcv := conv_one wr n[m + 1]
                    clear e hlet hs c45
            all_goals
              go_wp2_with fail
              go_roundw
              case rel =>
                first
                  | exact ⟨k + 1, by omega, by go_num, by rw [hst.out], hb.trans (((Below.refl _ _).alloc (Nat.le_refl _) _).mono hb.size)⟩
                  | exact ⟨m + 1 + 1, by omega, by go_num, by rw [hst.out], hb.trans (((Below.refl _ _).alloc (Nat.le_refl _) _).mono hb.size)⟩
                  | exact ⟨1, by omega, by go_num, by rw [hst.out], hb.trans (((Below.refl _ _).alloc (Nat.le_refl _) _).mono hb.size)⟩
              case measure => simp [intOf]; omega
          · obtain rfl : k = n.size := by omega
            have hall : N.take n.size = N := List.take_of_length_le (by omega)
            rw [hall]
            have hlA : (bs (titL true N)).size = n.size := by rw [bs_size, titL_len, hlN]
            have hpL : (printL N V).length = n.size + 1 + (tailV V).length := by unfold printL; rw [List.length_append, titL_len, List.length_cons, hlN]; omega
            obtain ⟨A, hA⟩ : ∃ A, A = bs (titL true N) := ⟨_, rfl⟩
            rw [← hA] at hlA ⊢
            have hA1 : A.size ≤ 1000000 := by omega
            have z1 : (ByteArray.mk #[58]).size = 1 := rfl
            have z2 : (ByteArray.mk #[32]).size = 1 := rfl
            have zz : ∀ X Y : ByteArray, (X ++ Y).size = X.size + Y.size := fun X Y => ByteArray.size_append
            by_cases hv2 : 0 < v.size
            · first
                | (exfalso; omega)
                | (
                  have e : A ++ ⟨#[58]⟩ ++ ⟨#[32]⟩ ++ v = bs (printL N V) := by
                    have hv3 : v = bs V := by rw [HNV.out.2, bs_self]
                    rw [hA, bs_snoc, bs_snoc, hv3, bs_cat]
                    congr 1
                    unfold printL tailV
                    rw [show V.isEmpty = false from by rw [Bool.eq_false_iff, Ne, List.isEmpty_iff]; intro e; rw [e] at hlV; exact absurd hlV (by simp; omega)]
                    simp
                  have hsz : (A ++ ⟨#[58]⟩ ++ ⟨#[32]⟩ ++ v).size = A.size + 1 + 1 + v.size := by rw [zz, zz, zz]; rfl
                  have hle : (printL N V).length = A.size + 1 + 1 + v.size := by rw [← hsz, e, bs_size]
                  have HE := Lib.hid e
                  have t1 : decide ((v.size : Int) > 0) = true := decide_eq_true (by omega)
                  clear hA hall hlA e hsz hpL
                  have q1 : A.size + 1 ≤ 9223372036854775807 := by omega
                  have q2 : A.size + 1 + 1 ≤ 9223372036854775807 := by omega
                  have q3 : A.size + 1 + 1 + v.size ≤ 9223372036854775807 := by omega
                  by_cases hlong : 256 < A.size + 1 + 1 + v.size
                  · have HF := Lib.hid (HY.out.1 (by omega))
                    clear hle
                    go_wp2_with fail
                    go_ret2
                    exact ⟨ret_pair (by rw [HF.out.2]; rfl) (by rw [HF.out.1]; rfl), hb0.trans (hb.mono (by simp))⟩
                  · have HF := Lib.hid (HY.out.2 (by omega))
                    clear hle
                    go_wp2_with fail
                    go_ret2
                    exact ⟨ret_pair (by rw [HF.out.2, ← HE.out]) (by rw [HF.out.1]; rfl), hb0.trans (hb.mono (by simp))⟩)
            · first
                | (exfalso; omega)
                | (
                  have e : A ++ ⟨#[58]⟩ = bs (printL N V) := by
                    rw [hA, bs_snoc]
                    congr 1
                    unfold printL tailV
                    rw [show V = [] from List.length_eq_zero_iff.1 (by omega)]
                    rfl
                  have hsz : (A ++ ⟨#[58]⟩).size = A.size + 1 := by rw [zz]; rfl
                  have hle : (printL N V).length = A.size + 1 := by rw [← hsz, e, bs_size]
                  have HE := Lib.hid e
                  have t1 : decide ((v.size : Int) > 0) = false := decide_eq_false (by omega)
                  clear hA hall hlA e hsz hpL
                  have q1 : A.size + 1 ≤ 9223372036854775807 := by omega
                  by_cases hlong : 256 < A.size + 1
                  · have HF := Lib.hid (HY.out.1 (by omega))
                    clear hle
                    go_wp2_with fail
                    go_ret2
                    exact ⟨ret_pair (by rw [HF.out.2]; rfl) (by rw [HF.out.1]; rfl), hb0.trans (hb.mono (by simp))⟩
                  · have HF := Lib.hid (HY.out.2 (by omega))
                    clear hle
                    go_wp2_with fail
                    go_ret2
                    exact ⟨ret_pair (by rw [HF.out.2, ← HE.out]) (by rw [HF.out.1]; rfl), hb0.trans (hb.mono (by simp))⟩)
end Go.Proofs.YtdihhbkajcngeaaGreatDoor
namespace Go.Proofs.YtdihhbkajcngeaaGreatDoor
open Go.RowKit

def longF (f : List UInt8 × List UInt8) : Bool := decide (400 < f.1.length) || decide (400 < f.2.length)
def overF (fs : List (List UInt8 × List UInt8)) (most : Int) : Bool := fs.any longF || decide (most < (fs.length : Int))

set_option maxRecDepth 100000 in
set_option maxHeartbeats 2000000 in
theorem ref_over (v : Value) (fs : List (List UInt8 × List UInt8)) (most : Int) (w : World) (hv : HoldsF w v fs) (hlen : fs.length ≤ 9223372036854775807) :
    Calls Tryz.prog 27 #[v, .int .i64 most] w fun e w' => e = .returned (.bool (overF fs most)) ∧ w' = w := by
  obtain ⟨a, c, rfl, hc, hx⟩ := hv
  have HX := Lib.hid hx
  clear hx
  go_enter Tryz.func27, Tryz.ntmps27
  go_wp2_with fail
  go_loop [5] (fun i => ∃ k : Nat, k ≤ fs.length ∧ i = .int .i64 k ∧ Hid ((fs.take k).any longF = false)) (fun i => fs.length - (intOf i).toNat)
  case atStart => exact ⟨0, by omega, rfl, Lib.hid rfl⟩
  case round =>
    obtain ⟨k, hk, rfl, Hst⟩ := hrel
    by_cases hlt : k < fs.length
    · obtain ⟨b, o, rfl, hbl, hcell⟩ := HX.out (fun e => by rw [e] at hlt; exact absurd hlt (Nat.not_lt_zero _))
      have c0 := (hcell k hlt).1
      have c1 := (hcell k hlt).2
      clear hcell
      have hstep : (fs.take (k + 1)).any longF = longF fs[k] := by
        rw [List.take_succ_eq_append_getElem hlt, List.any_append, Hst.out]; simp
      have hover : longF fs[k] = true → overF fs most = true := fun h => by
        unfold overF
        rw [List.any_eq_true.2 ⟨fs[k], List.getElem_mem hlt, h⟩]; rfl
      have s0 : (bs fs[k].1).size = fs[k].1.length := bs_size _
      have s1 : (bs fs[k].2).size = fs[k].2.length := bs_size _
      by_cases h1 : 400 < fs[k].1.length
      · have H := Lib.hid (hover (by unfold longF; rw [decide_eq_true h1]; rfl))
        have z0 : 400 < (bs fs[k].1).size := by omega
        obtain ⟨X, hX⟩ : ∃ X, X = bs fs[k].1 := ⟨_, rfl⟩
        rw [← hX] at c0 z0
        clear hX hstep hover s0 s1 h1 Hst HX
        have t : decide ((X.size : Int) > 400) = true := by simp; omega
        go_wp2_with fail
        go_ret
        exact ⟨ret_bool H.out.symm, rfl⟩
      · by_cases h2 : 400 < fs[k].2.length
        · have H := Lib.hid (hover (by unfold longF; rw [decide_eq_true h2, Bool.or_true]))
          have z0 : (bs fs[k].1).size ≤ 400 := by omega
          have z1 : 400 < (bs fs[k].2).size := by omega
          obtain ⟨X, hX⟩ : ∃ X, X = bs fs[k].1 := ⟨_, rfl⟩
          obtain ⟨Y, hY⟩ : ∃ Y, Y = bs fs[k].2 := ⟨_, rfl⟩
          rw [← hX] at c0 z0
          rw [← hY] at c1 z1
          clear hX hY hstep hover s0 s1 h1 h2 Hst HX
          have t : decide ((X.size : Int) > 400) = false := by simp; omega
          have t2 : decide ((Y.size : Int) > 400) = true := by simp; omega
          go_wp2_with fail
          go_ret
          exact ⟨ret_bool H.out.symm, rfl⟩
        · have H := Lib.hid (hstep.trans (by unfold longF; rw [decide_eq_false h1, decide_eq_false h2, Bool.or_false]))
          have z0 : (bs fs[k].1).size ≤ 400 := by omega
          have z1 : (bs fs[k].2).size ≤ 400 := by omega
          obtain ⟨X, hX⟩ : ∃ X, X = bs fs[k].1 := ⟨_, rfl⟩
          obtain ⟨Y, hY⟩ : ∃ Y, Y = bs fs[k].2 := ⟨_, rfl⟩
          rw [← hX] at c0 z0
          rw [← hY] at c1 z1
          clear hX hY hstep hover s0 s1 h1 h2 Hst HX
          have t : decide ((X.size : Int) > 400) = false := by simp; omega
          have t2 : decide ((Y.size : Int) > 400) = false := by simp; omega
          go_wp2_with fail
          go_round
          case rel => exact ⟨k + 1, by omega, by go_num, H⟩
          case measure => simp [intOf]; omega
    · have H : Hid (overF fs most = decide (most < (fs.length : Int))) := Lib.hid (by
        have := Hst.out
        rw [List.take_of_length_le (by omega)] at this
        unfold overF; rw [this, Bool.false_or])
      clear Hst HX
      go_wp2_with fail
      go_ret
      exact ⟨ret_bool H.out.symm, rfl⟩
end Go.Proofs.YtdihhbkajcngeaaGreatDoor
namespace Go.Proofs.YtdihhbkajcngeaaGreatDoor
open Go.RowKit
theorem eq_rfield_in (d : Nat) (x y : List UInt8 × List UInt8) (w : World) : (Op.equalIn (d + 2) 70 (.agg (encF x).toArray) (.agg (encF y).toArray)).run Tryz.prog w = .ok (decide (x = y)) w := by
  have u3 := Tryz.underlying9
  have hS : Tryz.prog.underlying 70 = some (.struct (Tryz.prog.fieldsOf 70)) := by kernel_rfl
  have hp : Tryz.prog.stoodInHeld 70 = false := by kernel_rfl
  simp only [encF]
  rw [run_equalIn_agg w (d + 1) 70 _ _ hS hp]
  simp only [Program.fieldsOf, Tryz.underlying70]
  go_simp
  obtain ⟨x1, x2⟩ := x
  obtain ⟨y1, y2⟩ := y
  by_cases h1 : x1 = y1 <;> by_cases h2 : x2 = y2 <;> simp [h1, h2, bs_same]
theorem neq_rfield (x y : List UInt8 × List UInt8) (b : Bool) (h : decide (x = y) = !b) (w : World) : (binOp .neq 70 (.agg #[.string (bs x.1), .string (bs x.2)]) (.agg #[.string (bs y.1), .string (bs y.2)])).run Tryz.prog w = .ok (.bool b) w := by
  have := eq_rfield_in 9998 x y w
  simp only [encF] at this
  rw [run_neq_struct, show (10000 : Nat) = 9998 + 2 from rfl, this, h]
  cases b <;> rfl
theorem guard_rfield (op : BinOp) (x y : Operand) (xs ys : Array Value) (w : World) : (eqGuard op 70 x y (.agg xs) (.agg ys)).run Tryz.prog w = .ok () w :=
  run_eqGuard_agg w op 70 x y xs ys (by kernel_rfl)
def SameFPost (xs ys : List (List UInt8 × List UInt8)) (w : World) (e : Ending) (w' : World) : Prop := e = .returned (.bool (decide (xs = ys))) ∧ Below w.heap.size w w'
set_option maxRecDepth 100000 in
set_option maxHeartbeats 2000000 in
theorem ref_sameF (va vb : Value) (xs ys : List (List UInt8 × List UInt8)) (w : World) (hA : HoldsF w va xs) (hB : HoldsF w vb ys) (hx : xs.length ≤ 1000000) (hy : ys.length ≤ 1000000) :
    Calls Tryz.prog 41 #[va, vb] w (SameFPost xs ys w) := by
  obtain ⟨a, c, rfl, hc, hcx⟩ := hA
  obtain ⟨b, d, rfl, hd, hcy⟩ := hB
  have hgd := guard_rfield
  by_cases hl : xs.length = ys.length
  · have hlI : ((xs.length : Int) != (ys.length : Int)) = false := by rw [bne_eq_false_iff_eq]; omega
    go_enter Tryz.func41, Tryz.ntmps41
    have Hl := Lib.hid hl
    clear hl
    go_wp2_with fail
    go_loopw [5] (fun j wr => ∃ k : Nat, k ≤ xs.length ∧ j = .int .i64 k ∧ Below w.heap.size w wr ∧ Hid (∀ j, j < k → xs[j]? = ys[j]?)) (fun j _ => xs.length - (intOf j).toNat)
    case atStart => exact ⟨0, by omega, rfl, Below.refl _ _, Lib.hid (fun j hj => by omega)⟩
    case round =>
      obtain ⟨k, hk, rfl, hb, Hall⟩ := hrel
      by_cases hlt : k < xs.length
      · have hlt2 : k < ys.length := by rw [← Hl.out]; exact hlt
        obtain ⟨ba, oa, rfl, hba, hca⟩ := hcx (by intro h; rw [h] at hlt; simp at hlt)
        obtain ⟨bb, ob, rfl, hbb, hcb⟩ := hcy (by intro h; rw [h] at hlt2; simp at hlt2)
        have h1 := (hb.cell (p := ⟨ba, oa + k * 2, none⟩) hba).trans (hca k hlt).1
        have h1' := (hb.cell (p := ⟨ba, oa + k * 2 + 1, none⟩) hba).trans (hca k hlt).2
        have h2 := (hb.cell (p := ⟨bb, ob + k * 2, none⟩) hbb).trans (hcb k hlt2).1
        have h2' := (hb.cell (p := ⟨bb, ob + k * 2 + 1, none⟩) hbb).trans (hcb k hlt2).2
        clear hca hcb hcx hcy
        have hxk : xs[k]? = some xs[k] := List.getElem?_eq_getElem hlt
        have hyk : ys[k]? = some ys[k] := List.getElem?_eq_getElem hlt2
        by_cases he : xs[k] = ys[k]
        · have hcmp := neq_rfield xs[k] ys[k] false (by rw [decide_eq_true he]; rfl)
          have Hn : Hid (∀ j, j < k + 1 → xs[j]? = ys[j]?) := Lib.hid (fun j hj => by
            by_cases e : j = k
            · subst e; rw [hxk, hyk, he]
            · exact Hall.out j (by omega))
          clear he hxk hyk
          generalize bs xs[k].1 = X at *
          generalize bs ys[k].1 = Y at *
          generalize bs xs[k].2 = X2 at *
          generalize bs ys[k].2 = Y2 at *
          go_wp2_with fail
          go_quiet (fail)
          go_wp2_with fail
          go_roundw
          case rel => exact ⟨k + 1, by omega, by go_num, (hb.trans ⟨rfl, rfl, rfl, Nat.le_refl _, fun _ _ => rfl⟩), Hn⟩
          case measure => simp [intOf]; omega
        · have hcmp := neq_rfield xs[k] ys[k] true (by rw [decide_eq_false he]; rfl)
          have Hn : Hid (xs ≠ ys) := Lib.hid (fun e => he (by subst e; rfl))
          clear he hxk hyk
          generalize bs xs[k].1 = X at *
          generalize bs ys[k].1 = Y at *
          generalize bs xs[k].2 = X2 at *
          generalize bs ys[k].2 = Y2 at *
          go_wp2_with fail
          go_quiet (fail)
          go_wp2_with fail
          go_ret
          exact ⟨congrArg (fun b => Ending.returned (.bool b)) (decide_eq_false Hn.out).symm, (hb.trans ⟨rfl, rfl, rfl, Nat.le_refl _, fun _ _ => rfl⟩)⟩
      · have Hn : Hid (xs = ys) := Lib.hid (List.ext_getElem? (fun j => by
          by_cases e : j < k
          · exact Hall.out j e
          · rw [List.getElem?_eq_none (by omega), List.getElem?_eq_none (by have := Hl.out; omega)]))
        go_wp2_with fail
        go_ret
        exact ⟨congrArg (fun b => Ending.returned (.bool b)) (decide_eq_true Hn.out).symm, hb⟩
  · have hlI : ((xs.length : Int) != (ys.length : Int)) = true := by rw [bne_iff_ne]; omega
    have Hn : Hid (xs ≠ ys) := Lib.hid (fun e => hl (by rw [e]))
    clear hl
    go_enter Tryz.func41, Tryz.ntmps41
    go_wp2_with fail
    go_ret
    exact ⟨congrArg (fun b => Ending.returned (.bool b)) (decide_eq_false Hn.out).symm, Below.refl _ _⟩
set_option maxRecDepth 100000 in
set_option maxHeartbeats 1000000 in
theorem ref_sameR (c d : Int) (x y : ByteArray) (va vb : Value) (fs gs : List (List UInt8 × List UInt8)) (w : World) (ha : HoldsF w va fs) (hb : HoldsF w vb gs) (hf : fs.length ≤ 1000000) (hg : gs.length ≤ 1000000) :
    Calls Tryz.prog 25 #[.agg #[.int .i64 c, va, .string x], .agg #[.int .i64 d, vb, .string y]] w fun e w' => e = .returned (.bool (sameR c d x.data.toList y.data.toList fs gs)) ∧ Below w.heap.size w w' := by
  have B1 := below_agg3 w (.int .i64 c) va (.string x) 45
  have T1 := Lib.hid ((Three.new w (.int .i64 c) va (.string x) 45).alloc (.cells #[.int .i64 d, vb, .string y] 45))
  have B2 := below_agg3 (w.alloc (.cells #[.int .i64 c, va, .string x] 45)) (.int .i64 d) vb (.string y) 45
  have T2 := Lib.hid (Three.new (w.alloc (.cells #[.int .i64 c, va, .string x] 45)) (.int .i64 d) vb (.string y) 45)
  have ha' := Lib.hid ((ha.below B1).below B2)
  have hb' := Lib.hid ((hb.below B1).below B2)
  have BB := Lib.hid (bstep B1 B2)
  clear ha hb B1 B2
  have T1' := T1.out
  have T2' := T2.out
  obtain ⟨l1, t0, t1, t2⟩ := T1'
  obtain ⟨l2, u0, u1, u2⟩ := T2'
  by_cases h1 : c = d
  · subst h1
    obtain ⟨q, hq⟩ : ∃ q, decide (fs = gs) = q := ⟨_, rfl⟩
    have HS : Hid (∀ w', HoldsF w' va fs → HoldsF w' vb gs → Calls Tryz.prog 41 #[va, vb] w' fun e w'' => e = .returned (.bool q) ∧ Below w'.heap.size w' w'') := Lib.hid (fun w' k1 k2 => by
      have := ref_sameF va vb fs gs w' k1 k2 hf hg
      unfold SameFPost at this
      rw [hq] at this
      exact this)
    obtain ⟨r, hr⟩ : ∃ r, (x.toList == y.toList) = r := ⟨_, rfl⟩
    have hrd : decide (x.data.toList = y.data.toList) = r := by
      rw [← hr, ByteArray.toList_eq, ByteArray.toList_eq]
      by_cases e : x.data.toList = y.data.toList
      · rw [decide_eq_true e, e]; simp
      · rw [decide_eq_false e]; exact (beq_eq_false_iff_ne.2 e).symm
    have hS : Hid (sameR c c x.data.toList y.data.toList fs gs = (q && r)) := Lib.hid (by unfold sameR; rw [hq, hrd, decide_eq_true rfl]; cases q <;> cases r <;> rfl)
    clear hq hrd
    cases q
    · go_enter Tryz.func25, Tryz.ntmps25
      go_wp2_with fail
      refine (HS.out _ ha'.out hb'.out).mono ?_
      rintro e w' ⟨rfl, hbl⟩
      go_wp2_with fail
      go_ret
      refine ⟨?_, bstep BB.out hbl⟩
      rw [hS.out]; rfl
    · go_enter Tryz.func25, Tryz.ntmps25
      go_wp2_with fail
      refine (HS.out _ ha'.out hb'.out).mono ?_
      rintro e w' ⟨rfl, hbl⟩
      have x2 := (T1.out.below hbl).2.2.2
      have y2 : w'.cell? ⟨w.heap.size + 1, 2, none⟩ = some (.string y) := by have := (T2.out.below hbl).2.2.2; simpa using this
      go_wp2_with fail
      go_ret
      refine ⟨?_, bstep BB.out hbl⟩
      rw [hS.out]; rfl
  · have h1' : (c == d) = false := by rw [beq_eq_false_iff_ne]; exact h1
    have hS : Hid (sameR c d x.data.toList y.data.toList fs gs = false) := Lib.hid (by unfold sameR; rw [decide_eq_false h1]; simp)
    go_enter Tryz.func25, Tryz.ntmps25
    go_wp2_with fail
    go_ret
    refine ⟨?_, BB.out⟩
    rw [hS.out]; rfl
end Go.Proofs.YtdihhbkajcngeaaGreatDoor
namespace Go.Proofs.YtdihhbkajcngeaaGreatDoor
open Go.RowKit
def OwnRow (fs : List (List UInt8 × List UInt8)) (w : World) (e : Ending) (w' : World) : Prop := ∃ v, e = .returned v ∧ w'.ownsRow w.heap.size 73 2 v fs.length (fcells fs) ∧ Below w.heap.size w w'
def BackRow (fs : List (List UInt8 × List UInt8)) (w : World) (e : Ending) (w' : World) : Prop := ∃ v, e = .returned v ∧ w'.ownsRow w.heap.size 70 2 v fs.length (fcells fs) ∧ Below w.heap.size w w'
set_option maxRecDepth 100000 in
set_option maxHeartbeats 2000000 in
theorem law_back_row (v : Value) (fs : List (List UInt8 × List UInt8)) (w : World) (hv : HoldsF w v fs) (hlen : fs.length < 2147483648) :
    Calls Tryz.prog 42 #[v] w (BackRow fs w) := by
  obtain ⟨a, c, rfl, hc, hx⟩ := hv
  have HX := Lib.hid hx
  clear hx
  go_enter Tryz.func42, Tryz.ntmps42
  go_wp2_with fail
  go_loopw [3, 4] (fun u i wr => ∃ k : Nat, k ≤ fs.length ∧ i = .int .i64 k ∧ wr.ownsRow w.heap.size 70 2 u (fs.take k).length (fcells (fs.take k)) ∧ Below w.heap.size w wr) (fun _ i _ => fs.length - (intOf i).toNat)
  case atStart => exact ⟨0, by omega, rfl, World.ownsRow_nil _ _ _ _, Below.refl _ _⟩
  case round =>
    obtain ⟨k, hk, rfl, hown, hb⟩ := hrel
    by_cases hlt : k < fs.length
    · obtain ⟨b, o, rfl, hbl, hcell⟩ := HX.out (fun e => by rw [e] at hlt; exact absurd hlt (Nat.not_lt_zero _))
      have c0 := (hb.cell (p := ⟨b, o + k * 2, none⟩) hbl).trans (hcell k hlt).1
      have c1 := (hb.cell (p := ⟨b, o + k * 2 + 1, none⟩) hbl).trans (hcell k hlt).2
      have hstep : Hid (fs.take (k + 1) = fs.take k ++ [fs[k]]) := Lib.hid (List.take_succ_eq_append_getElem hlt)
      have hkl : (fs.take k).length < 2147483648 := by rw [List.length_take]; omega
      clear hcell HX
      go_wp2_with (at_builtin; go_loud (refine append_rfield wr (by rfl) _ _ (by rfl) w.heap.size _ (fs.take k) (by rfl) hown (bs fs[k].1) (bs fs[k].2) fs[k] rfl rfl wr.heap.size rfl (by rfl) hkl hb.size ?_); intro v' w1 hown1 hg1 hne1)
      go_roundw
      case rel => exact ⟨k + 1, by omega, by go_num, by rw [hstep.out]; exact hown1, below_ownF hb hg1 hown (Nat.le_refl _) hb.size⟩
      case measure => simp [intOf]; omega
    · have hall : fs.take k = fs := List.take_of_length_le (by omega)
      rw [hall] at hown
      clear hall
      go_wp2_with fail
      go_ret
      exact ⟨_, rfl, hown, hb⟩
end Go.Proofs.YtdihhbkajcngeaaGreatDoor
namespace Go.Proofs.YtdihhbkajcngeaaGreatDoor
open Go.RowKit
theorem below_r3 (w : World) (x y z : Value) : Below w.heap.size w (w.alloc (.cells #[x, y, z] 45)) := (Below.refl _ _).alloc (Nat.le_refl _) _
def overR (fs : List (List UInt8 × List UInt8)) (b : ByteArray) : Bool := overF fs 20 || decide (500 < b.size)
set_option maxHeartbeats 1000000 in
theorem ref_rover (c : Int) (fv : Value) (fs : List (List UInt8 × List UInt8)) (b : ByteArray) (w : World) (hv : HoldsF w fv fs) (hlen : fs.length ≤ 9223372036854775807) :
    Calls Tryz.prog 17 #[.agg #[.int .i64 c, fv, .string b]] w fun e w' => e = .returned (.bool (overR fs b)) ∧ Below w.heap.size w w' := by
  have B1 := below_r3 w (.int .i64 c) fv (.string b)
  obtain ⟨l1, t0, t1, t2⟩ := Three.new w (.int .i64 c) fv (.string b) 45
  have HO := Lib.hid (ref_over fv fs 20 _ (hv.below B1) hlen)
  have HB1 := Lib.hid B1
  clear hv B1
  cases ho : overF fs 20 with
  | true =>
    have HR : Hid (overR fs b = true) := Lib.hid (by unfold overR; rw [ho]; rfl)
    rw [ho] at HO
    go_enter Tryz.func17, Tryz.ntmps17
    go_wp2_with fail
    refine HO.out.mono ?_
    rintro e w' ⟨rfl, rfl⟩
    go_wp2_with fail
    go_ret
    exact ⟨by rw [HR.out]; rfl, HB1.out⟩
  | false =>
    rw [ho] at HO
    obtain ⟨r, hr⟩ : ∃ r, decide (500 < b.size) = r := ⟨_, rfl⟩
    have HR : Hid (overR fs b = r) := Lib.hid (by unfold overR; rw [ho, hr]; rfl)
    have hr2 : decide ((b.size : Int) > 500) = r := by rw [← hr]; exact decide_eq_decide.2 (by omega)
    clear hr
    go_enter Tryz.func17, Tryz.ntmps17
    go_wp2_with fail
    refine HO.out.mono ?_
    rintro e w' ⟨rfl, rfl⟩
    go_wp2_with fail
    go_ret
    exact ⟨by rw [HR.out]; rfl, HB1.out⟩
theorem repLines_take (c : Int) (fs : List (List UInt8 × List UInt8)) (n k : Nat) (hk : k < fs.length) : (repLines c fs n).take (k + 1 + 2) = (repLines c fs n).take (k + 2) ++ [printL fs[k].1 fs[k].2] := by
  have h : (repLines c fs n)[k + 2]? = some (printL fs[k].1 fs[k].2) := by unfold repLines; simp [hk]
  rw [show k + 1 + 2 = (k + 2) + 1 by omega, List.take_add_one, h]
  rfl
theorem repLines_two (c : Int) (fs : List (List UInt8 × List UInt8)) (n : Nat) : bs (body ((repLines c fs n).take 2)) = printOf c ++ ⟨#[13, 10, 67, 111, 110, 116, 101, 110, 116, 45, 76, 101, 110, 103, 116, 104, 58, 32]⟩ ++ bs (digL n) ++ ⟨#[13, 10]⟩ := by
  have e1 : (⟨#[13, 10, 67, 111, 110, 116, 101, 110, 116, 45, 76, 101, 110, 103, 116, 104, 58, 32]⟩ : ByteArray) = bs [13, 10, 67, 111, 110, 116, 101, 110, 116, 45, 76, 101, 110, 103, 116, 104, 58, 32] := rfl
  have e2 : (⟨#[13, 10]⟩ : ByteArray) = bs [13, 10] := rfl
  have hp : printL clen (digL n) = [67, 111, 110, 116, 101, 110, 116, 45, 76, 101, 110, 103, 116, 104, 58, 32] ++ digL n := by
    unfold printL tailV
    rw [digL_nat, if_neg (by have := decDigits_ne n; cases h : Go.Lib.decDigits n <;> simp_all), show titL true clen = [67, 111, 110, 116, 101, 110, 116, 45, 76, 101, 110, 103, 116, 104] by decide]
    rfl
  rw [e1, e2]
  conv => rhs; lhs; lhs; lhs; rw [← bs_self (printOf c)]
  rw [bs_cat, bs_cat, bs_cat]
  congr 1
  unfold repLines
  simp [body, hp]
set_option maxRecDepth 100000 in
set_option maxHeartbeats 4000000 in
theorem ref_rprint (c : Int) (fv : Value) (fs : List (List UInt8 × List UInt8)) (b : ByteArray) (w : World) (hc0 : -9223372036854775808 ≤ c) (hc1 : c ≤ 9223372036854775807)
    (hv : HoldsF w fv fs) (hl : fs.length ≤ 1000000) (hf : ∀ f ∈ fs, f.1.length ≤ 1000000 ∧ f.2.length ≤ 1000000) (hb : b.size ≤ 1000000) :
    Calls Tryz.prog 18 #[.agg #[.int .i64 c, fv, .string b]] w (RPost c fs b.data.toList w) := by
  have HS := Lib.hid (fun w => ref_print c w hc0 hc1)
  have B1 := below_r3 w (.int .i64 c) fv (.string b)
  have T1 := Three.new w (.int .i64 c) fv (.string b) 45
  have hv1 := hv.below B1
  have HB1 := Lib.hid B1
  obtain ⟨av, cv, rfl, hcv, hx⟩ := hv1
  have HX := Lib.hid hx
  clear hv B1 hx
  obtain ⟨l1, t0, t1, t2⟩ := T1
  by_cases he : printErr c = 0
  case neg =>
    have HR : Hid (repE c fs = printErr c ∧ repS c fs b.data.toList = []) := Lib.hid (by
      have : repE c fs = printErr c := if_pos he
      exact ⟨this, by unfold repS; rw [if_neg (by rw [this]; exact he)]⟩)
    have tz : ((printErr c : Int) != 0) = true := by rw [bne_iff_ne]; omega
    clear he hf
    go_enter Tryz.func18, Tryz.ntmps18
    go_wp2_with fail
    refine (HS.out _).mono ?_
    rintro e w1 ⟨rfl, hb1⟩
    have HB2 := Lib.hid (bstep HB1.out hb1)
    clear hb1 t0 t1 t2
    go_wp2_with fail
    go_ret2
    exact ⟨by rw [HR.out.1, HR.out.2]; rfl, HB2.out⟩
  have hcl : ¬ (c < 100 ∨ 599 < c) := fun e => by unfold printErr at he; rw [if_pos ((class_iff c).2 e)] at he; exact absurd he (by decide)
  have hps : (printOf c).size ≤ 40 := by
    obtain ⟨n, rfl⟩ : ∃ n : Nat, c = n := ⟨c.toNat, by omega⟩
    rw [printOf_line _ (by omega) (by omega), statusLine_len n (by omega) (by omega)]
    have := reason_size (n : Int)
    omega
  rw [he] at HS
  have hlI : (fs.length : Int) ≤ 1000000 := by omega
  by_cases hm : 15 < fs.length
  · have HR : Hid (repE c fs = 21 ∧ repS c fs b.data.toList = []) := Lib.hid (by
      have : repE c fs = 21 := by unfold repE; rw [if_neg (by rw [he]; simp), if_pos hm]
      exact ⟨this, by unfold repS; rw [if_neg (by rw [this]; simp)]⟩)
    have tm : decide ((fs.length : Int) > 15) = true := decide_eq_true (by omega)
    clear he hf hcl hps
    go_enter Tryz.func18, Tryz.ntmps18
    go_wp2_with fail
    refine (HS.out _).mono ?_
    rintro e w1 ⟨rfl, hb1⟩
    have HB2 := Lib.hid (bstep HB1.out hb1)
    obtain ⟨l2, u0, u1, u2⟩ := Three.below ⟨l1, t0, t1, t2⟩ hb1
    clear hb1 t0 t1 t2
    go_wp2_with fail
    go_ret2
    exact ⟨by rw [HR.out.1, HR.out.2]; rfl, HB2.out⟩
  have tm : decide ((fs.length : Int) > 15) = false := decide_eq_false (by omega)
  have HR : Hid (repE c fs = ownE fs) := Lib.hid (by unfold repE; rw [if_neg (by rw [he]; simp), if_neg hm])
  have hl15 : fs.length ≤ 15 := by omega
  have HD := Lib.hid (fun w => ref_digitsZ (b.size : Int) w (by omega))
  have hdl := digL_len (b.size : Int) (by omega)
  have HT := Lib.hid (repLines_two c fs b.size)
  have HTS := Lib.hid (fun k hk => repLines_take c fs b.size k hk)
  have HLL : Hid ((repLines c fs b.size).length = fs.length + 2) := Lib.hid (by unfold repLines; simp)
  obtain ⟨L, hL⟩ : ∃ L, repLines c fs b.size = L := ⟨_, rfl⟩
  have HL := Lib.hid hL
  rw [hL] at HT HTS HLL
  obtain ⟨D, hD⟩ : ∃ D, bs (digL (b.size : Int)) = D := ⟨_, rfl⟩
  rw [hD] at HD HT
  have hDs : D.size ≤ 20 := by rw [← hD, bs_size]; exact hdl
  obtain ⟨P0, hP0⟩ : ∃ P, printOf c = P := ⟨_, rfl⟩
  rw [hP0] at HS HT hps
  have zz : ∀ X Y : ByteArray, (X ++ Y).size = X.size + Y.size := fun X Y => ByteArray.size_append
  have q1 := fun w => run_string_add_sum (P := Tryz.prog) w P0 ⟨#[13, 10, 67, 111, 110, 116, 101, 110, 116, 45, 76, 101, 110, 103, 116, 104, 58, 32]⟩ (by show _ + 18 ≤ _; omega)
  have q2 := fun w => run_string_add_sum (P := Tryz.prog) w (P0 ++ ⟨#[13, 10, 67, 111, 110, 116, 101, 110, 116, 45, 76, 101, 110, 103, 116, 104, 58, 32]⟩) D (by rw [zz]; show _ + 18 + _ ≤ _; omega)
  have q3 := fun w => run_string_add_sum (P := Tryz.prog) w (P0 ++ ⟨#[13, 10, 67, 111, 110, 116, 101, 110, 116, 45, 76, 101, 110, 103, 116, 104, 58, 32]⟩ ++ D) ⟨#[13, 10]⟩ (by rw [zz, zz]; show _ + 18 + _ + 2 ≤ _; omega)
  have hs0 : (P0 ++ ⟨#[13, 10, 67, 111, 110, 116, 101, 110, 116, 45, 76, 101, 110, 103, 116, 104, 58, 32]⟩ ++ D ++ ⟨#[13, 10]⟩ : ByteArray).size ≤ 200 := by rw [zz, zz, zz]; show _ + 18 + _ + 2 ≤ _; omega
  have HS0 := Lib.hid hs0
  clear he hm hD hP0 hL hcl hdl hs0 zz
  go_enter Tryz.func18, Tryz.ntmps18
  go_wp2_with fail
  refine (HS.out _).mono ?_
  rintro e w1 ⟨rfl, hb1⟩
  have HB2 := Lib.hid (bstep HB1.out hb1)
  obtain ⟨l2, u0, u1, u2⟩ := Three.below ⟨l1, t0, t1, t2⟩ hb1
  have HX1 : Hid (fs ≠ [] → ∃ b o, av = some ⟨b, o, none⟩ ∧ b < w1.heap.size ∧ ∀ j (hj : j < fs.length), w1.cell? ⟨b, o + j * 2, none⟩ = some (.string (bs fs[j].1)) ∧ w1.cell? ⟨b, o + j * 2 + 1, none⟩ = some (.string (bs fs[j].2))) := Lib.hid (fun h => by
    obtain ⟨bb, o, h1, h2, h3⟩ := HX.out h
    exact ⟨bb, o, h1, Nat.lt_of_lt_of_le h2 hb1.size, fun j hj => ⟨(hb1.cell (p := ⟨bb, o + j * 2, none⟩) h2).trans (h3 j hj).1, (hb1.cell (p := ⟨bb, o + j * 2 + 1, none⟩) h2).trans (h3 j hj).2⟩⟩)
  have HU := Lib.hid (And.intro l2 (And.intro u1 u2))
  clear hb1 t0 t1 t2 l1 HB1 HX
  go_wp2_with fail
  refine (HD.out _).mono ?_
  rintro e w' ⟨rfl, hww⟩
  obtain rfl := hww.symm
  go_wp2_with fail
  clear q1 q2 q3 u0 u1 u2
  have HT0 : Hid ((P0 ++ ⟨#[13, 10, 67, 111, 110, 116, 101, 110, 116, 45, 76, 101, 110, 103, 116, 104, 58, 32]⟩ ++ D ++ ⟨#[13, 10]⟩) = bs (body (L.take (0 + 2)))) := Lib.hid HT.out.symm
  generalize (P0 ++ ⟨#[13, 10, 67, 111, 110, 116, 101, 110, 116, 45, 76, 101, 110, 103, 116, 104, 58, 32]⟩ ++ D ++ ⟨#[13, 10]⟩ : ByteArray) = O0 at HS0 HT0 ⊢
  go_loopg [4, 6] fs.length (fun gk s4 s6 wr => ∃ (k : Nat) (O : ByteArray), s4 = .string O ∧ s6 = .int .i64 (k : Int) ∧ k + gk = fs.length ∧ O.size ≤ 200 + k * 260 ∧ Hid (Below w1.heap.size w1 wr) ∧ Hid (O = bs (body (L.take (k + 2)))) ∧ Hid (∀ j (hj : j < fs.length), j < k → fs[j].1 ≠ clen ∧ fieldE fs[j].1 fs[j].2 = 0))
  case atStart => exact ⟨0, _, rfl, by simp, by omega, by have := HS0.out; omega, Lib.hid (Below.refl _ _), HT0, Lib.hid (fun j hj h => absurd h (Nat.not_lt_zero _))⟩
  case round =>
    obtain ⟨k, O, rfl, rfl, hgk, hOs, HBr, HO, HK⟩ := hrel
    have r1 := (HBr.out.cell (p := ⟨w.heap.size, 1, none⟩) HU.out.1).trans HU.out.2.1
    have r2 := (HBr.out.cell (p := ⟨w.heap.size, 2, none⟩) HU.out.1).trans HU.out.2.2
    by_cases hk : k < fs.length
    · obtain ⟨g', rfl⟩ : ∃ g', gk = g' + 1 := ⟨gk - 1, by omega⟩
      have hkI : decide ((k : Int) < (fs.length : Int)) = true := decide_eq_true (by omega)
      obtain ⟨bb, o, rfl, hbl, hcell⟩ := HX1.out (fun e => by rw [e] at hk; exact absurd hk (Nat.not_lt_zero _))
      have c0 := (HBr.out.cell (p := ⟨bb, o + k * 2, none⟩) hbl).trans (hcell k hk).1
      have c1 := (HBr.out.cell (p := ⟨bb, o + k * 2 + 1, none⟩) hbl).trans (hcell k hk).2
      obtain ⟨o1, o2⟩ := ownE_bad fs k hk (fun i hi hik => HK.out i hi hik)
      obtain ⟨y, hy⟩ : ∃ y, fs[k] = y := ⟨_, rfl⟩
      have hyl := hf _ (List.getElem_mem hk)
      have HTk := Lib.hid (HTS.out k hk)
      rw [hy] at c0 c1 o1 o2 hyl HTk
      have HP := Lib.hid (fun w => ref_fprint (bs y.1) (bs y.2) w (by rw [bs_size]; exact hyl.1) (by rw [bs_size]; exact hyl.2))
      rw [bs_data, bs_data] at HP
      have HOE := Lib.hid (And.intro o1 o2)
      have HY := Lib.hid hy
      have hcmp := bs_lit y.1 [99, 111, 110, 116, 101, 110, 116, 45, 108, 101, 110, 103, 116, 104]
      clear hcell o1 o2 hy hyl
      by_cases hnm : y.1 = clen
      · have HF : Hid (repE c fs = 22 ∧ repS c fs b.data.toList = []) := Lib.hid (by
          have : repE c fs = 22 := by rw [HR.out]; exact HOE.out.1 hnm
          exact ⟨this, by unfold repS; rw [if_neg (by rw [this]; simp)]⟩)
        rw [decide_eq_true (show y.1 = [99, 111, 110, 116, 101, 110, 116, 45, 108, 101, 110, 103, 116, 104] from hnm)] at hcmp
        clear hnm HK HY
        go_wp2_with fail
        go_ret2
        exact ⟨by rw [HF.out.1, HF.out.2]; rfl, bstep HB2.out HBr.out⟩
      · have HNM := Lib.hid hnm
        rw [decide_eq_false (show ¬ y.1 = [99, 111, 110, 116, 101, 110, 116, 45, 108, 101, 110, 103, 116, 104] from hnm)] at hcmp
        by_cases hz : fieldE y.1 y.2 = 0
        · have HK2 : Hid (∀ j (hj : j < fs.length), j < k + 1 → fs[j].1 ≠ clen ∧ fieldE fs[j].1 fs[j].2 = 0) := Lib.hid (fun j hj h => by
            by_cases e : j = k
            · subst e; rw [HY.out]; exact ⟨HNM.out, hz⟩
            · exact HK.out j hj (by omega))
          have hfs : fieldS y.1 y.2 = printL y.1 y.2 := if_pos hz
          have hpl : (printL y.1 y.2).length ≤ 256 := (fieldE_zero _ _ hz).2
          rw [hz, hfs] at HP
          obtain ⟨X, hX⟩ : ∃ X, bs (printL y.1 y.2) = X := ⟨_, rfl⟩
          have hXs : X.size ≤ 256 := by rw [← hX, bs_size]; exact hpl
          rw [hX] at HP
          have HOO : Hid (O ++ X ++ ⟨#[13, 10]⟩ = bs (body (L.take (k + 1 + 2)))) := Lib.hid (by
            rw [HO.out, ← hX, show (⟨#[13, 10]⟩ : ByteArray) = bs [13, 10] from rfl, bs_cat, bs_cat, HTk.out, body_append]
            simp [body])
          have hOk : O.size ≤ 200 + 15 * 260 := by omega
          have p1 := fun w => run_string_add_sum (P := Tryz.prog) w O X (by omega)
          have p2 := fun w => run_string_add_sum (P := Tryz.prog) w (O ++ X) ⟨#[13, 10]⟩ (by rw [ByteArray.size_append]; show _ + _ + 2 ≤ _; omega)
          clear hz hfs hpl hX hnm HK HY
          go_wp2_with fail
          refine (HP.out _).mono ?_
          rintro e w3 ⟨rfl, hb3⟩
          have HB3 := Lib.hid (bstep HBr.out hb3)
          clear hb3 c0 c1 r1 r2
          go_wp2_with fail
          go_roundg g'
          case measure => omega
          case rel => exact ⟨k + 1, _, rfl, by simp, by omega, by rw [ByteArray.size_append, ByteArray.size_append]; show _ + _ + 2 ≤ _; omega, HB3, HOO, HK2⟩
        · have HF : Hid (repE c fs = fieldE y.1 y.2 ∧ repS c fs b.data.toList = []) := Lib.hid (by
            have : repE c fs = fieldE y.1 y.2 := by rw [HR.out]; exact HOE.out.2 HNM.out hz
            exact ⟨this, by unfold repS; rw [if_neg (by rw [this]; exact hz)]⟩)
          have tz : ((fieldE y.1 y.2 : Int) != 0) = true := by rw [bne_iff_ne]; omega
          clear hz hnm HK HY
          go_wp2_with fail
          refine (HP.out _).mono ?_
          rintro e w3 ⟨rfl, hb3⟩
          have HB3 := Lib.hid (bstep HB2.out (bstep HBr.out hb3))
          clear hb3 c0 c1 r1 r2
          go_wp2_with fail
          go_ret2
          exact ⟨by rw [HF.out.1, HF.out.2]; rfl, HB3.out⟩
    · obtain rfl : k = fs.length := by omega
      have hkI : decide ((fs.length : Int) < (fs.length : Int)) = false := decide_eq_false (by omega)
      have hrz : repE c fs = 0 := by rw [HR.out]; exact ownE_good fs (fun i hi => HK.out i hi hi)
      have HF : Hid (repE c fs = 0 ∧ repS c fs b.data.toList = body L ++ 13 :: 10 :: b.data.toList) := Lib.hid ⟨hrz, by unfold repS; rw [if_pos hrz]; unfold repL; rw [size_len, HL.out]⟩
      have HOO : Hid (O ++ ⟨#[13, 10]⟩ ++ b = bs (repS c fs b.data.toList)) := Lib.hid (by
        rw [HF.out.2, HO.out, List.take_of_length_le (by rw [HLL.out]; omega), show (⟨#[13, 10]⟩ : ByteArray) = bs [13, 10] from rfl]
        conv => lhs; rhs; rw [← bs_self b]
        rw [bs_cat, bs_cat]
        congr 1
        simp)
      have hOk : O.size ≤ 200 + 15 * 260 := by omega
      have p1 := fun w => run_string_add_sum (P := Tryz.prog) w O ⟨#[13, 10]⟩ (by show _ + 2 ≤ _; omega)
      have p2 := fun w => run_string_add_sum (P := Tryz.prog) w (O ++ ⟨#[13, 10]⟩) b (by rw [ByteArray.size_append]; show _ + 2 + _ ≤ _; omega)
      clear hrz HK
      go_wp2_with fail
      go_ret2
      exact ⟨by rw [HF.out.1, ← HOO.out]; rfl, bstep HB2.out HBr.out⟩
end Go.Proofs.YtdihhbkajcngeaaGreatDoor
