/- What put of a pool does. -/
import Derived.Test.YtjeeedbbdgjgeaaPoolPut1
namespace Go.Proofs.Ytjeeedbbdgjgeaa
open Go.RowKit Go.Maps PoolPlain
/-- what put leaves -/
def PutR (p : Nat) (l : List (List UInt8)) (s : List UInt8) (S : Nat → Prop) (w : World) (e : Ending) (w' : World) : Prop :=
  e = .returned (.agg #[.int .u64 (l.flatten.length : Nat), .int .u32 (s.length : Nat)]) ∧ ∃ S', PoolAt w' p (l ++ [s]) S' ∧ (∀ g, S' g → S g ∨ w.heap.size ≤ g) ∧ Touch S w w'
set_option maxRecDepth 100000 in
set_option maxHeartbeats 4000000 in
theorem pool_put (p : Nat) (l : List (List UInt8)) (S : Nat → Prop) (s : List UInt8) (w : World) (h1 : s ≠ []) (h2 : s.length ≤ 65536) (h3 : s ∉ l) (h4 : l.length < 2048) (hP : PoolAt w p l S) :
    Calls Try.prog 34 #[.pointer (some ⟨p, 0, none⟩), .string (bs s)] w (PutR p l s S w) := by
  have hpl := hP.lt
  have HP := Lib.hid hP
  obtain ⟨hok, hSl, hSp, tv, pv, mv, hb, ht, hts, hpr, hps, hm⟩ := hP
  obtain ⟨c0, c1, c2, f0, f1, f2⟩ := cells3 hb
  have hfl := okL_flat l hok
  have HS := Lib.hid (fun w => fnv_sum (bs s) w (by rw [bs_size]; omega))
  rw [bs_data] at HS
  have hbz := bs_size s
  obtain ⟨M, hM⟩ : ∃ M, l.flatten.length = M := ⟨_, rfl⟩
  have HM := Lib.hid hM
  rw [hM] at hfl
  have e1 : IntKind.u64.wrap (M : Int) = (M : Int) := u64_nat _ (by omega)
  have e2 : IntKind.u32.wrap (s.length : Int) = (s.length : Int) := IntWalk.u32_in _ (by omega)
  have hmm := @run_makeMap Try.prog
  have hq : ∀ (w : World) (r : Option Nat), (binOp .eql 59 (.map r) (.map none)).run Try.prog w = .ok (.bool r.isNone) w := fun w r => run_eql_map_nil w _ _ _ r Try.underlying59
  obtain ⟨t0, tc, rfl⟩ : ∃ a c, tv = .slice a M c := by
    rcases ht.2 with ⟨rfl, h0⟩ | ⟨g, cap, cur, rfl, -⟩
    · exact ⟨none, 0, by rw [← hM, h0]⟩
    · exact ⟨_, _, by rw [← hM]⟩
  have HT := Lib.hid ht
  have HPR := Lib.hid hpr
  have hA := block_alloc w (.cells #[.int .u64 0, .int .u32 0] 39)
  have hAB : ((w.alloc (.cells #[.int .u64 0, .int .u32 0] 39)).alloc (.cells #[.int .u64 (M : Nat), .int .u32 (s.length : Nat)] 39)).heap[w.heap.size]? = some (.cells #[.int .u64 0, .int .u32 0] 39 (0, 0)) :=
    (heap_alloc_old _ _ (by rw [World.size_alloc]; omega)).trans hA
  have hBB := block_alloc (w.alloc (.cells #[.int .u64 0, .int .u32 0] 39)) (.cells #[.int .u64 (M : Nat), .int .u32 (s.length : Nat)] 39)
  rw [World.size_alloc] at hBB
  have hBel : Below w.heap.size w ((w.alloc (.cells #[.int .u64 0, .int .u32 0] 39)).alloc (.cells #[.int .u64 (M : Nat), .int .u32 (s.length : Nat)] 39)) := ((Below.refl _ _).alloc (Nat.le_refl _) _).alloc (by rw [World.size_alloc]; omega) _
  have hz2 : ((w.alloc (.cells #[.int .u64 0, .int .u32 0] 39)).alloc (.cells #[.int .u64 (M : Nat), .int .u32 (s.length : Nat)] 39)).heap.size = w.heap.size + 1 + 1 := by rw [World.size_alloc, World.size_alloc]
  have HA := Lib.hid (And.intro hAB (And.intro hBB (And.intro hBel hz2)))
  clear hA hAB hBB hBel hz2 hM
  have HSl := Lib.hid hSl
  have HTS := Lib.hid hts
  have HPS := Lib.hid hps
  have Hb := Lib.hid hb
  have HOK := Lib.hid hok
  obtain ⟨p0, pc, rfl⟩ : ∃ a c, pv = .slice a l.length c := by
    rcases hpr.2 with ⟨rfl, h0⟩ | ⟨g, cap, cur, rfl, -⟩
    · exact ⟨none, 0, by rw [h0]⟩
    · exact ⟨_, _, rfl⟩
  rcases hm with ⟨rfl, hl0⟩ | ⟨b, D, rfl, hSb, hg, hsh, hD⟩
  case' inl =>
    have HR := Lib.hid (ready_nil HSl.out hSp Hb.out HT.out HTS.out HPR.out HPS.out hl0 HA.out)
    have f2' : (((w.alloc (.cells #[.int .u64 0, .int .u32 0] 39)).alloc (.cells #[.int .u64 (M : Nat), .int .u32 (s.length : Nat)] 39)).alloc (.map #[] 0)).frozen? ⟨p, 2, none⟩ = false := by
      refine (World.frozen?_of_block (w := w) ?_).trans f2
      exact (heap_alloc_old _ _ (by rw [HA.out.2.2.2]; show p < _; omega)).trans (HA.out.2.2.1.block p hpl)
    have c2' : (((w.alloc (.cells #[.int .u64 0, .int .u32 0] 39)).alloc (.cells #[.int .u64 (M : Nat), .int .u32 (s.length : Nat)] 39)).alloc (.map #[] 0)).cell? ⟨p, 2, none⟩ = some (.map none) := by
      refine (World.cell?_of_block (w := w) ?_).trans c2
      exact (heap_alloc_old _ _ (by rw [HA.out.2.2.2]; show p < _; omega)).trans (HA.out.2.2.1.block p hpl)
    clear hl0 hb ht hpr hok hSl hts hps
    go_enter Try.func34, Try.ntmps34
    go_wp2_with fail
    generalize (((w.alloc (.cells #[.int .u64 0, .int .u32 0] 39)).alloc (.cells #[.int .u64 (M : Nat), .int .u32 (s.length : Nat)] 39)).alloc (.map #[] 0)).setCell ⟨p, 2, none⟩ (.map (some (w.heap.size + 1 + 1))) = W2 at HR ⊢
    generalize (fun g => S g ∨ g = w.heap.size + 2) = S2 at HR ⊢
    generalize w.heap.size + 1 + 1 = b at HR ⊢
    generalize (DataW.map []) = D at HR ⊢
    clear f2' c2' HA c0 c1 c2 f0 f1 f2
  case' inr =>
    have HR := Lib.hid (ready_some (⟨HSl.out, hSp, hSb, Hb.out, HT.out, HTS.out, HPR.out, HPS.out, hg, hsh, hD⟩ : Pre w p b _ _ D l l l S) HA.out)
    clear hb ht hpr hok hSl hts hps hg hsh hD
    go_enter Try.func34, Try.ntmps34
    go_wp2_with fail
    generalize (w.alloc (.cells #[.int .u64 0, .int .u32 0] 39)).alloc (.cells #[.int .u64 (M : Nat), .int .u32 (s.length : Nat)] 39) = W2 at HR ⊢
    obtain ⟨S2, hS2⟩ : ∃ S2, S2 = S := ⟨S, rfl⟩
    replace HR : Hid (Ready w W2 p b (Value.slice t0 M tc) (Value.slice p0 l.length pc) D l l l M s.length S S2) := by rw [hS2]; exact HR
    clear HA c0 c1 c2 f0 f1 f2 hSb hS2
  all_goals
    refine (HS.out _).mono ?_
    rintro e W3 ⟨rfl, hb3⟩
    have HR3 := Lib.hid (HR.out.below hb3)
    clear HR hb3
    obtain ⟨F, hF⟩ := tells_some b (FnvPlain.sum s)
    have HF := Lib.hid hF
    obtain ⟨v, zs, q1, q2, q3, q4, q5, q6⟩ := groups_look kU64 Try.underlying59 zeroInts HR3.out.1.2.2.2.2.2.2.2.2.1 HR3.out.1.2.2.2.2.2.2.2.2.2.1 (by unfold maxLen; omega) (key_u64 _ (FnvPlain.sum_lt s))
    rw [HR3.out.1.2.2.2.2.2.2.2.2.2.2 _ (FnvPlain.sum_lt s)] at q1
    obtain rfl := row_grp q2 q1.symm
    have HO := Lib.hid q2
    have HBk := Lib.hid q4
    have HvS := Lib.hid q5
    have HLk : Hid (∀ w', w'.heap[b]? = W3.heap[b]? → Looks b (FnvPlain.sum s) w' v) := Lib.hid q6
    have HKA : Hid (∀ W, Below W3.heap.size W3 W → PutS F p b (FnvPlain.sum s) (Value.slice p0 l.length pc) W) := Lib.hid (fun W hW => PutS.of hF ((hW.block p HR3.out.1.lt.1).trans HR3.out.1.2.2.2.1) (q6 W (hW.block b HR3.out.1.lt.2)))
    have HFW : Hid (∀ W, Below W3.heap.size W3 W → F W = v) := Lib.hid (fun W hW => hF W v (q6 W (hW.block b HR3.out.1.lt.2)))
    clear hF q1 q2 q3 q4 q5 q6
    go_wp2_with fail
    go_region_held3 (fun w' => w'.cell? ⟨p, 2, none⟩ = some (.map (some b)) ∧ w'.cell? ⟨p, 1, none⟩ = some (Value.slice p0 l.length pc) ∧ (Instr.lookup 59 (.map (some b)) (.int .u64 (FnvPlain.sum s : Nat)) false).run Try.prog w' = .ok (F w') w') (first | exact HKA.out _ (Below.refl _ _).drew | exact HKA.out _ ((Below.refl _ _).alloc (Nat.le_refl _) _).drew | exact hmid.s1 | exact hmid.s2)
      (first
        | (refine step_group F W3 s HF.out HR3.out.1 h4 HO.out HBk.out HvS.out HLk.out _ W3.heap.size ?_ ?_ rfl _ _ rfl (HFW.out _ (Below.refl _ _).drew) rfl ?_; exact ((Below.refl _ _).alloc (Nat.le_refl _) _).drew; exact block_alloc W3 _; intro v' w1 w2 hrun hmid)
        | (refine step_group F W3 s HF.out HR3.out.1 h4 HO.out HBk.out HvS.out HLk.out _ W3.heap.size ?_ ?_ rfl _ _ rfl (HFW.out _ ((Below.refl _ _).alloc (Nat.le_refl _) _).drew) rfl ?_; exact ((Below.refl _ _).alloc (Nat.le_refl _) _).drew; exact block_alloc W3 _; intro v' w1 w2 hrun hmid))
    all_goals
      have hmd := Lib.hid hmid
      obtain ⟨D', hD'⟩ := hmid.pre
      have HR4 : Hid (Ready w w2 p b (Value.slice t0 M tc) (Value.slice p0 l.length pc) D' l l (l ++ [s]) M s.length S (SX S2 W3 w2)) := Lib.hid (HR3.out.go HSl.out ((Below.refl _ _).alloc (Nat.le_refl _) _).drew hmid.touch hD')
      clear hmd hD' hmid hrun HKA HLk HvS HBk HO HR3 HF HFW
      obtain ⟨-, a1, -, -, -, -, a6, a7, a8, a9⟩ := HR4.out.cells
      go_wp2_with fail
      go_region_law (first
        | (refine step_places w2 s HR4.out.1 h4 _ w2.heap.size ?_ ?_ rfl _ _ rfl rfl rfl ?_; exact ((Below.refl _ _).alloc (Nat.le_refl _) _).drew; (rw [HM.out]; exact block_alloc w2 _); intro g cap w4 c4 f4 ht4 hpre4))
      all_goals
        have HR5 : Hid (Ready w (w4.setCell ⟨p, 1, none⟩ (Value.slice (some ⟨g, 0, none⟩) (l.length + 1) cap)) p b (Value.slice t0 M tc) (Value.slice (some ⟨g, 0, none⟩) (l.length + 1) cap) D' l (l ++ [s]) (l ++ [s]) M s.length S (SX (SX S2 W3 w2) w2 w4)) := Lib.hid (HR4.out.goS HSl.out ((Below.refl _ _).alloc (Nat.le_refl _) _).drew ht4 hpre4)
        clear hpre4 ht4 HR4 a1 a6 a7 a8 a9 c4 f4
        generalize (SX (SX S2 W3 w2) w2 w4) = S5 at HR5
        generalize w4.setCell ⟨p, 1, none⟩ (Value.slice (some ⟨g, 0, none⟩) (l.length + 1) cap) = W5 at HR5 ⊢
        obtain ⟨a0, -, -, -, -, -, -, -, a8, a9⟩ := HR5.out.cells
        go_wp2_with (at_builtin; (refine append_text W5 s HR5.out.1 (by rw [HM.out]; exact hfl) h1 h2 rfl _ _ rfl rfl rfl ?_); intro g6 k6 cap6 w6 c6 f6 ht6 hpre6; have HT6 := Lib.hid ht6; have HP6 := Lib.hid hpre6; obtain ⟨x0, x1⟩ := HR5.out.far HSl.out ht6; have HX := Lib.hid x0; obtain ⟨y0, y1, y2, y3⟩ := cells2 x0; obtain ⟨y4, y5, -, -⟩ := cells2 x1; have ls6 := Nat.lt_of_lt_of_le a9 ht6.size; clear ht6 hpre6 x0 x1)
        have HR7 := Lib.hid (HR5.out.goS HSl.out (Below.refl _ _) HT6.out HP6.out)
        have hx0 : (w6.setCell ⟨p, 0, none⟩ (.slice (some ⟨g6, 0, none⟩) k6 cap6)).heap[w.heap.size]? = some (.cells #[.int .u64 0, .int .u32 0] 39 (0, 0)) := (set_other _ (by omega)).trans HX.out
        refine ret_cell (A := ⟨w.heap.size, 0, none⟩) rfl (load_content _ _ _ _ _ (two_set hx0 _ _)) rfl rfl ?_
        refine ⟨by rw [HM.out], _, (HR7.out.1.pool (okL_snoc l s HOK.out h1 h2 h3 h4)).keep (by simp only [set_size]; exact Nat.le_refl _) (fun g hg => ?_), fun g hg => (HR7.out.2.2.2.2.2.1 g hg).imp id (fun e => by omega), touch_set _ (touch_set _ HR7.out.2.2.2.1 (.inr (Nat.le_refl _))) (.inr (Nat.le_refl _))⟩
        have hgn : g ≠ w.heap.size := fun e => (HR7.out.2.2.2.2.2.1 g hg).elim (fun h => by have := HSl.out g h; omega) (fun h => by omega)
        exact (set_other _ hgn).trans (set_other _ hgn)
end Go.Proofs.Ytjeeedbbdgjgeaa
