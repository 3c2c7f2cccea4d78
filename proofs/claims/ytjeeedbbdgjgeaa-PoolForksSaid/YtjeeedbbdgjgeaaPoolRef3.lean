/- What Add of the reference of layer 11 returns. -/
import Derived.Test.YtjeeedbbdgjgeaaPoolRef2
import Derived.BigRegion
namespace Go.Proofs.Ytjeeedbbdgjgeaa
open Go.RowKit PoolPlain
theorem ret_mix4 {fn : Func} {R : Ending → World → Prop} {a : Act} {w : World} {A : Addr} {U V E F : Value} {q p u v : Tmp} {ty : TypeId} (hres : fn.results = #[.tmp q, .cell p ty, .tmp u, .tmp v])
    (hload : (loadVar ty A).run Try.prog w = .ok V w)
    (hq : a.tmps.getD q undef = U) (hp : a.tmps.getD p undef = .pointer (some A)) (hE : a.tmps.getD u undef = E) (hF : a.tmps.getD v undef = F) (hdef : a.defers = [])
    (hR : R (.returned (.tuple #[U, V, E, F])) w) : bodyPost Try.prog fn R .ret a w := by
  refine bodyPost_ret_by (v := .tuple #[U, V, E, F]) ?_ hdef hR
  have hp' : a.tmps[p]?.getD undef = .pointer (some A) := by simpa using hp
  have hq' : a.tmps[q]?.getD undef = U := by simpa using hq
  have hE' : a.tmps[u]?.getD undef = E := by simpa using hE
  have hF' : a.tmps[v]?.getD undef = F := by simpa using hF
  simp [results, hres, hp', hq', hE', hF', asAddr, hload, Result.andThen]
/-- the slice v reads as the texts xs, and lies in a block of which A holds -/
def HoldsA (w : World) (A : Nat → Prop) (v : Value) (xs : List (List UInt8)) : Prop :=
  ∃ a c, v = .slice a xs.length c ∧ xs.length ≤ c ∧ (xs = [] → a = none ∧ c = 0) ∧ (xs ≠ [] → ∃ b o, a = some ⟨b, o, none⟩ ∧ A b ∧ b < w.heap.size ∧ ∀ j (hj : j < xs.length), w.cell? ⟨b, o + j, none⟩ = some (.string (bs xs[j])))
theorem HoldsA.holds {w : World} {A : Nat → Prop} {v : Value} {xs : List (List UInt8)} (h : HoldsA w A v xs) : HoldsS w v xs := by
  obtain ⟨a, c, h1, h2, -, h3⟩ := h
  exact ⟨a, c, h1, h2, fun hn => let ⟨b, o, e1, _, e2, e3⟩ := h3 hn; ⟨b, o, e1, e2, e3⟩⟩
theorem HoldsA.keep {w w' : World} {A A' : Nat → Prop} {v : Value} {xs : List (List UInt8)} (h : HoldsA w A v xs) (hs : w.heap.size ≤ w'.heap.size) (hk : ∀ b, A b → b < w.heap.size → w'.heap[b]? = w.heap[b]? ∧ A' b) : HoldsA w' A' v xs := by
  obtain ⟨a, c, h1, h2, h0, h3⟩ := h
  refine ⟨a, c, h1, h2, h0, fun hn => ?_⟩
  obtain ⟨b, o, e1, e4, e2, e3⟩ := h3 hn
  exact ⟨b, o, e1, (hk b e4 e2).2, Nat.lt_of_lt_of_le e2 hs, fun j hj => (World.cell?_of_block (w := w) (a := ⟨b, o + j, none⟩) (hk b e4 e2).1).trans (e3 j hj)⟩
theorem HoldsA.nil (w : World) (A : Nat → Prop) : HoldsA w A (.slice none 0 0) [] := ⟨none, 0, rfl, Nat.le_refl _, fun _ => ⟨rfl, rfl⟩, fun h => absurd rfl h⟩
theorem HoldsA.of_own {w : World} {base n : Nat} {e : TypeId} {v : Value} {xs : List (List UInt8)} (h : w.ownsRow base e 1 v n (strs xs)) (hne : xs ≠ []) : HoldsA w (fun b => base ≤ b) v xs := by
  have hn : xs.length = n := by have := h.1; rw [strs_length, Nat.mul_one] at this; exact this
  have hS := HoldsS.of_own h
  rcases h.2 with ⟨rfl, h0⟩ | ⟨g, cap, cur, rfl, hb, -⟩
  · exact absurd (List.eq_nil_of_length_eq_zero (by omega)) hne
  · obtain ⟨a, c, e1, e2, e3⟩ := hS
    obtain ⟨b, o, e4, e5, e6⟩ := e3 hne
    injection e1 with q1 q2 q3
    subst q3
    rw [e4] at q1
    injection q1 with q1
    injection q1 with q4 q5
    subst q4 q5
    exact ⟨_, cap, by rw [hn], e2, fun h => absurd h hne, fun _ => ⟨g, 0, rfl, hb, e5, e6⟩⟩
/-- append of texts that are there to nil -/
theorem append_all {ops : Array Oper} {rest : List Oper} {o : Oper} {a : Act} {Q : Exit → Act → World → Prop} (w0 : World) (hgd : o.guard = none) (s x : Operand)
    (ho : o.op = .call { callee := .builtin .append, args := #[s, x], argTypes := #[32, 32] }) (A : Nat → Prop) (v : Value) (l : List (List UInt8)) (hs : a.eval s = .slice none 0 0) (hx : a.eval x = v) (hv : HoldsA w0 A v l) (hl : l.length ≤ 2048)
    (h : ∀ v' w', w'.ownsRow w0.heap.size 9 1 v' l.length (strs l) → Below w0.heap.size w0 w' → wpList Try.prog ops Q rest (a.put o.dst v') w') : wpList Try.prog ops Q (o :: rest) a w0 := by
  obtain ⟨i0, hi, hz0, hz1, hz2⟩ := info_parts info_str
  obtain ⟨va, vc, rfl, h1, h2, h3⟩ := hv
  by_cases hl0 : l = []
  · obtain ⟨rfl, rfl⟩ := h2 hl0
    subst hl0
    exact wpList_append_own_none hgd s x 32 ho w0.heap.size 9 i0 1 Try.underlying32 hi _ 0 [] hs (World.ownsRow_nil _ _ _ _) hx (h _ _ (World.ownsRow_nil _ _ _ _) (Below.refl _ _))
  · obtain ⟨b, q, rfl, -, hb, hc⟩ := h3 hl0
    refine wpList_append_own _ hgd s x 32 ho w0.heap.size 9 i0 _ 1 16 Try.underlying32 hi hz0 hz1 hz2 rfl (by decide) _ 0 [] hs (World.ownsRow_nil _ _ _ _) ⟨b, q, none⟩ l.length vc (strs l) hx (by rw [strs_length, Nat.mul_one]) (fun j u hu => ?_) (fun u hu => ?_) (by unfold maxLen; omega) (by omega) (Nat.le_refl _) ?_
    · have hj : j < l.length := by rw [← strs_length]; exact (List.getElem?_eq_some_iff.1 hu).1
      rw [strs_get l j hj] at hu
      rw [at_plain, hc j hj]; exact hu
    · unfold strs at hu
      obtain ⟨y, -, rfl⟩ := List.mem_map.1 hu
      rfl
    · intro v' w' g1 g2 _
      rw [Nat.zero_add, List.nil_append] at g1
      exact h v' w' g1 ⟨g2.os, g2.tape, g2.output, g2.size, fun k hk => g2.block k hk (by simp [Value.ownBlock])⟩
/-- what Add of the reference leaves -/
def RAddR (l : List (List UInt8)) (s : List UInt8) (A : Nat → Prop) (w : World) (e : Ending) (w' : World) : Prop :=
  ∃ v', e = .returned (.tuple #[v', .agg #[.int .u64 ((addC l s).1 : Nat), .int .u32 ((addC l s).2 : Nat)], .bool (addIs l s), .int .i64 (addE l s : Nat)]) ∧ HoldsA w' (fun b => A b ∨ w.heap.size ≤ b) v' (addL l s) ∧ Below w.heap.size w w'
theorem raddR_old {l : List (List UInt8)} {s : List UInt8} {A : Nat → Prop} {w : World} {v : Value} {e : Ending} {w' : World} (h : ¬ (s ≠ [] ∧ s.length ≤ 65536 ∧ s ∉ l ∧ l.length < 2048)) (hv : HoldsA w A v l) {a b c : Nat} (h1 : (fnd l s).1 = a) (h2 : (fnd l s).2.1 = b) (h3 : addE l s = c)
    (he : e = .returned (.tuple #[v, .agg #[.int .u64 (a : Nat), .int .u32 (b : Nat)], .bool false, .int .i64 (c : Nat)])) (hb : Below w.heap.size w w') : RAddR l s A w e w' := by
  obtain ⟨g1, g2, g3⟩ := add_old l s h
  subst h1 h2 h3
  exact ⟨v, by rw [g1, g3]; exact he, by rw [g2]; exact hv.keep hb.size (fun b hb1 hb2 => ⟨hb.block b hb2, .inl hb1⟩), hb⟩
set_option maxRecDepth 100000 in
set_option maxHeartbeats 4000000 in
theorem ref_add (v : Value) (l : List (List UInt8)) (s : ByteArray) (A : Nat → Prop) (w : World) (hs : s.size ≤ 9223372036854775807) (hv : HoldsA w A v l) (hok : OkL l) :
    Calls Try.prog 23 #[v, .string s] w (RAddR l s.data.toList A w) := by
  obtain ⟨m, rfl⟩ : ∃ m, s = bs m := ⟨s.data.toList, (bs_self s).symm⟩
  rw [bs_data]
  have hbz := bs_size m
  have hA := block_alloc w (.cells #[.int .u64 0, .int .u32 0] 35)
  have hB0 : Below w.heap.size w (w.alloc (.cells #[.int .u64 0, .int .u32 0] 35)) := (Below.refl _ _).alloc (Nat.le_refl _) _
  have hll : l.length ≤ 2048 := hok.1
  have hfl := okL_flat l hok
  obtain ⟨va, vc, rfl, hvc, -, -⟩ := id hv
  by_cases h1 : m = []
  · have HE : Hid (RAddR l m A w (.returned (.tuple #[.slice va l.length vc, .agg #[.int .u64 0, .int .u32 0], .bool false, .int .i64 2])) (w.alloc (.cells #[.int .u64 0, .int .u32 0] 35))) := Lib.hid (by
      have hf := fnd_miss l m (by rw [h1]; exact not_mem_nil l hok)
      exact raddR_old (fun h => h.1 h1) hv (by rw [hf]) (by rw [hf]) (by unfold addE; rw [if_pos h1]) rfl hB0)
    have t1 : (bs m).size = 0 := by rw [hbz, h1]; rfl
    have t2 : m.length = 0 := by rw [h1]; rfl
    clear h1 hok hv
    go_enter Try.func23, Try.ntmps23
    go_wp2_with fail
    refine ret_mix4 (A := ⟨w.heap.size, 0, none⟩) rfl (load_rcontent _ _ _ _ _ hA) rfl rfl rfl rfl rfl ?_
    exact HE.out
  · have hm0 : 0 < m.length := List.length_pos_iff.2 h1
    have t1 : ((m.length : Int) == 0) = false := by rw [beq_eq_false_iff_ne]; omega
    by_cases h2 : 65536 < m.length
    · have HE : Hid (RAddR l m A w (.returned (.tuple #[.slice va l.length vc, .agg #[.int .u64 0, .int .u32 0], .bool false, .int .i64 5])) (w.alloc (.cells #[.int .u64 0, .int .u32 0] 35))) := Lib.hid (by
        have hf := fnd_miss l m (not_mem_long l hok m h2)
        exact raddR_old (fun h => by have := h.2.1; omega) hv (by rw [hf]) (by rw [hf]) (by unfold addE; rw [if_neg h1, if_pos h2]) rfl hB0)
      clear h1 hok hv
      have t2 : decide ((65536 : Int) < (m.length : Int)) = true := decide_eq_true (by omega)
      go_enter Try.func23, Try.ntmps23
      go_wp2_with fail
      refine ret_mix4 (A := ⟨w.heap.size, 0, none⟩) rfl (load_rcontent _ _ _ _ _ hA) rfl rfl rfl rfl rfl ?_
      exact HE.out
    · have t2 : decide ((65536 : Int) < (m.length : Int)) = false := decide_eq_false (by omega)
      have HFn := Lib.hid (ref_find _ l (bs m) _ (hv.holds.below hB0) (by omega) (by omega))
      rw [bs_data] at HFn
      have H1 := Lib.hid h1
      have HV := Lib.hid hv
      clear h1 hv
      by_cases h3 : m ∈ l
      · have HE : Hid (∀ w', Below w.heap.size w w' → RAddR l m A w (.returned (.tuple #[.slice va l.length vc, .agg #[.int .u64 ((fnd l m).1 : Nat), .int .u32 ((fnd l m).2.1 : Nat)], .bool false, .int .i64 0])) w') := Lib.hid (fun w' hb => raddR_old (fun h => h.2.2.1 h3) HV.out rfl rfl (by unfold addE; rw [if_neg H1.out, if_neg h2, if_pos h3]) rfl hb)
        obtain ⟨k, hk, e1, e2⟩ := first_of l m h3
        have Hf := Lib.hid (fnd_hit l m k hk e1 e2)
        clear e1 e2 h3 hok
        go_enter Try.func23, Try.ntmps23
        go_wp2_with fail
        refine HFn.out.mono ?_
        rintro e w1 ⟨rfl, hb1⟩
        have hbx := bstep hB0 hb1
        have hA1 := (hb1.block w.heap.size (by rw [World.size_alloc]; omega)).trans hA
        have hz1 := Nat.lt_of_lt_of_le (show w.heap.size < _ by rw [World.size_alloc]; exact Nat.lt_succ_self _) hb1.size
        rw [Hf.out] at HE ⊢
        generalize off l k = o at HE ⊢
        obtain ⟨n, hn⟩ : ∃ n, m.length = n := ⟨_, rfl⟩
        rw [hn] at HE ⊢
        clear hn
        obtain ⟨x0, x1, x2, x3⟩ := cells2 hA1
        have HA1 := Lib.hid hA1
        have HBX := Lib.hid hbx
        clear hb1 hA1 hbx hA hB0
        go_wp2_with fail
        go_region
        all_goals
          go_wp2_with fail
          refine ret_mix4 (A := ⟨w.heap.size, 0, none⟩) (V := .agg #[.int .u64 (o : Nat), .int .u32 (n : Nat)]) rfl ?hl rfl rfl rfl rfl rfl ?_
          case hl => exact load_rcontent _ _ _ _ _ ((heap_alloc_old _ _ (by simp only [set_size]; exact hz1)).trans (two_set HA1.out _ _))
          refine HE.out _ ?_
          first
          | exact (((HBX.out.setCell (p := ⟨w.heap.size, 0, none⟩) (Nat.le_refl _) _).setCell (p := ⟨w.heap.size, 1, none⟩) (Nat.le_refl _) _).alloc (by simp only [set_size]; omega) _).drew
          | exact (((HBX.out.drew.setCell (p := ⟨w.heap.size, 0, none⟩) (Nat.le_refl _) _).setCell (p := ⟨w.heap.size, 1, none⟩) (Nat.le_refl _) _).alloc (by simp only [set_size]; exact Nat.le_of_lt hz1) _)
          | exact ((((HBX.out.alloc (by omega) _)).setCell (p := ⟨w.heap.size, 0, none⟩) (Nat.le_refl _) _).setCell (p := ⟨w.heap.size, 1, none⟩) (Nat.le_refl _) _).drew
      · have hf := fnd_miss l m h3
        have Hf := Lib.hid hf
        by_cases h4 : 2048 ≤ l.length
        · have HE : Hid (∀ w', Below w.heap.size w w' → RAddR l m A w (.returned (.tuple #[.slice va l.length vc, .agg #[.int .u64 0, .int .u32 0], .bool false, .int .i64 7])) w') := Lib.hid (fun w' hb => raddR_old (fun h => by have := h.2.2.2; omega) HV.out (by rw [hf]) (by rw [hf]) (by unfold addE; rw [if_neg H1.out, if_neg h2, if_neg h3, if_pos h4]) rfl hb)
          have t4 : decide ((2048 : Int) ≤ (l.length : Int)) = true := decide_eq_true (by omega)
          clear h3 hf hok
          go_enter Try.func23, Try.ntmps23
          go_wp2_with fail
          refine HFn.out.mono ?_
          rintro e w1 ⟨rfl, hb1⟩
          have hbx := bstep hB0 hb1
          have hA1 := (hb1.block w.heap.size (by rw [World.size_alloc]; omega)).trans hA
          have hz1 := Nat.lt_of_lt_of_le (show w.heap.size < _ by rw [World.size_alloc]; exact Nat.lt_succ_self _) hb1.size
          rw [Hf.out]
          obtain ⟨x0, x1, x2, x3⟩ := cells2 hA1
          have HA1 := Lib.hid hA1
          have HBX := Lib.hid hbx
          clear hb1 hA1 hbx hA hB0
          go_wp2_with fail
          refine ret_mix4 (A := ⟨w.heap.size, 0, none⟩) rfl (load_rcontent _ _ _ _ _ ((heap_alloc_old _ _ (by simp only [set_size]; exact hz1)).trans (two_set HA1.out _ _))) rfl rfl rfl rfl rfl ?_
          refine HE.out _ ?_
          exact ((HBX.out.setCell (p := ⟨w.heap.size, 0, none⟩) (Nat.le_refl _) _).setCell (p := ⟨w.heap.size, 1, none⟩) (Nat.le_refl _) _).alloc (by simp only [set_size]; omega) _
        · have t4 : decide ((2048 : Int) ≤ (l.length : Int)) = false := decide_eq_false (by omega)
          have HN := Lib.hid (add_new l m H1.out (by omega) h3 (by omega))
          clear h3 hf
          go_enter Try.func23, Try.ntmps23
          go_wp2_with fail
          refine HFn.out.mono ?_
          rintro e w1 ⟨rfl, hb1⟩
          have hbx := bstep hB0 hb1
          have hA1 := (hb1.block w.heap.size (by rw [World.size_alloc]; omega)).trans hA
          have hz1 := Nat.lt_of_lt_of_le (show w.heap.size < _ by rw [World.size_alloc]; exact Nat.lt_succ_self _) hb1.size
          rw [Hf.out]
          obtain ⟨x0, x1, x2, x3⟩ := cells2 hA1
          have HA1 := Lib.hid hA1
          have HBX := Lib.hid hbx
          clear hb1 hA1 hbx hA hB0
          have HV1 : Hid (HoldsA (w1.alloc (.cells #[.int .u64 0, .int .u32 0] 35)) A (.slice va l.length vc) l) := Lib.hid (HV.out.keep (by have := HBX.out.size; rw [World.size_alloc]; omega) (fun b hb1 hb2 => ⟨(heap_alloc_old w1 _ (Nat.lt_of_lt_of_le hb2 HBX.out.size)).trans (HBX.out.block b hb2), hb1⟩))
          obtain ⟨M, hM⟩ : ∃ M, l.flatten.length = M := ⟨_, rfl⟩
          rw [hM] at hfl
          have HM := Lib.hid hM
          clear hM
          have e1 : IntKind.u64.wrap (M : Int) = (M : Int) := u64_nat _ (by omega)
          have e2 : IntKind.u32.wrap (m.length : Int) = (m.length : Int) := IntWalk.u32_in _ (by omega)
          go_wp2_with (first
            | (at_builtin; (refine append_all _ rfl _ _ rfl A _ l rfl rfl HV1.out hll ?_); intro v2 w2 hown2 hb2)
            | (at_builtin; (refine append_str w2 rfl _ _ rfl _ _ l rfl hown2 (bs m) m rfl rfl (by omega) hb2.size ?_); intro v3 w3 hown3 hg3 hn3))
          have hb3 := below_own hb2 hg3 hown2 (Nat.le_refl _) hb2.size
          have hV3 := HV1.out.keep (A' := A) hb3.size (fun b hb1 hb2 => ⟨hb3.block b hb2, hb1⟩)
          refine (ref_text _ l w3 hV3.holds (by omega) (by rw [HM.out]; omega)).mono ?_
          rintro e w4 ⟨rfl, hb4⟩
          have hz2 : w.heap.size + 1 < (w1.alloc (.cells #[.int .u64 0, .int .u32 0] 35)).heap.size := by rw [World.size_alloc]; omega
          have hb14 : Below (w1.alloc (.cells #[.int .u64 0, .int .u32 0] 35)).heap.size (w1.alloc (.cells #[.int .u64 0, .int .u32 0] 35)) w4 := bstep hb3 hb4
          have hA4 := (hb14.block w.heap.size (by omega)).trans ((heap_alloc_old w1 _ hz1).trans HA1.out)
          have hown4 := own_of_block hown3 (fun g hg => hb4.block g (hown3.lt g hg).2)
          have hbase4 := hown3.lt
          have HB4 : Hid (Below w.heap.size w w4) := Lib.hid ((HBX.out.alloc (by omega) _).trans (hb14.mono (by omega)))
          have HBase : Hid (∀ g, v3.ownBlock = some g → w.heap.size + 1 < g) := Lib.hid (fun g hg => Nat.lt_of_lt_of_le hz2 (hown3.lt g hg).1)
          have HO4 := Lib.hid hown4
          have HA4 := Lib.hid hA4
          obtain ⟨y0, y1, y2, y3⟩ := cells2 hA4
          have hTs : (bs l.flatten).size = M := by rw [bs_size]; exact HM.out
          generalize bs l.flatten = T at hTs ⊢
          clear hb2 hb3 hV3 hb4 hown3 hb14 hA4 hown4 hbase4 hg3 hn3 hown2 hz2
          go_wp2_with fail
          refine ret_mix4 (A := ⟨w.heap.size, 0, none⟩) rfl (load_rcontent _ _ _ _ _ (two_set HA4.out _ _)) rfl rfl rfl rfl rfl ?_
          obtain ⟨n1, n2, n3, n4⟩ := HN.out
          have hfin : Below w.heap.size w ((w4.setCell ⟨w.heap.size, 0, none⟩ (.int .u64 (M : Nat))).setCell ⟨w.heap.size, 1, none⟩ (.int .u32 (m.length : Nat))) := (HB4.out.setCell (p := ⟨w.heap.size, 0, none⟩) (Nat.le_refl _) _).setCell (p := ⟨w.heap.size, 1, none⟩) (Nat.le_refl _) _
          refine ⟨v3, by rw [n1, n3, n4, HM.out]; rfl, ?_, hfin⟩
          rw [n2]
          have hoF := own_of_block (w' := (w4.setCell ⟨w.heap.size, 0, none⟩ (.int .u64 (M : Nat))).setCell ⟨w.heap.size, 1, none⟩ (.int .u32 (m.length : Nat))) HO4.out (fun g hg => (set_other _ (by have := HBase.out g hg; omega)).trans (set_other _ (by have := HBase.out g hg; omega)))
          exact (HoldsA.of_own hoF (by simp)).keep (Nat.le_refl _) (fun b hb1 hb2 => ⟨rfl, .inr (by rw [World.size_alloc] at hb1; omega)⟩)
end Go.Proofs.Ytjeeedbbdgjgeaa
