/- What Find of a pool returns. -/
import Derived.Test.YtjeeedbbdgjgeaaPoolFind
namespace Go.Proofs.Ytjeeedbbdgjgeaa
open Go.RowKit Go.Maps PoolPlain

set_option maxRecDepth 100000 in
set_option maxHeartbeats 2000000 in
theorem pool_find (p : Nat) (l : List (List UInt8)) (S : Nat → Prop) (s : ByteArray) (w : World) (hs : s.size ≤ 9223372036854775807) (hP : PoolAt w p l S) :
    Calls Try.prog 24 #[.pointer (some ⟨p, 0, none⟩), .string s] w (FindR l s.data.toList w) := by
  have hpl := hP.lt
  have HP := Lib.hid hP
  obtain ⟨hok, hSl, hSp, tv, pv, mv, hb, -, -, hpr, -, hm⟩ := hP
  obtain ⟨-, c1, c2, -, -, -⟩ := cells3 hb
  have hl : l.length ≤ 2048 := hok.1
  obtain ⟨m, rfl⟩ : ∃ m, s = bs m := ⟨s.data.toList, (bs_self s).symm⟩
  rw [bs_data]
  have hsm := FnvPlain.sum_lt m
  obtain ⟨v, hz, hlk⟩ := map_look hm hl (FnvPlain.sum m) hsm
  have HS := Lib.hid (fun w => fnv_sum (bs m) w hs)
  rw [bs_data] at HS
  obtain ⟨a, c, rfl, hzc, hzh⟩ := hz
  have hB : Below w.heap.size w (w.alloc (.cells #[.int .u64 0, .int .u32 0] 39)) := (Below.refl _ _).alloc (Nat.le_refl _) _
  have hblk := block_alloc w (.cells #[.int .u64 0, .int .u32 0] 39)
  have hz : w.heap.size < (w.alloc (.cells #[.int .u64 0, .int .u32 0] 39)).heap.size := by rw [World.size_alloc]; omega
  have hlen : (grpZ l (FnvPlain.sum m)).length ≤ 2048 := by unfold grpZ; rw [List.length_map]; exact Nat.le_trans (grp_length l _) hl
  have HG : Hid (∀ j (hj : j < (grpZ l (FnvPlain.sum m)).length), ∃ k, ∃ hk : k < l.length, (grpZ l (FnvPlain.sum m))[j] = (k : Int) ∧ (grp l (FnvPlain.sum m))[j]? = some k) := Lib.hid (fun j hj => by
    unfold grpZ at hj ⊢
    rw [List.length_map] at hj
    rw [List.getElem_map]
    exact ⟨_, (grp_mem l _ _ (List.getElem_mem hj)).1, rfl, List.getElem?_eq_getElem hj⟩)
  have HN : Hid ((∀ j : Nat, j < (grpZ l (FnvPlain.sum m)).length → ∀ k, (grp l (FnvPlain.sum m))[j]? = some k → l[k]? ≠ some m) → fnd l m = (0, 0, false)) := Lib.hid (fun h => by
    refine fnd_miss l m (fun hm => ?_)
    obtain ⟨k, hk, e⟩ := List.getElem_of_mem hm
    have h1 := mem_grp l k hk
    rw [e] at h1
    obtain ⟨j, hj, e2⟩ := List.getElem_of_mem h1
    exact h j (by unfold grpZ; rw [List.length_map]; exact hj) k (by rw [List.getElem?_eq_getElem hj, e2]) (by rw [List.getElem?_eq_getElem hk, e]))
  have HY : Hid (∀ k (hk : k < l.length), l[k] = m → fnd l m = (off l k, m.length, true)) := Lib.hid (fun k hk e => by rw [← e]; exact fnd_at l hok.2.2 k hk)
  have HPR := Lib.hid hpr
  generalize hZ : grpZ l (FnvPlain.sum m) = zs at *
  go_enter Try.func24, Try.ntmps24
  go_wp2_with fail
  generalize w.alloc (.cells #[.int .u64 0, .int .u32 0] 39) = W0 at hB hz hblk ⊢
  have hSW : ∀ q : BelowOf W0, ∀ g, S g → q.world.heap[g]? = w.heap[g]? := fun q g hg => (q.below.block g (by have := hSl g hg; omega)).trans (hB.block g (hSl g hg))
  have k2 : ∀ q : BelowOf W0, q.world.cell? ⟨p, 2, none⟩ = some mv := fun q => cell_of q (by show p < _; omega) ((hB.cell (p := ⟨p, 2, none⟩) hpl).trans c2)
  have hlq : ∀ q : BelowOf W0, (Instr.lookup 59 mv (.int .u64 (FnvPlain.sum m : Nat)) false).run Try.prog q.world = .ok (.slice a zs.length c) q.world := fun q => hlk q.world (hSW q)
  have hB := Lib.hid hB
  have HL := Lib.hid hlk
  have HSl := Lib.hid hSl
  have HZH := Lib.hid hzh
  clear hlk hSW hSl hm hb hpr hok hzh
  refine wp_region_quiet_below (by kernel_rfl) (by kernel_rfl) ?_
  repeat (go_big_quiet_step ((go_at_call 13; exact below_of (HS.out _))))
  refine wpQuiet_nil ?_
  intro W1 hw'
  have hb1 := of_class hw'
  clear hw' k2 hlq
  have hblk1 := (hb1.block _ hz).trans hblk
  have hB1 := bstep hB.out hb1
  have hz1 := Nat.lt_of_lt_of_le hz hb1.size
  clear hblk hb1 hz hB
  go_wp2_with fail
  go_loopw [20] (fun i wr => ∃ j : Nat, j ≤ zs.length ∧ i = .int .i64 j ∧ Below w.heap.size w wr ∧ w.heap.size < wr.heap.size ∧ wr.heap[w.heap.size]? = some (.cells #[.int .u64 0, .int .u32 0] 39 (0, 0)) ∧ Hid (∀ i : Nat, i < j → ∀ k, (grp l (FnvPlain.sum m))[i]? = some k → l[k]? ≠ some m)) (fun i _ => zs.length - (intOf i).toNat)
  case atStart => exact ⟨0, by omega, rfl, hB1, hz1, hblk1, Lib.hid (fun i h => absurd h (Nat.not_lt_zero _))⟩
  case round =>
    obtain ⟨j, hj, rfl, hbr, hzr, hbk, HK⟩ := hrel
    clear hblk1 hB1 hz1
    by_cases hlt : j < zs.length
    · obtain ⟨b, rfl, hbl, hcell⟩ := HZH.out (fun e => by rw [e] at hlt; exact absurd hlt (Nat.not_lt_zero _))
      obtain ⟨k, hk, ek, eg⟩ := HG.out j hlt
      have d0 := (hbr.cell (p := ⟨b, j, none⟩) hbl).trans (hcell j hlt)
      rw [ek] at d0
      obtain ⟨g, cap, rfl, -, hgl, hgc, hpc⟩ := place_row HPR.out (by omega)
      have d1 := (hbr.cell (p := ⟨g, k * 2, none⟩) hgl).trans (hpc k hk).1
      have d2 := (hbr.cell (p := ⟨g, k * 2 + 1, none⟩) hgl).trans (hpc k hk).2
      have d3 := (hbr.cell (p := ⟨p, 1, none⟩) hpl).trans c1
      have HPr : Hid (PoolAt wr p l S) := Lib.hid (HP.out.keep hbr.size (fun g hg => hbr.block g (HSl.out g hg)))
      have hcmp := bs_beq l[k] m
      have HA := Lib.hid (fun W (h : PoolAt W p l S) => pool_at p l S W h k hk)
      have hbrH := Lib.hid hbr
      obtain ⟨r0, r1, r2, r3⟩ := cells2 hbk
      have hbkH := Lib.hid hbk
      have hY := Lib.hid (HY.out k hk)
      have hX : Hid (l[k] ≠ m → ∀ i : Nat, i < j + 1 → ∀ k, (grp l (FnvPlain.sum m))[i]? = some k → l[k]? ≠ some m) := Lib.hid (fun hne i hi k' h' => by
        by_cases e : i = j
        · subst e
          rw [eg] at h'
          obtain rfl := Option.some.inj h'
          rw [List.getElem?_eq_getElem hk]
          intro e; exact hne (Option.some.inj e)
        · exact HK.out i (by omega) k' h')
      clear hcell hpc HK ek eg hbr hbk HZH HG HN HY HPR HP HL HSl c1 c2
      obtain ⟨X, hXx⟩ : ∃ X, X = bs l[k] := ⟨_, rfl⟩
      obtain ⟨n, hn⟩ : ∃ n, n = l[k].length := ⟨_, rfl⟩
      obtain ⟨o, ho⟩ : ∃ o, o = off l k := ⟨_, rfl⟩
      rw [← hn, ← ho, ← hXx] at HA
      rw [← ho] at d1
      rw [← hn] at d2
      rw [← hXx] at hcmp
      have Hn := Lib.hid hn
      have Ho := Lib.hid ho
      clear hXx hn ho
      by_cases he : l[k] = m
      · rw [decide_eq_true he] at hcmp
        have HE := Lib.hid he
        clear he hX
        go_wp2_with fail
        refine (HA.out _ (HPr.out.below ?_)).mono ?_
        · exact (Below.refl _ _).alloc (Nat.le_refl _) _
        rintro e w1 ⟨rfl, hb1⟩
        have hcb := (hb1.block wr.heap.size (by rw [World.size_alloc]; omega)).trans (block_alloc wr _)
        have hrb := (hb1.block w.heap.size (by rw [World.size_alloc]; omega)).trans ((heap_alloc_old wr _ hzr).trans hbkH.out)
        obtain ⟨x0, x1, -, -⟩ := cells2 hcb
        obtain ⟨y0, y1, y2, y3⟩ := cells2 hrb
        have hrbH := Lib.hid hrb
        have hbx : Below w.heap.size w w1 := hbrH.out.trans ((bstep ((Below.refl _ _).alloc (Nat.le_refl _) _) hb1 : Below wr.heap.size wr w1).mono hbrH.out.size)
        have hbxH := Lib.hid hbx
        clear hcb hrb hb1 hbx r0 r1 r2 r3 d0 d1 d2 d3
        go_wp2_with fail
        refine ret_cell2 (A := ⟨w.heap.size, 0, none⟩) rfl (load_content _ _ _ _ _ (two_set hrbH.out _ _)) rfl rfl rfl ?_
        refine ⟨by rw [hY.out HE.out, Ho.out, Hn.out, ← HE.out]; rfl, ?_⟩
        exact (hbxH.out.setCell (p := ⟨w.heap.size, 0, none⟩) (Nat.le_refl _) _).setCell (p := ⟨w.heap.size, 1, none⟩) (Nat.le_refl _) _
      · rw [decide_eq_false he] at hcmp
        have HK := Lib.hid (hX.out he)
        clear he hX
        go_wp2_with fail
        refine (HA.out _ (HPr.out.below ?_)).mono ?_
        · exact (Below.refl _ _).alloc (Nat.le_refl _) _
        rintro e w1 ⟨rfl, hb1⟩
        go_wp2_with fail
        go_roundw
        case rel =>
          have hbx : Below wr.heap.size wr w1 := bstep ((Below.refl _ _).alloc (Nat.le_refl _) _) hb1
          exact ⟨j + 1, by omega, by go_num, hbrH.out.trans (hbx.mono hbrH.out.size), Nat.lt_of_lt_of_le hzr hbx.size, (hbx.block _ hzr).trans hbkH.out, HK⟩
        case measure => simp [intOf]; omega
    · obtain rfl : j = zs.length := by omega
      have HF := Lib.hid (HN.out (fun i hi k hk => HK.out i hi k hk))
      obtain ⟨r0, r1, r2, r3⟩ := cells2 hbk
      have hbkH := Lib.hid hbk
      clear HK HN hbk
      go_wp2_with fail
      refine ret_cell2 (A := ⟨w.heap.size, 0, none⟩) rfl (load_content _ _ _ _ _ (two_set hbkH.out _ _)) rfl rfl rfl ?_
      refine ⟨by rw [HF.out]; rfl, ?_⟩
      exact (hbr.setCell (p := ⟨w.heap.size, 0, none⟩) (Nat.le_refl _) _).setCell (p := ⟨w.heap.size, 1, none⟩) (Nat.le_refl _) _
end Go.Proofs.Ytjeeedbbdgjgeaa
