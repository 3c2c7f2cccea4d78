/- What the reference's functions of layer 11 return. -/
import Derived.Test.YtjeeedbbdgjgeaaPoolGet2
namespace Go.Proofs.Ytjeeedbbdgjgeaa
open Go.RowKit PoolPlain
theorem load_rcontent (w : World) (b : Nat) (t : TypeId) (x y : Value) (h : w.heap[b]? = some (.cells #[x, y] t (0, 0))) : (loadVar 35 ⟨b, 0, none⟩).run Try.prog w = .ok (.agg #[x, y]) w :=
  run_loadVar_row w b t 35 #[x, y] (0, 0) _ h Try.underlying35 rfl (by kernel_rfl)
set_option maxRecDepth 100000 in
set_option maxHeartbeats 2000000 in
theorem ref_find (v : Value) (l : List (List UInt8)) (s : ByteArray) (w : World) (hv : HoldsS w v l) (hl : l.length ≤ 100000) (hfl : l.flatten.length ≤ 1000000000) :
    Calls Try.prog 25 #[v, .string s] w (FindR l s.data.toList w) := by
  obtain ⟨m, rfl⟩ : ∃ m, s = bs m := ⟨s.data.toList, (bs_self s).symm⟩
  rw [bs_data]
  obtain ⟨a, c, rfl, hc, hx⟩ := hv
  have HX := Lib.hid hx
  have HY := Lib.hid (fnd_hit l m)
  have HN := Lib.hid (fun h => fnd_miss l m (not_mem_of l m h))
  clear hx
  have hA := block_alloc w (.cells #[.int .u64 0, .int .u32 0] 35)
  have B0 : Below w.heap.size w (w.alloc (.cells #[.int .u64 0, .int .u32 0] 35)) := (Below.refl _ _).alloc (Nat.le_refl _) _
  go_enter Try.func25, Try.ntmps25
  go_wp2_with fail
  generalize w.alloc (.cells #[.int .u64 0, .int .u32 0] 35) = W0 at hA B0 ⊢
  obtain ⟨r0, r1, r2, r3⟩ := cells2 hA
  have HA := Lib.hid hA
  have HB := Lib.hid B0
  clear hA B0
  go_loop [6, 7] (fun t i => ∃ k : Nat, k ≤ l.length ∧ i = .int .i64 k ∧ t = .int .i64 (off l k : Nat) ∧ Hid (∀ j (hj : j < l.length), j < k → l[j] ≠ m)) (fun _ i => l.length - (intOf i).toNat)
  case atStart => exact ⟨0, by omega, rfl, rfl, Lib.hid (fun j hj h => absurd h (Nat.not_lt_zero _))⟩
  case round =>
    obtain ⟨k, hk, rfl, rfl, HK⟩ := hrel
    by_cases hlt : k < l.length
    · obtain ⟨b, o, rfl, hbl, hcell⟩ := HX.out (fun e => by rw [e] at hlt; exact absurd hlt (Nat.not_lt_zero _))
      have c0 := (HB.out.cell (p := ⟨b, o + k, none⟩) hbl).trans (hcell k hlt)
      have hcmp := bs_beq l[k] m
      have hend := off_end l k hlt
      have hsc := off_succ l k hlt
      have Hs := Lib.hid hsc
      have hle : off l k ≤ 1000000000 := by omega
      have hY := Lib.hid (fun h => HY.out k hlt h (fun j hj => HK.out j (by omega) hj))
      have hS : Hid (l[k] ≠ m → ∀ j (hj : j < l.length), j < k + 1 → l[j] ≠ m) := Lib.hid (fun hn j hj h => by
        by_cases e : j = k
        · subst e; exact hn
        · exact HK.out j hj (by omega))
      clear hcell HK HX HY HN hsc
      obtain ⟨X, hX⟩ : ∃ X, X = bs l[k] := ⟨_, rfl⟩
      have hXs : X.size = l[k].length := by rw [hX, bs_size]
      rw [← hX] at c0 hcmp
      obtain ⟨n, hn⟩ : ∃ n, n = l[k].length := ⟨_, rfl⟩
      rw [← hn] at hXs hend Hs
      obtain ⟨q, hq⟩ : ∃ q, q = off l k := ⟨_, rfl⟩
      rw [← hq] at hend hle Hs hY ⊢
      have Hn := Lib.hid hn
      clear hX hn hq
      by_cases he : l[k] = m
      · rw [decide_eq_true he] at hcmp
        have HE := Lib.hid (hY.out he)
        have hmn : m.length = n := by rw [Hn.out, he]
        have hbz : (bs m).size = n := by rw [bs_size, hmn]
        have e1 : IntKind.u64.wrap (q : Int) = (q : Int) := u64_nat _ (by omega)
        have e2 : IntKind.u32.wrap (n : Int) = (n : Int) := IntWalk.u32_in _ (by omega)
        have HM := Lib.hid hmn
        clear he hY hS hmn Hn
        go_wp2_with fail
        refine ret_cell2 (A := ⟨w.heap.size, 0, none⟩) rfl (load_rcontent _ _ _ _ _ (two_set HA.out _ _)) rfl rfl rfl ?_
        refine ⟨by rw [HE.out, HM.out]; rfl, ?_⟩
        exact (HB.out.setCell (p := ⟨w.heap.size, 0, none⟩) (Nat.le_refl _) _).setCell (p := ⟨w.heap.size, 1, none⟩) (Nat.le_refl _) _
      · rw [decide_eq_false he] at hcmp
        have HE := Lib.hid (hS.out he)
        clear he hY hS
        go_wp2_with fail
        go_round
        case rel => exact ⟨k + 1, by omega, by go_num, by rw [Hs.out]; go_num, HE⟩
        case measure => simp [intOf]; omega
    · obtain rfl : k = l.length := by omega
      have HF := Lib.hid (HN.out (fun j hj => HK.out j hj hj))
      clear HK HN HX HY
      go_wp2_with fail
      refine ret_cell2 (A := ⟨w.heap.size, 0, none⟩) rfl (load_rcontent _ _ _ _ _ (two_set HA.out _ _)) rfl rfl rfl ?_
      refine ⟨by rw [HF.out]; rfl, ?_⟩
      exact (HB.out.setCell (p := ⟨w.heap.size, 0, none⟩) (Nat.le_refl _) _).setCell (p := ⟨w.heap.size, 1, none⟩) (Nat.le_refl _) _
theorem cat_bs (a b : List UInt8) : bs a ++ bs b = bs (a ++ b) := by
  have h : (bs a ++ bs b).data.toList = a ++ b := by
    rw [ByteArray.data_append, Array.toList_append, bs_data, bs_data]
  rw [← h, bs_self]
set_option maxRecDepth 100000 in
set_option maxHeartbeats 1000000 in
theorem ref_text (v : Value) (l : List (List UInt8)) (w : World) (hv : HoldsS w v l) (hl : l.length ≤ 100000) (hfl : l.flatten.length ≤ 1000000000) :
    Calls Try.prog 30 #[v] w fun e w' => e = .returned (.string (bs l.flatten)) ∧ Below w.heap.size w w' := by
  obtain ⟨a, c, rfl, hc, hx⟩ := hv
  have HX := Lib.hid hx
  have HF := Lib.hid (off_all l l.length (Nat.le_refl _))
  have HL := Lib.hid (rfl : l.flatten = l.flatten)
  obtain ⟨T, hT⟩ : ∃ T, T = bs l.flatten := ⟨_, rfl⟩
  rw [← hT]
  have HT := Lib.hid hT
  clear hx hT
  go_enter Try.func30, Try.ntmps30
  go_wp2_with fail
  go_loop [3, 4] (fun t i => ∃ k : Nat, ∃ X : ByteArray, k ≤ l.length ∧ i = .int .i64 k ∧ t = .string X ∧ Hid (X = bs (l.take k).flatten)) (fun _ i => l.length - (intOf i).toNat)
  case atStart => exact ⟨0, _, by omega, rfl, rfl, Lib.hid rfl⟩
  case round =>
    obtain ⟨k, X, hk, rfl, rfl, HK⟩ := hrel
    by_cases hlt : k < l.length
    · obtain ⟨b, o, rfl, hbl, hcell⟩ := HX.out (fun e => by rw [e] at hlt; exact absurd hlt (Nat.not_lt_zero _))
      have c0 := hcell k hlt
      have hs : Hid (X ++ bs l[k] = bs (l.take (k + 1)).flatten) := Lib.hid (by
        rw [HK.out, cat_bs, List.take_succ_eq_append_getElem hlt, List.flatten_append, List.flatten_cons, List.flatten_nil, List.append_nil])
      have hXs : X.size ≤ 1000000000 := by rw [HK.out, bs_size]; exact Nat.le_trans (off_le l k) hfl
      have hYs : (bs l[k]).size ≤ 1000000000 := by rw [bs_size]; have := off_end l k hlt; omega
      clear hcell HK HX
      generalize bs l[k] = Y at c0 hs hYs
      go_wp2_with fail
      go_round
      case rel => exact ⟨k + 1, _, by omega, by go_num, rfl, hs⟩
      case measure => simp [intOf]; omega
    · obtain rfl : k = l.length := by omega
      have hXT : X = T := by rw [HK.out, HT.out, List.take_length]
      subst hXT
      go_wp2_with fail
      go_ret
      exact ⟨rfl, Below.refl _ _⟩
end Go.Proofs.Ytjeeedbbdgjgeaa
