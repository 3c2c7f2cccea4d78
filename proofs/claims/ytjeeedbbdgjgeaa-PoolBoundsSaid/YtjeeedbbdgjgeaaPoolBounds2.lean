/- The law PoolBounds returns true. -/
import Derived.Test.YtjeeedbbdgjgeaaPoolBounds
namespace Go.Proofs.Ytjeeedbbdgjgeaa
open Go.RowKit Go.Maps PoolPlain
set_option maxRecDepth 100000 in
set_option maxHeartbeats 4000000 in
theorem poolBounds_walk (c : UInt8) (n : Nat) (w : World) (hn : n < 65536) :
    Calls Try.prog 11 #[.int .u8 (c.toNat : Int), .int .u16 (n : Nat)] w fun e w' => e = .returned (.bool true) ∧ Below w.heap.size w w' := by
  have kc : ∀ W : World, (convert 29 9 (.slice (some ⟨W.heap.size, 0, none⟩) 1 1)).run Try.prog (W.alloc (.cells #[.int .u8 (c.toNat : Int)] 5)) = .ok (.string (bs [c])) (W.alloc (.cells #[.int .u8 (c.toNat : Int)] 5)) := fun W => bytes_of W [c] 1 rfl _ rfl
  have HNew := Lib.hid (fun W => PoolAt.new W)
  go_enter Try.func11, Try.ntmps11
  go_wp2_with fail
  refine (pool_new w).mono ?_
  rintro e W1 ⟨rfl, hw1⟩
  have P1 := HNew.out w
  have B1 : Below w.heap.size w W1 := by rw [hw1]; exact own_new w _ _ (Nat.le_refl _)
  rw [← hw1] at P1
  have hS1 : ∀ g, (fun g => g = w.heap.size) g → w.heap.size ≤ g := fun g hg => by have : g = w.heap.size := hg; omega
  generalize (fun g => g = w.heap.size) = S1 at P1 hS1
  have HP1 := Lib.hid P1
  have HB1 := Lib.hid B1
  have HS1 := Lib.hid hS1
  clear hw1 P1 B1 hS1
  go_wp2_with fail
  have P2 := HP1.out.alloc (.cells #[.int .u8 (c.toNat : Int)] 5)
  have B2 := HB1.out.trans (own_new W1 (.cells #[.int .u8 (c.toNat : Int)] 5) w.heap.size HB1.out.size)
  generalize W1.alloc (.cells #[.int .u8 (c.toNat : Int)] 5) = W2 at P2 B2 ⊢
  refine (Try.strings_Repeat (bs [c]) 65536 W2 (by omega) (one_size c)).mono ?_
  rintro e W3 ⟨he, hb⟩
  rw [rep_data] at he
  have hrs : (bs (rep c)).size = 65536 := by rw [bs_size, rep_len]
  have hrd := Lib.hid (bs_data (rep c))
  have hR1 := Lib.hid (cat_bs (rep c) [120])
  generalize bs (rep c) = R at he hrs hrd hR1
  subst he
  have HP3 := Lib.hid (P2.below hb)
  have HB3 := Lib.hid (B2.trans (hb.mono B2.size))
  clear P2 B2 hb
  go_wp2_with fail
  obtain ⟨f1, f2, f3⟩ := pool_first c
  obtain ⟨x1, x2, hx⟩ := addC_some [] (rep c)
  have HAdd := Lib.hid (fun W (h : PoolAt W w.heap.size [] S1) => add_at _ [] _ W h R (rep c) hrd.out (by omega) x1 x2 true 0 (poolL c 0) ⟨hx, f1, f2, f3⟩)
  clear f1 f2 f3 hx
  refine (HAdd.out _ HP3.out).mono ?_
  rintro e W4 ⟨rfl, S4, P4, hS4, T4⟩
  have HS4 : Hid (∀ g, S4 g → w.heap.size ≤ g) := Lib.hid (fun g hg => (hS4 g hg).elim (HS1.out g) (fun h => Nat.le_trans HB3.out.size h))
  have B4 : Below w.heap.size w W4 := HB3.out.trans (T4.below HS1.out HB3.out.size)
  have P5 := P4.alloc (.cells #[.int .u64 (x1 : Nat), .int .u32 (x2 : Nat)] 39)
  have B5 := B4.trans (own_new W4 (.cells #[.int .u64 (x1 : Nat), .int .u32 (x2 : Nat)] 39) w.heap.size B4.size)
  have HP5 := Lib.hid P5
  have HB5 := Lib.hid B5
  clear P4 hS4 T4 B4 P5 B5
  go_wp2_with fail
  generalize W4.alloc (.cells #[.int .u64 (x1 : Nat), .int .u32 (x2 : Nat)] 39) = W5 at HP5 HB5 ⊢
  obtain ⟨f1, f2, f3⟩ := pool_long c
  obtain ⟨y1, y2, hx⟩ := addC_some (poolL c 0) (rep c ++ [120])
  have hR2 : (R ++ ⟨#[120]⟩ : ByteArray).data.toList = rep c ++ [120] := by
    have h := hR1.out
    rw [show (⟨#[120]⟩ : ByteArray) = bs [120] from rfl, h, bs_data]
  have hR3 : (R ++ ⟨#[120]⟩ : ByteArray).size ≤ 9223372036854775807 := by rw [ByteArray.size_append, hrs]; show 65536 + 1 ≤ _; omega
  have HAdd2 := Lib.hid (fun W (h : PoolAt W w.heap.size (poolL c 0) S4) => add_at _ _ _ W h (R ++ ⟨#[120]⟩) (rep c ++ [120]) hR2 hR3 y1 y2 false 5 (poolL c 0) ⟨hx, f1, f2, f3⟩)
  clear f1 f2 f3 hx hR2 hR3
  refine (HAdd2.out _ HP5.out).mono ?_
  rintro e W6 ⟨rfl, S6, P6, hS6, T6⟩
  have HS6 : Hid (∀ g, S6 g → w.heap.size ≤ g) := Lib.hid (fun g hg => (hS6 g hg).elim (HS4.out g) (fun h => Nat.le_trans HB5.out.size h))
  have B6 : Below w.heap.size w W6 := HB5.out.trans (T6.below HS4.out HB5.out.size)
  have P7 := P6.alloc (.cells #[.int .u64 (y1 : Nat), .int .u32 (y2 : Nat)] 39)
  have B7 := B6.trans (own_new W6 (.cells #[.int .u64 (y1 : Nat), .int .u32 (y2 : Nat)] 39) w.heap.size B6.size)
  have HP7 := Lib.hid P7
  have HB7 := Lib.hid B7
  clear P6 hS6 T6 B6 P7 B7 HP1 HB1 HS1 HP3 HB3 HAdd HAdd2 HP5 HB5 HS4 hR1 hrd
  go_wp2_with fail
  generalize W6.alloc (.cells #[.int .u64 (y1 : Nat), .int .u32 (y2 : Nat)] 39) = W7 at HP7 HB7 ⊢
  go_loopw [13] (fun i wr => ∃ (k : Nat) (S : Nat → Prop), 1 ≤ k ∧ k ≤ 2048 ∧ i = .int .i64 k ∧ Hid (PoolAt wr w.heap.size (poolL c (k - 1)) S) ∧ Hid (∀ g, S g → w.heap.size ≤ g) ∧ Hid (Below w.heap.size w wr)) (fun i _ => 2048 - (intOf i).toNat)
  case atStart => exact ⟨1, S6, by omega, by omega, rfl, HP7, HS6, HB7⟩
  case round =>
    obtain ⟨k, S, hk1, hk, rfl, HP, HS, HB⟩ := hrel
    clear HP7 HB7 HS6
    by_cases hlt : k < 2048
    · have k3 := bytes3 c k (k : Int) rfl (by omega)
      have hid : (bs (item c k)).data.toList = item c k := bs_data _
      have his : (bs (item c k)).size ≤ 9223372036854775807 := by rw [bs_size]; show 3 ≤ _; omega
      obtain ⟨f1, f2, f3⟩ := pool_step c (k - 1) (by omega)
      rw [show k - 1 + 1 = k by omega] at f1 f2 f3
      obtain ⟨z1, z2, hx⟩ := addC_some (poolL c (k - 1)) (item c k)
      generalize bs (item c k) = I at k3 hid his
      have HAdd := Lib.hid (fun W (h : PoolAt W w.heap.size (poolL c (k - 1)) S) => add_at _ _ _ W h I (item c k) hid his z1 z2 true 0 (poolL c k) ⟨hx, f1, f2, f3⟩)
      have hk2 : Hid (k + 1 - 1 = k) := Lib.hid (by omega)
      clear f1 f2 f3 hx hid
      go_wp2_with fail
      have P1 := HP.out.alloc (.cells #[.int .u8 (c.toNat : Int), .int .u8 ((k : Int) % 256), .int .u8 ((k : Int) / 256)] 5)
      have B1 := HB.out.trans (own_new wr (.cells #[.int .u8 (c.toNat : Int), .int .u8 ((k : Int) % 256), .int .u8 ((k : Int) / 256)] 5) w.heap.size HB.out.size)
      generalize wr.alloc (.cells #[.int .u8 (c.toNat : Int), .int .u8 ((k : Int) % 256), .int .u8 ((k : Int) / 256)] 5) = wa at P1 B1 ⊢
      refine (HAdd.out _ P1).mono ?_
      rintro e wb ⟨rfl, Sb, Pb, hSb, Tb⟩
      have HSb : Hid (∀ g, Sb g → w.heap.size ≤ g) := Lib.hid (fun g hg => (hSb g hg).elim (HS.out g) (fun h => Nat.le_trans B1.size h))
      have HPb := Lib.hid Pb
      have HBb := Lib.hid (B1.trans (Tb.below HS.out B1.size))
      clear P1 B1 Pb hSb Tb
      go_wp2_with fail
      go_roundw
      case rel => exact ⟨k + 1, Sb, by omega, by omega, by go_num, Lib.hid (by rw [hk2.out]; exact HPb.out.alloc _), HSb, Lib.hid (HBb.out.trans (own_new wb _ _ HBb.out.size))⟩
      case measure => simp [intOf]; omega
    · obtain rfl : k = 2048 := by omega
      obtain ⟨K, hK⟩ : ∃ K : Nat, (1 : Int) + (n : Int) % 2047 = (K : Int) := ⟨1 + n % 2047, by omega⟩
      have hK1 : 1 ≤ K ∧ K ≤ 2047 := by omega
      have k3 : ∀ (w : World) (o : Obj), (convert 29 9 (.slice (some ⟨w.heap.size + 1, 0, none⟩) 3 3)).run Try.prog ((w.alloc o).alloc (.cells #[.int .u8 (c.toNat : Int), .int .u8 ((1 + (n : Int) % 2047) % 256), .int .u8 ((1 + (n : Int) % 2047) / 256)] 5)) = .ok (.string (bs (item c K))) ((w.alloc o).alloc (.cells #[.int .u8 (c.toNat : Int), .int .u8 ((1 + (n : Int) % 2047) % 256), .int .u8 ((1 + (n : Int) % 2047) / 256)] 5)) := fun w o => by
        have := bytes3 c K _ hK (by omega) (w.alloc o)
        rw [World.size_alloc] at this
        exact this
      have hid : (bs (item c K)).data.toList = item c K := bs_data _
      have his : (bs (item c K)).size ≤ 9223372036854775807 := by rw [bs_size]; show 3 ≤ _; omega
      obtain ⟨f1, f2, f3⟩ := pool_full c
      obtain ⟨g1, g2, g3⟩ := pool_old c K hK1.1 hK1.2
      obtain ⟨z1, z2, hx⟩ := addC_some (poolL c 2047) [102, 117, 108, 108]
      obtain ⟨u1, u2, hy⟩ := addC_some (poolL c 2047) (item c K)
      generalize bs (item c K) = I at k3 hid his
      have HP0 : Hid (PoolAt wr w.heap.size (poolL c 2047) S) := HP
      have HF := Lib.hid (fun W (h : PoolAt W w.heap.size (poolL c 2047) S) => add_at _ _ _ W h ⟨#[102, 117, 108, 108]⟩ [102, 117, 108, 108] rfl (by decide) z1 z2 false 7 (poolL c 2047) ⟨hx, f1, f2, f3⟩)
      have HO := Lib.hid (fun W S (h : PoolAt W w.heap.size (poolL c 2047) S) => add_at _ _ _ W h I (item c K) hid his u1 u2 false 0 (poolL c 2047) ⟨hy, g1, g2, g3⟩)
      have hlen : (poolL c 2047).length = 2048 := poolL_len c 2047
      have HL := Lib.hid (fun W S (h : PoolAt W w.heap.size (poolL c 2047) S) => pool_len _ _ _ W h)
      rw [hlen] at HL
      have hb0 : (0 : Int) ≤ 1 + (n : Int) % 2047 := by omega
      have hb1 : 1 + (n : Int) % 2047 ≤ 2047 := by omega
      clear f1 f2 f3 g1 g2 g3 hx hy hlen hid HP hK hK1
      go_wp2_with fail
      refine (HF.out _ HP0.out).mono ?_
      rintro e wb ⟨rfl, Sb, Pb, hSb, Tb⟩
      have HSb : Hid (∀ g, Sb g → w.heap.size ≤ g) := Lib.hid (fun g hg => (hSb g hg).elim (HS.out g) (fun h => Nat.le_trans HB.out.size h))
      have HBb := Lib.hid (HB.out.trans (Tb.below HS.out HB.out.size))
      have HPb := Lib.hid Pb
      clear Pb hSb Tb
      go_wp2_with fail
      have P1 := (HPb.out.alloc (.cells #[.int .u64 (z1 : Nat), .int .u32 (z2 : Nat)] 39)).alloc (.cells #[.int .u8 (c.toNat : Int), .int .u8 ((1 + (n : Int) % 2047) % 256), .int .u8 ((1 + (n : Int) % 2047) / 256)] 5)
      have B1 := HBb.out.trans ((own_new wb (.cells #[.int .u64 (z1 : Nat), .int .u32 (z2 : Nat)] 39) w.heap.size HBb.out.size).alloc (by rw [World.size_alloc]; exact Nat.le_succ_of_le HBb.out.size) (.cells #[.int .u8 (c.toNat : Int), .int .u8 ((1 + (n : Int) % 2047) % 256), .int .u8 ((1 + (n : Int) % 2047) / 256)] 5))
      generalize (wb.alloc (.cells #[.int .u64 (z1 : Nat), .int .u32 (z2 : Nat)] 39)).alloc (.cells #[.int .u8 (c.toNat : Int), .int .u8 ((1 + (n : Int) % 2047) % 256), .int .u8 ((1 + (n : Int) % 2047) / 256)] 5) = wc at P1 B1 ⊢
      refine (HO.out _ _ P1).mono ?_
      rintro e wd ⟨rfl, Sd, Pd, hSd, Td⟩
      have Bd := B1.trans (Td.below HSb.out B1.size)
      have P2 := Lib.hid (Pd.alloc (.cells #[.int .u64 (u1 : Nat), .int .u32 (u2 : Nat)] 39))
      have B2 := Lib.hid (Bd.trans (own_new wd (.cells #[.int .u64 (u1 : Nat), .int .u32 (u2 : Nat)] 39) w.heap.size Bd.size))
      clear P1 B1 Pd hSd Td Bd
      go_wp2_with (first
        | (go_at_call 26; refine (HL.out _ _ P2.out).mono ?_; rintro e w' ⟨rfl, rfl⟩)
        | (go_at_call 21; refine (awake11 _).mono ?_; rintro e w12 ⟨rfl, hb⟩; have HB12 := Lib.hid (B2.out.trans (hb.mono B2.out.size)); clear hb))
      go_ret
      exact ⟨rfl, HB12.out⟩
end Go.Proofs.Ytjeeedbbdgjgeaa
