/- What Rune and Count of the reference of jtext return. -/
import Derived.Test.YtjkhihdghjoneaaDoorJRefWalk
import Derived.Deep.LoopGhost
namespace Go.Proofs.YtjkhihdghjoneaaDoor
open Go.RowKit

theorem extract_to (s : ByteArray) (n : Nat) : s.extract 0 n = bs (s.data.toList.take n) := by rw [extract_bs, List.drop_zero]
theorem getD_byte (s : ByteArray) (k : Nat) (h : k < s.size) : s.data.toList.getD k 0 = s[k] := by
  rw [List.getD_eq_getElem?_getD, List.getElem?_eq_getElem (by simpa using h)]; rfl
set_option maxRecDepth 100000 in
set_option maxHeartbeats 4000000 in
theorem ref_rune (s : ByteArray) (w : World) (h0 : 0 < s.size) (hs : s.size ≤ 1000000) : Calls Tryd.prog 20 #[.string s] w fun e w' => e = .returned (.string (bs (refR s.data.toList))) ∧ Below w.heap.size w w' := by
  obtain ⟨L, hL⟩ : ∃ L, s.data.toList = L := ⟨_, rfl⟩
  have hLl : L.length = s.size := by rw [← hL, size_len]
  rw [hL]
  have HL := Lib.hid hL
  have HLl := Lib.hid hLl
  clear hL hLl
  have hz : ((s[0].toNat : Nat) : Int) < 256 := by have := s[0].toNat_lt; omega
  go_enter Tryd.func20, Tryd.ntmps20
  go_wp2_with fail
  go_loopg [3] 5 (fun gk s3 wx => ∃ n : Nat, s3 = .int .i64 (n : Int) ∧ 1 ≤ n ∧ n + gk = 6 ∧ Below w.heap.size w wx ∧ Hid (∀ m, 1 ≤ m → m < n → m ≤ s.size → refB (codeN L m (m - 1)) ≠ L.take m))
  case atStart => exact ⟨1, by simp, by omega, by omega, Below.refl _ _, Lib.hid (fun m h1 h2 _ => absurd h2 (by omega))⟩
  case round =>
    obtain ⟨n, rfl, hn1, hgk, hbx, HN⟩ := hrel
    by_cases hn : n ≤ 4 ∧ n ≤ s.size
    · obtain ⟨hn4, hns⟩ := hn
      obtain ⟨g', rfl⟩ : ∃ g', gk = g' + 1 := ⟨gk - 1, by omega⟩
      have tn : decide ((n : Int) ≤ 4) = true := decide_eq_true (by omega)
      have HC0 : Hid (codeN L n 0 = leadN n (s[0].toNat)) := Lib.hid (by show leadN n _ = _; rw [← HL.out, getD_byte s 0 h0])
      have HCS : Hid (∀ i (h : i + 1 < s.size), codeN L n (i + 1) = 64 * codeN L n i + s[i + 1].toNat % 64) := Lib.hid (fun i h => by show 64 * codeN L n i + _ % 64 = _; rw [← HL.out, getD_byte s _ h])
      have hcase : (n = 1 ∧ ((n : Int) == 2) = false ∧ ((n : Int) == 3) = false ∧ ((n : Int) == 4) = false) ∨ (n = 2 ∧ ((n : Int) == 2) = true ∧ ((n : Int) == 3) = false ∧ ((n : Int) == 4) = false) ∨ (n = 3 ∧ ((n : Int) == 2) = false ∧ ((n : Int) == 3) = true ∧ ((n : Int) == 4) = false) ∨ (n = 4 ∧ ((n : Int) == 2) = false ∧ ((n : Int) == 3) = false ∧ ((n : Int) == 4) = true) := by
        simp only [beq_iff_eq, beq_eq_false_iff_ne]; omega
      rcases hcase with ⟨e, t2, t3, t4⟩ | ⟨e, t2, t3, t4⟩ | ⟨e, t2, t3, t4⟩ | ⟨e, t2, t3, t4⟩
      all_goals
        have HE := Lib.hid e
        clear e
        go_wp2_with fail
        go_loopg [4, 5] n (fun gi s4 s5 wi => ∃ j K : Nat, s5 = .int .i64 (j : Int) ∧ s4 = .int .i64 (K : Int) ∧ wi = wr ∧ 1 ≤ j ∧ j ≤ n ∧ n ≤ j + gi ∧ Hid (codeN L n (j - 1) = K))
        case atStart =>
          refine ⟨1, leadN n s[0].toNat, by simp, ?_, rfl, by omega, by omega, by omega, HC0⟩
          rw [HE.out]; rfl
        case round =>
          obtain ⟨j, K, rfl, rfl, rfl, hj1, hjn, hgi, HK⟩ := hrel
          have hKb := codeN_le L n (j - 1)
          rw [HK.out] at hKb
          by_cases hjl : j < n
          · obtain ⟨gi', rfl⟩ : ∃ gi', gk = gi' + 1 := ⟨gk - 1, by omega⟩
            have hj3 : j = 1 ∨ j = 2 ∨ j = 3 := by omega
            have hK2 : K < 1048576 := by
              rcases hj3 with h | h | h <;> subst h <;> simp at hKb <;> omega
            have hjs : j < s.size := by omega
            have hsb := s[j].toNat_lt
            have tj : decide ((j : Int) < (n : Int)) = true := decide_eq_true (by omega)
            have HK2 : Hid (codeN L n (j + 1 - 1) = 64 * K + s[j].toNat % 64) := Lib.hid (by
              obtain ⟨i, rfl⟩ : ∃ i, j = i + 1 := ⟨j - 1, by omega⟩
              have := HCS.out i (by omega)
              rw [show i + 1 - 1 = i by omega] at HK
              rw [show i + 1 + 1 - 1 = i + 1 by omega, this, HK.out])
            clear hKb hj3
            go_wp2_with fail
            go_roundg gi'
            case measure => omega
            case rel => exact ⟨j + 1, 64 * K + s[j].toNat % 64, by simp, by simp, rfl, by omega, by omega, by omega, HK2⟩
          · obtain rfl : j = n := by omega
            have tj : decide ((j : Int) < (j : Int)) = false := decide_eq_false (by omega)
            have hK2 : K ≤ 67108864 := by
              have : j - 1 ≤ 3 := by omega
              have := Nat.pow_le_pow_right (show 0 < 64 by decide) this
              omega
            have HB := Lib.hid (fun w => ref_bytes K w (by omega))
            clear hKb
            have hxs : (s.extract 0 j) = bs (L.take j) := by rw [extract_to, HL.out]
            by_cases hm : refB K = L.take j
            · have HR : Hid (s.extract 0 j = bs (refR L)) := Lib.hid (by
                rw [hxs, refR_hit L j (by omega) (by rw [HLl.out]; exact hns) (by rw [HK.out]; exact hm)])
              have teq : ((bs (refB K)).toList == (s.extract 0 j).toList) = true := by rw [hxs, bs_beq]; exact decide_eq_true hm
              clear hm hxs
              go_wp2_with fail
              refine wp_region_quiet_below (by kernel_rfl) (by kernel_rfl) ?_
              repeat (go_big_quiet_step ((go_at_call 26; exact below_of (HB.out _))))
              refine wpQuiet_nil ?_
              intro W1 hw'
              have hb1 := of_class hw'
              clear hw'
              go_wp2_with fail
              go_ret
              exact ⟨by rw [HR.out]; rfl, bstep hbx hb1⟩
            · have teq : ((bs (refB K)).toList == (s.extract 0 j).toList) = false := by rw [hxs, bs_beq]; exact decide_eq_false hm
              have HN2 : Hid (∀ m, 1 ≤ m → m < j + 1 → m ≤ s.size → refB (codeN L m (m - 1)) ≠ L.take m) := Lib.hid (fun m h1 h2 h3 => by
                by_cases e : m = j
                · rw [e, HK.out]; exact hm
                · exact HN.out m h1 (by omega) h3)
              clear hm hxs
              go_wp2_with fail
              refine wp_region_quiet_below (by kernel_rfl) (by kernel_rfl) ?_
              repeat (go_big_quiet_step ((go_at_call 26; exact below_of (HB.out _))))
              refine wpQuiet_nil ?_
              intro W1 hw'
              have hb1 := of_class hw'
              clear hw'
              go_wp2_with fail
              go_roundg g'
              case measure => omega
              case rel => exact ⟨j + 1, by simp, by omega, by omega, bstep hbx hb1, HN2⟩
    · have HR : Hid (refR L = []) := Lib.hid (refR_none L (fun m h1 h2 h3 => HN.out m h1 (by rw [HLl.out] at h3; omega) (by rw [HLl.out] at h3; exact h3)))
      by_cases hn4 : n ≤ 4
      · have tn : decide ((n : Int) ≤ 4) = true := decide_eq_true (by omega)
        have tm : decide ((n : Int) ≤ (s.size : Int)) = false := decide_eq_false (by omega)
        go_wp2_with fail
        go_ret
        exact ⟨by rw [HR.out]; rfl, hbx⟩
      · have tn : decide ((n : Int) ≤ 4) = false := decide_eq_false (by omega)
        go_wp2_with fail
        go_ret
        exact ⟨by rw [HR.out]; rfl, hbx⟩
end Go.Proofs.YtjkhihdghjoneaaDoor
