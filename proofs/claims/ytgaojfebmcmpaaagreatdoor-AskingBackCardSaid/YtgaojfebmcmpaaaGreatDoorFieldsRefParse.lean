/- What Parse of the reference of fields returns. -/
import Derived.Test.YtgaojfebmcmpaaaGreatDoorFieldsParse
import Derived.Test.YtgaojfebmcmpaaaGreatDoorFieldsPlain4
import Derived.Test.YtgaojfebmcmpaaaGreatDoorFieldsRef
import Derived.Laws.IdiomStrings
namespace Go.Proofs.YtgaojfebmcmpaaaGreatDoor
open Go.RowKit

def strN (v : Value) : Nat := match v with | .string s => s.size | _ => 0
theorem conv_one (W : World) (c : UInt8) : (convert 175 9 (.slice (some ⟨W.heap.size, 0, none⟩) 1 1)).run Tryz.prog (W.alloc (.cells #[.int .u8 (c.toNat : Int)] 5)) = .ok (.string ⟨#[c]⟩) (W.alloc (.cells #[.int .u8 (c.toNat : Int)] 5)) :=
  run_convert_bytes_back (P := Tryz.prog) (W.alloc (.cells #[.int .u8 (c.toNat : Int)] 5)) 175 9 5 ⟨W.heap.size, 0, none⟩ 1 [c] Tryz.underlying175 Tryz.underlying5 Tryz.underlying9 (fun j hj => by
    obtain rfl : j = 0 := by simp at hj; exact hj
    exact cell_one_new W (.int .u8 (c.toNat : Int)) 5 0 _ rfl)
theorem ref_smallB (c : UInt8) (w : World) : Calls Tryz.prog 151 #[.int .u8 (c.toNat : Int)] w fun e w' => e = .returned (.int .u8 ((smallB c).toNat : Int)) ∧ w' = w := by
  have h := ref_small c.toNat w c.toNat_lt
  have e : (smallB c).toNat = smallN c.toNat := by
    unfold smallB; rw [UInt8.toNat_ofNat']
    have := c.toNat_lt
    unfold smallN; split <;> omega
  rw [e]; exact h
theorem ahead_upto (s : ByteArray) (k : Nat) (hk : k ≤ s.size) (h : ∀ j, j < k → ∀ hj : j < s.size, s[j]'hj ≠ 58) (h2 : ∀ hk : k < s.size, s[k]'hk = 58) : (ahead s.data.toList).length = k := by
  have hsl := size_len s
  have e : s.data.toList = s.data.toList.take k ++ s.data.toList.drop k := (List.take_append_drop k _).symm
  have h1 : ∀ c ∈ s.data.toList.take k, (c != 58) = true := by
    intro c hc
    obtain ⟨j, hj, rfl⟩ := List.getElem_of_mem hc
    rw [List.length_take] at hj
    rw [List.getElem_take]
    have := h j (by omega) (by omega)
    rw [bne_iff_ne]; exact this
  unfold ahead
  rw [e, List.takeWhile_append_of_pos h1]
  by_cases hlt : k < s.size
  · rw [List.drop_eq_getElem_cons (by omega), List.takeWhile_cons_of_neg (by have := h2 hlt; rw [bne_iff_ne]; intro hn; exact hn this), List.append_nil, List.length_take]; omega
  · rw [List.drop_eq_nil_of_le (by omega)]; simp; omega
theorem bs_snoc (l : List UInt8) (c : UInt8) : bs l ++ ⟨#[c]⟩ = bs (l ++ [c]) := bs_cat l [c]
theorem map_take_succ (l : List UInt8) (i : Nat) (h : i < l.length) (f : UInt8 → UInt8) : (l.take (i + 1)).map f = (l.take i).map f ++ [f l[i]] := by
  rw [List.take_succ_eq_append_getElem h, List.map_append]; rfl
theorem drop_one (V : ByteArray) (h : 0 < V.size) : V.data.toList = V[0] :: (V.extract 1 V.size).data.toList := by
  rw [extract_bs, bs_data, show V.data.toList.take V.size = V.data.toList from List.take_of_length_le (by rw [size_len]; exact Nat.le_refl _)]
  have := List.drop_eq_getElem_cons (l := V.data.toList) (i := 0) (by rw [size_len]; exact h)
  rw [List.drop_zero] at this
  exact this
theorem drop_last (V : ByteArray) (m : Nat) (h : V.size = m + 1) : V.data.toList = (V.extract 0 m).data.toList ++ [V[m]] := by
  rw [extract_bs, bs_data, List.drop_zero]
  have := List.take_succ_eq_append_getElem (l := V.data.toList) (i := m) (by rw [size_len]; omega)
  rw [List.take_of_length_le (by rw [size_len]; omega)] at this
  exact this

theorem headGap_pos (V : ByteArray) (h : headGap V.data.toList = true) : ∃ h : 0 < V.size, gapB V[0] = true := by
  have hpos : 0 < V.size := by
    rcases Nat.eq_zero_or_pos V.size with h0 | h0
    · have : V.data.toList = [] := List.length_eq_zero_iff.1 (by rw [size_len]; exact h0)
      rw [this] at h; exact absurd h (by decide)
    · exact h0
  rw [drop_one V hpos] at h
  exact ⟨hpos, h⟩
theorem headGap_neg (V : ByteArray) (h : headGap V.data.toList = false) (hpos : 0 < V.size) : gapB V[0] = false := by
  rw [drop_one V hpos] at h; exact h
theorem lastGap_pos (V : ByteArray) (h : headGap V.data.toList.reverse = true) : ∃ m, V.size = m + 1 ∧ ∃ hl : m < V.size, gapB V[m] = true := by
  have hpos : 0 < V.size := by
    rcases Nat.eq_zero_or_pos V.size with h0 | h0
    · have : V.data.toList = [] := List.length_eq_zero_iff.1 (by rw [size_len]; exact h0)
      rw [this] at h; exact absurd h (by decide)
    · exact h0
  obtain ⟨m, hm⟩ : ∃ m, V.size = m + 1 := ⟨V.size - 1, by omega⟩
  refine ⟨m, hm, by omega, ?_⟩
  rw [drop_last V m hm, List.reverse_append] at h
  exact h
theorem lastGap_neg (V : ByteArray) (h : headGap V.data.toList.reverse = false) (m : Nat) (hm : V.size = m + 1) (hl : m < V.size) : gapB V[m] = false := by
  rw [drop_last V m hm, List.reverse_append] at h
  exact h
theorem last_step (U : ByteArray) (m : Nat) (hm : U.size = m + 1) (hl : m < U.size) (hg : gapB U[m] = true) (h1 : headGap U.data.toList = false) (T : List UInt8) (hT : Go.Lib.trimS U.data.toList gapL = T) :
    Go.Lib.trimS (U.extract 0 m).data.toList gapL = T ∧ headGap (U.extract 0 m).data.toList = false := by
  have e := drop_last U m hm
  constructor
  · rw [← hT, e, trimS_snoc _ _ hg]
  · rw [e] at h1
    cases hx : (U.extract 0 m).data.toList with
    | nil => rfl
    | cons a t => rw [hx] at h1; exact h1

set_option maxRecDepth 100000 in
set_option maxHeartbeats 4000000 in
theorem ref_fparse (s : ByteArray) (w : World) (hs : s.size ≤ 1000000) :
    Calls Tryz.prog 100 #[.string s] w fun e w' => e = .returned (.tuple #[.agg #[.string (bs (parseN s.data.toList)), .string (bs (parseV s.data.toList))], .int .i64 (parseE s.data.toList)]) ∧ Below w.heap.size w w' := by
  obtain ⟨l, hl⟩ : ∃ l, l = s.data.toList := ⟨_, rfl⟩
  have hsl : l.length = s.size := by rw [hl]; exact size_len s
  have HPl := Lib.hid (fun w => ref_fplain s w (by omega))
  rw [← hl] at HPl ⊢
  have HL := Lib.hid hl
  clear hl
  have H4 : Hid (parseOk l = false → parseN l = [] ∧ parseV l = [] ∧ parseE l = 4) := Lib.hid (fun h => by unfold parseN parseV parseE; rw [h]; exact ⟨rfl, rfl, rfl⟩)
  go_enter Tryz.func100, Tryz.ntmps100
  go_wp2_with fail
  go_loop [4] (fun j => ∃ k : Nat, k ≤ s.size ∧ j = .int .i64 k ∧ Hid (∀ j, j < k → ∀ hj : j < s.size, s[j]'hj ≠ 58)) (fun j => s.size - (intOf j).toNat)
  case atStart => exact ⟨0, by omega, rfl, Lib.hid (fun j hj => by omega)⟩
  case round =>
    obtain ⟨k, hk, rfl, Hall⟩ := hrel
    by_cases hlt : k < s.size
    · by_cases h58 : s[k] = 58
      · have ha : Hid ((ahead l).length = k) := Lib.hid (by rw [HL.out]; exact ahead_upto s k hk Hall.out (fun _ => h58))
        have t1 : ((s[k].toNat : Int) != 58) = false := by rw [h58]; rfl
        have t2 : ((k : Int) == (s.size : Int)) = false := by rw [beq_eq_false_iff_ne]; omega
        clear Hall
        cases hpl : (l.all (fun c => plainB c.toNat)) with
        | false =>
          have HP := Lib.hid (H4.out (by unfold parseOk plainAll; rw [hpl]; rfl))
          rw [hpl] at HPl
          clear hpl h58
          go_wp2_with (go_at_call 138; refine (HPl.out _).mono ?_; rintro e w' ⟨rfl, rfl⟩)
          refine ret_field (b := w.heap.size) (x := .string ⟨#[]⟩) (y := .string ⟨#[]⟩) rfl (load_ref _ _ _ _ _ (heap_alloc_new w _)) rfl rfl rfl ?_
          refine ⟨?_, (Below.refl _ _).alloc (Nat.le_refl _) _⟩
          rw [HP.out.1, HP.out.2.1, HP.out.2.2]; rfl
        | true =>
          rw [hpl] at HPl
          have HpA : Hid (plainAll l = true) := Lib.hid hpl
          clear hpl h58
          go_wp2_with (go_at_call 138; refine (HPl.out _).mono ?_; rintro e w' ⟨rfl, rfl⟩)
          have HN : Hid ((l.take k).map smallB = parseName l) := Lib.hid (by unfold parseName; rw [← ahead_take l, ha.out])
          have HFN := Lib.hid (fun w => ref_name (bs (parseName l)) w (by rw [← HN.out, bs_size, List.length_map, List.length_take]; omega))
          rw [bs_data] at HFN
          go_loopw [5, 6] (fun n j wr => ∃ i : Nat, i ≤ k ∧ j = .int .i64 i ∧ n = .string (bs ((l.take i).map smallB)) ∧ Below (w.alloc (.cells #[.string ⟨#[]⟩, .string ⟨#[]⟩] 130)).heap.size (w.alloc (.cells #[.string ⟨#[]⟩, .string ⟨#[]⟩] 130)) wr) (fun _ j _ => k - (intOf j).toNat)
          case atStart => exact ⟨0, by omega, rfl, rfl, Below.refl _ _⟩
          case round =>
            obtain ⟨i, hi, rfl, rfl, hb⟩ := hrel
            by_cases hik : i < k
            · have hil : i < s.size := by omega
              have hst : Hid (bs ((l.take i).map smallB) ++ ⟨#[smallB s[i]]⟩ = bs ((l.take (i + 1)).map smallB)) := Lib.hid (by
                have e : l[i]'(by omega) = s[i] := by have := HL.out; subst this; rfl
                rw [bs_snoc, map_take_succ l i (by omega), e])
              have hsz : (bs ((l.take i).map smallB)).size + 1 ≤ 9223372036854775807 := by rw [bs_size, List.length_map, List.length_take]; omega
              have hcv := conv_one wr (smallB s[i])
              have hone : (ByteArray.mk #[smallB s[i]]).size = 1 := rfl
              obtain ⟨X, hX⟩ : ∃ X, X = bs ((l.take i).map smallB) := ⟨_, rfl⟩
              rw [← hX] at hst hsz ⊢
              clear hX
              go_wp2_with (go_at_call 151; refine (ref_smallB _ _).mono ?_; rintro e w' ⟨rfl, rfl⟩)
              go_roundw
              case rel => exact ⟨i + 1, by omega, by go_num, by rw [hst.out], hb.trans (((Below.refl _ _).alloc (Nat.le_refl _) _).mono hb.size)⟩
              case measure => simp [intOf]; omega
            · obtain rfl : i = k := by omega
              have hbox := two_box hb
              obtain ⟨k0, k1, f0, f1⟩ := two_of hbox
              obtain ⟨N, hN⟩ : ∃ N, N = bs (parseName l) := ⟨_, rfl⟩
              rw [HN.out, ← hN]
              rw [← hN] at HFN
              have HNN := Lib.hid hN
              clear hN hik
              cases hnm : nameL (parseName l) with
              | false =>
                rw [hnm] at HFN
                have HP := Lib.hid (H4.out (by unfold parseOk; rw [hnm, Bool.and_false]))
                clear hnm
                go_wp2_with (go_at_call 137; refine (HFN.out _).mono ?_; rintro e w' ⟨rfl, rfl⟩)
                refine ret_field (b := w.heap.size) (x := .string ⟨#[]⟩) (y := .string ⟨#[]⟩) rfl (load_ref _ _ _ _ _ (two_set hbox _ _)) rfl rfl rfl ?_
                refine ⟨?_, two_below (((Below.refl _ _).alloc (Nat.le_refl _) _).trans (hb.mono (by simp))) _ (Nat.le_refl _) _ _⟩
                rw [HP.out.1, HP.out.2.1, HP.out.2.2]; rfl
              | true =>
                rw [hnm] at HFN
                have HP : Hid (parseN l = parseName l ∧ parseV l = parseVal l ∧ parseE l = 0) := Lib.hid (by
                  have : parseOk l = true := by unfold parseOk; rw [hnm, HpA.out, decide_eq_true (by rw [ha.out]; omega)]; rfl
                  unfold parseN parseV parseE; rw [this]; exact ⟨rfl, rfl, rfl⟩)
                have hV0 : Hid (Go.Lib.trimS (s.extract (i + 1) s.size).data.toList gapL = parseVal l) := Lib.hid (by
                  unfold parseVal
                  rw [extract_bs, bs_data, ← HL.out, List.take_of_length_le (by omega), ha.out])
                have hV1 : (s.extract (i + 1) s.size).size ≤ s.size := by rw [ByteArray.size_extract]; omega
                clear hnm
                go_wp2_with (go_at_call 137; refine (HFN.out _).mono ?_; rintro e w' ⟨rfl, rfl⟩)
                go_loop [7] (fun v => ∃ V : ByteArray, v = .string V ∧ V.size ≤ s.size ∧ Hid (Go.Lib.trimS V.data.toList gapL = parseVal l)) (fun v => strN v)
                case atStart => exact ⟨_, rfl, hV1, hV0⟩
                case round =>
                  obtain ⟨V, rfl, hVs, HV⟩ := hrel
                  by_cases hcont : headGap V.data.toList = true
                  · obtain ⟨hpos, hg⟩ := headGap_pos V hcont
                    have Hn : Hid (Go.Lib.trimS (V.extract 1 V.size).data.toList gapL = parseVal l) := Lib.hid (by
                      rw [← HV.out, drop_one V hpos, trimS_cons _ _ hg])
                    have hG := fun w => ref_gap V[0] w
                    rw [hg] at hG
                    have HG := Lib.hid hG
                    clear hG hg hcont hV0 hV1
                    go_wp2_with (go_at_call 139; refine (HG.out _).mono ?_; rintro e w' ⟨rfl, rfl⟩)
                    go_round
                    case rel => exact ⟨_, rfl, by rw [ByteArray.size_extract]; omega, Hn⟩
                    case measure => simp [strN]; omega
                  · have HG0 : Hid (headGap V.data.toList = false) := Lib.hid (by simpa using hcont)
                    clear hcont hV0 hV1
                    have hgn := fun h : 0 < V.size => headGap_neg V HG0.out h
                    by_cases hpos : 0 < V.size
                    case' pos =>
                      have hG := fun w => ref_gap V[0] w
                      rw [hgn hpos] at hG
                      have HG := Lib.hid hG
                      clear hG hgn
                      go_wp2_with (go_at_call 139; refine (HG.out _).mono ?_; rintro e w' ⟨rfl, rfl⟩)
                    case' neg =>
                      have t0 : decide ((V.size : Int) > 0) = false := decide_eq_false (by omega)
                      have HG := True.intro
                      clear hgn
                      go_wp2_with fail
                    all_goals
                      clear HG
                      go_loop [7] (fun v => ∃ V : ByteArray, v = .string V ∧ V.size ≤ s.size ∧ Hid (Go.Lib.trimS V.data.toList gapL = parseVal l) ∧ Hid (headGap V.data.toList = false)) (fun v => strN v)
                      case atStart => exact ⟨_, rfl, hVs, HV, HG0⟩
                      case round =>
                        clear HG0 HV hVs
                        obtain ⟨U, rfl, hUs, HU, HG1⟩ := hrel
                        by_cases hcont : headGap U.data.toList.reverse = true
                        · obtain ⟨m, hm, hlt2, hg⟩ := lastGap_pos U hcont
                          have Hn : Hid (Go.Lib.trimS (U.extract 0 m).data.toList gapL = parseVal l ∧ headGap (U.extract 0 m).data.toList = false) := Lib.hid (last_step U m hm hlt2 hg HG1.out (parseVal l) HU.out)
                          have hG := fun w => ref_gap U[m] w
                          rw [hg] at hG
                          have HG := Lib.hid hG
                          have hmi : ((U.size : Int) - 1) = (m : Int) := by omega
                          have hpos : 0 < U.size := by omega
                          have HM := Lib.hid hm
                          clear hG hg hcont hm
                          go_wp2_with (go_at_call 139; refine (HG.out _).mono ?_; rintro e w' ⟨rfl, rfl⟩)
                          go_round
                          case rel => exact ⟨_, rfl, by rw [ByteArray.size_extract]; omega, Lib.hid Hn.out.1, Lib.hid Hn.out.2⟩
                          case measure => simp [strN]; omega
                        · have HF : Hid (bs (parseVal l) = U) := Lib.hid (by rw [← HU.out, trimS_done _ HG1.out (by simpa using hcont), bs_self])
                          have hgn := lastGap_neg U (by simpa using hcont)
                          clear hcont
                          by_cases hpos : 0 < U.size
                          case' pos =>
                            obtain ⟨m, hm⟩ : ∃ m, U.size = m + 1 := ⟨U.size - 1, by omega⟩
                            have hlt2 : m < U.size := by omega
                            have hG := fun w => ref_gap U[m] w
                            rw [hgn m hm hlt2] at hG
                            have HG := Lib.hid hG
                            have hmi : ((U.size : Int) - 1) = (m : Int) := by omega
                            have HM := Lib.hid hm
                            clear hG hgn hm
                            go_wp2_with (go_at_call 139; refine (HG.out _).mono ?_; rintro e w' ⟨rfl, rfl⟩)
                          case' neg =>
                            have t0 : decide ((U.size : Int) > 0) = false := decide_eq_false (by omega)
                            clear hgn
                            go_wp2_with fail
                          all_goals
                            refine ret_field (b := w.heap.size) (x := .string N) (y := .string U) rfl (load_ref _ _ _ _ _ (two_set hbox _ _)) rfl rfl rfl ?_
                            refine ⟨?_, two_below (((Below.refl _ _).alloc (Nat.le_refl _) _).trans (hb.mono (by simp))) _ (Nat.le_refl _) _ _⟩
                            rw [HP.out.1, HP.out.2.1, HP.out.2.2, HF.out, ← HNN.out]; rfl
      · have t1 : ((s[k].toNat : Int) != 58) = true := by
          rw [bne_iff_ne]; intro e; exact h58 (UInt8.toNat_inj.1 (by show _ = 58; omega))
        have H : Hid (∀ j, j < k + 1 → ∀ hj : j < s.size, s[j]'hj ≠ 58) := Lib.hid (fun j hj hjs => by
          by_cases e : j = k
          · subst e; exact h58
          · exact Hall.out j (by omega) hjs)
        clear Hall h58
        go_wp2_with fail
        go_round
        case rel => exact ⟨k + 1, by omega, by go_num, H⟩
        case measure => simp [intOf]; omega
    · have ha : (ahead l).length = k := by rw [HL.out]; exact ahead_upto s k hk Hall.out (fun h => absurd h hlt)
      have hks : k = s.size := by omega
      have HP := Lib.hid (H4.out (by unfold parseOk; rw [decide_eq_false (by omega), Bool.and_false, Bool.false_and]))
      clear ha Hall
      subst hks
      generalize hpb : (l.all (fun c => plainB c.toNat)) = pb at HPl
      clear hpb
      cases pb
      all_goals
        go_wp2_with (go_at_call 138; refine (HPl.out _).mono ?_; rintro e w' ⟨rfl, rfl⟩)
        refine ret_field (b := w.heap.size) (x := .string ⟨#[]⟩) (y := .string ⟨#[]⟩) rfl (load_ref _ _ _ _ _ (heap_alloc_new w _)) rfl rfl rfl ?_
        refine ⟨?_, (Below.refl _ _).alloc (Nat.le_refl _) _⟩
        rw [HP.out.1, HP.out.2.1, HP.out.2.2]; rfl
end Go.Proofs.YtgaojfebmcmpaaaGreatDoor
