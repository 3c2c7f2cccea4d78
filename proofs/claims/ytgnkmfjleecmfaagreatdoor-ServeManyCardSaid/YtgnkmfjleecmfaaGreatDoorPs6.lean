/- What Parse of the reference of fields returns. What first and Fields of the reference of asking return. What Parse of the reference of asking returns. The small example of the laws of layer 25. The law function AskingTells. A request as printed is taken for itself; cut anywhere it is too short; what is taken may be printed (no program in sight). Plain functions for the first line of an answer (no program in sight). What the library's variables hold, carried along a call. What the functions of package status and of its reference return. What Print, Parse and their helpers of package status, and of its reference, return. Plain facts on trimming digits and on the code of a status line (no program in sight). What the reference's Parse of a status line returns. What Parse of package status returns. -/
import Derived.Test.YtgnkmfjleecmfaaGreatDoorPs5
import Derived.Laws.IdiomStrings
import Derived.Laws.StructEq
import Derived.Lib.ItoaNum
import Derived.Lib.LaidTab
import Derived.WalkSmall
import Derived.Shelf.Strings.SlTrimAscii
import Derived.Lib.SlTrimSet
import Derived.Lib.Atoi
import Derived.Lib.SmallJoins
set_option linter.unusedVariables false
namespace Go.Proofs.YtgnkmfjleecmfaaGreatDoor
open Go.RowKit

def strN (v : Value) : Nat := match v with | .string s => s.size | _ => 0
theorem conv_one (W : World) (c : UInt8) : (convert 102 9 (.slice (some ⟨W.heap.size, 0, none⟩) 1 1)).run Tryz.prog (W.alloc (.cells #[.int .u8 (c.toNat : Int)] 5)) = .ok (.string ⟨#[c]⟩) (W.alloc (.cells #[.int .u8 (c.toNat : Int)] 5)) :=
  run_convert_bytes_back (P := Tryz.prog) (W.alloc (.cells #[.int .u8 (c.toNat : Int)] 5)) 102 9 5 ⟨W.heap.size, 0, none⟩ 1 [c] Tryz.underlying102 Tryz.underlying5 Tryz.underlying9 (fun j hj => by
    obtain rfl : j = 0 := by simp at hj; exact hj
    exact cell_one_new W (.int .u8 (c.toNat : Int)) 5 0 _ rfl)
theorem ref_smallB (c : UInt8) (w : World) : Calls Tryz.prog 63 #[.int .u8 (c.toNat : Int)] w fun e w' => e = .returned (.int .u8 ((smallB c).toNat : Int)) ∧ w' = w := by
  have h := ref_small c.toNat w c.toNat_lt
  have e : (smallB c).toNat = smallN c.toNat := by
    unfold smallB; rw [UInt8.toNat_ofNat']
    have := c.toNat_lt
    unfold smallN; split <;> omega
  rw [e]; exact h
theorem ahead_upto (s : ByteArray) (k : Nat) (hk : k ≤ s.size) (h : ∀ j, j < k → ∀ hj : j < s.size, s[j]'hj ≠ 58) (h2 : ∀ hk : k < s.size, s[k]'hk = 58) : (ahead s.data.toList).length = k := by
  have hsl := size_len s
  have e : s.data.toList = s.data.toList.take k ++ s.data.toList.drop k := (List.take_append_drop k _).symm
  have h1 : ∀ c ∈ s.data.toList.take k, (c != 58) = true := by
    intro c hc
    obtain ⟨j, hj, rfl⟩ := List.getElem_of_mem hc
    rw [List.length_take] at hj
    rw [List.getElem_take]
    have := h j (by omega) (by omega)
    rw [bne_iff_ne]; exact this
  unfold ahead
  rw [e, List.takeWhile_append_of_pos h1]
  by_cases hlt : k < s.size
  · rw [List.drop_eq_getElem_cons (by omega), List.takeWhile_cons_of_neg (by have := h2 hlt; rw [bne_iff_ne]; intro hn; exact hn this), List.append_nil, List.length_take]; omega
  · rw [List.drop_eq_nil_of_le (by omega)]; simp; omega
theorem bs_snoc (l : List UInt8) (c : UInt8) : bs l ++ ⟨#[c]⟩ = bs (l ++ [c]) := bs_cat l [c]
theorem map_take_succ (l : List UInt8) (i : Nat) (h : i < l.length) (f : UInt8 → UInt8) : (l.take (i + 1)).map f = (l.take i).map f ++ [f l[i]] := by
  rw [List.take_succ_eq_append_getElem h, List.map_append]; rfl
theorem drop_one (V : ByteArray) (h : 0 < V.size) : V.data.toList = V[0] :: (V.extract 1 V.size).data.toList := by
  rw [extract_bs, bs_data, show V.data.toList.take V.size = V.data.toList from List.take_of_length_le (by rw [size_len]; exact Nat.le_refl _)]
  have := List.drop_eq_getElem_cons (l := V.data.toList) (i := 0) (by rw [size_len]; exact h)
  rw [List.drop_zero] at this
  exact this
theorem drop_last (V : ByteArray) (m : Nat) (h : V.size = m + 1) : V.data.toList = (V.extract 0 m).data.toList ++ [V[m]] := by
  rw [extract_bs, bs_data, List.drop_zero]
  have := List.take_succ_eq_append_getElem (l := V.data.toList) (i := m) (by rw [size_len]; omega)
  rw [List.take_of_length_le (by rw [size_len]; omega)] at this
  exact this

theorem headGap_pos (V : ByteArray) (h : headGap V.data.toList = true) : ∃ h : 0 < V.size, gapB V[0] = true := by
  have hpos : 0 < V.size := by
    rcases Nat.eq_zero_or_pos V.size with h0 | h0
    · have : V.data.toList = [] := List.length_eq_zero_iff.1 (by rw [size_len]; exact h0)
      rw [this] at h; exact absurd h (by decide)
    · exact h0
  rw [drop_one V hpos] at h
  exact ⟨hpos, h⟩
theorem headGap_neg (V : ByteArray) (h : headGap V.data.toList = false) (hpos : 0 < V.size) : gapB V[0] = false := by
  rw [drop_one V hpos] at h; exact h
theorem lastGap_pos (V : ByteArray) (h : headGap V.data.toList.reverse = true) : ∃ m, V.size = m + 1 ∧ ∃ hl : m < V.size, gapB V[m] = true := by
  have hpos : 0 < V.size := by
    rcases Nat.eq_zero_or_pos V.size with h0 | h0
    · have : V.data.toList = [] := List.length_eq_zero_iff.1 (by rw [size_len]; exact h0)
      rw [this] at h; exact absurd h (by decide)
    · exact h0
  obtain ⟨m, hm⟩ : ∃ m, V.size = m + 1 := ⟨V.size - 1, by omega⟩
  refine ⟨m, hm, by omega, ?_⟩
  rw [drop_last V m hm, List.reverse_append] at h
  exact h
theorem lastGap_neg (V : ByteArray) (h : headGap V.data.toList.reverse = false) (m : Nat) (hm : V.size = m + 1) (hl : m < V.size) : gapB V[m] = false := by
  rw [drop_last V m hm, List.reverse_append] at h
  exact h
theorem last_step (U : ByteArray) (m : Nat) (hm : U.size = m + 1) (hl : m < U.size) (hg : gapB U[m] = true) (h1 : headGap U.data.toList = false) (T : List UInt8) (hT : Go.Lib.trimS U.data.toList gapL = T) :
    Go.Lib.trimS (U.extract 0 m).data.toList gapL = T ∧ headGap (U.extract 0 m).data.toList = false := by
  have e := drop_last U m hm
  constructor
  · rw [← hT, e, trimS_snoc _ _ hg]
  · rw [e] at h1
    cases hx : (U.extract 0 m).data.toList with
    | nil => rfl
    | cons a t => rw [hx] at h1; exact h1

set_option maxRecDepth 100000 in
set_option maxHeartbeats 4000000 in
theorem ref_fparse (s : ByteArray) (w : World) (hs : s.size ≤ 1000000) :
    Calls Tryz.prog 34 #[.string s] w fun e w' => e = .returned (.tuple #[.agg #[.string (bs (parseN s.data.toList)), .string (bs (parseV s.data.toList))], .int .i64 (parseE s.data.toList)]) ∧ Below w.heap.size w w' := by
  obtain ⟨l, hl⟩ : ∃ l, l = s.data.toList := ⟨_, rfl⟩
  have hsl : l.length = s.size := by rw [hl]; exact size_len s
  have HPl := Lib.hid (fun w => ref_fplain s w (by omega))
  rw [← hl] at HPl ⊢
  have HL := Lib.hid hl
  clear hl
  have H4 : Hid (parseOk l = false → parseN l = [] ∧ parseV l = [] ∧ parseE l = 4) := Lib.hid (fun h => by unfold parseN parseV parseE; rw [h]; exact ⟨rfl, rfl, rfl⟩)
  go_enter Tryz.func34, Tryz.ntmps34
  go_wp2_with fail
  go_loop [4] (fun j => ∃ k : Nat, k ≤ s.size ∧ j = .int .i64 k ∧ Hid (∀ j, j < k → ∀ hj : j < s.size, s[j]'hj ≠ 58)) (fun j => s.size - (intOf j).toNat)
  case atStart => exact ⟨0, by omega, rfl, Lib.hid (fun j hj => by omega)⟩
  case round =>
    obtain ⟨k, hk, rfl, Hall⟩ := hrel
    by_cases hlt : k < s.size
    · by_cases h58 : s[k] = 58
      · have ha : Hid ((ahead l).length = k) := Lib.hid (by rw [HL.out]; exact ahead_upto s k hk Hall.out (fun _ => h58))
        have t1 : ((s[k].toNat : Int) != 58) = false := by rw [h58]; rfl
        have t2 : ((k : Int) == (s.size : Int)) = false := by rw [beq_eq_false_iff_ne]; omega
        clear Hall
        cases hpl : (l.all (fun c => plainB c.toNat)) with
        | false =>
          have HP := Lib.hid (H4.out (by unfold parseOk plainAll; rw [hpl]; rfl))
          rw [hpl] at HPl
          clear hpl h58
          go_wp2_with (go_at_call 62; refine (HPl.out _).mono ?_; rintro e w' ⟨rfl, rfl⟩)
          refine ret_field (b := w.heap.size) (x := .string ⟨#[]⟩) (y := .string ⟨#[]⟩) rfl (load_ref _ _ _ _ _ (heap_alloc_new w _)) rfl rfl rfl ?_
          refine ⟨?_, (Below.refl _ _).alloc (Nat.le_refl _) _⟩
          rw [HP.out.1, HP.out.2.1, HP.out.2.2]; rfl
        | true =>
          rw [hpl] at HPl
          have HpA : Hid (plainAll l = true) := Lib.hid hpl
          clear hpl h58
          go_wp2_with (go_at_call 62; refine (HPl.out _).mono ?_; rintro e w' ⟨rfl, rfl⟩)
          have HN : Hid ((l.take k).map smallB = parseName l) := Lib.hid (by unfold parseName; rw [← ahead_take l, ha.out])
          have HFN := Lib.hid (fun w => ref_name (bs (parseName l)) w (by rw [← HN.out, bs_size, List.length_map, List.length_take]; omega))
          rw [bs_data] at HFN
          go_loopw [5, 6] (fun n j wr => ∃ i : Nat, i ≤ k ∧ j = .int .i64 i ∧ n = .string (bs ((l.take i).map smallB)) ∧ Below (w.alloc (.cells #[.string ⟨#[]⟩, .string ⟨#[]⟩] 74)).heap.size (w.alloc (.cells #[.string ⟨#[]⟩, .string ⟨#[]⟩] 74)) wr) (fun _ j _ => k - (intOf j).toNat)
          case atStart => exact ⟨0, by omega, rfl, rfl, Below.refl _ _⟩
          case round =>
            obtain ⟨i, hi, rfl, rfl, hb⟩ := hrel
            by_cases hik : i < k
            · have hil : i < s.size := by omega
              have hst : Hid (bs ((l.take i).map smallB) ++ ⟨#[smallB s[i]]⟩ = bs ((l.take (i + 1)).map smallB)) := Lib.hid (by
                have e : l[i]'(by omega) = s[i] := by have := HL.out; subst this; rfl
                rw [bs_snoc, map_take_succ l i (by omega), e])
              have hsz : (bs ((l.take i).map smallB)).size + 1 ≤ 9223372036854775807 := by rw [bs_size, List.length_map, List.length_take]; omega
              have hcv := conv_one wr (smallB s[i])
              have hone : (ByteArray.mk #[smallB s[i]]).size = 1 := rfl
              obtain ⟨X, hX⟩ : ∃ X, X = bs ((l.take i).map smallB) := ⟨_, rfl⟩
              rw [← hX] at hst hsz ⊢
              clear hX
              go_wp2_with (go_at_call 63; refine (ref_smallB _ _).mono ?_; rintro e w' ⟨rfl, rfl⟩)
              go_roundw
              case rel => exact ⟨i + 1, by omega, by go_num, by rw [hst.out], hb.trans (((Below.refl _ _).alloc (Nat.le_refl _) _).mono hb.size)⟩
              case measure => simp [intOf]; omega
            · obtain rfl : i = k := by omega
              have hbox := two_box hb
              obtain ⟨k0, k1, f0, f1⟩ := two_of hbox
              obtain ⟨N, hN⟩ : ∃ N, N = bs (parseName l) := ⟨_, rfl⟩
              rw [HN.out, ← hN]
              rw [← hN] at HFN
              have HNN := Lib.hid hN
              clear hN hik
              cases hnm : nameL (parseName l) with
              | false =>
                rw [hnm] at HFN
                have HP := Lib.hid (H4.out (by unfold parseOk; rw [hnm, Bool.and_false]))
                clear hnm
                go_wp2_with (go_at_call 64; refine (HFN.out _).mono ?_; rintro e w' ⟨rfl, rfl⟩)
                refine ret_field (b := w.heap.size) (x := .string ⟨#[]⟩) (y := .string ⟨#[]⟩) rfl (load_ref _ _ _ _ _ (two_set hbox _ _)) rfl rfl rfl ?_
                refine ⟨?_, two_below (((Below.refl _ _).alloc (Nat.le_refl _) _).trans (hb.mono (by simp))) _ (Nat.le_refl _) _ _⟩
                rw [HP.out.1, HP.out.2.1, HP.out.2.2]; rfl
              | true =>
                rw [hnm] at HFN
                have HP : Hid (parseN l = parseName l ∧ parseV l = parseVal l ∧ parseE l = 0) := Lib.hid (by
                  have : parseOk l = true := by unfold parseOk; rw [hnm, HpA.out, decide_eq_true (by rw [ha.out]; omega)]; rfl
                  unfold parseN parseV parseE; rw [this]; exact ⟨rfl, rfl, rfl⟩)
                have hV0 : Hid (Go.Lib.trimS (s.extract (i + 1) s.size).data.toList gapL = parseVal l) := Lib.hid (by
                  unfold parseVal
                  rw [extract_bs, bs_data, ← HL.out, List.take_of_length_le (by omega), ha.out])
                have hV1 : (s.extract (i + 1) s.size).size ≤ s.size := by rw [ByteArray.size_extract]; omega
                clear hnm
                go_wp2_with (go_at_call 64; refine (HFN.out _).mono ?_; rintro e w' ⟨rfl, rfl⟩)
                go_loop [7] (fun v => ∃ V : ByteArray, v = .string V ∧ V.size ≤ s.size ∧ Hid (Go.Lib.trimS V.data.toList gapL = parseVal l)) (fun v => strN v)
                case atStart => exact ⟨_, rfl, hV1, hV0⟩
                case round =>
                  obtain ⟨V, rfl, hVs, HV⟩ := hrel
                  by_cases hcont : headGap V.data.toList = true
                  · obtain ⟨hpos, hg⟩ := headGap_pos V hcont
                    have Hn : Hid (Go.Lib.trimS (V.extract 1 V.size).data.toList gapL = parseVal l) := Lib.hid (by
                      rw [← HV.out, drop_one V hpos, trimS_cons _ _ hg])
                    have hG := fun w => ref_gap V[0] w
                    rw [hg] at hG
                    have HG := Lib.hid hG
                    clear hG hg hcont hV0 hV1
                    go_wp2_with (go_at_call 65; refine (HG.out _).mono ?_; rintro e w' ⟨rfl, rfl⟩)
                    go_round
                    case rel => exact ⟨_, rfl, by rw [ByteArray.size_extract]; omega, Hn⟩
                    case measure => simp [strN]; omega
                  · have HG0 : Hid (headGap V.data.toList = false) := Lib.hid (by simpa using hcont)
                    clear hcont hV0 hV1
                    have hgn := fun h : 0 < V.size => headGap_neg V HG0.out h
                    by_cases hpos : 0 < V.size
                    case' pos =>
                      have hG := fun w => ref_gap V[0] w
                      rw [hgn hpos] at hG
                      have HG := Lib.hid hG
                      clear hG hgn
                      go_wp2_with (go_at_call 65; refine (HG.out _).mono ?_; rintro e w' ⟨rfl, rfl⟩)
                    case' neg =>
                      have t0 : decide ((V.size : Int) > 0) = false := decide_eq_false (by omega)
                      have HG := True.intro
                      clear hgn
                      go_wp2_with fail
                    all_goals
                      clear HG
                      go_loop [7] (fun v => ∃ V : ByteArray, v = .string V ∧ V.size ≤ s.size ∧ Hid (Go.Lib.trimS V.data.toList gapL = parseVal l) ∧ Hid (headGap V.data.toList = false)) (fun v => strN v)
                      case atStart => exact ⟨_, rfl, hVs, HV, HG0⟩
                      case round =>
                        clear HG0 HV hVs
                        obtain ⟨U, rfl, hUs, HU, HG1⟩ := hrel
                        by_cases hcont : headGap U.data.toList.reverse = true
                        · obtain ⟨m, hm, hlt2, hg⟩ := lastGap_pos U hcont
                          have Hn : Hid (Go.Lib.trimS (U.extract 0 m).data.toList gapL = parseVal l ∧ headGap (U.extract 0 m).data.toList = false) := Lib.hid (last_step U m hm hlt2 hg HG1.out (parseVal l) HU.out)
                          have hG := fun w => ref_gap U[m] w
                          rw [hg] at hG
                          have HG := Lib.hid hG
                          have hmi : ((U.size : Int) - 1) = (m : Int) := by omega
                          have hpos : 0 < U.size := by omega
                          have HM := Lib.hid hm
                          clear hG hg hcont hm
                          go_wp2_with (go_at_call 65; refine (HG.out _).mono ?_; rintro e w' ⟨rfl, rfl⟩)
                          go_round
                          case rel => exact ⟨_, rfl, by rw [ByteArray.size_extract]; omega, Lib.hid Hn.out.1, Lib.hid Hn.out.2⟩
                          case measure => simp [strN]; omega
                        · have HF : Hid (bs (parseVal l) = U) := Lib.hid (by rw [← HU.out, trimS_done _ HG1.out (by simpa using hcont), bs_self])
                          have hgn := lastGap_neg U (by simpa using hcont)
                          clear hcont
                          by_cases hpos : 0 < U.size
                          case' pos =>
                            obtain ⟨m, hm⟩ : ∃ m, U.size = m + 1 := ⟨U.size - 1, by omega⟩
                            have hlt2 : m < U.size := by omega
                            have hG := fun w => ref_gap U[m] w
                            rw [hgn m hm hlt2] at hG
                            have HG := Lib.hid hG
                            have hmi : ((U.size : Int) - 1) = (m : Int) := by omega
                            have HM := Lib.hid hm
                            clear hG hgn hm
                            go_wp2_with (go_at_call 65; refine (HG.out _).mono ?_; rintro e w' ⟨rfl, rfl⟩)
                          case' neg =>
                            have t0 : decide ((U.size : Int) > 0) = false := decide_eq_false (by omega)
                            clear hgn
                            go_wp2_with fail
                          all_goals
                            refine ret_field (b := w.heap.size) (x := .string N) (y := .string U) rfl (load_ref _ _ _ _ _ (two_set hbox _ _)) rfl rfl rfl ?_
                            refine ⟨?_, two_below (((Below.refl _ _).alloc (Nat.le_refl _) _).trans (hb.mono (by simp))) _ (Nat.le_refl _) _ _⟩
                            rw [HP.out.1, HP.out.2.1, HP.out.2.2, HF.out, ← HNN.out]; rfl
      · have t1 : ((s[k].toNat : Int) != 58) = true := by
          rw [bne_iff_ne]; intro e; exact h58 (UInt8.toNat_inj.1 (by show _ = 58; omega))
        have H : Hid (∀ j, j < k + 1 → ∀ hj : j < s.size, s[j]'hj ≠ 58) := Lib.hid (fun j hj hjs => by
          by_cases e : j = k
          · subst e; exact h58
          · exact Hall.out j (by omega) hjs)
        clear Hall h58
        go_wp2_with fail
        go_round
        case rel => exact ⟨k + 1, by omega, by go_num, H⟩
        case measure => simp [intOf]; omega
    · have ha : (ahead l).length = k := by rw [HL.out]; exact ahead_upto s k hk Hall.out (fun h => absurd h hlt)
      have hks : k = s.size := by omega
      have HP := Lib.hid (H4.out (by unfold parseOk; rw [decide_eq_false (by omega), Bool.and_false, Bool.false_and]))
      clear ha Hall
      subst hks
      generalize hpb : (l.all (fun c => plainB c.toNat)) = pb at HPl
      clear hpb
      cases pb
      all_goals
        go_wp2_with (go_at_call 62; refine (HPl.out _).mono ?_; rintro e w' ⟨rfl, rfl⟩)
        refine ret_field (b := w.heap.size) (x := .string ⟨#[]⟩) (y := .string ⟨#[]⟩) rfl (load_ref _ _ _ _ _ (heap_alloc_new w _)) rfl rfl rfl ?_
        refine ⟨?_, (Below.refl _ _).alloc (Nat.le_refl _) _⟩
        rw [HP.out.1, HP.out.2.1, HP.out.2.2]; rfl
end Go.Proofs.YtgnkmfjleecmfaaGreatDoor
namespace Go.Proofs.YtgnkmfjleecmfaaGreatDoor
open Go.RowKit

theorem info_rfield : (Tryz.prog.info? 74).map (fun i => (i.zero, i.size, i.bytes)) = some (some (.agg #[.string ByteArray.empty, .string ByteArray.empty]), 2, 32) := by kernel_rfl
theorem append_rfield {ops : Array Oper} {rest : List Oper} {o : Oper} {a : Act} {Q : Exit → Act → World → Prop} (w0 : World) (hgd : o.guard = none) (s x : Operand)
    (ho : o.op = .call { callee := .builtin .append, args := #[s, x], argTypes := #[33, 33] })
    (base : Nat) (v : Value) (fs : List (List UInt8 × List UInt8)) (hs : a.eval s = v) (hown : w0.ownsRow base 74 2 v fs.length (fcells fs))
    (p q : ByteArray) (f : List UInt8 × List UInt8) (hp : p = bs f.1) (hq : q = bs f.2) (H : Nat) (hH : w0.heap.size = H) (hx : a.eval x = .slice (some ⟨H, 0, none⟩) 1 1) (hn : fs.length < 2147483648) (hbase : base ≤ w0.heap.size)
    (h : ∀ v' w', w'.ownsRow base 74 2 v' (fs ++ [f]).length (fcells (fs ++ [f])) → w0.grownBy w' v.ownBlock → v' ≠ .slice none 0 0 → wpList Tryz.prog ops Q rest (a.put o.dst v') w') :
    wpList Tryz.prog ops Q (o :: rest) a (w0.alloc (.cells #[.string p, .string q] 74)) := by
  obtain ⟨i0, hi, hz0, hz1, hz2⟩ := info_parts info_rfield
  subst hp hq hH
  refine wpList_append_own _ hgd s x 33 ho base 74 i0 _ 2 32 Tryz.underlying33 hi hz0 hz1 hz2 rfl (by decide) v fs.length (fcells fs) hs (hown.alloc _) ⟨w0.heap.size, 0, none⟩ 1 1 [.string (bs f.1), .string (bs f.2)] hx rfl (cell_two_new w0 _ _ _) (by simp [Value.oneCell']) (by unfold maxLen; omega) (by omega) (by simp; omega) ?_
  intro v' w' h2 h3 h4
  refine h v' w' ?_ ?_ (fun e => by have := (h4.1 e).2; omega)
  · rw [List.length_append, fcells_append]; exact h2
  · exact ⟨h3.os, h3.tape, h3.output, Nat.le_trans (by simp) h3.size, fun k hk hne => (h3.block k (by simp; omega) hne).trans (heap_alloc_old w0 _ hk)⟩
def FieldsPost (ls : List (List UInt8)) (w : World) (e : Ending) (w' : World) : Prop :=
  ∃ v, e = .returned (.tuple #[v, .int .i64 (fldE ls : Nat)]) ∧ (∃ a c n, v = .slice a n c) ∧ (fldE ls = 0 → HoldsF w' v (fldL ls)) ∧ Below w.heap.size w w'
end Go.Proofs.YtgnkmfjleecmfaaGreatDoor
namespace Go.Proofs.YtgnkmfjleecmfaaGreatDoor
open Go.RowKit

theorem res_block {w w1 : World} {x y z u : Value} {t : TypeId} (hb : Below (w.alloc (.cells #[x, y, z, u] t)).heap.size (w.alloc (.cells #[x, y, z, u] t)) w1) : w1.heap[w.heap.size]? = some (.cells #[x, y, z, u] t (0, 0)) :=
  (hb.block _ (by simp)).trans (heap_alloc_new w _)
/-- the tail of a slice of texts -/
theorem HoldsS.tail {w : World} {b o c : Nat} {x : List UInt8} {xs : List (List UInt8)} (h : HoldsS w (.slice (some ⟨b, o, none⟩) (x :: xs).length c) (x :: xs)) (hc : 1 < c) : HoldsS w (.slice (some ⟨b, o + 1, none⟩) xs.length (c - 1)) xs := by
  obtain ⟨a, c', hv, hcc, hh⟩ := h
  injection hv with h1 h2 h3
  subst h1 h3
  obtain ⟨b', o', hbo, hbl, hcell⟩ := hh (by simp)
  injection hbo with hbo
  injection hbo with h4 h5
  subst h4 h5
  refine ⟨_, _, rfl, by simp at hcc; omega, fun _ => ⟨b, o + 1, rfl, hbl, fun j hj => ?_⟩⟩
  have := hcell (j + 1) (by simp; omega)
  rw [show o + 1 + j = o + (j + 1) by omega]; exact this
theorem lnE_split (ls : List (List UInt8)) : lnE ls = if firstL ls ≠ 0 then firstL ls else if fldE ls.tail ≠ 0 then fldE ls.tail else if getE (fldL ls.tail) hostK ≠ 0 then getE (fldL ls.tail) hostK else if hostB (getS (fldL ls.tail) hostK) = false then 2 else if getE (fldL ls.tail) rangeK ≠ 0 then getE (fldL ls.tail) rangeK else askedE (getS (fldL ls.tail) rangeK) := by
  unfold lnE whoE whatE
  by_cases h1 : firstL ls ≠ 0
  · rw [if_pos h1, if_pos h1]
  · rw [if_neg h1, if_neg h1]
    by_cases h2 : fldE ls.tail ≠ 0
    · rw [if_pos h2, if_pos h2]
    · rw [if_neg h2, if_neg h2]
      by_cases h3 : getE (fldL ls.tail) hostK ≠ 0
      · rw [if_pos h3, if_pos h3, if_pos h3]
      · rw [if_neg h3, if_neg h3]
        by_cases h4 : hostB (getS (fldL ls.tail) hostK) = false
        · rw [if_pos h4, if_pos h4, if_pos (by decide)]
        · rw [if_neg h4, if_neg h4, if_neg (by decide)]
end Go.Proofs.YtgnkmfjleecmfaaGreatDoor
namespace Go.Proofs.YtgnkmfjleecmfaaGreatDoor
open Go.RowKit

theorem eq_range_in (d : Nat) (x y : Int) (w : World) : (Op.equalIn (d + 2) 105 (.agg #[.int .i64 x, .int .i64 y]) (.agg #[.int .i64 x, .int .i64 y])).run Tryz.prog w = .ok true w := by
  have u4 := Tryz.underlying3
  have hS : Tryz.prog.underlying 105 = some (.struct (Tryz.prog.fieldsOf 105)) := by kernel_rfl
  have hp : Tryz.prog.stoodInHeld 105 = false := by kernel_rfl
  rw [run_equalIn_agg w (d + 1) 105 _ _ hS hp]
  simp only [Program.fieldsOf, Tryz.underlying105]
  go_simp
theorem eq_req_in (d : Nat) (a b : ByteArray) (x y : Int) (w : World) : (Op.equalIn (d + 3) 107 (.agg #[.string a, .string b, .int .i64 x, .int .i64 y]) (.agg #[.string a, .string b, .int .i64 x, .int .i64 y])).run Tryz.prog w = .ok true w := by
  have u3 := Tryz.underlying9
  have hS : Tryz.prog.underlying 107 = some (.struct (Tryz.prog.fieldsOf 107)) := by kernel_rfl
  have hp : Tryz.prog.stoodInHeld 107 = false := by kernel_rfl
  have hi := Tryz.sizeOf105
  have ha := Tryz.isAgg105
  have hin := eq_range_in d x y
  rw [run_equalIn_agg w (d + 2) 107 _ _ hS hp]
  simp only [Program.fieldsOf, Tryz.underlying107]
  go_simp
theorem eq_req (a b : ByteArray) (x y : Int) (w : World) : (binOp .eql 107 (.agg #[.string a, .string b, .int .i64 x, .int .i64 y]) (.agg #[.string a, .string b, .int .i64 x, .int .i64 y])).run Tryz.prog w = .ok (.bool true) w := by
  rw [run_eql_struct, show (10000 : Nat) = 9997 + 3 from rfl, eq_req_in]; rfl
theorem guard_req (op : BinOp) (x y : Operand) (xs ys : Array Value) (w : World) : (eqGuard op 107 x y (.agg xs) (.agg ys)).run Tryz.prog w = .ok () w :=
  run_eqGuard_agg w op 107 x y xs ys (by kernel_rfl)
theorem aparse_at (s P H : ByteArray) (a b n : Int) (e : Nat) (h : askPath s = P.data.toList ∧ askHost s = H.data.toList ∧ askA s = a ∧ askB s = b ∧ askN s = n ∧ askE s = e) (w : World) (hs : s.size ≤ 1000000) (hE : EnvF w) :
    Calls Tryz.prog 52 #[.string s] w fun r w' => r = .returned (.tuple #[.agg #[.string P, .string H, .int .i64 a, .int .i64 b], .int .i64 n, .int .i64 (e : Nat)]) ∧ Below w.heap.size w w' := by
  have := asking_parse s w hs hE
  unfold askV at this
  obtain ⟨h1, h2, h3, h4, h5, h6⟩ := h
  rw [h1, h2, h3, h4, h5, h6, bs_self, bs_self] at this
  exact this
theorem acheck_at (p h : ByteArray) (a b : Int) (e : Nat) (hh : aErr p.data.toList h.data.toList a b = e) (w : World) :
    Calls Tryz.prog 76 #[.agg #[.string p, .string h, .int .i64 a, .int .i64 b]] w fun r w' => r = .returned (.int .i64 (e : Nat)) ∧ Below w.heap.size w w' := by
  have := asking_check p h a b w
  rw [hh] at this
  exact this
theorem dig0 : digL 0 = [48] := by
  unfold digL; rw [if_neg (by decide)]; exact Go.Lib.decDigits_one (by decide)
theorem dig9 : digL 9 = [57] := by
  unfold digL; rw [if_neg (by decide)]; exact Go.Lib.decDigits_one (by decide)
theorem ask09 : askL 0 9 = [98, 121, 116, 101, 115, 61, 48, 45, 57] := by
  unfold askL textR; rw [dig0, dig9]; rfl
theorem qw1 : aPrint (ByteArray.mk #[47, 97]).data.toList (ByteArray.mk #[104]).data.toList 0 9 = (ByteArray.mk #[71, 69, 84, 32, 47, 97, 32, 72, 84, 84, 80, 47, 49, 46, 49, 13, 10, 72, 111, 115, 116, 58, 32, 104, 13, 10, 82, 97, 110, 103, 101, 58, 32, 98, 121, 116, 101, 115, 61, 48, 45, 57, 13, 10, 13, 10]).data.toList ∧ aErr (ByteArray.mk #[47, 97]).data.toList (ByteArray.mk #[104]).data.toList 0 9 = 0 := by
  have h : aErr (ByteArray.mk #[47, 97]).data.toList (ByteArray.mk #[104]).data.toList 0 9 = 0 := by decide +kernel
  refine ⟨?_, h⟩
  unfold aPrint
  rw [if_pos h]
  unfold reqL line3
  rw [ask09]
  decide +kernel
theorem qw2 : askPath ((ByteArray.mk #[71, 69, 84, 32, 47, 97, 32, 72, 84, 84, 80, 47, 49, 46, 49, 13, 10, 72, 111, 115, 116, 58, 32, 104, 13, 10, 82, 97, 110, 103, 101, 58, 32, 98, 121, 116, 101, 115, 61, 48, 45, 57, 13, 10, 13, 10]) ++ ⟨#[120]⟩) = (ByteArray.mk #[47, 97]).data.toList ∧ askHost ((ByteArray.mk #[71, 69, 84, 32, 47, 97, 32, 72, 84, 84, 80, 47, 49, 46, 49, 13, 10, 72, 111, 115, 116, 58, 32, 104, 13, 10, 82, 97, 110, 103, 101, 58, 32, 98, 121, 116, 101, 115, 61, 48, 45, 57, 13, 10, 13, 10]) ++ ⟨#[120]⟩) = (ByteArray.mk #[104]).data.toList ∧ askA ((ByteArray.mk #[71, 69, 84, 32, 47, 97, 32, 72, 84, 84, 80, 47, 49, 46, 49, 13, 10, 72, 111, 115, 116, 58, 32, 104, 13, 10, 82, 97, 110, 103, 101, 58, 32, 98, 121, 116, 101, 115, 61, 48, 45, 57, 13, 10, 13, 10]) ++ ⟨#[120]⟩) = 0 ∧ askB ((ByteArray.mk #[71, 69, 84, 32, 47, 97, 32, 72, 84, 84, 80, 47, 49, 46, 49, 13, 10, 72, 111, 115, 116, 58, 32, 104, 13, 10, 82, 97, 110, 103, 101, 58, 32, 98, 121, 116, 101, 115, 61, 48, 45, 57, 13, 10, 13, 10]) ++ ⟨#[120]⟩) = 9 ∧ askN ((ByteArray.mk #[71, 69, 84, 32, 47, 97, 32, 72, 84, 84, 80, 47, 49, 46, 49, 13, 10, 72, 111, 115, 116, 58, 32, 104, 13, 10, 82, 97, 110, 103, 101, 58, 32, 98, 121, 116, 101, 115, 61, 48, 45, 57, 13, 10, 13, 10]) ++ ⟨#[120]⟩) = 46 ∧ askE ((ByteArray.mk #[71, 69, 84, 32, 47, 97, 32, 72, 84, 84, 80, 47, 49, 46, 49, 13, 10, 72, 111, 115, 116, 58, 32, 104, 13, 10, 82, 97, 110, 103, 101, 58, 32, 98, 121, 116, 101, 115, 61, 48, 45, 57, 13, 10, 13, 10]) ++ ⟨#[120]⟩) = 0 := by decide +kernel
theorem qw3 : askPath (ByteArray.mk #[80, 85, 84, 32, 47, 97, 32, 72, 84, 84, 80, 47, 49, 46, 49, 13, 10, 13, 10]) = (ByteArray.mk #[]).data.toList ∧ askHost (ByteArray.mk #[80, 85, 84, 32, 47, 97, 32, 72, 84, 84, 80, 47, 49, 46, 49, 13, 10, 13, 10]) = (ByteArray.mk #[]).data.toList ∧ askA (ByteArray.mk #[80, 85, 84, 32, 47, 97, 32, 72, 84, 84, 80, 47, 49, 46, 49, 13, 10, 13, 10]) = 0 ∧ askB (ByteArray.mk #[80, 85, 84, 32, 47, 97, 32, 72, 84, 84, 80, 47, 49, 46, 49, 13, 10, 13, 10]) = 0 ∧ askN (ByteArray.mk #[80, 85, 84, 32, 47, 97, 32, 72, 84, 84, 80, 47, 49, 46, 49, 13, 10, 13, 10]) = 0 ∧ askE (ByteArray.mk #[80, 85, 84, 32, 47, 97, 32, 72, 84, 84, 80, 47, 49, 46, 49, 13, 10, 13, 10]) = 14 := by decide +kernel
theorem qw4 : askPath (ByteArray.mk #[71, 69, 84, 32, 47, 97, 32, 72, 84, 84, 80, 47, 49, 46, 49, 13, 10, 13, 10]) = (ByteArray.mk #[]).data.toList ∧ askHost (ByteArray.mk #[71, 69, 84, 32, 47, 97, 32, 72, 84, 84, 80, 47, 49, 46, 49, 13, 10, 13, 10]) = (ByteArray.mk #[]).data.toList ∧ askA (ByteArray.mk #[71, 69, 84, 32, 47, 97, 32, 72, 84, 84, 80, 47, 49, 46, 49, 13, 10, 13, 10]) = 0 ∧ askB (ByteArray.mk #[71, 69, 84, 32, 47, 97, 32, 72, 84, 84, 80, 47, 49, 46, 49, 13, 10, 13, 10]) = 0 ∧ askN (ByteArray.mk #[71, 69, 84, 32, 47, 97, 32, 72, 84, 84, 80, 47, 49, 46, 49, 13, 10, 13, 10]) = 0 ∧ askE (ByteArray.mk #[71, 69, 84, 32, 47, 97, 32, 72, 84, 84, 80, 47, 49, 46, 49, 13, 10, 13, 10]) = 6 := by decide +kernel
theorem qw5 : aErr (ByteArray.mk #[97]).data.toList (ByteArray.mk #[104]).data.toList 0 0 = 2 := by decide +kernel
def Four (w : World) (b : Nat) (x y z u : Value) : Prop := b < w.heap.size ∧ w.cell? ⟨b, 0, none⟩ = some x ∧ w.cell? ⟨b, 1, none⟩ = some y ∧ w.cell? ⟨b, 2, none⟩ = some z ∧ w.cell? ⟨b, 3, none⟩ = some u
theorem Four.below {w w' : World} {b : Nat} {x y z u : Value} (h : Four w b x y z u) (hb : Below w.heap.size w w') : Four w' b x y z u :=
  ⟨Nat.lt_of_lt_of_le h.1 hb.size, (hb.cell (p := ⟨b, 0, none⟩) h.1).trans h.2.1, (hb.cell (p := ⟨b, 1, none⟩) h.1).trans h.2.2.1, (hb.cell (p := ⟨b, 2, none⟩) h.1).trans h.2.2.2.1, (hb.cell (p := ⟨b, 3, none⟩) h.1).trans h.2.2.2.2⟩
theorem Four.alloc {w : World} {b : Nat} {x y z u : Value} (h : Four w b x y z u) (o : Obj) : Four (w.alloc o) b x y z u := h.below ((Below.refl _ _).alloc (Nat.le_refl _) o)
theorem Four.new (w : World) (x y z u : Value) (t : TypeId) : Four (w.alloc (.cells #[x, y, z, u] t)) w.heap.size x y z u := ⟨by simp, box4 w x y z u t⟩
end Go.Proofs.YtgnkmfjleecmfaaGreatDoor
namespace Go.Proofs.YtgnkmfjleecmfaaGreatDoor
open Go.RowKit

theorem aparse_vals (s : ByteArray) : ∃ (P H : ByteArray) (a b n : Int) (e : Nat), askV s = .tuple #[.agg #[.string P, .string H, .int .i64 a, .int .i64 b], .int .i64 n, .int .i64 (e : Nat)] := ⟨_, _, _, _, _, _, rfl⟩
theorem cells_of {W : World} {b : Nat} {x y z u : Value} (h : Four W b x y z u) : (∀ p : BelowOf W, p.world.cell? ⟨b, 0, none⟩ = some x) ∧ (∀ p : BelowOf W, p.world.cell? ⟨b, 1, none⟩ = some y) ∧ (∀ p : BelowOf W, p.world.cell? ⟨b, 2, none⟩ = some z) ∧ (∀ p : BelowOf W, p.world.cell? ⟨b, 3, none⟩ = some u) :=
  ⟨fun p => cell_of p h.1 h.2.1, fun p => cell_of p h.1 h.2.2.1, fun p => cell_of p h.1 h.2.2.2.1, fun p => cell_of p h.1 h.2.2.2.2⟩
end Go.Proofs.YtgnkmfjleecmfaaGreatDoor
namespace Go.Proofs.YtgnkmfjleecmfaaGreatDoor
open Go.RowKit

/-- the end of a head lies behind its beginning, within the text -/
theorem take_next_bd (s : ByteArray) (a : Int) (h : takeErr s a = 0) (h0 : 0 ≤ a) : a + 2 ≤ takeNext s a ∧ takeNext s a ≤ (s.size : Int) := by
  have hin : ¬ (a < 0 ∨ (s.size : Int) < a) := by
    intro hh
    rw [takeErr_out s a hh] at h
    exact absurd h (by decide)
  obtain ⟨i, rfl⟩ : ∃ i : Nat, a = (i : Int) := ⟨a.toNat, by omega⟩
  have hi : i ≤ s.size := by omega
  have hz := h
  rw [takeErr_in s i hi] at hz
  unfold takeNext
  rw [if_pos h, Int.toNat_natCast]
  have := scan_zero (s.data.toList.drop i) 0 hz
  unfold scanAt
  have hl : (s.data.toList.drop i).length = s.size - i := by rw [List.length_drop, size_len]
  omega
theorem headR_bd (s : ByteArray) : ∀ (f : Nat) (a : Int) (xs : List (List UInt8)), 0 ≤ a → (headR f s a xs).2.2 = 0 → 0 < f → a + 2 ≤ (headR f s a xs).2.1 ∧ (headR f s a xs).2.1 ≤ (s.size : Int) := by
  intro f
  induction f with
  | zero => intro a xs _ _ hf; omega
  | succ f ih =>
    intro a xs h0 he _
    by_cases h : takeErr s a = 0
    · obtain ⟨b1, b2⟩ := take_next_bd s a h h0
      by_cases h2 : (takeLine s a).toList.isEmpty = true
      · rw [headR_end f s a xs h h2]
        exact ⟨b1, b2⟩
      · rw [Bool.not_eq_true] at h2
        by_cases h3 : xs.length = 17
        · rw [headR_many f s a xs h h2 h3] at he
          exact absurd he (by decide)
        · rw [headR_more f s a xs h h2 h3] at he ⊢
          rcases f with _ | f
          · simp [headR] at he
          · obtain ⟨c1, c2⟩ := ih (takeNext s a) _ (by omega) he (by omega)
            exact ⟨by omega, c2⟩
    · rw [headR_err f s a xs h] at he
      exact absurd he h
theorem headOf_bd (s : ByteArray) (h : (headOf s).2.2 = 0) : 0 < (headOf s).2.1 ∧ (headOf s).2.1 ≤ (s.size : Int) := by
  have := headR_bd s 18 0 [] (by omega) h (by omega)
  unfold headOf
  exact ⟨by omega, this.2⟩

theorem words_one (p : List UInt8) (h : ∀ c ∈ p, c ≠ 32) : words p = [p] := by
  induction p with
  | nil => rfl
  | cons c t ih =>
    rw [words, if_neg (h c (List.mem_cons_self ..)), ih fun c hc => h c (List.mem_cons_of_mem _ hc)]
theorem words_pre (p r : List UInt8) (h : ∀ c ∈ p, c ≠ 32) : words (p ++ 32 :: r) = p :: words r := by
  induction p with
  | nil => rw [List.nil_append, words, if_pos rfl]
  | cons c t ih =>
    rw [List.cons_append, words, if_neg (h c (List.mem_cons_self ..)), ih fun c hc => h c (List.mem_cons_of_mem _ hc)]
theorem path_no32 (p : List UInt8) (h : pathB p = true) : ∀ c ∈ p, c ≠ 32 := by
  intro c hc e
  subst e
  exact absurd ((pathB_and p h).2.1 32 hc) (by decide)
theorem line1_words (p : List UInt8) (h : pathB p = true) : words (line1 p) = [[71, 69, 84], p, [72, 84, 84, 80, 47, 49, 46, 49]] := by
  have e : line1 p = [71, 69, 84] ++ 32 :: (p ++ 32 :: [72, 84, 84, 80, 47, 49, 46, 49]) := by unfold line1; simp
  rw [e, words_pre _ _ (by decide), words_pre _ _ (path_no32 p h), words_one _ (by decide)]
theorem line2_print (h : List UInt8) (hh : hostB h = true) : line2 h = printL hostK h := by
  have hne := (hostB_and h hh).2.2
  unfold line2 printL tailV
  rw [if_neg (by cases h <;> simp_all), show titL true hostK = [72, 111, 115, 116] by decide]
  rfl
theorem host_gap (h : List UInt8) (hh : hostB h = true) : printOk hostK h = true := by
  obtain ⟨-, h2, h3⟩ := hostB_and h hh
  have hg : ∀ c ∈ h, gapB c = false := by
    intro c hc
    have := hostN_plain c.toNat (h2 c hc)
    have h9 : c ≠ 9 := by rintro rfl; exact absurd (h2 9 hc) (by decide)
    have h32 : c ≠ 32 := by rintro rfl; exact absurd (h2 32 hc) (by decide)
    rw [← gapL_contains]
    unfold gapL
    simp [h9, h32]
  have hgap : ∀ l : List UInt8, (∀ c ∈ l, gapB c = false) → headGap l = false := by
    intro l hl
    cases l with
    | nil => rfl
    | cons c t => exact hl c (List.mem_cons_self ..)
  unfold printOk
  rw [show nameL hostK = true by decide, Bool.true_and, Bool.and_eq_true]
  refine ⟨List.all_eq_true.2 fun c hc => (hostN_plain c.toNat (h2 c hc)).1, ?_⟩
  unfold noGap
  rw [hgap h hg, hgap h.reverse (fun c hc => hg c (List.mem_reverse.1 hc))]
  rfl
theorem rangeL_eq (a b : Int) (h : rErr a b = 0) : askL a b = asksL ++ (Go.Lib.decDigits a.toNat ++ 45 :: Go.Lib.decDigits b.toNat) := by
  obtain ⟨h1, h2, h3⟩ := rErr_ok a b h
  unfold askL textR digL
  rw [if_pos h, if_neg (by omega), if_neg (by omega)]
theorem line3_print (a b : Int) (h : rErr a b = 0) : line3 a b = printL rangeK (askL a b) := by
  unfold line3 printL tailV
  rw [rangeL_eq a b h, if_neg (by simp [asksL]), show titL true rangeK = [82, 97, 110, 103, 101] by decide]
  rfl
theorem dig_gap (n : Nat) (t : List UInt8) : headGap (Go.Lib.decDigits n ++ t).reverse = headGap (Go.Lib.decDigits n ++ t).reverse := rfl
theorem dig_no (n : Nat) : ∀ c ∈ Go.Lib.decDigits n, gapB c = false ∧ c ≠ 45 ∧ c ≠ 47 := by
  intro c hc
  have := digN_bd _ (List.all_eq_true.1 (decDigits_all n) c hc)
  have h9 : c ≠ 9 := by rintro rfl; exact absurd this (by decide)
  have h32 : c ≠ 32 := by rintro rfl; exact absurd this (by decide)
  refine ⟨?_, by rintro rfl; exact absurd this (by decide), by rintro rfl; exact absurd this (by decide)⟩
  rw [← gapL_contains]
  unfold gapL
  simp [h9, h32]
theorem dig_last (n : Nat) (x : List UInt8) : headGap (x ++ Go.Lib.decDigits n).reverse = false := by
  rw [List.reverse_append]
  cases e : (Go.Lib.decDigits n).reverse with
  | nil => exact absurd (List.reverse_eq_nil_iff.1 e) (decDigits_ne n)
  | cons c t => exact (dig_no n c (by rw [← List.mem_reverse, e]; exact List.mem_cons_self ..)).1
theorem range_gap (a b : Int) (h : rErr a b = 0) : printOk rangeK (askL a b) = true := by
  unfold printOk
  rw [show nameL rangeK = true by decide, Bool.true_and, Bool.and_eq_true]
  refine ⟨List.all_eq_true.2 fun c hc => askL_plain a b c hc, ?_⟩
  unfold noGap
  rw [rangeL_eq a b h]
  have e1 : headGap (asksL ++ (Go.Lib.decDigits a.toNat ++ 45 :: Go.Lib.decDigits b.toNat)) = false := by
    unfold asksL; rfl
  have e2 : asksL ++ (Go.Lib.decDigits a.toNat ++ 45 :: Go.Lib.decDigits b.toNat) = (asksL ++ (Go.Lib.decDigits a.toNat ++ [45])) ++ Go.Lib.decDigits b.toNat := by simp
  rw [e1, e2, dig_last]
  rfl
theorem upTo_of (c : UInt8) (x t : List UInt8) (h : ∀ d ∈ x, d ≠ c) : upTo c (x ++ c :: t) = x := by
  unfold upTo
  rw [List.takeWhile_append_of_pos (fun d hd => by simpa using h d hd), List.takeWhile_cons_of_neg (by simp)]
  simp
theorem hasB_of (c : UInt8) (x t : List UInt8) (h : ∀ d ∈ x, d ≠ c) : hasB c (x ++ c :: t) = true := by
  unfold hasB
  rw [upTo_of c x t h]
  simp
theorem behind_of (c : UInt8) (x t : List UInt8) (h : ∀ d ∈ x, d ≠ c) : behind c (x ++ c :: t) = t := by
  unfold behind
  rw [upTo_of c x t h, ← List.drop_drop, List.drop_left]
  rfl
theorem numE_dec (n : Nat) (h : n ≤ 9007199254740991) : numE (Go.Lib.decDigits n) = 0 ∧ numV (Go.Lib.decDigits n) = n := by
  have e : numE (Go.Lib.decDigits n) = 0 := by
    unfold numE
    rw [numBad_dec, if_neg (by decide), decV_decDigits, if_neg (by omega)]
  refine ⟨e, ?_⟩
  unfold numV
  rw [if_pos e, decV_decDigits]
theorem asked_ask (a b : Int) (h : rErr a b = 0) : askedE (askL a b) = 0 ∧ askedA (askL a b) = a ∧ askedB (askL a b) = b := by
  obtain ⟨h1, h2, h3⟩ := rErr_ok a b h
  have hd : (askL a b).drop 6 = Go.Lib.decDigits a.toNat ++ 45 :: Go.Lib.decDigits b.toNat := by rw [rangeL_eq a b h]; rfl
  have hno : ∀ d ∈ Go.Lib.decDigits a.toNat, d ≠ 45 := fun d hd => (dig_no _ d hd).2.1
  have hok : askedOk (askL a b) = true := by
    unfold askedOk
    rw [hd, hasB_of _ _ _ hno, rangeL_eq a b h, Bool.and_true]
    exact List.isPrefixOf_iff_prefix.2 (List.prefix_append _ _)
  have hF : askedF (askL a b) = a.toNat := by unfold askedF; rw [hd, upTo_of _ _ _ hno, (numE_dec _ (by omega)).2]
  have hT : askedT (askL a b) = b.toNat := by unfold askedT; rw [hd, behind_of _ _ _ hno, (numE_dec _ (by omega)).2]
  have he : askedE (askL a b) = 0 := by
    unfold askedE
    rw [if_neg (by rw [hok]; decide), hF, hT, hd, upTo_of _ _ _ hno, behind_of _ _ _ hno]
    unfold twoE
    rw [(numE_dec _ (by omega)).1, (numE_dec _ (by omega)).1, if_neg (by decide), Int.toNat_of_nonneg h1, Int.toNat_of_nonneg (by omega)]
    exact h
  refine ⟨he, ?_, ?_⟩
  · unfold askedA; rw [if_pos he, hF]; exact Int.toNat_of_nonneg h1
  · unfold askedB; rw [if_pos he, hT]; exact Int.toNat_of_nonneg (by omega)

theorem fields_req (h : List UInt8) (a b : Int) (hh : hostB h = true) (hr : rErr a b = 0) : fldE [line2 h, line3 a b] = 0 ∧ fldL [line2 h, line3 a b] = [(hostK, h), (rangeK, askL a b)] := by
  obtain ⟨x1, x2, x3⟩ := print_parse hostK h (host_gap h hh)
  obtain ⟨y1, y2, y3⟩ := print_parse rangeK (askL a b) (range_gap a b hr)
  rw [line2_print h hh, line3_print a b hr]
  refine ⟨?_, ?_⟩
  · unfold fldE fldE fldE
    rw [x3, y3]; rfl
  · unfold fldL
    simp [x1, x2, y1, y2]
theorem hits_req (x y : List UInt8) : getE [(hostK, x), (rangeK, y)] hostK = 0 ∧ getS [(hostK, x), (rangeK, y)] hostK = x ∧ getE [(hostK, x), (rangeK, y)] rangeK = 0 ∧ getS [(hostK, x), (rangeK, y)] rangeK = y := by
  have n1 : (rangeK == hostK) = false := by decide
  have n2 : (hostK == rangeK) = false := by decide
  have e1 : hits [(hostK, x), (rangeK, y)] hostK = [x] := by unfold hits; simp [List.filter, n1]
  have e2 : hits [(hostK, x), (rangeK, y)] rangeK = [y] := by unfold hits; simp [List.filter, n2]
  unfold getE getS
  rw [e1, e2]
  exact ⟨rfl, rfl, rfl, rfl⟩
theorem ln_req (p h : List UInt8) (a b : Int) (he : aErr p h a b = 0) : lnE [line1 p, line2 h, line3 a b] = 0 ∧ wordL [line1 p, line2 h, line3 a b] = p := by
  obtain ⟨hp, hh, hr⟩ := aErr_zero p h a b he
  obtain ⟨f1, f2⟩ := fields_req h a b hh hr
  obtain ⟨g1, g2, g3, g4⟩ := hits_req h (askL a b)
  obtain ⟨k1, k2, k3⟩ := asked_ask a b hr
  have hf : firstL [line1 p, line2 h, line3 a b] = 0 := by
    unfold firstL firstW
    rw [if_neg (by simp), show ([line1 p, line2 h, line3 a b] : List (List UInt8)).getD 0 [] = line1 p from rfl, line1_words p hp]
    simp [hp]
  refine ⟨?_, ?_⟩
  · unfold lnE
    rw [hf, List.tail_cons, f1, f2]
    unfold whoE whatE
    rw [g1, g2, g3, g4, hh, k1]
    rfl
  · unfold wordL
    rw [show ([line1 p, line2 h, line3 a b] : List (List UInt8)).getD 0 [] = line1 p from rfl, line1_words p hp]
    rfl
theorem lines_good (p h : List UInt8) (a b : Int) (he : aErr p h a b = 0) (ha : a ≤ 9223372036854775807) (hb : b ≤ 9223372036854775807) : ∀ x ∈ [line1 p, line2 h, line3 a b], goodLine x := by
  obtain ⟨hp, hh, hr⟩ := aErr_zero p h a b he
  intro x hx
  simp only [List.mem_cons, List.not_mem_nil, or_false] at hx
  rcases hx with rfl | rfl | rfl
  · have := putErr_good _ (line1_put p hp); exact ⟨by simp [line1], this.1, this.2⟩
  · have := putErr_good _ (line2_put h hh); exact ⟨by simp [line2], this.1, this.2⟩
  · have := putErr_good _ (line3_put a b ha hb); exact ⟨by simp [line3], this.1, this.2⟩
/-- what is taken of a printed request with anything behind it -/
theorem ask_req (p h : List UInt8) (a b : Int) (he : aErr p h a b = 0) (ha : a ≤ 9223372036854775807) (hb : b ≤ 9223372036854775807) (s : ByteArray) (rest : List UInt8) (hs : s.data.toList = reqL p h a b ++ rest) :
    askE s = 0 ∧ askPath s = p ∧ askHost s = h ∧ askA s = a ∧ askB s = b ∧ askN s = (reqL p h a b).length := by
  obtain ⟨hp, hh, hr⟩ := aErr_zero p h a b he
  have hd : headOf s = ([line1 p, line2 h, line3 a b], ((reqL p h a b).length : Int), 0) := by
    have := head_ok s rest [line1 p, line2 h, line3 a b] [] [] 18 (lines_good p h a b he ha hb) (by simp) (by simp) (by rw [hs]; unfold reqL; simp)
    unfold headOf
    rw [show (0 : Int) = ((([] : List UInt8).length : Nat) : Int) from rfl, this]
    unfold reqL
    simp
  obtain ⟨l1, l2⟩ := ln_req p h a b he
  obtain ⟨f1, f2⟩ := fields_req h a b hh hr
  obtain ⟨g1, g2, g3, g4⟩ := hits_req h (askL a b)
  obtain ⟨k1, k2, k3⟩ := asked_ask a b hr
  have e0 : askE s = 0 := by unfold askE; rw [hd]; simpa using l1
  refine ⟨e0, ?_, ?_, ?_, ?_, ?_⟩
  · unfold askPath; rw [if_pos e0, hd]; exact l2
  · unfold askHost; rw [if_pos e0, hd]; simp only [List.tail_cons]; rw [f2, g2]
  · unfold askA; rw [if_pos e0, hd]; simp only [List.tail_cons]; rw [f2, g4, k2]
  · unfold askB; rw [if_pos e0, hd]; simp only [List.tail_cons]; rw [f2, g4, k3]
  · unfold askN; rw [if_pos e0, hd]
theorem ask_cut (p h : List UInt8) (a b : Int) (he : aErr p h a b = 0) (ha : a ≤ 9223372036854775807) (hb : b ≤ 9223372036854775807) (s : ByteArray) (k : Nat) (hk : k < (reqL p h a b).length) (hs : s.data.toList = (reqL p h a b).take k) : askE s = 3 := by
  have := head_cut s [line1 p, line2 h, line3 a b] [] [] 18 k (lines_good p h a b he ha hb) (by simp) (by simp) (by unfold reqL at hk; simpa using hk) (by rw [hs]; unfold reqL; simp)
  unfold askE headOf
  rw [show (0 : Int) = ((([] : List UInt8).length : Nat) : Int) from rfl, this]
  rfl
/-- what is taken may be printed, and what is printed of it is taken for the same -/
theorem ask_again (s : ByteArray) (h0 : askE s = 0) : aErr (askPath s) (askHost s) (askA s) (askB s) = 0 ∧ 0 < askN s ∧ askN s ≤ (s.size : Int) ∧ 0 ≤ askA s ∧ askA s ≤ 9007199254740990 ∧ 0 ≤ askB s ∧ askB s ≤ 9007199254740990 := by
  have hh : (headOf s).2.2 = 0 := by
    by_cases h : (headOf s).2.2 = 0
    · exact h
    · unfold askE at h0; rw [if_pos h] at h0; exact h0
  have hl : lnE (headOf s).1 = 0 := by unfold askE at h0; rw [if_neg (by simp [hh])] at h0; exact h0
  have h1 : firstL (headOf s).1 = 0 := by
    by_cases h : firstL (headOf s).1 = 0
    · exact h
    · unfold lnE at hl; rw [if_pos h] at hl; exact hl
  unfold lnE at hl
  rw [if_neg (by simp [h1])] at hl
  have h2 : fldE (headOf s).1.tail = 0 := by
    by_cases h : fldE (headOf s).1.tail = 0
    · exact h
    · rw [if_pos h] at hl; exact hl
  rw [if_neg (by simp [h2])] at hl
  have h3 : whoE (fldL (headOf s).1.tail) = 0 := by
    by_cases h : whoE (fldL (headOf s).1.tail) = 0
    · exact h
    · rw [if_pos h] at hl; exact hl
  rw [if_neg (by simp [h3])] at hl
  have hp : pathB (wordL (headOf s).1) = true := by
    unfold firstL firstW at h1
    unfold wordL
    split at h1
    · exact absurd h1 (by decide)
    split at h1
    · exact absurd h1 (by decide)
    split at h1
    · exact absurd h1 (by decide)
    split at h1
    · exact absurd h1 (by decide)
    split at h1
    · exact absurd h1 (by decide)
    · rename_i hx
      simpa using hx
  have hH : hostB (getS (fldL (headOf s).1.tail) hostK) = true := by
    unfold whoE at h3
    split at h3
    · rename_i hx; exact absurd h3 hx
    split at h3
    · exact absurd h3 (by decide)
    · rename_i hx
      simpa using hx
  have hA : askedE (getS (fldL (headOf s).1.tail) rangeK) = 0 := by
    unfold whatE at hl
    split at hl
    · rename_i hx; exact absurd hl hx
    · exact hl
  have hr : rErr (askedF (getS (fldL (headOf s).1.tail) rangeK)) (askedT (getS (fldL (headOf s).1.tail) rangeK)) = 0 := by
    have hA' := hA
    unfold askedE at hA'
    split at hA'
    · exact absurd hA' (by decide)
    split at hA'
    · rename_i hx; exact absurd hA' hx
    · exact hA'
  obtain ⟨n1, n2⟩ := headOf_bd s hh
  obtain ⟨r1, r2, r3⟩ := rErr_ok _ _ hr
  unfold askPath askHost askA askB askN
  rw [if_pos h0, if_pos h0, if_pos h0, if_pos h0, if_pos h0]
  unfold askedA askedB
  rw [if_pos hA, if_pos hA]
  refine ⟨?_, n1, n2, r1, by omega, by omega, r3⟩
  unfold aErr
  rw [if_neg (by simp [hp, hH])]
  exact hr
theorem ask_bad (s : ByteArray) (h0 : askE s ≠ 0) : askPath s = [] ∧ askHost s = [] ∧ askA s = 0 ∧ askB s = 0 ∧ askN s = 0 := by
  unfold askPath askHost askA askB askN
  rw [if_neg h0, if_neg h0, if_neg h0, if_neg h0, if_neg h0]
  exact ⟨rfl, rfl, rfl, rfl, rfl⟩
end Go.Proofs.YtgnkmfjleecmfaaGreatDoor
namespace Go.Proofs.YtgnkmfjleecmfaaGreatDoor
open Go.RowKit

def reasonOf (code : Int) : ByteArray :=
  if code = 200 then ⟨#[79, 75]⟩ else if code = 206 then ⟨#[80, 97, 114, 116, 105, 97, 108, 32, 67, 111, 110, 116, 101, 110, 116]⟩
  else if code = 400 then ⟨#[66, 97, 100, 32, 82, 101, 113, 117, 101, 115, 116]⟩ else if code = 404 then ⟨#[78, 111, 116, 32, 70, 111, 117, 110, 100]⟩
  else if code = 416 then ⟨#[82, 97, 110, 103, 101, 32, 78, 111, 116, 32, 83, 97, 116, 105, 115, 102, 105, 97, 98, 108, 101]⟩
  else if code = 502 then ⟨#[66, 97, 100, 32, 71, 97, 116, 101, 119, 97, 121]⟩ else ⟨#[79, 116, 104, 101, 114]⟩
def classOf (code : Int) : Int := if code < 100 ∨ 599 < code then 0 else code / 100
def isDigitB (c : UInt8) : Bool := decide (48 ≤ c.toNat) && decide (c.toNat ≤ 57)
def versionL : List UInt8 := [72, 84, 84, 80, 47, 49, 46, 49, 32]
/-- the code of a status line, from what stands behind the version. -/
def codeOf (r : List UInt8) : Int × Nat := match r with
  | a :: b :: c :: t => if t ≠ [] ∧ t.head? ≠ some 32 then (0, 4) else if (isDigitB a && isDigitB b && isDigitB c) = false then (0, 4)
      else if classOf (100 * ((a.toNat : Int) - 48) + 10 * ((b.toNat : Int) - 48) + ((c.toNat : Int) - 48)) = 0 then (0, 4)
      else (100 * ((a.toNat : Int) - 48) + 10 * ((b.toNat : Int) - 48) + ((c.toNat : Int) - 48), 0)
  | _ => (0, 4)
def statusOf (l : List UInt8) : Int × Nat := if putErr l = 4 then (0, 4) else if versionL.isPrefixOf l = false then (0, 13) else codeOf (l.drop 9)
theorem reason_size (code : Int) : (reasonOf code).size ≤ 21 := by
  unfold reasonOf
  repeat' split
  all_goals decide
theorem class_out (code : Int) (h : code < 100 ∨ 599 < code) : classOf code = 0 := if_pos h
theorem class_in (code : Int) (h1 : 100 ≤ code) (h2 : code ≤ 599) : classOf code = code / 100 := if_neg (by omega)
theorem class_pos (code : Int) (h1 : 100 ≤ code) (h2 : code ≤ 599) : 1 ≤ classOf code ∧ classOf code ≤ 5 := by rw [class_in code h1 h2]; omega
theorem class_iff (code : Int) : classOf code = 0 ↔ (code < 100 ∨ 599 < code) := by
  constructor
  · intro h
    rcases Classical.em (code < 100 ∨ 599 < code) with h' | h'
    · exact h'
    · have := class_pos code (by omega) (by omega); omega
  · exact class_out code
/-- the first line of a code, laid. -/
def statusLine (code : Int) : ByteArray := (⟨versionL.toArray⟩ ++ ⟨(Go.Lib.itoa code).toArray⟩ ++ ⟨#[32]⟩) ++ reasonOf code
def printOf (code : Int) : ByteArray := if classOf code = 0 then ⟨#[]⟩ else statusLine code
def printErr (code : Int) : Nat := if classOf code = 0 then 8 else 0
end Go.Proofs.YtgnkmfjleecmfaaGreatDoor
namespace Go.Proofs.YtgnkmfjleecmfaaGreatDoor
open Go.RowKit

/-- the library's variables: MaxLen holds some number, the table of powers its numbers. -/
structure Env (w : World) : Prop where
  m : ∃ m, MaxLenIs w m
  tab : Go.Lib.TabIs Tryz.prog w "internal/strconv.uint64pow10" .u64 Go.Lib.pow10Tab
  big : 5 < w.heap.size

theorem Env.below {w w' : World} (h : Env w) (hb : Below w.heap.size w w') : Env w' :=
  ⟨let ⟨m, hm⟩ := h.m; ⟨m, hm.below hb⟩, var?_below hb g_pow10 h.big h.tab, Nat.lt_of_lt_of_le h.big hb.size⟩
end Go.Proofs.YtgnkmfjleecmfaaGreatDoor
namespace Go.Proofs.YtgnkmfjleecmfaaGreatDoor
open Go.RowKit

set_option maxHeartbeats 1000000 in
theorem status_reason (code : Int) (w : World) :
    Calls Tryz.prog 116 #[.int .i64 code] w fun e w' => e = .returned (.string (reasonOf code)) ∧ w' = w := by
  by_cases h1 : code = 200
  · subst h1; go_enter Tryz.func116, Tryz.ntmps116; go_wp2_with fail; go_ret; exact ⟨ret_str rfl, rfl⟩
  · by_cases h2 : code = 206
    · subst h2; go_enter Tryz.func116, Tryz.ntmps116; go_wp2_with fail; go_ret; exact ⟨ret_str rfl, rfl⟩
    · by_cases h3 : code = 400
      · subst h3; go_enter Tryz.func116, Tryz.ntmps116; go_wp2_with fail; go_ret; exact ⟨ret_str rfl, rfl⟩
      · by_cases h4 : code = 404
        · subst h4; go_enter Tryz.func116, Tryz.ntmps116; go_wp2_with fail; go_ret; exact ⟨ret_str rfl, rfl⟩
        · by_cases h5 : code = 416
          · subst h5; go_enter Tryz.func116, Tryz.ntmps116; go_wp2_with fail; go_ret; exact ⟨ret_str rfl, rfl⟩
          · by_cases h6 : code = 502
            · subst h6; go_enter Tryz.func116, Tryz.ntmps116; go_wp2_with fail; go_ret; exact ⟨ret_str rfl, rfl⟩
            · have H : Hid (reasonOf code = ⟨#[79, 116, 104, 101, 114]⟩) := Lib.hid (by unfold reasonOf; rw [if_neg h1, if_neg h2, if_neg h3, if_neg h4, if_neg h5, if_neg h6])
              have k1 : (code == 200) = false := by rw [beq_eq_false_iff_ne]; exact h1
              have k2 : (code == 206) = false := by rw [beq_eq_false_iff_ne]; exact h2
              have k3 : (code == 400) = false := by rw [beq_eq_false_iff_ne]; exact h3
              have k4 : (code == 404) = false := by rw [beq_eq_false_iff_ne]; exact h4
              have k5 : (code == 416) = false := by rw [beq_eq_false_iff_ne]; exact h5
              have k6 : (code == 502) = false := by rw [beq_eq_false_iff_ne]; exact h6
              clear h1 h2 h3 h4 h5 h6
              go_enter Tryz.func116, Tryz.ntmps116
              go_wp2_with fail
              go_ret
              exact ⟨ret_str H.out.symm, rfl⟩

theorem status_class (code : Int) (w : World) :
    Calls Tryz.prog 114 #[.int .i64 code] w fun e w' => e = .returned (.int .i64 (classOf code)) ∧ w' = w := by
  by_cases h : code < 100
  · have H := Lib.hid (class_out code (.inl h))
    go_enter Tryz.func114, Tryz.ntmps114; go_wp2_with fail; go_ret; exact ⟨ret_int H.out.symm, rfl⟩
  · by_cases h2 : 599 < code
    · have H := Lib.hid (class_out code (.inr h2))
      go_enter Tryz.func114, Tryz.ntmps114; go_wp2_with fail; go_ret; exact ⟨ret_int H.out.symm, rfl⟩
    · have H := Lib.hid (class_in code (by omega) (by omega))
      go_enter Tryz.func114, Tryz.ntmps114; go_wp2_with fail; go_ret; exact ⟨ret_int H.out.symm, rfl⟩
theorem ref_class (code : Int) (w : World) :
    Calls Tryz.prog 60 #[.int .i64 code] w fun e w' => e = .returned (.int .i64 (classOf code)) ∧ w' = w := by
  by_cases h : code < 100
  · have H := Lib.hid (class_out code (.inl h))
    go_enter Tryz.func60, Tryz.ntmps60; go_wp2_with fail; go_ret; exact ⟨ret_int H.out.symm, rfl⟩
  · by_cases h2 : 599 < code
    · have H := Lib.hid (class_out code (.inr h2))
      go_enter Tryz.func60, Tryz.ntmps60; go_wp2_with fail; go_ret; exact ⟨ret_int H.out.symm, rfl⟩
    · have H := Lib.hid (class_in code (by omega) (by omega))
      go_enter Tryz.func60, Tryz.ntmps60; go_wp2_with fail; go_ret; exact ⟨ret_int H.out.symm, rfl⟩

def codesL : List Int := [200, 206, 400, 404, 416, 502]
def reasonsL : List ByteArray := [⟨#[79, 75]⟩, ⟨#[80, 97, 114, 116, 105, 97, 108, 32, 67, 111, 110, 116, 101, 110, 116]⟩, ⟨#[66, 97, 100, 32, 82, 101, 113, 117, 101, 115, 116]⟩, ⟨#[78, 111, 116, 32, 70, 111, 117, 110, 100]⟩,
  ⟨#[82, 97, 110, 103, 101, 32, 78, 111, 116, 32, 83, 97, 116, 105, 115, 102, 105, 97, 98, 108, 101]⟩, ⟨#[66, 97, 100, 32, 71, 97, 116, 101, 119, 97, 121]⟩]
set_option maxRecDepth 100000 in
set_option maxHeartbeats 1000000 in
theorem ref_reason (code : Int) (w : World) :
    Calls Tryz.prog 61 #[.int .i64 code] w fun e w' => e = .returned (.string (reasonOf code)) ∧ Below w.heap.size w w' := by
  go_enter Tryz.func61, Tryz.ntmps61
  go_wp2_with fail
  go_loop [5] (fun j => ∃ k : Nat, k ≤ 6 ∧ j = .int .i64 k ∧ Hid (∀ j, j < k → codesL.getD j 0 ≠ code)) (fun j => 6 - (intOf j).toNat)
  case atStart => exact ⟨0, by omega, rfl, Lib.hid (fun j hj => by omega)⟩
  case round =>
    obtain ⟨k, hk, rfl, Hno⟩ := hrel
    have hb : Below w.heap.size w ((w.alloc (.cells #[.int .i64 200, .int .i64 206, .int .i64 400, .int .i64 404, .int .i64 416, .int .i64 502] 3)).alloc (.cells #[.string ⟨#[79, 75]⟩, .string ⟨#[80, 97, 114, 116, 105, 97, 108, 32, 67, 111, 110, 116, 101, 110, 116]⟩, .string ⟨#[66, 97, 100, 32, 82, 101, 113, 117, 101, 115, 116]⟩, .string ⟨#[78, 111, 116, 32, 70, 111, 117, 110, 100]⟩, .string ⟨#[82, 97, 110, 103, 101, 32, 78, 111, 116, 32, 83, 97, 116, 105, 115, 102, 105, 97, 98, 108, 101]⟩, .string ⟨#[66, 97, 100, 32, 71, 97, 116, 101, 119, 97, 121]⟩] 9)) := ((Below.refl _ _).alloc (Nat.le_refl _) _).alloc (by simp) _
    rcases (show k = 0 ∨ k = 1 ∨ k = 2 ∨ k = 3 ∨ k = 4 ∨ k = 5 ∨ k = 6 by omega) with rfl | rfl | rfl | rfl | rfl | rfl | rfl
    · by_cases h : code = 200
      · subst h
        go_wp2_with fail
        go_ret
        exact ⟨ret_str rfl, hb⟩
      · have h1 : ((200 : Int) == code) = false := by rw [beq_eq_false_iff_ne]; exact fun e => h e.symm
        have Hn : Hid (∀ j, j < 1 → codesL.getD j 0 ≠ code) := Lib.hid (fun j hj => by
          by_cases e : j = 0
          · subst e; exact fun e => h e.symm
          · exact Hno.out j (by omega))
        clear h Hno
        go_wp2_with fail
        go_round
        case rel => exact ⟨1, by omega, rfl, Hn⟩
        case measure => simp [intOf]
    · by_cases h : code = 206
      · subst h
        go_wp2_with fail
        go_ret
        exact ⟨ret_str rfl, hb⟩
      · have h1 : ((206 : Int) == code) = false := by rw [beq_eq_false_iff_ne]; exact fun e => h e.symm
        have Hn : Hid (∀ j, j < 2 → codesL.getD j 0 ≠ code) := Lib.hid (fun j hj => by
          by_cases e : j = 1
          · subst e; exact fun e => h e.symm
          · exact Hno.out j (by omega))
        clear h Hno
        go_wp2_with fail
        go_round
        case rel => exact ⟨2, by omega, rfl, Hn⟩
        case measure => simp [intOf]
    · by_cases h : code = 400
      · subst h
        go_wp2_with fail
        go_ret
        exact ⟨ret_str rfl, hb⟩
      · have h1 : ((400 : Int) == code) = false := by rw [beq_eq_false_iff_ne]; exact fun e => h e.symm
        have Hn : Hid (∀ j, j < 3 → codesL.getD j 0 ≠ code) := Lib.hid (fun j hj => by
          by_cases e : j = 2
          · subst e; exact fun e => h e.symm
          · exact Hno.out j (by omega))
        clear h Hno
        go_wp2_with fail
        go_round
        case rel => exact ⟨3, by omega, rfl, Hn⟩
        case measure => simp [intOf]
    · by_cases h : code = 404
      · subst h
        go_wp2_with fail
        go_ret
        exact ⟨ret_str rfl, hb⟩
      · have h1 : ((404 : Int) == code) = false := by rw [beq_eq_false_iff_ne]; exact fun e => h e.symm
        have Hn : Hid (∀ j, j < 4 → codesL.getD j 0 ≠ code) := Lib.hid (fun j hj => by
          by_cases e : j = 3
          · subst e; exact fun e => h e.symm
          · exact Hno.out j (by omega))
        clear h Hno
        go_wp2_with fail
        go_round
        case rel => exact ⟨4, by omega, rfl, Hn⟩
        case measure => simp [intOf]
    · by_cases h : code = 416
      · subst h
        go_wp2_with fail
        go_ret
        exact ⟨ret_str rfl, hb⟩
      · have h1 : ((416 : Int) == code) = false := by rw [beq_eq_false_iff_ne]; exact fun e => h e.symm
        have Hn : Hid (∀ j, j < 5 → codesL.getD j 0 ≠ code) := Lib.hid (fun j hj => by
          by_cases e : j = 4
          · subst e; exact fun e => h e.symm
          · exact Hno.out j (by omega))
        clear h Hno
        go_wp2_with fail
        go_round
        case rel => exact ⟨5, by omega, rfl, Hn⟩
        case measure => simp [intOf]
    · by_cases h : code = 502
      · subst h
        go_wp2_with fail
        go_ret
        exact ⟨ret_str rfl, hb⟩
      · have h1 : ((502 : Int) == code) = false := by rw [beq_eq_false_iff_ne]; exact fun e => h e.symm
        have Hn : Hid (∀ j, j < 6 → codesL.getD j 0 ≠ code) := Lib.hid (fun j hj => by
          by_cases e : j = 5
          · subst e; exact fun e => h e.symm
          · exact Hno.out j (by omega))
        clear h Hno
        go_wp2_with fail
        go_round
        case rel => exact ⟨6, by omega, rfl, Hn⟩
        case measure => simp [intOf]
    · have H : Hid (reasonOf code = ⟨#[79, 116, 104, 101, 114]⟩) := Lib.hid (by
        have n0 := Hno.out 0 (by decide)
        have n1 := Hno.out 1 (by decide)
        have n2 := Hno.out 2 (by decide)
        have n3 := Hno.out 3 (by decide)
        have n4 := Hno.out 4 (by decide)
        have n5 := Hno.out 5 (by decide)
        simp only [codesL, List.getD_cons_zero, List.getD_cons_succ] at n0 n1 n2 n3 n4 n5
        unfold reasonOf
        rw [if_neg n0.symm, if_neg n1.symm, if_neg n2.symm, if_neg n3.symm, if_neg n4.symm, if_neg n5.symm])
      clear Hno
      go_wp2_with fail
      go_ret
      exact ⟨ret_str H.out.symm, hb⟩
end Go.Proofs.YtgnkmfjleecmfaaGreatDoor
namespace Go.Proofs.YtgnkmfjleecmfaaGreatDoor
open Go.RowKit

theorem below_grow (w : World) (k : Nat) (os : Array Obj) : Below w.heap.size w (Go.Sort.grow (w.drewN k) os) := by
  refine ⟨rfl, rfl, rfl, ?_, fun j hj => ?_⟩
  · show w.heap.size ≤ (w.heap ++ os).size
    simp
  · show (w.heap ++ os)[j]? = w.heap[j]?
    rw [Array.getElem?_append_left hj]

theorem itoa_any (n : Int) (h0 : -9223372036854775808 ≤ n) (h1 : n ≤ 9223372036854775807) (w : World) (hE : Env w) :
    Calls Tryz.prog 115 #[.int .i64 n] w fun e w' => e = .returned (.string (bs (Go.Lib.itoa n))) ∧ Below w.heap.size w w' :=
  (Tryz.strconv_Itoa n h0 h1 w hE.tab).mono fun _ _ ⟨he, k, os, hw⟩ => ⟨he, hw ▸ below_grow w k os⟩

theorem status_print (code : Int) (w : World) (hE : Env w) (h0 : -9223372036854775808 ≤ code) (h1 : code ≤ 9223372036854775807) :
    Calls Tryz.prog 80 #[.int .i64 code] w fun e w' => e = .returned (.tuple #[.string (printOf code), .int .i64 (printErr code)]) ∧ Below w.heap.size w w' := by
  by_cases hc : classOf code = 0
  · have hP : Hid (printOf code = ⟨#[]⟩ ∧ printErr code = 8) := Lib.hid ⟨if_pos hc, if_pos hc⟩
    go_enter Tryz.func80, Tryz.ntmps80
    go_wp2_with (go_at_call 114; refine (status_class _ _).mono ?_; rintro e w' ⟨rfl, rfl⟩)
    go_ret2
    exact ⟨by rw [hP.out.1, hP.out.2]; rfl, Below.refl _ _⟩
  · have hP : Hid (printOf code = statusLine code ∧ printErr code = 0) := Lib.hid ⟨if_neg hc, if_neg hc⟩
    have hcb : (classOf code == 0) = false := by rw [beq_eq_false_iff_ne]; exact hc
    have hl := itoa_len code h0 h1
    have hr := reason_size code
    obtain ⟨I, hI⟩ : ∃ I, I = bs (Go.Lib.itoa code) := ⟨_, rfl⟩
    have hIs : I.size ≤ 21 := by rw [hI, bs_size]; exact hl
    have y1 : (ByteArray.mk #[72, 84, 84, 80, 47, 49, 46, 49, 32]).size + I.size ≤ 9223372036854775807 := by show 9 + _ ≤ _; omega
    have y2 : ((ByteArray.mk #[72, 84, 84, 80, 47, 49, 46, 49, 32]) ++ I).size + (ByteArray.mk #[32]).size ≤ 9223372036854775807 := by rw [ByteArray.size_append]; show 9 + _ + 1 ≤ _; omega
    have y3 : ((ByteArray.mk #[72, 84, 84, 80, 47, 49, 46, 49, 32]) ++ I ++ ByteArray.mk #[32]).size + (reasonOf code).size ≤ 9223372036854775807 := by rw [ByteArray.size_append, ByteArray.size_append]; show 9 + _ + 1 + _ ≤ _; omega
    have HI := Lib.hid hI
    have HE := Lib.hid hE
    clear hc hI hE
    go_enter Tryz.func80, Tryz.ntmps80
    go_wp2_with (go_at_call 114; refine (status_class _ _).mono ?_; rintro e w' ⟨rfl, rfl⟩)
    refine (itoa_any code h0 h1 _ HE.out).mono ?_
    rw [← HI.out]
    rintro e w1 ⟨rfl, hb⟩
    go_wp2_with (go_at_call 116; refine (status_reason _ _).mono ?_; rintro e w' ⟨rfl, rfl⟩)
    go_ret2
    refine ⟨?_, hb⟩
    rw [hP.out.1, hP.out.2]
    unfold statusLine
    rw [HI.out]
    rfl

set_option maxHeartbeats 1000000 in
theorem ref_print (code : Int) (w : World) (h0 : -9223372036854775808 ≤ code) (h1 : code ≤ 9223372036854775807) :
    Calls Tryz.prog 32 #[.int .i64 code] w fun e w' => e = .returned (.tuple #[.string (printOf code), .int .i64 (printErr code)]) ∧ Below w.heap.size w w' := by
  by_cases hc : classOf code = 0
  · have hP : Hid (printOf code = ⟨#[]⟩ ∧ printErr code = 8) := Lib.hid ⟨if_pos hc, if_pos hc⟩
    go_enter Tryz.func32, Tryz.ntmps32
    go_wp2_with (go_at_call 60; refine (ref_class _ _).mono ?_; rintro e w' ⟨rfl, rfl⟩)
    go_ret2
    exact ⟨by rw [hP.out.1, hP.out.2]; rfl, Below.refl _ _⟩
  · have hP : Hid (printOf code = statusLine code ∧ printErr code = 0) := Lib.hid ⟨if_neg hc, if_neg hc⟩
    have hcb : (classOf code == 0) = false := by rw [beq_eq_false_iff_ne]; exact hc
    have hin : 100 ≤ code ∧ code ≤ 599 := by
      rcases Classical.em (code < 100 ∨ 599 < code) with h | h
      · exact absurd (class_out code h) hc
      · omega
    obtain ⟨n, rfl⟩ := Int.eq_ofNat_of_zero_le (show 0 ≤ code by omega)
    have hl := itoa_len (n : Int) h0 h1
    have hit := itoa_nonneg (n : Int) (by omega)
    rw [Int.toNat_natCast] at hit
    have hr := reason_size (n : Int)
    obtain ⟨I, hI⟩ : ∃ I, I = bs (Go.Lib.decDigits n) := ⟨_, rfl⟩
    have hIs : I.size ≤ 21 := by rw [hI, bs_size, ← hit]; exact hl
    have y1 : (ByteArray.mk #[72, 84, 84, 80, 47, 49, 46, 49, 32]).size + I.size ≤ 9223372036854775807 := by show 9 + _ ≤ _; omega
    have y2 : ((ByteArray.mk #[72, 84, 84, 80, 47, 49, 46, 49, 32]) ++ I).size + (ByteArray.mk #[32]).size ≤ 9223372036854775807 := by rw [ByteArray.size_append]; show 9 + _ + 1 ≤ _; omega
    have y3 : ((ByteArray.mk #[72, 84, 84, 80, 47, 49, 46, 49, 32]) ++ I ++ ByteArray.mk #[32]).size + (reasonOf (n : Int)).size ≤ 9223372036854775807 := by rw [ByteArray.size_append, ByteArray.size_append]; show 9 + _ + 1 + _ ≤ _; omega
    have hdg := ref_digits n n w (Nat.le_refl _) (by omega)
    rw [← hI] at hdg
    have Hdg := Lib.hid hdg
    have HI := Lib.hid (hI.trans (congrArg bs hit.symm))
    clear hc hI hit hdg hl
    go_enter Tryz.func32, Tryz.ntmps32
    go_wp2_with (go_at_call 60; refine (ref_class _ _).mono ?_; rintro e w' ⟨rfl, rfl⟩)
    refine Hdg.out.mono ?_
    rintro e w1 ⟨rfl, rfl⟩
    go_wp2_with (go_at_call 61; refine (ref_reason _ _).mono ?_; rintro e w' ⟨rfl, hb⟩)
    go_ret2
    refine ⟨?_, by assumption⟩
    rw [hP.out.1, hP.out.2]
    unfold statusLine
    rw [HI.out]
    rfl
end Go.Proofs.YtgnkmfjleecmfaaGreatDoor
namespace Go.Proofs.YtgnkmfjleecmfaaGreatDoor
open Go.RowKit

def digitSet : List UInt8 := [48, 49, 50, 51, 52, 53, 54, 55, 56, 57]
theorem digitSet_iff (c : UInt8) : digitSet.contains c = isDigitB c := by
  have h : ∀ n : Fin 256, digitSet.contains (UInt8.ofNat n.val) = isDigitB (UInt8.ofNat n.val) := by decide +kernel
  have := h ⟨c.toNat, c.toNat_lt⟩
  simpa using this

theorem dropWhile_nil {p : UInt8 → Bool} (l : List UInt8) : l.dropWhile p = [] ↔ l.all p = true := by
  induction l with
  | nil => simp
  | cons a t ih =>
    by_cases h : p a = true
    · rw [List.dropWhile_cons_of_pos h, ih]; simp [h]
    · rw [List.dropWhile_cons_of_neg h]; simp [h]

theorem trimS_empty (l cs : List UInt8) : (Go.Lib.trimS l cs).isEmpty = l.all (cs.contains ·) := by
  unfold Go.Lib.trimS Go.Lib.trimLeftS Go.Lib.trimRightS
  rw [Bool.eq_iff_iff, List.isEmpty_iff]
  constructor
  · intro h
    have h1 := (dropWhile_nil _).1 h
    rw [List.all_reverse] at h1
    have h2 : (l.reverse.dropWhile (cs.contains ·)) = [] := by
      cases hd : l.reverse.dropWhile (cs.contains ·) with
      | nil => rfl
      | cons a t =>
        have hn := List.head?_dropWhile_not (cs.contains ·) l.reverse
        rw [hd] at h1 hn
        simp only [List.head?_cons] at hn
        simp only [List.all_cons, Bool.and_eq_true] at h1
        rw [h1.1] at hn
        exact absurd hn (by decide)
    have h3 := (dropWhile_nil _).1 h2
    rwa [List.all_reverse] at h3
  · intro h
    have h2 : (l.reverse.dropWhile (cs.contains ·)) = [] := (dropWhile_nil _).2 (by rw [List.all_reverse]; exact h)
    rw [h2]; rfl

theorem digits_trim (l : List UInt8) : (Go.Lib.trimS l digitSet).isEmpty = l.all isDigitB := by
  rw [trimS_empty]
  congr 1
  funext c
  exact digitSet_iff c

theorem three (l : List UInt8) (h : 3 ≤ l.length) : l = l[0] :: l[1] :: l[2] :: l.drop 3 := by
  match l, h with
  | a :: b :: c :: t, _ => rfl

theorem codeOf_short (l : List UInt8) (h : l.length < 3) : codeOf l = (0, 4) := by
  match l, h with
  | [], _ => rfl
  | [_], _ => rfl
  | [_, _], _ => rfl
/-- the three digits' number. -/
def numOf (a b c : UInt8) : Int := 100 * ((a.toNat : Int) - 48) + 10 * ((b.toNat : Int) - 48) + ((c.toNat : Int) - 48)
theorem codeOf_cons (a b c : UInt8) (t : List UInt8) : codeOf (a :: b :: c :: t) = if t ≠ [] ∧ t.head? ≠ some 32 then (0, 4) else if (isDigitB a && isDigitB b && isDigitB c) = false then (0, 4)
      else if classOf (numOf a b c) = 0 then (0, 4) else (numOf a b c, 0) := rfl
theorem codeOf_tail (l : List UInt8) (h : 3 < l.length) (h2 : l[3] ≠ 32) : codeOf l = (0, 4) := by
  match l, h, h2 with
  | a :: b :: c :: d :: t, _, h2 =>
    rw [codeOf_cons, if_pos ⟨by simp, by simpa using h2⟩]
theorem codeOf_main (l : List UInt8) (h : 3 ≤ l.length) (h2 : ∀ h3 : 3 < l.length, l[3] = 32) :
    codeOf l = if (isDigitB l[0] && isDigitB l[1] && isDigitB l[2]) = false then (0, 4) else if classOf (numOf l[0] l[1] l[2]) = 0 then (0, 4) else (numOf l[0] l[1] l[2], 0) := by
  match l, h, h2 with
  | [a, b, c], _, _ =>
    rw [codeOf_cons]; rfl
  | a :: b :: c :: d :: t, _, h2 =>
    have hd : d = 32 := h2 (by simp)
    rw [codeOf_cons, if_neg (by simp [hd])]; rfl
theorem codeOf_digits (l : List UInt8) (h : 3 ≤ l.length) (hd : (isDigitB l[0] && isDigitB l[1] && isDigitB l[2]) = false) : codeOf l = (0, 4) := by
  by_cases h3 : 3 < l.length
  · by_cases h4 : l[3] = 32
    · rw [codeOf_main l h (fun _ => h4), if_pos hd]
    · exact codeOf_tail l h3 h4
  · rw [codeOf_main l h (fun h' => absurd h' h3), if_pos hd]

theorem digit_bd (c : UInt8) (h : isDigitB c = true) : 48 ≤ c.toNat ∧ c.toNat ≤ 57 := by
  unfold isDigitB at h; simpa using h

theorem atoi_three (a b c : UInt8) (ha : isDigitB a = true) (hb : isDigitB b = true) (hc : isDigitB c = true) : Go.Lib.atoi [a, b, c] = some (numOf a b c) := by
  obtain ⟨a1, a2⟩ := digit_bd a ha
  obtain ⟨b1, b2⟩ := digit_bd b hb
  obtain ⟨c1, c2⟩ := digit_bd c hc
  have d1 : Go.Lib.digitVal a = some (a.toNat - 48) := if_pos ⟨a1, a2⟩
  have d2 : Go.Lib.digitVal b = some (b.toNat - 48) := if_pos ⟨b1, b2⟩
  have d3 : Go.Lib.digitVal c = some (c.toNat - 48) := if_pos ⟨c1, c2⟩
  have n1 : (a == 45) = false := by rw [beq_eq_false_iff_ne]; intro e; subst e; simp at a1
  have n2 : (a == 43) = false := by rw [beq_eq_false_iff_ne]; intro e; subst e; simp at a1
  unfold Go.Lib.atoi Go.Lib.decNat
  simp only [n1, n2, Go.Lib.decFrom, d1, d2, d3, List.isEmpty_cons, Bool.false_eq_true, if_false, Option.map_some]
  unfold numOf
  congr 1
  omega
end Go.Proofs.YtgnkmfjleecmfaaGreatDoor
namespace Go.Proofs.YtgnkmfjleecmfaaGreatDoor
open Go.RowKit

theorem prefix_take (l : List UInt8) : versionL.isPrefixOf l = (l.take 9 == versionL) := by
  rw [Bool.eq_iff_iff, List.isPrefixOf_iff_prefix, beq_iff_eq, List.prefix_iff_eq_take]
  exact ⟨fun h => h.symm, fun h => h.symm⟩
theorem status_form (l : List UInt8) (h : putErr l = 4) : statusOf l = (0, 4) := if_pos h
theorem status_version (l : List UInt8) (h : putErr l ≠ 4) (h2 : versionL.isPrefixOf l = false) : statusOf l = (0, 13) := by
  unfold statusOf; rw [if_neg h, if_pos h2]
theorem status_code (l : List UInt8) (h : putErr l ≠ 4) (h2 : versionL.isPrefixOf l = true) : statusOf l = codeOf (l.drop 9) := by
  unfold statusOf; rw [if_neg h, if_neg (by simp [h2])]
theorem putErr_not4 (l : List UInt8) (h : plainL l) : putErr l ≠ 4 := by
  rw [putErr_ok l fun _ hk => h _ (List.getElem_mem hk)]; split <;> decide
theorem not_digit (c : UInt8) (h : c.toNat < 48 ∨ 57 < c.toNat) : isDigitB c = false := by
  unfold isDigitB; rcases h with h | h <;> simp <;> omega
theorem is_digit (c : UInt8) (h1 : 48 ≤ c.toNat) (h2 : c.toNat ≤ 57) : isDigitB c = true := by
  unfold isDigitB; simp [h1, h2]
theorem status_fin (l : List UInt8) (n : Int) (e : Nat) (h : statusOf l = (n, e)) : Ending.returned (.tuple #[.int .i64 n, .int .i64 e]) = .returned (.tuple #[.int .i64 (statusOf l).1, .int .i64 (statusOf l).2]) := by rw [h]

/-- what stands behind the version, in the walk's own spelling. -/
theorem status_split (s : ByteArray) (h : 12 ≤ s.size) (hcode : statusOf s.data.toList = codeOf (s.data.toList.drop 9)) : ∃ a b c : UInt8,
    (∀ h, ((s.extract 9 s.size)[0]'h).toNat = a.toNat) ∧ (∀ h, ((s.extract 9 s.size)[1]'h).toNat = b.toNat) ∧ (∀ h, ((s.extract 9 s.size)[2]'h).toNat = c.toNat) ∧
    ((∃ h, (s.extract 9 s.size)[3]'h ≠ 32) → statusOf s.data.toList = (0, 4)) ∧
    ((isDigitB a && isDigitB b && isDigitB c) = false → statusOf s.data.toList = (0, 4)) ∧
    ((∀ h, (s.extract 9 s.size)[3]'h = 32) → isDigitB a = true → isDigitB b = true → isDigitB c = true → statusOf s.data.toList = if classOf (numOf a b c) = 0 then (0, 4) else (numOf a b c, 0)) := by
  have hRl : (s.extract 9 s.size).data.toList = s.data.toList.drop 9 := by rw [extract_bs, bs_data, ← size_len s, List.take_length]
  have hRs : (s.extract 9 s.size).size = s.size - 9 := by rw [← size_len, hRl, List.length_drop, size_len]
  rw [← hRl] at hcode
  generalize s.extract 9 s.size = R at *
  have hz : 3 ≤ R.data.toList.length := by rw [size_len, hRs]; omega
  refine ⟨R.data.toList[0], R.data.toList[1], R.data.toList[2], fun _ => rfl, fun _ => rfl, fun _ => rfl, ?_, ?_, ?_⟩
  · rintro ⟨h3, hne⟩
    exact hcode.trans (codeOf_tail _ (by rw [size_len]; exact h3) hne)
  · exact fun hd => hcode.trans (codeOf_digits _ hz hd)
  · intro h3 ha hb hc
    rw [hcode, codeOf_main _ hz (fun h' => h3 (by rw [← size_len]; exact h')), if_neg (by rw [ha, hb, hc]; decide)]

end Go.Proofs.YtgnkmfjleecmfaaGreatDoor
namespace Go.Proofs.YtgnkmfjleecmfaaGreatDoor
open Go.RowKit

theorem status_digits (s : ByteArray) (w : World) (hs : s.size ≤ 9223372036854775807) :
    Calls Tryz.prog 161 #[.string s] w fun e w' => e = .returned (.bool (s.data.toList.all isDigitB)) ∧ Below w.heap.size w w' := by
  have hcon : Calls Tryz.prog 121 #[.string s, .string ⟨#[48, 49, 50, 51, 52, 53, 54, 55, 56, 57]⟩] w (fun e w' => e = .returned (.string (bs (Go.Lib.trimS s.data.toList digitSet))) ∧ Below w.heap.size w w') :=
    Any.strings_Trim_laid Tryz.lays160 (by kernel_rfl) s ⟨#[48, 49, 50, 51, 52, 53, 54, 55, 56, 57]⟩ w hs (by decide) (Go.Proofs.ascii_of_all (by decide))
  have he : (bs (Go.Lib.trimS s.data.toList digitSet)).toList.isEmpty = s.data.toList.all isDigitB := by
    rw [isEmpty_bs]; exact digits_trim _
  obtain ⟨R, hR⟩ : ∃ R, R = bs (Go.Lib.trimS s.data.toList digitSet) := ⟨_, rfl⟩
  rw [← hR] at hcon he
  have Hcon := Lib.hid hcon
  have He := Lib.hid he
  clear hR hcon he
  go_enter Tryz.func161, Tryz.ntmps161
  go_wp2_with fail
  refine Hcon.out.mono ?_
  rintro e w' ⟨rfl, hb⟩
  go_wp2_with fail
  go_ret
  exact ⟨ret_bool He.out, hb⟩

/-- may what stands behind the version be? -/
def shapeB (l : List UInt8) : Bool := decide (3 ≤ l.length) && (decide (l.length = 3) || l[3]? == some 32) && ((l.take 3).all isDigitB)
theorem shape_short (l : List UInt8) (h : l.length < 3) : shapeB l = false := by
  unfold shapeB; rw [decide_eq_false (by omega)]; rfl
theorem shape_tail (l : List UInt8) (h : 3 < l.length) (h2 : l[3]? ≠ some 32) : shapeB l = false := by
  unfold shapeB
  have : (l[3]? == some 32) = false := by rw [beq_eq_false_iff_ne]; exact h2
  rw [this, decide_eq_false (show ¬ l.length = 3 by omega)]; simp
theorem shape_main (l : List UInt8) (h : 3 ≤ l.length) (h2 : l.length = 3 ∨ l[3]? = some 32) : shapeB l = (isDigitB l[0] && isDigitB l[1] && isDigitB l[2]) := by
  unfold shapeB
  have h3 : (decide (l.length = 3) || l[3]? == some 32) = true := by
    rcases h2 with h2 | h2
    · rw [decide_eq_true h2]; rfl
    · rw [h2]; simp
  rw [decide_eq_true h, h3, Bool.true_and, Bool.true_and]
  match l, h with
  | a :: b :: c :: t, _ => simp [Bool.and_assoc]
theorem piece1 (s : ByteArray) (k : Nat) (h : k < s.size) : (s.extract k (k + 1)).data.toList = [s[k]] := by
  rw [extract_bs, bs_data, List.take_succ_eq_append_getElem (by simpa using h), List.drop_append_of_le_length (by simp; omega), List.drop_of_length_le (by simp; omega)]
  rfl

theorem digit_at (t : ByteArray) (b : UInt8) (B : Bool) (w : World) (hs : t.size ≤ 9223372036854775807) (hb : t.data.toList = [b]) (hB : isDigitB b = B) :
    Calls Tryz.prog 161 #[.string t] w fun e w' => e = .returned (.bool B) ∧ Below w.heap.size w w' := by
  have h := status_digits t w hs
  rw [hb] at h
  simpa [hB] using h

set_option maxRecDepth 100000 in
set_option maxHeartbeats 4000000 in
theorem status_shape (s : ByteArray) (w : World) (hs : s.size ≤ 9223372036854775807) :
    Calls Tryz.prog 128 #[.string s] w fun e w' => e = .returned (.bool (shapeB s.data.toList)) ∧ Below w.heap.size w w' := by
  by_cases h3 : s.size < 3
  · have H := Lib.hid (shape_short s.data.toList (by rw [size_len]; exact h3))
    have t1 : ((s.size : Int) == 3) = false := by rw [beq_eq_false_iff_ne]; omega
    go_enter Tryz.func128, Tryz.ntmps128
    go_wp2_with fail
    go_ret
    exact ⟨ret_bool H.out.symm, Below.refl _ _⟩
  · by_cases ht : ∃ h : 3 < s.size, s[3] ≠ 32
    · obtain ⟨hlt, hne⟩ := ht
      have H := Lib.hid (shape_tail s.data.toList (by rw [size_len]; exact hlt) (by rw [List.getElem?_eq_getElem (by rw [size_len]; exact hlt)]; intro e; exact hne (Option.some.inj e)))
      have hc3 : ((s[3].toNat : Int) != 32) = true := by
        rw [bne_iff_ne]; intro e; exact hne (UInt8.toNat_inj.1 (by show _ = 32; omega))
      clear hne
      go_enter Tryz.func128, Tryz.ntmps128
      go_wp2_with fail
      go_ret
      exact ⟨ret_bool H.out.symm, Below.refl _ _⟩
    · have hm := shape_main s.data.toList (by rw [size_len]; omega) (by
        rcases Nat.lt_or_ge 3 s.size with h | h
        · right
          rw [List.getElem?_eq_getElem (by rw [size_len]; exact h)]
          have : s[3] = 32 := Classical.byContradiction fun hne => ht ⟨h, hne⟩
          exact congrArg some this
        · left; rw [size_len]; omega)
      change shapeB s.data.toList = (isDigitB (s[0]'(by omega)) && isDigitB (s[1]'(by omega)) && isDigitB (s[2]'(by omega))) at hm
      have hx : s.data.toList.length = s.size := size_len s
      have hsz3 : (s.extract 0 3).size = 3 := by rw [ByteArray.size_extract]; omega
      obtain ⟨a, ha⟩ : ∃ a, a = s[0]'(by omega) := ⟨_, rfl⟩
      obtain ⟨b, hb⟩ : ∃ b, b = s[1]'(by omega) := ⟨_, rfl⟩
      obtain ⟨c, hc⟩ : ∃ c, c = s[2]'(by omega) := ⟨_, rfl⟩
      have g0 : ((s.extract 0 3).extract 0 1).data.toList = [a] := by
        rw [piece1 (s.extract 0 3) 0 (by omega), ByteArray.getElem_extract, ha]
      have g1 : ((s.extract 0 3).extract 1 2).data.toList = [b] := by
        rw [piece1 (s.extract 0 3) 1 (by omega), ByteArray.getElem_extract, hb]
      have g2 : ((s.extract 0 3).extract 2 3).data.toList = [c] := by
        rw [piece1 (s.extract 0 3) 2 (by omega), ByteArray.getElem_extract, hc]
      have k0 : (s.extract 0 1).data.toList = [a] := by
        rw [piece1 s 0 (by omega), ha]
      have k1 : (s.extract 1 2).data.toList = [b] := by
        rw [piece1 s 1 (by omega), hb]
      have k2 : (s.extract 2 3).data.toList = [c] := by
        rw [piece1 s 2 (by omega), hc]
      rw [← ha, ← hb, ← hc] at hm
      clear ha hb hc
      obtain ⟨da, hda⟩ : ∃ d, isDigitB a = d := ⟨_, rfl⟩
      obtain ⟨db, hdb⟩ : ∃ d, isDigitB b = d := ⟨_, rfl⟩
      obtain ⟨dc, hdc⟩ : ∃ d, isDigitB c = d := ⟨_, rfl⟩
      rw [hda, hdb, hdc] at hm
      have z1 : ((s.extract 0 3).extract 0 1).size ≤ 9223372036854775807 := by rw [ByteArray.size_extract]; omega
      have z2 : ((s.extract 0 3).extract 1 2).size ≤ 9223372036854775807 := by rw [ByteArray.size_extract]; omega
      have z3 : ((s.extract 0 3).extract 2 3).size ≤ 9223372036854775807 := by rw [ByteArray.size_extract]; omega
      have y1 : (s.extract 0 1).size ≤ 9223372036854775807 := by rw [ByteArray.size_extract]; omega
      have y2 : (s.extract 1 2).size ≤ 9223372036854775807 := by rw [ByteArray.size_extract]; omega
      have y3 : (s.extract 2 3).size ≤ 9223372036854775807 := by rw [ByteArray.size_extract]; omega
      have C0 := fun w => digit_at _ a da w z1 g0 hda
      have C1 := fun w => digit_at _ b db w z2 g1 hdb
      have C2 := fun w => digit_at _ c dc w z3 g2 hdc
      have D0 := fun w => digit_at _ a da w y1 k0 hda
      have D1 := fun w => digit_at _ b db w y2 k1 hdb
      have D2 := fun w => digit_at _ c dc w y3 k2 hdc
      clear hda hdb hdc g0 g1 g2 k0 k1 k2 z1 z2 z3 y1 y2 y3 hx
      have Hm := Lib.hid hm
      have HC0 := Lib.hid C0
      have HC1 := Lib.hid C1
      have HC2 := Lib.hid C2
      have HD0 := Lib.hid D0
      have HD1 := Lib.hid D1
      have HD2 := Lib.hid D2
      clear hm C0 C1 C2 D0 D1 D2
      by_cases h4 : 3 < s.size
      · have hc3 : ((s[3].toNat : Int) != 32) = false := by
          have : s[3] = 32 := Classical.byContradiction fun hne => ht ⟨h4, hne⟩
          rw [this]; rfl
        clear ht
        cases da
        · go_enter Tryz.func128, Tryz.ntmps128
          go_wp2_with fail
          refine (HC0.out _).mono ?_
          rintro e w1 ⟨rfl, hb1⟩
          go_wp2_with fail
          go_ret
          exact ⟨ret_bool (by rw [Hm.out]; rfl), hb1⟩
        · cases db
          · go_enter Tryz.func128, Tryz.ntmps128
            go_wp2_with fail
            refine (HC0.out _).mono ?_
            rintro e w1 ⟨rfl, hb1⟩
            go_wp2_with fail
            refine (HC1.out _).mono ?_
            rintro e w2 ⟨rfl, hb2⟩
            go_wp2_with fail
            go_ret
            exact ⟨ret_bool (by rw [Hm.out]; rfl), bstep hb1 hb2⟩
          · go_enter Tryz.func128, Tryz.ntmps128
            go_wp2_with fail
            refine (HC0.out _).mono ?_
            rintro e w1 ⟨rfl, hb1⟩
            go_wp2_with fail
            refine (HC1.out _).mono ?_
            rintro e w2 ⟨rfl, hb2⟩
            go_wp2_with fail
            refine (HC2.out _).mono ?_
            rintro e w3 ⟨rfl, hb3⟩
            cases dc <;>
            · go_wp2_with fail
              go_ret
              exact ⟨ret_bool (by rw [Hm.out]; rfl), bstep hb1 (bstep hb2 hb3)⟩
      · have t3 : ((s.size : Int) == 3) = true := by rw [beq_iff_eq]; omega
        have t4 : s.size = 3 := by omega
        clear ht
        cases da
        · go_enter Tryz.func128, Tryz.ntmps128
          go_wp2_with fail
          refine (HD0.out _).mono ?_
          rintro e w1 ⟨rfl, hb1⟩
          go_wp2_with fail
          go_ret
          exact ⟨ret_bool (by rw [Hm.out]; rfl), hb1⟩
        · cases db
          · go_enter Tryz.func128, Tryz.ntmps128
            go_wp2_with fail
            refine (HD0.out _).mono ?_
            rintro e w1 ⟨rfl, hb1⟩
            go_wp2_with fail
            refine (HD1.out _).mono ?_
            rintro e w2 ⟨rfl, hb2⟩
            go_wp2_with fail
            go_ret
            exact ⟨ret_bool (by rw [Hm.out]; rfl), bstep hb1 hb2⟩
          · go_enter Tryz.func128, Tryz.ntmps128
            go_wp2_with fail
            refine (HD0.out _).mono ?_
            rintro e w1 ⟨rfl, hb1⟩
            go_wp2_with fail
            refine (HD1.out _).mono ?_
            rintro e w2 ⟨rfl, hb2⟩
            go_wp2_with fail
            refine (HD2.out _).mono ?_
            rintro e w3 ⟨rfl, hb3⟩
            cases dc <;>
            · go_wp2_with fail
              go_ret
              exact ⟨ret_bool (by rw [Hm.out]; rfl), bstep hb1 (bstep hb2 hb3)⟩

theorem codeOf_shape_no (l : List UInt8) (h : shapeB l = false) : codeOf l = (0, 4) := by
  rcases Nat.lt_or_ge l.length 3 with h3 | h3
  · exact codeOf_short l h3
  · by_cases h2 : l.length = 3 ∨ l[3]? = some 32
    · exact codeOf_digits l h3 (by rw [← shape_main l h3 h2]; exact h)
    · have h4 : 3 < l.length := by omega
      exact codeOf_tail l h4 (fun e => h2 (.inr (by rw [List.getElem?_eq_getElem h4, e])))
theorem codeOf_shape (l : List UInt8) (h : shapeB l = true) : ∃ a b c, 3 ≤ l.length ∧ l.take 3 = [a, b, c] ∧ isDigitB a = true ∧ isDigitB b = true ∧ isDigitB c = true ∧ codeOf l = if classOf (numOf a b c) = 0 then (0, 4) else (numOf a b c, 0) := by
  rcases Nat.lt_or_ge l.length 3 with h3 | h3
  · rw [shape_short l h3] at h; exact absurd h (by decide)
  · by_cases h2 : l.length = 3 ∨ l[3]? = some 32
    · have hm := shape_main l h3 h2
      rw [h] at hm
      have hm' := hm.symm
      rw [Bool.and_eq_true, Bool.and_eq_true] at hm'
      refine ⟨l[0], l[1], l[2], h3, ?_, hm'.1.1, hm'.1.2, hm'.2, ?_⟩
      · match l, h3 with
        | a :: b :: c :: t, _ => rfl
      · rw [codeOf_main l h3 ?_, if_neg (by rw [← hm]; decide)]
        intro h4
        rcases h2 with h2 | h2
        · omega
        · rw [List.getElem?_eq_getElem h4] at h2; exact Option.some.inj h2
    · have h4 : 3 < l.length := by omega
      rw [shape_tail l h4 (fun e => h2 (.inr e))] at h; exact absurd h (by decide)

theorem cut_prefix (s : ByteArray) (w : World) (R : ByteArray) (B : Bool) (hR : R = bs (Lib.trimPrefix s.data.toList versionL)) (hB : Lib.hasPrefix s.data.toList versionL = B) :
    Calls Tryz.prog 127 #[.string s, .string ⟨#[72, 84, 84, 80, 47, 49, 46, 49, 32]⟩] w fun e w' => e = .returned (.tuple #[.string R, .bool B]) ∧ w' = w := by
  have h := Tryz.strings_CutPrefix s ⟨#[72, 84, 84, 80, 47, 49, 46, 49, 32]⟩ w
  subst hR; subst hB
  exact h

theorem status_fin2 (l : List UInt8) (n : Int) (e : Nat) (h : statusOf l = (n, e)) : Ending.returned (.tuple #[.int .i64 n, .int .i64 e]) = .returned (.tuple #[.int .i64 (statusOf l).1, .int .i64 (statusOf l).2]) := by rw [h]

set_option maxRecDepth 100000 in
set_option maxHeartbeats 4000000 in
theorem status_parse (s : ByteArray) (w : World) (hs : s.size ≤ 9223372036854775807) :
    Calls Tryz.prog 93 #[.string s] w fun e w' => e = .returned (.tuple #[.int .i64 (statusOf s.data.toList).1, .int .i64 (statusOf s.data.toList).2]) ∧ Below w.heap.size w w' := by
  by_cases h4 : putErr s.data.toList = 4
  · have H := Lib.hid (status_form s.data.toList h4)
    have hput := lines_put s w hs
    rw [h4] at hput
    have Hput := Lib.hid hput
    clear hput h4
    go_enter Tryz.func93, Tryz.ntmps93
    go_wp2_with fail
    refine Hput.out.mono ?_
    rintro e w' ⟨rfl, rfl⟩
    go_wp2_with fail
    go_ret2
    exact ⟨status_fin2 _ 0 4 H.out, Below.refl _ _⟩
  · obtain ⟨E, hE⟩ : ∃ E, E = putErr s.data.toList := ⟨_, rfl⟩
    have hE4 : ((E : Int) == 4) = false := by rw [beq_eq_false_iff_ne, hE]; omega
    have hE4' : (E == 4) = false := by rw [beq_eq_false_iff_ne, hE]; omega
    have hput := lines_put s w hs
    rw [← hE] at hput
    obtain ⟨PL, hPL⟩ : ∃ PL, PL = putLine s := ⟨_, rfl⟩
    rw [← hPL] at hput
    have Hput := Lib.hid hput
    clear hput hE hPL
    by_cases hpre : versionL.isPrefixOf s.data.toList = true
    · have hcode := status_code _ h4 hpre
      obtain ⟨R, hR⟩ : ∃ R, R = bs (Lib.trimPrefix s.data.toList versionL) := ⟨_, rfl⟩
      have Hcut := Lib.hid (cut_prefix s w R true hR hpre)
      have hRl : R.data.toList = s.data.toList.drop 9 := by
        rw [hR, bs_data]; unfold Lib.trimPrefix; rw [if_pos (show Lib.hasPrefix s.data.toList versionL = true from hpre)]; rfl
      have hRs : R.size ≤ 9223372036854775807 := by
        rw [← size_len, hRl, List.length_drop, size_len]; omega
      rw [← hRl] at hcode
      clear hR hRl hpre h4
      cases hsh : shapeB R.data.toList with
      | false =>
        have H := Lib.hid (hcode.trans (codeOf_shape_no _ hsh))
        have hshp := fun w => status_shape R w hRs
        rw [hsh] at hshp
        have Hshp := Lib.hid hshp
        clear hshp hsh hcode
        go_enter Tryz.func93, Tryz.ntmps93
        go_wp2_with fail
        refine Hput.out.mono ?_
        rintro e w' ⟨rfl, rfl⟩
        go_wp2_with fail
        refine Hcut.out.mono ?_
        rintro e w' ⟨rfl, rfl⟩
        go_wp2_with fail
        refine (Hshp.out _).mono ?_
        rintro e w1 ⟨rfl, hb1⟩
        go_wp2_with fail
        go_ret2
        exact ⟨status_fin2 _ 0 4 H.out, hb1⟩
      | true =>
        obtain ⟨a, b, c, h3, ht, ha, hb, hc, hcd⟩ := codeOf_shape _ hsh
        rw [hcd] at hcode
        rw [size_len] at h3
        have hshp := fun w => status_shape R w hRs
        rw [hsh] at hshp
        have Hshp := Lib.hid hshp
        have hT : (R.extract 0 3).data.toList = [a, b, c] := by rw [extract_bs, bs_data, List.drop_zero]; exact ht
        have hato := fun w => Tryz.strconv_Atoi (R.extract 0 3) (numOf a b c) (by rw [ByteArray.size_extract]; omega) (by rw [hT]; exact atoi_three a b c ha hb hc) w
        have Hato := Lib.hid hato
        obtain ⟨C, hC⟩ : ∃ C, C = numOf a b c := ⟨_, rfl⟩
        rw [← hC] at Hato hcode
        have hCb : 0 ≤ C ∧ C ≤ 999 := by
          obtain ⟨a1, a2⟩ := digit_bd a ha
          obtain ⟨b1, b2⟩ := digit_bd b hb
          obtain ⟨c1, c2⟩ := digit_bd c hc
          rw [hC]; unfold numOf; omega
        obtain ⟨hC0, hC9⟩ := hCb
        clear hshp hsh hcd ht ha hb hc hT hato hC
        by_cases hcl : classOf C = 0
        · rw [if_pos hcl] at hcode
          have H := Lib.hid hcode
          clear hcode
          go_enter Tryz.func93, Tryz.ntmps93
          go_wp2_with fail
          refine Hput.out.mono ?_
          rintro e w' ⟨rfl, rfl⟩
          go_wp2_with fail
          refine Hcut.out.mono ?_
          rintro e w' ⟨rfl, rfl⟩
          go_wp2_with fail
          refine (Hshp.out _).mono ?_
          rintro e w1 ⟨rfl, hb1⟩
          go_wp2_with fail
          refine (Hato.out _).mono ?_
          rintro e w2 ⟨rfl, t, rfl⟩
          go_wp2_with (go_at_call 114; refine (status_class _ _).mono ?_; rintro e w' ⟨rfl, rfl⟩)
          go_ret2
          exact ⟨status_fin2 _ 0 4 H.out, bstep hb1 (Go.Joins.below_bytesWorld _ _ _ _ (Nat.le_refl _))⟩
        · rw [if_neg hcl] at hcode
          have H := Lib.hid hcode
          have hclb : (classOf C == 0) = false := by rw [beq_eq_false_iff_ne]; exact hcl
          clear hcode hcl
          go_enter Tryz.func93, Tryz.ntmps93
          go_wp2_with fail
          refine Hput.out.mono ?_
          rintro e w' ⟨rfl, rfl⟩
          go_wp2_with fail
          refine Hcut.out.mono ?_
          rintro e w' ⟨rfl, rfl⟩
          go_wp2_with fail
          refine (Hshp.out _).mono ?_
          rintro e w1 ⟨rfl, hb1⟩
          go_wp2_with fail
          refine (Hato.out _).mono ?_
          rintro e w2 ⟨rfl, t, rfl⟩
          go_wp2_with (go_at_call 114; refine (status_class _ _).mono ?_; rintro e w' ⟨rfl, rfl⟩)
          go_ret2
          exact ⟨status_fin2 _ C 0 H.out, bstep hb1 (Go.Joins.below_bytesWorld _ _ _ _ (Nat.le_refl _))⟩
    · have hpre' : versionL.isPrefixOf s.data.toList = false := Bool.eq_false_iff.2 hpre
      have H := Lib.hid (status_version _ h4 hpre')
      obtain ⟨R, hR⟩ : ∃ R, R = bs (Lib.trimPrefix s.data.toList versionL) := ⟨_, rfl⟩
      have Hcut := Lib.hid (cut_prefix s w R false hR hpre')
      clear hR hpre hpre' h4
      go_enter Tryz.func93, Tryz.ntmps93
      go_wp2_with fail
      refine Hput.out.mono ?_
      rintro e w' ⟨rfl, rfl⟩
      go_wp2_with fail
      refine Hcut.out.mono ?_
      rintro e w' ⟨rfl, rfl⟩
      go_wp2_with fail
      go_ret2
      exact ⟨status_fin2 _ 0 13 H.out, Below.refl _ _⟩
end Go.Proofs.YtgnkmfjleecmfaaGreatDoor
