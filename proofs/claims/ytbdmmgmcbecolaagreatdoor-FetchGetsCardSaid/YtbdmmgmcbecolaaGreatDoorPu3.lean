/- What the reference's Parse of a status line returns. What Parse of package status returns. Plain facts on the line of a code and what it is parsed as (no program in sight). Plain functions for the fields of a head (no program in sight). What the helpers of package fields, and of its reference, return. What titled of package fields returns: strings.Map with a closure that keeps a state. strings.Map with the closure of titled, at an ASCII text. titled, small. Plain laws for names and lines of fields. Plain functions: what a field's line is parsed as (no program in sight). What the library's variables hold, carried along a call. -/
import Derived.Test.YtbdmmgmcbecolaaGreatDoorPu2
import Derived.Shelf.Strings.SlTrimAscii
import Derived.Lib.SmallJoins
import Derived.Lib.TrimUEq
import Derived.Shelf.GgClosure.StringsIndexFunc
import Derived.OneCell
import Derived.Shelf.Strings.MapAny
import Derived.Shelf.Strings.BuilderCap
import Derived.Deep.LoopGhost
import Derived.Deep.DeepMust
import Derived.Deep.DeepFit
import Derived.Deep.DeepCutAuto
import Derived.Lib.IndexMore
import Derived.Lib.SlTrimSet
import Derived.Lib.MapLaws
import Derived.Lib.TrimAscii
import Derived.Shelf.Unicode.DecodeSlow
import Derived.Lib.LaidTab
import Derived.Lib.ItoaNum
import Derived.WalkSmall
set_option linter.unusedVariables false
set_option linter.unusedSimpArgs false
namespace Go.Proofs.YtbdmmgmcbecolaaGreatDoor
open Go.RowKit

theorem prefix_take (l : List UInt8) : versionL.isPrefixOf l = (l.take 9 == versionL) := by
  rw [Bool.eq_iff_iff, List.isPrefixOf_iff_prefix, beq_iff_eq, List.prefix_iff_eq_take]
  exact ⟨fun h => h.symm, fun h => h.symm⟩
theorem status_form (l : List UInt8) (h : putErr l = 4) : statusOf l = (0, 4) := if_pos h
theorem status_version (l : List UInt8) (h : putErr l ≠ 4) (h2 : versionL.isPrefixOf l = false) : statusOf l = (0, 13) := by
  unfold statusOf; rw [if_neg h, if_pos h2]
theorem status_code (l : List UInt8) (h : putErr l ≠ 4) (h2 : versionL.isPrefixOf l = true) : statusOf l = codeOf (l.drop 9) := by
  unfold statusOf; rw [if_neg h, if_neg (by simp [h2])]
theorem putErr_not4 (l : List UInt8) (h : plainL l) : putErr l ≠ 4 := by
  rw [putErr_ok l fun _ hk => h _ (List.getElem_mem hk)]; split <;> decide
theorem not_digit (c : UInt8) (h : c.toNat < 48 ∨ 57 < c.toNat) : isDigitB c = false := by
  unfold isDigitB; rcases h with h | h <;> simp <;> omega
theorem is_digit (c : UInt8) (h1 : 48 ≤ c.toNat) (h2 : c.toNat ≤ 57) : isDigitB c = true := by
  unfold isDigitB; simp [h1, h2]
theorem status_fin (l : List UInt8) (n : Int) (e : Nat) (h : statusOf l = (n, e)) : Ending.returned (.tuple #[.int .i64 n, .int .i64 e]) = .returned (.tuple #[.int .i64 (statusOf l).1, .int .i64 (statusOf l).2]) := by rw [h]

/-- what stands behind the version, in the walk's own spelling. -/
theorem status_split (s : ByteArray) (h : 12 ≤ s.size) (hcode : statusOf s.data.toList = codeOf (s.data.toList.drop 9)) : ∃ a b c : UInt8,
    (∀ h, ((s.extract 9 s.size)[0]'h).toNat = a.toNat) ∧ (∀ h, ((s.extract 9 s.size)[1]'h).toNat = b.toNat) ∧ (∀ h, ((s.extract 9 s.size)[2]'h).toNat = c.toNat) ∧
    ((∃ h, (s.extract 9 s.size)[3]'h ≠ 32) → statusOf s.data.toList = (0, 4)) ∧
    ((isDigitB a && isDigitB b && isDigitB c) = false → statusOf s.data.toList = (0, 4)) ∧
    ((∀ h, (s.extract 9 s.size)[3]'h = 32) → isDigitB a = true → isDigitB b = true → isDigitB c = true → statusOf s.data.toList = if classOf (numOf a b c) = 0 then (0, 4) else (numOf a b c, 0)) := by
  have hRl : (s.extract 9 s.size).data.toList = s.data.toList.drop 9 := by rw [extract_bs, bs_data, ← size_len s, List.take_length]
  have hRs : (s.extract 9 s.size).size = s.size - 9 := by rw [← size_len, hRl, List.length_drop, size_len]
  rw [← hRl] at hcode
  generalize s.extract 9 s.size = R at *
  have hz : 3 ≤ R.data.toList.length := by rw [size_len, hRs]; omega
  refine ⟨R.data.toList[0], R.data.toList[1], R.data.toList[2], fun _ => rfl, fun _ => rfl, fun _ => rfl, ?_, ?_, ?_⟩
  · rintro ⟨h3, hne⟩
    exact hcode.trans (codeOf_tail _ (by rw [size_len]; exact h3) hne)
  · exact fun hd => hcode.trans (codeOf_digits _ hz hd)
  · intro h3 ha hb hc
    rw [hcode, codeOf_main _ hz (fun h' => h3 (by rw [← size_len]; exact h')), if_neg (by rw [ha, hb, hc]; decide)]

set_option maxRecDepth 100000 in
set_option maxHeartbeats 4000000 in
theorem ref_status_parse (s : ByteArray) (w : World) (hs : s.size ≤ 9223372036854775807) :
    Calls Tryz.prog 54 #[.string s] w fun e w' => e = .returned (.tuple #[.int .i64 (statusOf s.data.toList).1, .int .i64 (statusOf s.data.toList).2]) ∧ w' = w := by
  go_enter Tryz.func54, Tryz.ntmps54
  go_wp2_with fail
  go_loop [4] (fun j => ∃ k : Nat, k ≤ s.size ∧ j = .int .i64 k ∧ Hid (∀ j, j < k → ∀ hj : j < s.size, plainB (s[j]'hj).toNat = true)) (fun j => s.size - (intOf j).toNat)
  case atStart => exact ⟨0, by omega, rfl, Lib.hid (fun j hj => by omega)⟩
  case round =>
    obtain ⟨k, hk, rfl, Hall⟩ := hrel
    by_cases hlt : k < s.size
    · have hcb : s[k].toNat < 256 := s[k].toNat_lt
      by_cases hpl : plainB s[k].toNat = false
      · have H := Lib.hid (status_form s.data.toList (putErr_4 s.data.toList k s[k] (by rw [List.getElem?_eq_getElem (by simpa using hlt)]; rfl) hpl))
        go_wp2_with (go_at_call 84; refine (ref_plain _ _ hcb).mono ?_; rintro e w' ⟨rfl, rfl⟩)
        go_ret2
        exact ⟨status_fin _ 0 4 H.out, rfl⟩
      · have hpl' : plainB s[k].toNat = true := by simpa using hpl
        clear hpl
        have H := Lib.hid (plain_all_step s k Hall.out hlt hpl')
        go_wp2_with (go_at_call 84; refine (ref_plain _ _ hcb).mono ?_; rintro e w' ⟨rfl, rfl⟩)
        go_round
        case rel => exact ⟨k + 1, by omega, by go_num, H⟩
        case measure => simp [intOf]; omega
    · have hp : plainL s.data.toList := fun c hc => by
        obtain ⟨j, hj, rfl⟩ := List.getElem_of_mem hc
        exact Hall.out j (by simp at hj; omega) (by simpa using hj)
      have h4 := putErr_not4 _ hp
      clear hp Hall
      by_cases hpre : versionL.isPrefixOf s.data.toList = true
      · have hcode := status_code _ h4 hpre
        rw [prefix_take, beq_iff_eq] at hpre
        have h9 : 9 ≤ s.size := by
          have := congrArg List.length hpre
          rw [List.length_take, size_len] at this
          simp [versionL] at this; omega
        have hcmp : ((s.extract 0 9).toList == [72, 84, 84, 80, 47, 49, 46, 49, 32]) = true := by
          rw [extract_bs, ByteArray.toList_eq, bs_data, beq_iff_eq, List.drop_zero]; exact hpre
        have Hcode := Lib.hid hcode
        clear hcode hpre h4
        by_cases h3 : s.size < 12
        · have H := Lib.hid (Hcode.out.trans (codeOf_short _ (by rw [List.length_drop, size_len]; omega)))
          have h3' : s.size - 9 < 3 := by omega
          go_wp2_with fail
          go_ret2
          exact ⟨status_fin _ 0 4 H.out, rfl⟩
        · obtain ⟨a, b, c, ea, eb, ec, htail, hdig, hmain⟩ := status_split s (by omega) Hcode.out
          have Hdig := Lib.hid hdig
          have Hmain := Lib.hid hmain
          have h3' : 12 ≤ s.size := by omega
          have d1 : decide (s.size - 9 < 3) = false := by simp; omega
          clear h3 hdig hmain Hcode
          by_cases ht : ∃ h, (s.extract 9 s.size)[3]'h ≠ 32
          · have H := Lib.hid (htail ht)
            have hlt3 : 12 < s.size := by obtain ⟨h, _⟩ := ht; rw [ByteArray.size_extract] at h; omega
            have hc3 : ∀ h, ((((s.extract 9 s.size)[3]'h).toNat : Int) != 32) = true := fun h => by
              rw [bne_iff_ne]; intro e; obtain ⟨h', hne⟩ := ht; exact hne (UInt8.toNat_inj.1 (by show _ = 32; omega))
            clear ht htail ea eb ec
            go_wp2_with fail
            go_ret2
            exact ⟨status_fin _ 0 4 H.out, rfl⟩
          · have h32 : ∀ h, (s.extract 9 s.size)[3]'h = 32 := fun h => Classical.byContradiction fun hne => ht ⟨h, hne⟩
            have Hm := Lib.hid (Hmain.out h32)
            have hc3 : ∀ h, ((((s.extract 9 s.size)[3]'h).toNat : Int) != 32) = false := fun h => by
              rw [h32 h]; rfl
            clear ht htail Hmain h32
            have x0 : a.toNat < 256 := a.toNat_lt
            have x1 : b.toNat < 256 := b.toNat_lt
            have x2 : c.toNat < 256 := c.toNat_lt
            have d2 : decide ((s.size : Int) < 9) = false := by simp; omega
            have d3 : decide (((s.size - 9 : Nat) : Int) < 3) = false := by simp; omega
            have d4 : decide (s.size < 9) = false := by simp; omega
            by_cases h12 : s.size = 12
            · have d5 : decide (3 < s.size - 9) = false := by simp; omega
              have d6 : decide ((3 : Int) < ((s.size - 9 : Nat) : Int)) = false := by simp; omega
              have h12' : s.size ≤ 12 := by omega
              clear h12
              go_wp2_with fail
              go_loop [6, 7] (fun n j => ∃ k : Nat, k ≤ 3 ∧ j = .int .i64 k ∧ n = .int .i64 (if k = 0 then 0 else if k = 1 then (a.toNat : Int) - 48 else if k = 2 then 10 * ((a.toNat : Int) - 48) + b.toNat - 48 else numOf a b c) ∧ Hid ((1 ≤ k → 48 ≤ a.toNat ∧ a.toNat ≤ 57) ∧ (2 ≤ k → 48 ≤ b.toNat ∧ b.toNat ≤ 57) ∧ (3 ≤ k → 48 ≤ c.toNat ∧ c.toNat ≤ 57))) (fun _ j => 3 - (intOf j).toNat)
              case atStart => exact ⟨0, by omega, rfl, rfl, Lib.hid ⟨fun h => by omega, fun h => by omega, fun h => by omega⟩⟩
              case round =>
                obtain ⟨k, hk, rfl, rfl, Hk⟩ := hrel
                obtain ⟨q1, q2, q3⟩ := Hk.out
                rcases (show k = 0 ∨ k = 1 ∨ k = 2 ∨ k = 3 by omega) with rfl | rfl | rfl | rfl
                · clear q1 q2 q3
                  by_cases hlo : a.toNat < 48
                  · have H := Lib.hid (Hdig.out (by rw [not_digit a (.inl hlo)]; simp))
                    go_wp2_with fail
                    go_ret2
                    exact ⟨status_fin _ 0 4 H.out, rfl⟩
                  · by_cases hhi : 57 < a.toNat
                    · have H := Lib.hid (Hdig.out (by rw [not_digit a (.inr hhi)]; simp))
                      go_wp2_with fail
                      go_ret2
                      exact ⟨status_fin _ 0 4 H.out, rfl⟩
                    · have z1 : 48 ≤ a.toNat := by omega
                      have z2 : a.toNat ≤ 57 := by omega
                      clear hlo hhi
                      go_wp2_with fail
                      go_round
                      case rel => exact ⟨1, by omega, rfl, by go_num, Lib.hid ⟨fun _ => ⟨z1, z2⟩, fun h => by omega, fun h => by omega⟩⟩
                      case measure => simp [intOf]
                · obtain ⟨y1, y2⟩ := q1 (by omega)
                  clear q1 q2 q3
                  by_cases hlo : b.toNat < 48
                  · have H := Lib.hid (Hdig.out (by rw [not_digit b (.inl hlo)]; simp))
                    go_wp2_with fail
                    go_ret2
                    exact ⟨status_fin _ 0 4 H.out, rfl⟩
                  · by_cases hhi : 57 < b.toNat
                    · have H := Lib.hid (Hdig.out (by rw [not_digit b (.inr hhi)]; simp))
                      go_wp2_with fail
                      go_ret2
                      exact ⟨status_fin _ 0 4 H.out, rfl⟩
                    · have z1 : 48 ≤ b.toNat := by omega
                      have z2 : b.toNat ≤ 57 := by omega
                      clear hlo hhi
                      go_wp2_with fail
                      go_round
                      case rel => exact ⟨2, by omega, rfl, by go_num, Lib.hid ⟨fun _ => ⟨y1, y2⟩, fun _ => ⟨z1, z2⟩, fun h => by omega⟩⟩
                      case measure => simp [intOf]
                · obtain ⟨y1, y2⟩ := q1 (by omega)
                  obtain ⟨y3, y4⟩ := q2 (by omega)
                  clear q1 q2 q3
                  by_cases hlo : c.toNat < 48
                  · have H := Lib.hid (Hdig.out (by rw [not_digit c (.inl hlo)]; simp))
                    go_wp2_with fail
                    go_ret2
                    exact ⟨status_fin _ 0 4 H.out, rfl⟩
                  · by_cases hhi : 57 < c.toNat
                    · have H := Lib.hid (Hdig.out (by rw [not_digit c (.inr hhi)]; simp))
                      go_wp2_with fail
                      go_ret2
                      exact ⟨status_fin _ 0 4 H.out, rfl⟩
                    · have z1 : 48 ≤ c.toNat := by omega
                      have z2 : c.toNat ≤ 57 := by omega
                      clear hlo hhi
                      go_wp2_with fail
                      go_round
                      case rel =>
                        refine ⟨3, by omega, rfl, ?_, Lib.hid ⟨fun _ => ⟨y1, y2⟩, fun _ => ⟨y3, y4⟩, fun _ => ⟨z1, z2⟩⟩⟩
                        congr 1
                        simp only [numOf]
                        simp
                        omega
                      case measure => simp [intOf]
                · obtain ⟨y1, y2⟩ := q1 (by omega)
                  obtain ⟨y3, y4⟩ := q2 (by omega)
                  obtain ⟨y5, y6⟩ := q3 (by omega)
                  clear q1 q2 q3
                  have hM := Hm.out (is_digit a y1 y2) (is_digit b y3 y4) (is_digit c y5 y6)
                  by_cases hcl : classOf (numOf a b c) = 0
                  · rw [if_pos hcl] at hM
                    have H := Lib.hid hM
                    clear hM
                    go_wp2_with (go_at_call 85; refine (ref_class _ _).mono ?_; rintro e w' ⟨rfl, rfl⟩)
                    go_ret2
                    exact ⟨status_fin _ 0 4 H.out, rfl⟩
                  · rw [if_neg hcl] at hM
                    have H := Lib.hid hM
                    have hclb : (classOf (numOf a b c) == 0) = false := by rw [beq_eq_false_iff_ne]; exact hcl
                    clear hM hcl
                    go_wp2_with (go_at_call 85; refine (ref_class _ _).mono ?_; rintro e w' ⟨rfl, rfl⟩)
                    go_ret2
                    exact ⟨status_fin _ (numOf a b c) 0 H.out, rfl⟩
            · have h12' : 12 < s.size := by omega
              have d5 : decide (3 < s.size - 9) = true := by simp; omega
              have d6 : decide ((3 : Int) < ((s.size - 9 : Nat) : Int)) = true := by simp; omega
              clear h12
              go_wp2_with fail
              go_loop [6, 7] (fun n j => ∃ k : Nat, k ≤ 3 ∧ j = .int .i64 k ∧ n = .int .i64 (if k = 0 then 0 else if k = 1 then (a.toNat : Int) - 48 else if k = 2 then 10 * ((a.toNat : Int) - 48) + b.toNat - 48 else numOf a b c) ∧ Hid ((1 ≤ k → 48 ≤ a.toNat ∧ a.toNat ≤ 57) ∧ (2 ≤ k → 48 ≤ b.toNat ∧ b.toNat ≤ 57) ∧ (3 ≤ k → 48 ≤ c.toNat ∧ c.toNat ≤ 57))) (fun _ j => 3 - (intOf j).toNat)
              case atStart => exact ⟨0, by omega, rfl, rfl, Lib.hid ⟨fun h => by omega, fun h => by omega, fun h => by omega⟩⟩
              case round =>
                obtain ⟨k, hk, rfl, rfl, Hk⟩ := hrel
                obtain ⟨q1, q2, q3⟩ := Hk.out
                rcases (show k = 0 ∨ k = 1 ∨ k = 2 ∨ k = 3 by omega) with rfl | rfl | rfl | rfl
                · clear q1 q2 q3
                  by_cases hlo : a.toNat < 48
                  · have H := Lib.hid (Hdig.out (by rw [not_digit a (.inl hlo)]; simp))
                    go_wp2_with fail
                    go_ret2
                    exact ⟨status_fin _ 0 4 H.out, rfl⟩
                  · by_cases hhi : 57 < a.toNat
                    · have H := Lib.hid (Hdig.out (by rw [not_digit a (.inr hhi)]; simp))
                      go_wp2_with fail
                      go_ret2
                      exact ⟨status_fin _ 0 4 H.out, rfl⟩
                    · have z1 : 48 ≤ a.toNat := by omega
                      have z2 : a.toNat ≤ 57 := by omega
                      clear hlo hhi
                      go_wp2_with fail
                      go_round
                      case rel => exact ⟨1, by omega, rfl, by go_num, Lib.hid ⟨fun _ => ⟨z1, z2⟩, fun h => by omega, fun h => by omega⟩⟩
                      case measure => simp [intOf]
                · obtain ⟨y1, y2⟩ := q1 (by omega)
                  clear q1 q2 q3
                  by_cases hlo : b.toNat < 48
                  · have H := Lib.hid (Hdig.out (by rw [not_digit b (.inl hlo)]; simp))
                    go_wp2_with fail
                    go_ret2
                    exact ⟨status_fin _ 0 4 H.out, rfl⟩
                  · by_cases hhi : 57 < b.toNat
                    · have H := Lib.hid (Hdig.out (by rw [not_digit b (.inr hhi)]; simp))
                      go_wp2_with fail
                      go_ret2
                      exact ⟨status_fin _ 0 4 H.out, rfl⟩
                    · have z1 : 48 ≤ b.toNat := by omega
                      have z2 : b.toNat ≤ 57 := by omega
                      clear hlo hhi
                      go_wp2_with fail
                      go_round
                      case rel => exact ⟨2, by omega, rfl, by go_num, Lib.hid ⟨fun _ => ⟨y1, y2⟩, fun _ => ⟨z1, z2⟩, fun h => by omega⟩⟩
                      case measure => simp [intOf]
                · obtain ⟨y1, y2⟩ := q1 (by omega)
                  obtain ⟨y3, y4⟩ := q2 (by omega)
                  clear q1 q2 q3
                  by_cases hlo : c.toNat < 48
                  · have H := Lib.hid (Hdig.out (by rw [not_digit c (.inl hlo)]; simp))
                    go_wp2_with fail
                    go_ret2
                    exact ⟨status_fin _ 0 4 H.out, rfl⟩
                  · by_cases hhi : 57 < c.toNat
                    · have H := Lib.hid (Hdig.out (by rw [not_digit c (.inr hhi)]; simp))
                      go_wp2_with fail
                      go_ret2
                      exact ⟨status_fin _ 0 4 H.out, rfl⟩
                    · have z1 : 48 ≤ c.toNat := by omega
                      have z2 : c.toNat ≤ 57 := by omega
                      clear hlo hhi
                      go_wp2_with fail
                      go_round
                      case rel =>
                        refine ⟨3, by omega, rfl, ?_, Lib.hid ⟨fun _ => ⟨y1, y2⟩, fun _ => ⟨y3, y4⟩, fun _ => ⟨z1, z2⟩⟩⟩
                        congr 1
                        simp only [numOf]
                        simp
                        omega
                      case measure => simp [intOf]
                · obtain ⟨y1, y2⟩ := q1 (by omega)
                  obtain ⟨y3, y4⟩ := q2 (by omega)
                  obtain ⟨y5, y6⟩ := q3 (by omega)
                  clear q1 q2 q3
                  have hM := Hm.out (is_digit a y1 y2) (is_digit b y3 y4) (is_digit c y5 y6)
                  by_cases hcl : classOf (numOf a b c) = 0
                  · rw [if_pos hcl] at hM
                    have H := Lib.hid hM
                    clear hM
                    go_wp2_with (go_at_call 85; refine (ref_class _ _).mono ?_; rintro e w' ⟨rfl, rfl⟩)
                    go_ret2
                    exact ⟨status_fin _ 0 4 H.out, rfl⟩
                  · rw [if_neg hcl] at hM
                    have H := Lib.hid hM
                    have hclb : (classOf (numOf a b c) == 0) = false := by rw [beq_eq_false_iff_ne]; exact hcl
                    clear hM hcl
                    go_wp2_with (go_at_call 85; refine (ref_class _ _).mono ?_; rintro e w' ⟨rfl, rfl⟩)
                    go_ret2
                    exact ⟨status_fin _ (numOf a b c) 0 H.out, rfl⟩
      · have hpre' : versionL.isPrefixOf s.data.toList = false := Bool.eq_false_iff.2 hpre
        have H := Lib.hid (status_version _ h4 hpre')
        rw [prefix_take] at hpre'
        clear hpre h4
        by_cases h9 : s.size < 9
        · clear hpre'
          go_wp2_with fail
          go_ret2
          exact ⟨status_fin _ 0 13 H.out, rfl⟩
        · have hcmp : ((s.extract 0 9).toList == [72, 84, 84, 80, 47, 49, 46, 49, 32]) = false := by
            rw [extract_bs, ByteArray.toList_eq, bs_data, List.drop_zero]; exact hpre'
          clear hpre'
          go_wp2_with fail
          go_ret2
          exact ⟨status_fin _ 0 13 H.out, rfl⟩
end Go.Proofs.YtbdmmgmcbecolaaGreatDoor
namespace Go.Proofs.YtbdmmgmcbecolaaGreatDoor
open Go.RowKit

theorem status_digits (s : ByteArray) (w : World) (hs : s.size ≤ 9223372036854775807) :
    Calls Tryz.prog 169 #[.string s] w fun e w' => e = .returned (.bool (s.data.toList.all isDigitB)) ∧ Below w.heap.size w w' := by
  have hcon : Calls Tryz.prog 147 #[.string s, .string ⟨#[48, 49, 50, 51, 52, 53, 54, 55, 56, 57]⟩] w (fun e w' => e = .returned (.string (bs (Go.Lib.trimS s.data.toList digitSet))) ∧ Below w.heap.size w w') :=
    Any.strings_Trim_laid Tryz.lays160 (by kernel_rfl) s ⟨#[48, 49, 50, 51, 52, 53, 54, 55, 56, 57]⟩ w hs (by decide) (Go.Proofs.ascii_of_all (by decide))
  have he : (bs (Go.Lib.trimS s.data.toList digitSet)).toList.isEmpty = s.data.toList.all isDigitB := by
    rw [isEmpty_bs]; exact digits_trim _
  obtain ⟨R, hR⟩ : ∃ R, R = bs (Go.Lib.trimS s.data.toList digitSet) := ⟨_, rfl⟩
  rw [← hR] at hcon he
  have Hcon := Lib.hid hcon
  have He := Lib.hid he
  clear hR hcon he
  go_enter Tryz.func169, Tryz.ntmps169
  go_wp2_with fail
  refine Hcon.out.mono ?_
  rintro e w' ⟨rfl, hb⟩
  go_wp2_with fail
  go_ret
  exact ⟨ret_bool He.out, hb⟩

/-- may what stands behind the version be? -/
def shapeB (l : List UInt8) : Bool := decide (3 ≤ l.length) && (decide (l.length = 3) || l[3]? == some 32) && ((l.take 3).all isDigitB)
theorem shape_short (l : List UInt8) (h : l.length < 3) : shapeB l = false := by
  unfold shapeB; rw [decide_eq_false (by omega)]; rfl
theorem shape_tail (l : List UInt8) (h : 3 < l.length) (h2 : l[3]? ≠ some 32) : shapeB l = false := by
  unfold shapeB
  have : (l[3]? == some 32) = false := by rw [beq_eq_false_iff_ne]; exact h2
  rw [this, decide_eq_false (show ¬ l.length = 3 by omega)]; simp
theorem shape_main (l : List UInt8) (h : 3 ≤ l.length) (h2 : l.length = 3 ∨ l[3]? = some 32) : shapeB l = (isDigitB l[0] && isDigitB l[1] && isDigitB l[2]) := by
  unfold shapeB
  have h3 : (decide (l.length = 3) || l[3]? == some 32) = true := by
    rcases h2 with h2 | h2
    · rw [decide_eq_true h2]; rfl
    · rw [h2]; simp
  rw [decide_eq_true h, h3, Bool.true_and, Bool.true_and]
  match l, h with
  | a :: b :: c :: t, _ => simp [Bool.and_assoc]
theorem piece1 (s : ByteArray) (k : Nat) (h : k < s.size) : (s.extract k (k + 1)).data.toList = [s[k]] := by
  rw [extract_bs, bs_data, List.take_succ_eq_append_getElem (by simpa using h), List.drop_append_of_le_length (by simp; omega), List.drop_of_length_le (by simp; omega)]
  rfl

theorem digit_at (t : ByteArray) (b : UInt8) (B : Bool) (w : World) (hs : t.size ≤ 9223372036854775807) (hb : t.data.toList = [b]) (hB : isDigitB b = B) :
    Calls Tryz.prog 169 #[.string t] w fun e w' => e = .returned (.bool B) ∧ Below w.heap.size w w' := by
  have h := status_digits t w hs
  rw [hb] at h
  simpa [hB] using h

set_option maxRecDepth 100000 in
set_option maxHeartbeats 4000000 in
theorem status_shape (s : ByteArray) (w : World) (hs : s.size ≤ 9223372036854775807) :
    Calls Tryz.prog 140 #[.string s] w fun e w' => e = .returned (.bool (shapeB s.data.toList)) ∧ Below w.heap.size w w' := by
  by_cases h3 : s.size < 3
  · have H := Lib.hid (shape_short s.data.toList (by rw [size_len]; exact h3))
    have t1 : ((s.size : Int) == 3) = false := by rw [beq_eq_false_iff_ne]; omega
    go_enter Tryz.func140, Tryz.ntmps140
    go_wp2_with fail
    go_ret
    exact ⟨ret_bool H.out.symm, Below.refl _ _⟩
  · by_cases ht : ∃ h : 3 < s.size, s[3] ≠ 32
    · obtain ⟨hlt, hne⟩ := ht
      have H := Lib.hid (shape_tail s.data.toList (by rw [size_len]; exact hlt) (by rw [List.getElem?_eq_getElem (by rw [size_len]; exact hlt)]; intro e; exact hne (Option.some.inj e)))
      have hc3 : ((s[3].toNat : Int) != 32) = true := by
        rw [bne_iff_ne]; intro e; exact hne (UInt8.toNat_inj.1 (by show _ = 32; omega))
      clear hne
      go_enter Tryz.func140, Tryz.ntmps140
      go_wp2_with fail
      go_ret
      exact ⟨ret_bool H.out.symm, Below.refl _ _⟩
    · have hm := shape_main s.data.toList (by rw [size_len]; omega) (by
        rcases Nat.lt_or_ge 3 s.size with h | h
        · right
          rw [List.getElem?_eq_getElem (by rw [size_len]; exact h)]
          have : s[3] = 32 := Classical.byContradiction fun hne => ht ⟨h, hne⟩
          exact congrArg some this
        · left; rw [size_len]; omega)
      change shapeB s.data.toList = (isDigitB (s[0]'(by omega)) && isDigitB (s[1]'(by omega)) && isDigitB (s[2]'(by omega))) at hm
      have hx : s.data.toList.length = s.size := size_len s
      have hsz3 : (s.extract 0 3).size = 3 := by rw [ByteArray.size_extract]; omega
      obtain ⟨a, ha⟩ : ∃ a, a = s[0]'(by omega) := ⟨_, rfl⟩
      obtain ⟨b, hb⟩ : ∃ b, b = s[1]'(by omega) := ⟨_, rfl⟩
      obtain ⟨c, hc⟩ : ∃ c, c = s[2]'(by omega) := ⟨_, rfl⟩
      have g0 : ((s.extract 0 3).extract 0 1).data.toList = [a] := by
        rw [piece1 (s.extract 0 3) 0 (by omega), ByteArray.getElem_extract, ha]
      have g1 : ((s.extract 0 3).extract 1 2).data.toList = [b] := by
        rw [piece1 (s.extract 0 3) 1 (by omega), ByteArray.getElem_extract, hb]
      have g2 : ((s.extract 0 3).extract 2 3).data.toList = [c] := by
        rw [piece1 (s.extract 0 3) 2 (by omega), ByteArray.getElem_extract, hc]
      have k0 : (s.extract 0 1).data.toList = [a] := by
        rw [piece1 s 0 (by omega), ha]
      have k1 : (s.extract 1 2).data.toList = [b] := by
        rw [piece1 s 1 (by omega), hb]
      have k2 : (s.extract 2 3).data.toList = [c] := by
        rw [piece1 s 2 (by omega), hc]
      rw [← ha, ← hb, ← hc] at hm
      clear ha hb hc
      obtain ⟨da, hda⟩ : ∃ d, isDigitB a = d := ⟨_, rfl⟩
      obtain ⟨db, hdb⟩ : ∃ d, isDigitB b = d := ⟨_, rfl⟩
      obtain ⟨dc, hdc⟩ : ∃ d, isDigitB c = d := ⟨_, rfl⟩
      rw [hda, hdb, hdc] at hm
      have z1 : ((s.extract 0 3).extract 0 1).size ≤ 9223372036854775807 := by rw [ByteArray.size_extract]; omega
      have z2 : ((s.extract 0 3).extract 1 2).size ≤ 9223372036854775807 := by rw [ByteArray.size_extract]; omega
      have z3 : ((s.extract 0 3).extract 2 3).size ≤ 9223372036854775807 := by rw [ByteArray.size_extract]; omega
      have y1 : (s.extract 0 1).size ≤ 9223372036854775807 := by rw [ByteArray.size_extract]; omega
      have y2 : (s.extract 1 2).size ≤ 9223372036854775807 := by rw [ByteArray.size_extract]; omega
      have y3 : (s.extract 2 3).size ≤ 9223372036854775807 := by rw [ByteArray.size_extract]; omega
      have C0 := fun w => digit_at _ a da w z1 g0 hda
      have C1 := fun w => digit_at _ b db w z2 g1 hdb
      have C2 := fun w => digit_at _ c dc w z3 g2 hdc
      have D0 := fun w => digit_at _ a da w y1 k0 hda
      have D1 := fun w => digit_at _ b db w y2 k1 hdb
      have D2 := fun w => digit_at _ c dc w y3 k2 hdc
      clear hda hdb hdc g0 g1 g2 k0 k1 k2 z1 z2 z3 y1 y2 y3 hx
      have Hm := Lib.hid hm
      have HC0 := Lib.hid C0
      have HC1 := Lib.hid C1
      have HC2 := Lib.hid C2
      have HD0 := Lib.hid D0
      have HD1 := Lib.hid D1
      have HD2 := Lib.hid D2
      clear hm C0 C1 C2 D0 D1 D2
      by_cases h4 : 3 < s.size
      · have hc3 : ((s[3].toNat : Int) != 32) = false := by
          have : s[3] = 32 := Classical.byContradiction fun hne => ht ⟨h4, hne⟩
          rw [this]; rfl
        clear ht
        cases da
        · go_enter Tryz.func140, Tryz.ntmps140
          go_wp2_with fail
          refine (HC0.out _).mono ?_
          rintro e w1 ⟨rfl, hb1⟩
          go_wp2_with fail
          go_ret
          exact ⟨ret_bool (by rw [Hm.out]; rfl), hb1⟩
        · cases db
          · go_enter Tryz.func140, Tryz.ntmps140
            go_wp2_with fail
            refine (HC0.out _).mono ?_
            rintro e w1 ⟨rfl, hb1⟩
            go_wp2_with fail
            refine (HC1.out _).mono ?_
            rintro e w2 ⟨rfl, hb2⟩
            go_wp2_with fail
            go_ret
            exact ⟨ret_bool (by rw [Hm.out]; rfl), bstep hb1 hb2⟩
          · go_enter Tryz.func140, Tryz.ntmps140
            go_wp2_with fail
            refine (HC0.out _).mono ?_
            rintro e w1 ⟨rfl, hb1⟩
            go_wp2_with fail
            refine (HC1.out _).mono ?_
            rintro e w2 ⟨rfl, hb2⟩
            go_wp2_with fail
            refine (HC2.out _).mono ?_
            rintro e w3 ⟨rfl, hb3⟩
            cases dc <;>
            · go_wp2_with fail
              go_ret
              exact ⟨ret_bool (by rw [Hm.out]; rfl), bstep hb1 (bstep hb2 hb3)⟩
      · have t3 : ((s.size : Int) == 3) = true := by rw [beq_iff_eq]; omega
        have t4 : s.size = 3 := by omega
        clear ht
        cases da
        · go_enter Tryz.func140, Tryz.ntmps140
          go_wp2_with fail
          refine (HD0.out _).mono ?_
          rintro e w1 ⟨rfl, hb1⟩
          go_wp2_with fail
          go_ret
          exact ⟨ret_bool (by rw [Hm.out]; rfl), hb1⟩
        · cases db
          · go_enter Tryz.func140, Tryz.ntmps140
            go_wp2_with fail
            refine (HD0.out _).mono ?_
            rintro e w1 ⟨rfl, hb1⟩
            go_wp2_with fail
            refine (HD1.out _).mono ?_
            rintro e w2 ⟨rfl, hb2⟩
            go_wp2_with fail
            go_ret
            exact ⟨ret_bool (by rw [Hm.out]; rfl), bstep hb1 hb2⟩
          · go_enter Tryz.func140, Tryz.ntmps140
            go_wp2_with fail
            refine (HD0.out _).mono ?_
            rintro e w1 ⟨rfl, hb1⟩
            go_wp2_with fail
            refine (HD1.out _).mono ?_
            rintro e w2 ⟨rfl, hb2⟩
            go_wp2_with fail
            refine (HD2.out _).mono ?_
            rintro e w3 ⟨rfl, hb3⟩
            cases dc <;>
            · go_wp2_with fail
              go_ret
              exact ⟨ret_bool (by rw [Hm.out]; rfl), bstep hb1 (bstep hb2 hb3)⟩

theorem codeOf_shape_no (l : List UInt8) (h : shapeB l = false) : codeOf l = (0, 4) := by
  rcases Nat.lt_or_ge l.length 3 with h3 | h3
  · exact codeOf_short l h3
  · by_cases h2 : l.length = 3 ∨ l[3]? = some 32
    · exact codeOf_digits l h3 (by rw [← shape_main l h3 h2]; exact h)
    · have h4 : 3 < l.length := by omega
      exact codeOf_tail l h4 (fun e => h2 (.inr (by rw [List.getElem?_eq_getElem h4, e])))
theorem codeOf_shape (l : List UInt8) (h : shapeB l = true) : ∃ a b c, 3 ≤ l.length ∧ l.take 3 = [a, b, c] ∧ isDigitB a = true ∧ isDigitB b = true ∧ isDigitB c = true ∧ codeOf l = if classOf (numOf a b c) = 0 then (0, 4) else (numOf a b c, 0) := by
  rcases Nat.lt_or_ge l.length 3 with h3 | h3
  · rw [shape_short l h3] at h; exact absurd h (by decide)
  · by_cases h2 : l.length = 3 ∨ l[3]? = some 32
    · have hm := shape_main l h3 h2
      rw [h] at hm
      have hm' := hm.symm
      rw [Bool.and_eq_true, Bool.and_eq_true] at hm'
      refine ⟨l[0], l[1], l[2], h3, ?_, hm'.1.1, hm'.1.2, hm'.2, ?_⟩
      · match l, h3 with
        | a :: b :: c :: t, _ => rfl
      · rw [codeOf_main l h3 ?_, if_neg (by rw [← hm]; decide)]
        intro h4
        rcases h2 with h2 | h2
        · omega
        · rw [List.getElem?_eq_getElem h4] at h2; exact Option.some.inj h2
    · have h4 : 3 < l.length := by omega
      rw [shape_tail l h4 (fun e => h2 (.inr e))] at h; exact absurd h (by decide)

theorem cut_prefix (s : ByteArray) (w : World) (R : ByteArray) (B : Bool) (hR : R = bs (Lib.trimPrefix s.data.toList versionL)) (hB : Lib.hasPrefix s.data.toList versionL = B) :
    Calls Tryz.prog 76 #[.string s, .string ⟨#[72, 84, 84, 80, 47, 49, 46, 49, 32]⟩] w fun e w' => e = .returned (.tuple #[.string R, .bool B]) ∧ w' = w := by
  have h := Tryz.strings_CutPrefix s ⟨#[72, 84, 84, 80, 47, 49, 46, 49, 32]⟩ w
  subst hR; subst hB
  exact h

theorem status_fin2 (l : List UInt8) (n : Int) (e : Nat) (h : statusOf l = (n, e)) : Ending.returned (.tuple #[.int .i64 n, .int .i64 e]) = .returned (.tuple #[.int .i64 (statusOf l).1, .int .i64 (statusOf l).2]) := by rw [h]

set_option maxRecDepth 100000 in
set_option maxHeartbeats 4000000 in
theorem status_parse (s : ByteArray) (w : World) (hs : s.size ≤ 9223372036854775807) :
    Calls Tryz.prog 106 #[.string s] w fun e w' => e = .returned (.tuple #[.int .i64 (statusOf s.data.toList).1, .int .i64 (statusOf s.data.toList).2]) ∧ Below w.heap.size w w' := by
  by_cases h4 : putErr s.data.toList = 4
  · have H := Lib.hid (status_form s.data.toList h4)
    have hput := lines_put s w hs
    rw [h4] at hput
    have Hput := Lib.hid hput
    clear hput h4
    go_enter Tryz.func106, Tryz.ntmps106
    go_wp2_with fail
    refine Hput.out.mono ?_
    rintro e w' ⟨rfl, rfl⟩
    go_wp2_with fail
    go_ret2
    exact ⟨status_fin2 _ 0 4 H.out, Below.refl _ _⟩
  · obtain ⟨E, hE⟩ : ∃ E, E = putErr s.data.toList := ⟨_, rfl⟩
    have hE4 : ((E : Int) == 4) = false := by rw [beq_eq_false_iff_ne, hE]; omega
    have hE4' : (E == 4) = false := by rw [beq_eq_false_iff_ne, hE]; omega
    have hput := lines_put s w hs
    rw [← hE] at hput
    obtain ⟨PL, hPL⟩ : ∃ PL, PL = putLine s := ⟨_, rfl⟩
    rw [← hPL] at hput
    have Hput := Lib.hid hput
    clear hput hE hPL
    by_cases hpre : versionL.isPrefixOf s.data.toList = true
    · have hcode := status_code _ h4 hpre
      obtain ⟨R, hR⟩ : ∃ R, R = bs (Lib.trimPrefix s.data.toList versionL) := ⟨_, rfl⟩
      have Hcut := Lib.hid (cut_prefix s w R true hR hpre)
      have hRl : R.data.toList = s.data.toList.drop 9 := by
        rw [hR, bs_data]; unfold Lib.trimPrefix; rw [if_pos (show Lib.hasPrefix s.data.toList versionL = true from hpre)]; rfl
      have hRs : R.size ≤ 9223372036854775807 := by
        rw [← size_len, hRl, List.length_drop, size_len]; omega
      rw [← hRl] at hcode
      clear hR hRl hpre h4
      cases hsh : shapeB R.data.toList with
      | false =>
        have H := Lib.hid (hcode.trans (codeOf_shape_no _ hsh))
        have hshp := fun w => status_shape R w hRs
        rw [hsh] at hshp
        have Hshp := Lib.hid hshp
        clear hshp hsh hcode
        go_enter Tryz.func106, Tryz.ntmps106
        go_wp2_with fail
        refine Hput.out.mono ?_
        rintro e w' ⟨rfl, rfl⟩
        go_wp2_with fail
        refine Hcut.out.mono ?_
        rintro e w' ⟨rfl, rfl⟩
        go_wp2_with fail
        refine (Hshp.out _).mono ?_
        rintro e w1 ⟨rfl, hb1⟩
        go_wp2_with fail
        go_ret2
        exact ⟨status_fin2 _ 0 4 H.out, hb1⟩
      | true =>
        obtain ⟨a, b, c, h3, ht, ha, hb, hc, hcd⟩ := codeOf_shape _ hsh
        rw [hcd] at hcode
        rw [size_len] at h3
        have hshp := fun w => status_shape R w hRs
        rw [hsh] at hshp
        have Hshp := Lib.hid hshp
        have hT : (R.extract 0 3).data.toList = [a, b, c] := by rw [extract_bs, bs_data, List.drop_zero]; exact ht
        have hato := fun w => Tryz.strconv_Atoi (R.extract 0 3) (numOf a b c) (by rw [ByteArray.size_extract]; omega) (by rw [hT]; exact atoi_three a b c ha hb hc) w
        have Hato := Lib.hid hato
        obtain ⟨C, hC⟩ : ∃ C, C = numOf a b c := ⟨_, rfl⟩
        rw [← hC] at Hato hcode
        have hCb : 0 ≤ C ∧ C ≤ 999 := by
          obtain ⟨a1, a2⟩ := digit_bd a ha
          obtain ⟨b1, b2⟩ := digit_bd b hb
          obtain ⟨c1, c2⟩ := digit_bd c hc
          rw [hC]; unfold numOf; omega
        obtain ⟨hC0, hC9⟩ := hCb
        clear hshp hsh hcd ht ha hb hc hT hato hC
        by_cases hcl : classOf C = 0
        · rw [if_pos hcl] at hcode
          have H := Lib.hid hcode
          clear hcode
          go_enter Tryz.func106, Tryz.ntmps106
          go_wp2_with fail
          refine Hput.out.mono ?_
          rintro e w' ⟨rfl, rfl⟩
          go_wp2_with fail
          refine Hcut.out.mono ?_
          rintro e w' ⟨rfl, rfl⟩
          go_wp2_with fail
          refine (Hshp.out _).mono ?_
          rintro e w1 ⟨rfl, hb1⟩
          go_wp2_with fail
          refine (Hato.out _).mono ?_
          rintro e w2 ⟨rfl, t, rfl⟩
          go_wp2_with (go_at_call 142; refine (status_class _ _).mono ?_; rintro e w' ⟨rfl, rfl⟩)
          go_ret2
          exact ⟨status_fin2 _ 0 4 H.out, bstep hb1 (Go.Joins.below_bytesWorld _ _ _ _ (Nat.le_refl _))⟩
        · rw [if_neg hcl] at hcode
          have H := Lib.hid hcode
          have hclb : (classOf C == 0) = false := by rw [beq_eq_false_iff_ne]; exact hcl
          clear hcode hcl
          go_enter Tryz.func106, Tryz.ntmps106
          go_wp2_with fail
          refine Hput.out.mono ?_
          rintro e w' ⟨rfl, rfl⟩
          go_wp2_with fail
          refine Hcut.out.mono ?_
          rintro e w' ⟨rfl, rfl⟩
          go_wp2_with fail
          refine (Hshp.out _).mono ?_
          rintro e w1 ⟨rfl, hb1⟩
          go_wp2_with fail
          refine (Hato.out _).mono ?_
          rintro e w2 ⟨rfl, t, rfl⟩
          go_wp2_with (go_at_call 142; refine (status_class _ _).mono ?_; rintro e w' ⟨rfl, rfl⟩)
          go_ret2
          exact ⟨status_fin2 _ C 0 H.out, bstep hb1 (Go.Joins.below_bytesWorld _ _ _ _ (Nat.le_refl _))⟩
    · have hpre' : versionL.isPrefixOf s.data.toList = false := Bool.eq_false_iff.2 hpre
      have H := Lib.hid (status_version _ h4 hpre')
      obtain ⟨R, hR⟩ : ∃ R, R = bs (Lib.trimPrefix s.data.toList versionL) := ⟨_, rfl⟩
      have Hcut := Lib.hid (cut_prefix s w R false hR hpre')
      clear hR hpre hpre' h4
      go_enter Tryz.func106, Tryz.ntmps106
      go_wp2_with fail
      refine Hput.out.mono ?_
      rintro e w' ⟨rfl, rfl⟩
      go_wp2_with fail
      refine Hcut.out.mono ?_
      rintro e w' ⟨rfl, rfl⟩
      go_wp2_with fail
      go_ret2
      exact ⟨status_fin2 _ 0 13 H.out, Below.refl _ _⟩
end Go.Proofs.YtbdmmgmcbecolaaGreatDoor
namespace Go.Proofs.YtbdmmgmcbecolaaGreatDoor
open Go.RowKit

/-- three digits of a code -/
def digs (n : Nat) : List UInt8 := [UInt8.ofNat (48 + n / 100), UInt8.ofNat (48 + n / 10 % 10), UInt8.ofNat (48 + n % 10)]
theorem decDigits_three (n : Nat) (h1 : 100 ≤ n) (h2 : n ≤ 999) : Go.Lib.decDigits n = digs n := by
  rw [Go.Lib.decDigits, dif_neg (by omega), Go.Lib.decDigits, dif_neg (by omega), Go.Lib.decDigits_one (show n / 10 / 10 < 10 by omega)]
  rw [show n / 10 / 10 = n / 100 by omega]
  rfl
theorem digs_digit (n : Nat) (h1 : 100 ≤ n) (h2 : n ≤ 999) : ∀ k, k < 10 → isDigitB (UInt8.ofNat (48 + k)) = true := by
  decide +kernel
theorem toNat_dig (k : Nat) (h : k < 10) : (UInt8.ofNat (48 + k)).toNat = 48 + k := by
  rw [UInt8.toNat_ofNat', Nat.mod_eq_of_lt (by omega)]
theorem digs_num (n : Nat) (h1 : 100 ≤ n) (h2 : n ≤ 999) : numOf (UInt8.ofNat (48 + n / 100)) (UInt8.ofNat (48 + n / 10 % 10)) (UInt8.ofNat (48 + n % 10)) = n := by
  unfold numOf
  rw [toNat_dig _ (by omega), toNat_dig _ (by omega), toNat_dig _ (by omega)]
  omega
theorem dig_plain (k : Nat) (h : k < 10) : plainB (UInt8.ofNat (48 + k)).toNat = true := by
  rw [toNat_dig k h]
  have : ∀ k, k < 10 → plainB (48 + k) = true := by decide
  exact this k h
theorem all_plain (n : Nat) (h1 : 100 ≤ n) (h2 : n ≤ 999) (t : List UInt8) : (versionL ++ digs n ++ t).all (fun c => plainB c.toNat) = t.all (fun c => plainB c.toNat) := by
  rw [List.all_append, List.all_append]
  have e1 : versionL.all (fun c => plainB c.toNat) = true := by decide +kernel
  have e2 : (digs n).all (fun c => plainB c.toNat) = true := by
    unfold digs
    simp only [List.all_cons, List.all_nil]
    rw [dig_plain _ (by omega), dig_plain _ (by omega), dig_plain _ (by omega)]; rfl
  rw [e1, e2, Bool.true_and, Bool.true_and]
theorem putErr_four (l : List UInt8) : putErr l = 4 ↔ l.all (fun c => plainB c.toNat) = false := by
  unfold putErr
  constructor
  · intro h
    split at h
    · assumption
    · split at h <;> exact absurd h (by decide)
  · intro h; rw [if_pos h]

theorem statusOf_line (n : Nat) (h1 : 100 ≤ n) (h2 : n ≤ 599) (t : List UInt8) (ht : t = [] ∨ t.head? = some 32) :
    statusOf (versionL ++ digs n ++ t) = if t.all (fun c => plainB c.toNat) = false then (0, 4) else ((n : Int), 0) := by
  have hp := all_plain n h1 (by omega) t
  by_cases hpl : t.all (fun c => plainB c.toNat) = false
  · rw [if_pos hpl]
    exact status_form _ ((putErr_four _).2 (by rw [hp]; exact hpl))
  · rw [if_neg hpl]
    rw [status_code _ (fun h => hpl (by rw [← hp]; exact (putErr_four _).1 h)) (by
      rw [List.isPrefixOf_iff_prefix, List.append_assoc]; exact List.prefix_append _ _)]
    rw [List.append_assoc, List.drop_append_of_le_length (by decide)]
    have hv : versionL.drop 9 = [] := by decide
    rw [hv, List.nil_append]
    show codeOf (_ :: _ :: _ :: t) = _
    have hd := digs_digit n h1 (by omega)
    rw [codeOf_cons, if_neg (by
      rintro ⟨h3, h4⟩
      rcases ht with h | h
      · exact h3 h
      · exact h4 h), if_neg (by rw [hd _ (by omega), hd _ (by omega), hd _ (by omega)]; decide), digs_num n h1 (by omega), if_neg (by
      have := class_pos (n : Int) (by omega) (by omega); omega)]

theorem statusLine_data (n : Nat) (h1 : 100 ≤ n) (h2 : n ≤ 999) : (statusLine (n : Int)).data.toList = versionL ++ digs n ++ (32 :: (reasonOf (n : Int)).data.toList) := by
  unfold statusLine
  rw [itoa_nonneg _ (by omega), Int.toNat_natCast, decDigits_three n h1 h2]
  simp [ByteArray.data_append]
theorem reason_plain (code : Int) : (reasonOf code).data.toList.all (fun c => plainB c.toNat) = true := by
  unfold reasonOf
  repeat' split
  all_goals decide +kernel
theorem statusLine_len (n : Nat) (h1 : 100 ≤ n) (h2 : n ≤ 999) : (statusLine (n : Int)).size = 13 + (reasonOf (n : Int)).size := by
  rw [← size_len, statusLine_data n h1 h2]; simp [versionL, digs]; omega
theorem status_print_put (n : Nat) (h1 : 100 ≤ n) (h2 : n ≤ 599) : putErr (statusLine (n : Int)).data.toList = 0 := by
  have hl := statusLine_len n h1 (by omega)
  have hr := reason_size (n : Int)
  unfold putErr
  rw [if_neg (by
    rw [statusLine_data n h1 (by omega), all_plain n h1 (by omega), List.all_cons, reason_plain]; decide), if_neg (by rw [size_len]; omega)]
theorem status_print_parse (n : Nat) (h1 : 100 ≤ n) (h2 : n ≤ 599) : statusOf (statusLine (n : Int)).data.toList = ((n : Int), 0) := by
  rw [statusLine_data n h1 (by omega), statusOf_line n h1 h2 _ (.inr rfl), if_neg (by rw [List.all_cons, reason_plain]; decide)]
end Go.Proofs.YtbdmmgmcbecolaaGreatDoor
namespace Go.Proofs.YtbdmmgmcbecolaaGreatDoor
open Go.RowKit

def digN (n : Nat) : Bool := decide (48 ≤ n) && decide (n ≤ 57)
def letN (n : Nat) : Bool := decide (97 ≤ n) && decide (n ≤ 122)
def namedN (n : Nat) : Bool := letN n || digN n || n == 45
def nameL (l : List UInt8) : Bool := !l.isEmpty && decide (l.length ≤ 32) && l.all (fun c => namedN c.toNat)
theorem digN_ge (n : Nat) (h : 128 ≤ n) : digN n = false := by unfold digN; simp; omega
theorem namedN_ge (n : Nat) (h : 128 ≤ n) : namedN n = false := by
  unfold namedN letN digN
  have : (n == 45) = false := by rw [beq_eq_false_iff_ne]; omega
  rw [this]; simp; omega

theorem decode_low (s : ByteArray) (pos : Nat) (h : pos < s.size) (h2 : s[pos].toNat < 128) : Utf8.decode s pos = (s[pos].toNat, 1) := by
  rw [Go.Lib.decode_N]
  have : s.data.toList.getD pos 0 = s[pos] := by
    rw [List.getD_eq_getElem?_getD, List.getElem?_eq_getElem (by rw [size_len]; exact h)]; rfl
  rw [this]
  exact Go.Lib.decodeN_ascii _ _ _ _ _ h2
theorem decodeN_high (n b0 b1 b2 b3 : Nat) (h : 128 ≤ b0) : 128 ≤ (Go.Lib.decodeN n b0 b1 b2 b3).1 := by
  unfold Go.Lib.decodeN
  rw [if_neg (by omega)]
  split
  · split
    · assumption
    · decide
  · split
    · split
      · rename_i h; show 128 ≤ _; omega
      · decide
    · split
      · split
        · rename_i h; show 128 ≤ _; omega
        · decide
      · decide
theorem decode_high (s : ByteArray) (pos : Nat) (h : pos < s.size) (h2 : 128 ≤ s[pos].toNat) : 128 ≤ (Utf8.decode s pos).1 := by
  rw [Go.Lib.decode_N]
  have : s.data.toList.getD pos 0 = s[pos] := by
    rw [List.getD_eq_getElem?_getD, List.getElem?_eq_getElem (by rw [size_len]; exact h)]; rfl
  rw [this]
  exact decodeN_high _ _ _ _ _ h2

theorem idx_all_from (p : Nat → Bool) (hp : ∀ x, 128 ≤ x → p x = true) (s : ByteArray) : ∀ (f pos : Nat), s.size ≤ pos + f →
    decide (Go.Lib.idxFuncFrom p true s f pos < 0) = (s.data.toList.drop pos).all (fun c => !p c.toNat) := by
  intro f
  induction f with
  | zero =>
    intro pos h
    rw [List.drop_eq_nil_of_le (by rw [size_len]; omega)]
    rfl
  | succ f ih =>
    intro pos h
    by_cases hlt : pos < s.size
    · have hd : s.data.toList.drop pos = s[pos] :: s.data.toList.drop (pos + 1) := List.drop_eq_getElem_cons (by rw [size_len]; exact hlt)
      unfold Go.Lib.idxFuncFrom
      rw [if_pos hlt, hd, List.all_cons]
      by_cases hb : s[pos].toNat < 128
      · rw [decode_low s pos hlt hb]
        by_cases hc : p s[pos].toNat = true
        · rw [if_pos hc, hc]
          have hn : ¬ ((pos : Int) < 0) := by omega
          rw [decide_eq_false hn]; rfl
        · rw [if_neg hc, ih (pos + 1) (by omega)]
          simp [hc]
      · have hn : ¬ ((pos : Int) < 0) := by omega
        rw [if_pos (hp _ (decode_high s pos hlt (by omega))), hp _ (show 128 ≤ s[pos].toNat by omega), decide_eq_false hn]; rfl
    · rw [List.drop_eq_nil_of_le (by rw [size_len]; omega), Go.Lib.idxFuncFrom_end _ _ _ _ _ hlt]
      rfl
theorem idx_all (p : Nat → Bool) (hp : ∀ x, 128 ≤ x → p x = true) (s : ByteArray) :
    decide (Go.Lib.idxFunc p true s < 0) = s.data.toList.all (fun c => !p c.toNat) :=
  idx_all_from p hp s s.size 0 (by omega)
end Go.Proofs.YtbdmmgmcbecolaaGreatDoor
namespace Go.Proofs.YtbdmmgmcbecolaaGreatDoor
open Go.RowKit

theorem fields_digit (x : Nat) (w : World) : Calls Tryz.prog 149 #[.int .i32 (x : Int)] w fun e w' => e = .returned (.bool (digN x)) ∧ w' = w := by
  by_cases h1 : x < 48
  · have H : Hid (digN x = false) := Lib.hid (by unfold digN; rw [decide_eq_false (by omega)]; rfl)
    go_enter Tryz.func149, Tryz.ntmps149
    go_wp2_with fail
    go_ret
    exact ⟨ret_bool H.out.symm, rfl⟩
  · by_cases h2 : 57 < x
    · have H : Hid (digN x = false) := Lib.hid (by unfold digN; rw [decide_eq_false (show ¬ x ≤ 57 by omega), Bool.and_false])
      have t1 : decide ((x : Int) ≤ 57) = false := by simp; omega
      go_enter Tryz.func149, Tryz.ntmps149
      go_wp2_with fail
      go_ret
      exact ⟨ret_bool H.out.symm, rfl⟩
    · have H : Hid (digN x = true) := Lib.hid (by unfold digN; rw [decide_eq_true (show x ≤ 57 by omega), decide_eq_true (show 48 ≤ x by omega)]; rfl)
      have t1 : decide ((x : Int) ≤ 57) = true := by simp; omega
      go_enter Tryz.func149, Tryz.ntmps149
      go_wp2_with fail
      go_ret
      exact ⟨ret_bool H.out.symm, rfl⟩
theorem fields_named (x : Nat) (w : World) : Calls Tryz.prog 177 #[.int .i32 (x : Int)] w fun e w' => e = .returned (.bool (namedN x)) ∧ w' = w := by
  by_cases h1 : x < 97
  · have hl : letN x = false := by unfold letN; rw [decide_eq_false (by omega)]; rfl
    cases hd : digN x with
    | true =>
      have hcon := fun w => fields_digit x w
      rw [hd] at hcon
      have H : Hid (namedN x = true) := Lib.hid (by unfold namedN; rw [hl, hd]; rfl)
      have Hcon := Lib.hid hcon
      clear hd hcon hl
      go_enter Tryz.func177, Tryz.ntmps177
      go_wp2_with (go_at_call 149; refine (Hcon.out _).mono ?_; rintro e w' ⟨rfl, rfl⟩)
      go_ret
      exact ⟨ret_bool H.out.symm, rfl⟩
    | false =>
      have hcon := fun w => fields_digit x w
      rw [hd] at hcon
      have H : Hid (namedN x = decide ((x : Int) = 45)) := Lib.hid (by
        unfold namedN; rw [hl, hd, Bool.false_or, Bool.false_or, Bool.eq_iff_iff, beq_iff_eq, decide_eq_true_iff]; omega)
      have Hcon := Lib.hid hcon
      clear hd hcon hl
      by_cases h45 : x = 45
      · have t : ((x : Int) == 45) = true := by rw [beq_iff_eq]; omega
        have H2 : Hid (namedN x = true) := Lib.hid (H.out.trans (decide_eq_true (by omega)))
        clear h45 H
        go_enter Tryz.func177, Tryz.ntmps177
        go_wp2_with (go_at_call 149; refine (Hcon.out _).mono ?_; rintro e w' ⟨rfl, rfl⟩)
        go_ret
        exact ⟨ret_bool H2.out.symm, rfl⟩
      · have t : ((x : Int) == 45) = false := by rw [beq_eq_false_iff_ne]; omega
        go_enter Tryz.func177, Tryz.ntmps177
        go_wp2_with (go_at_call 149; refine (Hcon.out _).mono ?_; rintro e w' ⟨rfl, rfl⟩)
        go_ret
        exact ⟨ret_bool (by rw [H.out, decide_eq_false (by omega)]), rfl⟩
  · by_cases h2 : 122 < x
    · have hl : letN x = false := by unfold letN; rw [decide_eq_false (show ¬ x ≤ 122 by omega), Bool.and_false]
      have hd : digN x = false := by unfold digN; rw [decide_eq_false (show ¬ x ≤ 57 by omega), Bool.and_false]
      have H : Hid (namedN x = false) := Lib.hid (by unfold namedN; rw [hl, hd, show (x == 45) = false by rw [beq_eq_false_iff_ne]; omega]; rfl)
      have t1 : decide ((x : Int) ≤ 122) = false := by simp; omega
      have t2 : ((x : Int) == 45) = false := by rw [beq_eq_false_iff_ne]; omega
      have hcon := fun w => fields_digit x w
      rw [hd] at hcon
      have Hcon := Lib.hid hcon
      clear hd hcon hl
      go_enter Tryz.func177, Tryz.ntmps177
      go_wp2_with (go_at_call 149; refine (Hcon.out _).mono ?_; rintro e w' ⟨rfl, rfl⟩)
      go_ret
      exact ⟨ret_bool H.out.symm, rfl⟩
    · have hl : letN x = true := by unfold letN; rw [decide_eq_true (show x ≤ 122 by omega), decide_eq_true (show 97 ≤ x by omega)]; rfl
      have H : Hid (namedN x = true) := Lib.hid (by unfold namedN; rw [hl]; rfl)
      have t1 : decide ((x : Int) ≤ 122) = true := by simp; omega
      clear hl
      go_enter Tryz.func177, Tryz.ntmps177
      go_wp2_with fail
      go_ret
      exact ⟨ret_bool H.out.symm, rfl⟩
theorem all1_digit (x B : Nat) (w : World) (hc : w.cell? ⟨B, 0, none⟩ = some (.func (.func 149) #[] #[])) :
    Calls Tryz.prog 185 #[.int .i32 (x : Int), .pointer (some ⟨B, 0, none⟩)] w fun e w' => e = .returned (.bool (!digN x)) ∧ w' = w := by
  go_enter Tryz.func185, Tryz.ntmps185
  go_wp2_with (go_at_call 149; refine (fields_digit _ _).mono ?_; rintro e w' ⟨rfl, rfl⟩)
  go_ret
  exact ⟨rfl, rfl⟩
theorem all1_named (x B : Nat) (w : World) (hc : w.cell? ⟨B, 0, none⟩ = some (.func (.func 177) #[] #[])) :
    Calls Tryz.prog 185 #[.int .i32 (x : Int), .pointer (some ⟨B, 0, none⟩)] w fun e w' => e = .returned (.bool (!namedN x)) ∧ w' = w := by
  go_enter Tryz.func185, Tryz.ntmps185
  go_wp2_with (go_at_call 177; refine (fields_named _ _).mono ?_; rintro e w' ⟨rfl, rfl⟩)
  go_ret
  exact ⟨rfl, rfl⟩

theorem idx_digit (s : ByteArray) (B : Nat) (w : World) (hB : B < w.heap.size) (hc : w.cell? ⟨B, 0, none⟩ = some (.func (.func 149) #[] #[])) :
    Calls Tryz.prog 103 #[.string s, .func (.func 185) #[] #[.pointer (some ⟨B, 0, none⟩)]] w fun e w' => e = .returned (.int .i64 (Lib.idxFunc (fun x => !digN x) true s)) ∧ Below w.heap.size w w' :=
  Tryz.strings_IndexFunc_grows 185 #[.pointer (some ⟨B, 0, none⟩)] (enters_of Tryz.func185 (by kernel_rfl) rfl) (fun x => !digN x) s w
    (fun W x _ hb => (all1_digit x B W ((hb.cell (p := ⟨B, 0, none⟩) hB).trans hc)).mono fun e w' ⟨he, hw⟩ => ⟨he, hw ▸ Below.refl _ _⟩)
theorem idx_named (s : ByteArray) (B : Nat) (w : World) (hB : B < w.heap.size) (hc : w.cell? ⟨B, 0, none⟩ = some (.func (.func 177) #[] #[])) :
    Calls Tryz.prog 103 #[.string s, .func (.func 185) #[] #[.pointer (some ⟨B, 0, none⟩)]] w fun e w' => e = .returned (.int .i64 (Lib.idxFunc (fun x => !namedN x) true s)) ∧ Below w.heap.size w w' :=
  Tryz.strings_IndexFunc_grows 185 #[.pointer (some ⟨B, 0, none⟩)] (enters_of Tryz.func185 (by kernel_rfl) rfl) (fun x => !namedN x) s w
    (fun W x _ hb => (all1_named x B W ((hb.cell (p := ⟨B, 0, none⟩) hB).trans hc)).mono fun e w' ⟨he, hw⟩ => ⟨he, hw ▸ Below.refl _ _⟩)

theorem all_digit_eq (s : ByteArray) : decide (Lib.idxFunc (fun x => !digN x) true s < 0) = s.data.toList.all (fun c => digN c.toNat) := by
  rw [idx_all _ (fun x h => by rw [digN_ge x h]; rfl)]; simp
theorem all_named_eq (s : ByteArray) : decide (Lib.idxFunc (fun x => !namedN x) true s < 0) = s.data.toList.all (fun c => namedN c.toNat) := by
  rw [idx_all _ (fun x h => by rw [namedN_ge x h]; rfl)]; simp

theorem below_box (w : World) (v : Value) (t : TypeId) : Below w.heap.size w (w.alloc (.cells #[v] t)) := (Below.refl _ _).alloc (Nat.le_refl _) _
theorem box_lt (w : World) (v : Value) (t : TypeId) : w.heap.size < (w.alloc (.cells #[v] t)).heap.size := by simp
theorem box_cell (w : World) (v : Value) (t : TypeId) : (w.alloc (.cells #[v] t)).cell? ⟨w.heap.size, 0, none⟩ = some v := by
  have h : (w.alloc (.cells #[v] t)).heap[w.heap.size]? = some (.cells #[v] t) := by
    show (w.heap.push _)[w.heap.size]? = _
    simp
  unfold World.cell?
  rw [h]; rfl

theorem fields_all_digit (s : ByteArray) (w : World) :
    Calls Tryz.prog 148 #[.string s, .func (.func 149) #[] #[]] w fun e w' => e = .returned (.bool (s.data.toList.all (fun c => digN c.toNat))) ∧ Below w.heap.size w w' := by
  have H := Lib.hid (all_digit_eq s)
  obtain ⟨i, hi⟩ : ∃ i, i = Lib.idxFunc (fun x => !digN x) true s := ⟨_, rfl⟩
  have HI := Lib.hid (fun B w hB hc => hi ▸ idx_digit s B w hB hc)
  rw [← hi] at H
  clear hi
  go_enter Tryz.func148, Tryz.ntmps148
  go_wp2_with fail
  refine (HI.out _ _ (box_lt _ _ _) (box_cell _ _ _)).mono ?_
  rintro e w1 ⟨rfl, hb⟩
  go_wp2_with fail
  go_ret
  exact ⟨ret_bool H.out, bstep (below_box _ _ _) hb⟩
theorem fields_all_named (s : ByteArray) (w : World) :
    Calls Tryz.prog 148 #[.string s, .func (.func 177) #[] #[]] w fun e w' => e = .returned (.bool (s.data.toList.all (fun c => namedN c.toNat))) ∧ Below w.heap.size w w' := by
  have H := Lib.hid (all_named_eq s)
  obtain ⟨i, hi⟩ : ∃ i, i = Lib.idxFunc (fun x => !namedN x) true s := ⟨_, rfl⟩
  have HI := Lib.hid (fun B w hB hc => hi ▸ idx_named s B w hB hc)
  rw [← hi] at H
  clear hi
  go_enter Tryz.func148, Tryz.ntmps148
  go_wp2_with fail
  refine (HI.out _ _ (box_lt _ _ _) (box_cell _ _ _)).mono ?_
  rintro e w1 ⟨rfl, hb⟩
  go_wp2_with fail
  go_ret
  exact ⟨ret_bool H.out, bstep (below_box _ _ _) hb⟩

theorem fields_name (s : ByteArray) (w : World) :
    Calls Tryz.prog 146 #[.string s] w fun e w' => e = .returned (.bool (nameL s.data.toList)) ∧ Below w.heap.size w w' := by
  by_cases he : s.size = 0
  · have H : Hid (nameL s.data.toList = false) := Lib.hid (by
      unfold nameL; rw [List.length_eq_zero_iff.1 (show s.data.toList.length = 0 by rw [size_len]; exact he)]; rfl)
    have t : s.toList.isEmpty = true := by
      rw [ByteArray.toList_eq, List.isEmpty_iff]; exact List.length_eq_zero_iff.1 (by rw [size_len]; exact he)
    go_enter Tryz.func146, Tryz.ntmps146
    go_wp2_with fail
    go_ret
    exact ⟨ret_bool H.out.symm, Below.refl _ _⟩
  · have t : s.toList.isEmpty = false := by
      rw [ByteArray.toList_eq, Bool.eq_false_iff, Ne, List.isEmpty_iff]; intro e; exact he (by rw [← size_len, e]; rfl)
    by_cases h32 : 32 < s.size
    · have H : Hid (nameL s.data.toList = false) := Lib.hid (by
        unfold nameL; rw [decide_eq_false (by rw [size_len]; omega), Bool.and_false, Bool.false_and])
      have t1 : decide ((s.size : Int) ≤ 32) = false := by simp; omega
      go_enter Tryz.func146, Tryz.ntmps146
      go_wp2_with fail
      go_ret
      exact ⟨ret_bool H.out.symm, Below.refl _ _⟩
    · have H : Hid (nameL s.data.toList = s.data.toList.all (fun c => namedN c.toNat)) := Lib.hid (by
        unfold nameL; rw [decide_eq_true (by rw [size_len]; omega), ← ByteArray.toList_eq, t]; rfl)
      have t1 : decide ((s.size : Int) ≤ 32) = true := by simp; omega
      have HA := Lib.hid (fun w => fields_all_named s w)
      obtain ⟨b, hb⟩ : ∃ b, b = s.data.toList.all (fun c => namedN c.toNat) := ⟨_, rfl⟩
      rw [← hb] at H HA
      clear hb
      cases b
      all_goals
        go_enter Tryz.func146, Tryz.ntmps146
        go_wp2_with fail
        refine (HA.out _).mono ?_
        rintro e w1 ⟨rfl, hb1⟩
        go_wp2_with fail
        go_ret
        exact ⟨ret_bool H.out.symm, hb1⟩

theorem fields_plain (s : ByteArray) (w : World) (hs : s.size ≤ 9223372036854775807) :
    Calls Tryz.prog 143 #[.string s] w fun e w' => e = .returned (.bool (s.data.toList.all (fun c => plainB c.toNat))) ∧ w' = w := by
  have hp := fun w => lines_put s w hs
  obtain ⟨L, hL⟩ : ∃ L, L = putLine s := ⟨_, rfl⟩
  rw [← hL] at hp
  cases hb : s.data.toList.all (fun c => plainB c.toNat) with
  | true =>
    obtain ⟨E, hE⟩ : ∃ E, E = putErr s.data.toList := ⟨_, rfl⟩
    have h4 : E ≠ 4 := by rw [hE]; unfold putErr; rw [if_neg (by rw [hb]; decide)]; split <;> decide
    rw [← hE] at hp
    have HP := Lib.hid hp
    have t : ((E : Int) != 4) = true := by rw [bne_iff_ne]; omega
    clear hp hE hb hL h4
    go_enter Tryz.func143, Tryz.ntmps143
    go_wp2_with (go_at_call 61; refine (HP.out _).mono ?_; rintro e w' ⟨rfl, rfl⟩)
    go_ret
    exact ⟨ret_bool rfl, rfl⟩
  | false =>
    rw [show putErr s.data.toList = 4 from if_pos hb] at hp
    have HP := Lib.hid hp
    clear hp hb hL
    go_enter Tryz.func143, Tryz.ntmps143
    go_wp2_with (go_at_call 61; refine (HP.out _).mono ?_; rintro e w' ⟨rfl, rfl⟩)
    go_ret
    exact ⟨ret_bool rfl, rfl⟩
end Go.Proofs.YtbdmmgmcbecolaaGreatDoor
namespace Go.Proofs.YtbdmmgmcbecolaaGreatDoor
open Go.RowKit

def titN (b : Bool) (c : Nat) : Nat := if (b && letN c) = true then c - 32 else c

theorem letN_lo (c : Nat) (h : c < 97) : letN c = false := by unfold letN; rw [decide_eq_false (by omega)]; rfl
theorem letN_hi (c : Nat) (h : 122 < c) : letN c = false := by unfold letN; rw [decide_eq_false (show ¬ c ≤ 122 by omega), Bool.and_false]
theorem letN_in (c : Nat) (h : 97 ≤ c) (h2 : c ≤ 122) : letN c = true := by unfold letN; rw [decide_eq_true h, decide_eq_true h2]; rfl

theorem titled1 (c B : Nat) (b : Bool) (w : World) (hblk : w.heap[B]? = some (.cells #[.bool b] 4 (0, 0))) (hc : c < 128) :
    Calls Tryz.prog 192 #[.int .i32 (c : Int), .pointer (some ⟨B, 0, none⟩)] w fun e w' => e = .returned (.int .i32 (titN b c : Nat)) ∧ w' = w.setCell ⟨B, 0, none⟩ (.bool ((c : Int) == 45)) := by
  have hcell : w.cell? ⟨B, 0, none⟩ = some (.bool b) := by unfold World.cell?; rw [hblk]; rfl
  have hfr : w.frozen? ⟨B, 0, none⟩ = false := by unfold World.frozen?; rw [hblk]; rfl
  cases b
  · have H : Hid (titN false c = c) := Lib.hid rfl
    go_enter Tryz.func192, Tryz.ntmps192
    go_wp2_with fail
    go_ret
    exact ⟨by rw [H.out]; rfl, rfl⟩
  · by_cases h1 : c < 97
    · have H : Hid (titN true c = c) := Lib.hid (by unfold titN; rw [letN_lo c h1]; rfl)
      have t1 : decide ((c : Int) ≥ 97) = false := by simp; omega
      go_enter Tryz.func192, Tryz.ntmps192
      go_wp2_with fail
      go_ret
      exact ⟨by rw [H.out]; rfl, rfl⟩
    · by_cases h2 : 122 < c
      · have H : Hid (titN true c = c) := Lib.hid (by unfold titN; rw [letN_hi c h2]; rfl)
        have t1 : decide ((c : Int) ≤ 122) = false := by simp; omega
        go_enter Tryz.func192, Tryz.ntmps192
        go_wp2_with fail
        go_ret
        exact ⟨by rw [H.out]; rfl, rfl⟩
      · have H : Hid (titN true c = c - 32) := Lib.hid (by unfold titN; rw [letN_in c (by omega) (by omega)]; rfl)
        have t1 : decide ((c : Int) ≤ 122) = true := by simp; omega
        have h3 : 97 ≤ c := by omega
        go_enter Tryz.func192, Tryz.ntmps192
        go_wp2_with fail
        go_ret
        refine ⟨ret_int ?_, rfl⟩
        rw [H.out]; omega

def stB (c : UInt8) : Bool := ((c.toNat : Nat) : Int) == 45
def titL : Bool → List UInt8 → List UInt8
  | _, [] => []
  | b, c :: t => UInt8.ofNat (titN b c.toNat) :: titL (stB c) t
theorem titN_le (b : Bool) (c : Nat) (h : c < 128) : titN b c < 128 := by unfold titN; split <;> omega

theorem builder_keeps {T e : TypeId} {B b c : Nat} {p : Value} {l : List Value} {w : World} (h : Go.Lib.BuilderAtF T e B b p l w) (hc : c < B) (v : Value) : Go.Lib.BuilderAtF T e B b p l (w.setCell ⟨c, 0, none⟩ v) := by
  obtain ⟨hB, x, hx, hown, hne⟩ := h
  have hnc : x.ownBlock ≠ some c := by
    rcases hown.2 with ⟨rfl, _⟩ | ⟨g, cap, cur, fz, rfl, hg, _⟩
    · simp [Value.ownBlock]
    · intro e
      have : g = c := by simpa [Value.ownBlock] using e
      omega
  refine ⟨hB, x, ?_, hown.kept (row := some c) ⟨rfl, rfl, rfl, by simp [World.setCell], fun k _ hk => Below.heap_setCell _ _ _ _ (fun e => hk (by simp [e]))⟩ (Or.inr hnc), hne⟩
  rw [← hx]
  exact Below.heap_setCell _ _ _ _ (show b ≠ c by omega)
theorem isBuilder_keeps {T e : TypeId} {B b c : Nat} {l : List Value} {w : World} (h : Go.Lib.IsBuilderF T e B b l w) (hc : c < B) (v : Value) : Go.Lib.IsBuilderF T e B b l (w.setCell ⟨c, 0, none⟩ v) :=
  h.elim (fun x => .inl (builder_keeps x hc v)) (fun x => .inr (builder_keeps x hc v))

/-- the closure's cell and what lies below it -/
def AtT (w0 : World) (c : Nat) (b : Bool) (w : World) : Prop := w.heap[c]? = some (.cells #[.bool b] 4 (0, 0)) ∧ Below c w0 w
theorem AtT.below {w0 w w' : World} {c B : Nat} {b : Bool} (h : AtT w0 c b w) (hb : Below B w w') (hB : c < B) : AtT w0 c b w' :=
  ⟨(hb.block c hB).trans h.1, h.2.trans (hb.mono (by omega))⟩
theorem AtT.set {w0 w : World} {c : Nat} {b : Bool} (h : AtT w0 c b w) (b' : Bool) : AtT w0 c b' (w.setCell ⟨c, 0, none⟩ (.bool b')) := by
  refine ⟨?_, h.2.setCell (p := ⟨c, 0, none⟩) (Nat.le_refl _) _⟩
  simp [World.setCell, Array.getElem?_modify, h.1]
theorem setCell_other (w : World) (c j : Nat) (v : Value) (h : j ≠ c) : (w.setCell ⟨c, 0, none⟩ v).heap[j]? = w.heap[j]? := Below.heap_setCell _ _ _ _ h
end Go.Proofs.YtbdmmgmcbecolaaGreatDoor
namespace Go.Proofs.YtbdmmgmcbecolaaGreatDoor
open Go.RowKit Go.Lib

theorem titL_step (b : Bool) (l : List UInt8) (k : Nat) (h : k < l.length) : titL b (l.drop k) = UInt8.ofNat (titN b l[k].toNat) :: titL (stB l[k]) (l.drop (k + 1)) := by
  rw [List.drop_eq_getElem_cons h]; rfl

theorem c_grow (b n : Nat) (w : World) (hbk : w.heap[b]? = some (.cells #[.pointer none, .slice none 0 0] 194 (0, 0))) (hBw : b ≤ w.heap.size) (hn : n ≤ 281474976710656) :
    Calls Tryz.prog 88 #[.pointer (some ⟨b, 0, none⟩), .int .i64 n] w fun e w' => e = .returned (.tuple #[]) ∧ (Lib.BuilderAt 194 5 b b (.pointer (some ⟨b, 0, none⟩)) [] w' ∧ Below b w w') ∧ ∃ p cap, w'.cell? ⟨b, 1, none⟩ = some (.slice p 0 cap) ∧ n ≤ cap :=
  Any.Builder_Grow_fresh_cap { Tryz.lays230 with } Tryz.Builder_Extra_230 b b n w (Nat.le_refl _) hbk hBw hn
theorem c_writeString (b : Nat) (l : List Value) (s : ByteArray) (w : World) (h : Lib.IsBuilderF 194 5 b b l w) (hlen : l.length + s.size ≤ 140737488355328) (hBw : b ≤ w.heap.size) :
    Calls Tryz.prog 89 #[.pointer (some ⟨b, 0, none⟩), .string s] w fun e w' => e = .returned (.tuple #[.int .i64 s.size, .nilIface]) ∧ (Lib.BuilderAtF 194 5 b b (.pointer (some ⟨b, 0, none⟩)) (l ++ Lib.strCells s) w' ∧ Below b w w' ∧ Lib.OthersKept 5 (some b) w w') ∧ ∀ v0, w.cell? ⟨b, 1, none⟩ = some v0 → ∃ v1, w'.cell? ⟨b, 1, none⟩ = some v1 ∧ v0.capOf ≤ v1.capOf :=
  Any.Builder_WriteString_kc { Tryz.lays230 with } Tryz.Builder_Extra_230 b b l s w h hlen hBw
theorem c_writeByte (b : Nat) (l : List Value) (c : Int) (w : World) (h : Lib.IsBuilderF 194 5 b b l w) (hlen : l.length + 1 ≤ 140737488355328) (hBw : b ≤ w.heap.size) :
    Calls Tryz.prog 176 #[.pointer (some ⟨b, 0, none⟩), .int .u8 c] w fun e w' => e = .returned .nilIface ∧ (Lib.BuilderAtF 194 5 b b (.pointer (some ⟨b, 0, none⟩)) (l ++ [.int .u8 c]) w' ∧ Below b w w' ∧ Lib.OthersKept 5 (some b) w w') :=
  Any.Builder_WriteByte_k { Tryz.lays230 with } Tryz.Builder_Extra_230 b b l c w h hlen hBw
theorem c_writeRune (b : Nat) (l : List Value) (r : Nat) (hr : r < 128) (w : World) (h : Lib.IsBuilderF 194 5 b b l w) (hlen : l.length + 4 ≤ 140737488355328) (hBw : b ≤ w.heap.size) :
    Calls Tryz.prog 174 #[.pointer (some ⟨b, 0, none⟩), .int .i32 (r : Int)] w fun e w' => e = .returned (.tuple #[.int .i64 1, .nilIface]) ∧ (Lib.BuilderAtF 194 5 b b (.pointer (some ⟨b, 0, none⟩)) (l ++ [.int .u8 (r : Int)]) w' ∧ Below b w w' ∧ Lib.OthersKept 5 (some b) w w') := by
  have h := Any.Builder_WriteRune_k { Tryz.lays230 with } Tryz.Builder_Extra_230 b b l (r : Int) (by omega) (by omega) w h hlen hBw
  have e : Lib.runeCells (r : Int) = [.int .u8 (r : Int)] := by unfold Lib.runeCells; rw [Lib.encodeRuneZ_one (by omega) (by omega)]; rfl
  rw [e] at h
  exact h
theorem c_string (b : Nat) (l : List UInt8) (w : World) (h : Lib.IsBuilderF 194 5 b b (Lib.byteCells l) w) (hBw : b ≤ w.heap.size) :
    Calls Tryz.prog 90 #[.pointer (some ⟨b, 0, none⟩)] w fun e w' => e = .returned (.string (bs l)) ∧ (Lib.IsBuilderF 194 5 b b (Lib.byteCells l) w' ∧ Below b w w') :=
  Any.Builder_String_any_f { Tryz.lays230 with } Tryz.Builder_Extra_230 b b l w h hBw
theorem c_cap (b : Nat) (p : Option Addr) (n cap : Nat) (w : World) (c1 : w.cell? ⟨b, 1, none⟩ = some (.slice p n cap)) :
    Calls Tryz.prog 175 #[.pointer (some ⟨b, 0, none⟩)] w fun e w' => e = .returned (.int .i64 cap) ∧ w' = w :=
  Any.Builder_Cap_cell { Tryz.lays230 with } b p n cap w c1
theorem c_runeLen (r : Nat) (hr : r < 128) (w : World) : Calls Tryz.prog 173 #[.int .i32 (r : Int)] w fun e w' => e = .returned (.int .i64 1) ∧ w' = w := by
  have h := Any.utf8_RuneLen { Tryz.lays230 with } (r : Int) w
  have e : Lib.runeLen (r : Int) = 1 := by unfold Lib.runeLen; rw [if_neg (by omega), if_pos (by omega)]
  rw [e] at h
  exact h

set_option maxRecDepth 100000 in
set_option maxHeartbeats 400000 in
theorem map_titled (s : ByteArray) (w : World) (c : Nat) (hs : s.size ≤ 1000000) (hasc : ∀ j (h : j < s.size), s[j].toNat < 128) (hcw : c < w.heap.size) (hcell : w.heap[c]? = some (.cells #[.bool true] 4 (0, 0))) :
    Calls Tryz.prog 144 #[.func (.func 192) #[] #[.pointer (some ⟨c, 0, none⟩)], .string s] w fun e w' => e = .returned (.string (bs (titL true s.data.toList))) ∧ Below c w w' := by
  have eg : ∀ args w, (callFunc 192 args).run Tryz.prog w = .ok (.enter 192 args) w := enters_of Tryz.func192 (by kernel_rfl) rfl
  obtain ⟨ANS, hANS⟩ : ∃ ANS, ANS = titL true s.data.toList := ⟨_, rfl⟩
  have hlen : s.data.toList.length = s.size := size_len s
  rw [← hANS]
  have HASC := Lib.hid hasc
  clear hasc
  go_enter Tryz.func144, Tryz.ntmps144
  go_wp2
  go_loopg [1] s.size (fun gk s1 wx => s1 = .string s ∧ ∃ (k : Nat) (b : Bool), wx.heap[w.heap.size]? = some (.cells #[.pointer none, .slice none 0 0] 194 (0, 0)) ∧ wx.heap[w.heap.size + 1]? = some (.stringIter s k) ∧ AtT w c b wx ∧
    s.data.toList.take k ++ titL b (s.data.toList.drop k) = ANS ∧ s.size ≤ k + gk ∧ k ≤ s.size)
  case atStart =>
    refine ⟨rfl, 0, true, ?_, ?_, ⟨?_, ?_⟩, by rw [hANS]; rfl, by omega, by omega⟩
    · have h1 := heap_alloc_new w (.cells #[.pointer none, .slice none 0 0] 194)
      exact (Below.heap_alloc _ _ _ (by simp)).trans h1
    · have := World.iter_heap (w.alloc (.cells #[.pointer none, .slice none 0 0] 194)) s 0
      simpa using this
    · exact (Below.heap_alloc _ _ _ (by simp; omega)).trans ((Below.heap_alloc _ _ _ (by omega)).trans hcell)
    · exact ((Below.refl c w).alloc (by omega) _).alloc (by simp; omega) _
  case round =>
    obtain ⟨rfl, k, b, hfr, hit, hAt, hsp, hfu, hks⟩ := hrel
    by_cases hlt : k < s.size
    · obtain ⟨g', rfl⟩ : ∃ g', gk = g' + 1 := ⟨gk - 1, by omega⟩
      have hch := HASC.out k hlt
      have hdec := decode_low s k hlt hch
      have hnx : ∀ ty, (Instr.next (.pointer (some ⟨w.heap.size + 1, 0, none⟩)) true ty).run Tryz.prog wr = _ := fun ty => Lib.run_next_any_at wr (w.heap.size + 1) s k ty hit hlt
      rw [hdec] at hnx
      have hst := titL_step b s.data.toList k (by rw [hlen]; exact hlt)
      change titL b (s.data.toList.drop k) = UInt8.ofNat (titN b s[k].toNat) :: titL (stB s[k]) (s.data.toList.drop (k + 1)) at hst
      obtain ⟨ch, hchq⟩ : ∃ ch, ch = s[k] := ⟨_, rfl⟩
      have htk : s.data.toList.take (k + 1) = s.data.toList.take k ++ [ch] := by
        rw [List.take_succ_eq_append_getElem (by rw [hlen]; exact hlt), hchq]; rfl
      rw [← hchq] at hst hch hnx
      have hit2 := Lib.iterAt_heap wr (w.heap.size + 1) s k (k + 1) hit
      have hfr2 : (wr.iterAt (w.heap.size + 1) s (k + 1)).heap[w.heap.size]? = _ := (Lib.iterAt_other wr (w.heap.size + 1) w.heap.size s (k + 1) (by omega)).trans hfr
      have hAt2 : AtT w c b (wr.iterAt (w.heap.size + 1) s (k + 1)) := hAt.below (Lib.below_iterAt (Below.refl (w.heap.size + 1) wr) (Nat.le_refl _) s (k + 1)) (by omega)
      obtain ⟨W, hW⟩ : ∃ W, wr.iterAt (w.heap.size + 1) s (k + 1) = W := ⟨_, rfl⟩
      rw [hW] at hnx hit2 hfr2 hAt2
      have cS := titled1 ch.toNat c b W hAt2.1 hch
      have hAt3 : AtT w c (stB ch) (W.setCell ⟨c, 0, none⟩ (.bool (stB ch))) := hAt2.set (stB ch)
      have hfr3 : (W.setCell ⟨c, 0, none⟩ (.bool (stB ch))).heap[w.heap.size]? = _ := (setCell_other W c w.heap.size (.bool (stB ch)) (by omega)).trans hfr2
      have hit3 : (W.setCell ⟨c, 0, none⟩ (.bool (stB ch))).heap[w.heap.size + 1]? = _ := (setCell_other W c (w.heap.size + 1) (.bool (stB ch)) (by omega)).trans hit2
      have hn1 : ((ch.toNat : Int) != 65533) = true := by rw [bne_iff_ne]; omega
      have hn2 : ((ch.toNat : Int) == 65533) = false := by rw [beq_eq_false_iff_ne]; omega
      have hn3 : ¬ (ch.toNat : Int) = 65533 := by omega
      have hM := titN_le b ch.toNat hch
      obtain ⟨M, hMq⟩ : ∃ M, M = titN b ch.toNat := ⟨_, rfl⟩
      rw [← hMq] at cS hst hM
      obtain ⟨W3, hW3⟩ : ∃ W3, W3 = W.setCell ⟨c, 0, none⟩ (.bool (stB ch)) := ⟨_, rfl⟩
      change Calls _ _ _ _ fun e w' => _ ∧ w' = W.setCell ⟨c, 0, none⟩ (.bool (stB ch)) at cS
      rw [← hW3] at cS hAt3 hfr3 hit3
      clear hit hfr hAt hW hAt2 hfr2 hit2 hMq hW3 hchq hdec
      by_cases hc : M = ch.toNat
      · have HS : Hid (s.data.toList.take (k + 1) ++ titL (stB ch) (s.data.toList.drop (k + 1)) = ANS) := Lib.hid (by
          rw [← hsp, hst, htk, hc, List.append_assoc]; simp)
        subst hc
        clear hst hsp htk
        go_wp2_with (go_at_fn 192; go_must (refine cS.mono ?_; rintro e W' ⟨rfl, rfl⟩))
        go_roundg g'
        case measure => omega
        case rel => exact ⟨rfl, k + 1, stB ch, hfr3, hit3, hAt3, HS.out, by omega, by omega⟩
      · have HS : Hid ((s.data.toList.take k ++ [UInt8.ofNat M]) ++ titL (stB ch) (s.data.toList.drop (k + 1)) = ANS) := Lib.hid (by
          rw [← hsp, hst, List.append_assoc]; rfl)
        have t1 : ((M : Int) == (ch.toNat : Int)) = false := by rw [beq_eq_false_iff_ne]; omega
        have hxs : (s.extract 0 k).size = k := by rw [ByteArray.size_extract]; omega
        have hxd : (s.extract 0 k).data.toList = s.data.toList.take k := by rw [extract_bs, bs_data, List.drop_zero]
        have hMch : ¬ (M : Int) = (ch.toNat : Int) := by omega
        clear hst hsp htk hc
        go_wp2_with fail
        refine cS.mono ?_
        rintro e W' ⟨rfl, rfl⟩
        go_wp2_with fail
        refine (c_runeLen ch.toNat hch _).mono ?_
        rintro e W' ⟨rfl, rfl⟩
        go_wp2_with fail
        have hsz3 : w.heap.size ≤ W'.heap.size := by have := (Array.getElem?_eq_some_iff.1 hfr3).1; omega
        have cG := c_grow w.heap.size (s.size + 4) W' hfr3 hsz3 (by omega)
        rw [show ((s.size + 4 : Nat) : Int) = (s.size : Int) + 4 by omega] at cG
        refine cG.mono ?_
        rintro e W4 ⟨rfl, ⟨h4, b4⟩, p4, cap4, hc4, hcap4⟩
        have hAt4 := hAt3.below b4 hcw
        have hsz4 : w.heap.size ≤ W4.heap.size := by have := b4.size; omega
        clear cG hfr3 hit3 hAt3 cS
        go_wp2_with fail
        refine (c_writeString w.heap.size [] (s.extract 0 k) W4 (Lib.IsBuilderF.of (Or.inr h4)) (by rw [hxs]; simp; omega) hsz4).mono ?_
        rintro e W5 ⟨rfl, ⟨h5, b5, -⟩, hk5⟩
        obtain ⟨v5, hv5, hcap5⟩ := hk5 _ hc4
        have hcap5' : 4 ≤ v5.capOf := by
          have : cap4 ≤ v5.capOf := hcap5
          omega
        have hAt5 := hAt4.below b5 hcw
        have hsz5 : w.heap.size ≤ W5.heap.size := by have := b5.size; omega
        clear hk5 hc4 h4 hAt4 b4 b5 hv5 hcap5 hcap5'
        go_wp2_with fail
        refine (c_writeRune w.heap.size _ M hM W5 (Or.inr h5) (by simp [Lib.strCells_length, hxs]; omega) hsz5).mono ?_
        rintro e W6 ⟨rfl, h6, b6, -⟩
        have hAt6 := hAt5.below b6 hcw
        have hsz6 : w.heap.size ≤ W6.heap.size := by have := b6.size; omega
        have hcells : [] ++ Lib.strCells (s.extract 0 k) ++ [Value.int .u8 (M : Int)] = Lib.byteCells (s.data.toList.take k ++ [UInt8.ofNat M]) := by
          rw [List.nil_append, Lib.strCells_eq, hxd, Lib.byteCells_append]
          congr 1
          unfold Lib.byteCells
          simp [UInt8.toNat_ofNat']
          omega
        rw [hcells] at h6
        obtain ⟨g6, n6, cap6, hc6, hcap6⟩ : ∃ g n cap, W6.cell? ⟨w.heap.size, 1, none⟩ = some (.slice (some ⟨g, 0, none⟩) n cap) ∧ 1 ≤ cap := by
          obtain ⟨_, v6, hv6, hown6, _⟩ := h6
          rcases hown6.2 with ⟨_, h0⟩ | ⟨g6, cap6, _, _, rfl, _, _, _, hnc, _⟩
          · exfalso
            simp [Lib.byteCells] at h0
          · refine ⟨g6, _, cap6, by rw [Lib.cell_of_heap hv6]; rfl, ?_⟩
            have : 1 ≤ (Lib.byteCells (s.data.toList.take k ++ [UInt8.ofNat M])).length := by rw [Lib.byteCells_length]; simp
            omega
        have hcz : ((cap6 : Int) == 0) = false := by rw [beq_eq_false_iff_ne]; omega
        have hBlt : w.heap.size < W6.heap.size := h6.lt
        clear h5 hAt5 hsz5 b6
        go_wp2_with fail
        refine (c_cap w.heap.size _ _ cap6 W6 hc6).mono ?_
        rintro e W' ⟨rfl, rfl⟩
        obtain ⟨s2, hs2⟩ : ∃ s2, s.extract (k + 1) s.size = s2 := ⟨_, rfl⟩
        have hl2 : s2.data.toList = s.data.toList.drop (k + 1) := by rw [← hs2, extract_bs, bs_data, ← hlen, List.take_length]
        have hz2 : s2.size = s.size - (k + 1) := by rw [← size_len, hl2, List.length_drop, hlen]
        have HASC2 : Hid (∀ j (h : j < s2.size), s2[j].toNat < 128) := Lib.hid (fun j h => by
          have := HASC.out (k + 1 + j) (by omega)
          have e : s2[j] = s[k + 1 + j] := by
            have : s2.data.toList[j]'(by rw [size_len]; exact h) = s.data.toList[k + 1 + j]'(by rw [size_len]; omega) := by
              simp only [hl2, List.getElem_drop]
            exact this
          rw [e]; exact this)
        go_wp2_with fail
        go_loopg [] s2.size (fun gk wx => ∃ (p : Nat) (acc : List UInt8) (st : Bool), Lib.IsBuilderF 194 5 w.heap.size w.heap.size (Lib.byteCells acc) wx ∧ wx.heap[W'.heap.size]? = some (.stringIter s2 p) ∧ AtT w c st wx ∧
          acc ++ titL st (s2.data.toList.drop p) = ANS ∧ s2.size ≤ p + gk ∧ p ≤ s2.size ∧ acc.length ≤ k + 1 + p)
        case atStart =>
          refine ⟨0, s.data.toList.take k ++ [UInt8.ofNat M], stB ch, Lib.IsBuilderF.alloc (Or.inr h6) _, World.iter_heap W' s2 0, hAt6.below ((Below.refl W'.heap.size W').alloc (Nat.le_refl _) _) (by omega), ?_, by omega, by omega, ?_⟩
          · rw [List.drop_zero, hl2]; exact HS.out
          · rw [List.length_append, List.length_take, hlen]; simp; omega
        case round =>
          obtain ⟨p, acc, st, hI, hit, hAt, hacc, hfu2, hp2, hal⟩ := hrel
          have hszI : W'.heap.size < wr.heap.size := (Array.getElem?_eq_some_iff.1 hit).1
          by_cases hlt2 : p < s2.size
          · obtain ⟨g2, rfl⟩ : ∃ g2, gk = g2 + 1 := ⟨gk - 1, by omega⟩
            have hch2 := HASC2.out p hlt2
            have hnx : ∀ ty, (Instr.next (.pointer (some ⟨W'.heap.size, 0, none⟩)) true ty).run Tryz.prog wr = _ := fun ty => Lib.run_next_any_at wr W'.heap.size s2 p ty hit hlt2
            rw [decode_low s2 p hlt2 hch2] at hnx
            have hst := titL_step st s2.data.toList p (by rw [size_len]; exact hlt2)
            change titL st (s2.data.toList.drop p) = UInt8.ofNat (titN st s2[p].toNat) :: titL (stB s2[p]) (s2.data.toList.drop (p + 1)) at hst
            obtain ⟨d, hd⟩ : ∃ d, d = s2[p] := ⟨_, rfl⟩
            rw [← hd] at hst hch2 hnx
            have hI2 := hI.iterAt hit (p + 1)
            have hit2 := Lib.iterAt_heap wr W'.heap.size s2 p (p + 1) hit
            have hAt2 : AtT w c st (wr.iterAt W'.heap.size s2 (p + 1)) := hAt.below (Lib.below_iterAt (Below.refl W'.heap.size wr) (Nat.le_refl _) s2 (p + 1)) (by omega)
            obtain ⟨Wa, hWa⟩ : ∃ Wa, wr.iterAt W'.heap.size s2 (p + 1) = Wa := ⟨_, rfl⟩
            rw [hWa] at hnx hI2 hit2 hAt2
            have cS := titled1 d.toNat c st Wa hAt2.1 hch2
            change Calls _ _ _ _ fun e w' => _ ∧ w' = Wa.setCell ⟨c, 0, none⟩ (.bool (stB d)) at cS
            have hAt3 := hAt2.set (stB d)
            have hit3 : (Wa.setCell ⟨c, 0, none⟩ (.bool (stB d))).heap[W'.heap.size]? = _ := (setCell_other Wa c W'.heap.size (.bool (stB d)) (by omega)).trans hit2
            have hI3 := isBuilder_keeps hI2 hcw (.bool (stB d))
            have hN := titN_le st d.toNat hch2
            obtain ⟨N, hNq⟩ : ∃ N, N = titN st d.toNat := ⟨_, rfl⟩
            rw [← hNq] at cS hst hN
            have HS2 : Hid ((acc ++ [UInt8.ofNat N]) ++ titL (stB d) (s2.data.toList.drop (p + 1)) = ANS) := Lib.hid (by
              rw [← hacc, hst, List.append_assoc]; rfl)
            obtain ⟨W3, hW3⟩ : ∃ W3, W3 = Wa.setCell ⟨c, 0, none⟩ (.bool (stB d)) := ⟨_, rfl⟩
            rw [← hW3] at cS hAt3 hit3 hI3
            have hsz3 : W'.heap.size < W3.heap.size := (Array.getElem?_eq_some_iff.1 hit3).1
            have n0 : (0 : Int) ≤ (N : Int) := by omega
            clear hd hI hit hAt hI2 hit2 hAt2 hWa hNq hW3 hst hacc
            go_wp2_with fail
            refine cS.mono ?_
            rintro e W7 ⟨rfl, rfl⟩
            go_wp2_with fail
            refine (c_writeByte w.heap.size _ (N : Int) W7 hI3 (by rw [Lib.byteCells_length]; omega) (by omega)).mono ?_
            rintro e W8 ⟨rfl, h8, b8, k8⟩
            go_wp2_with fail
            go_roundg g2
            case measure => omega
            case rel =>
              refine ⟨p + 1, acc ++ [UInt8.ofNat N], stB d, Or.inr ?_, k8.iter hit3 (by omega), hAt3.below b8 hcw, HS2.out, by omega, by omega, by rw [List.length_append]; simp; omega⟩
              rw [Lib.byteCells_append]
              have e1 : Lib.byteCells [UInt8.ofNat N] = [Value.int .u8 (N : Int)] := by
                unfold Lib.byteCells
                simp [UInt8.toNat_ofNat']
                omega
              rw [e1]; exact h8
          · obtain rfl : p = s2.size := by omega
            have hnx : ∀ ty, (Instr.next (.pointer (some ⟨W'.heap.size, 0, none⟩)) true ty).run Tryz.prog wr = _ := fun ty => Lib.run_next_end_at wr W'.heap.size s2 s2.size ty hit hlt2
            have HS2 : Hid (acc = ANS) := Lib.hid (by rw [← hacc, ← size_len s2, List.drop_length]; exact (List.append_nil _).symm)
            clear hacc hit
            go_wp2_with fail
            refine (c_string w.heap.size acc wr hI (by omega)).mono ?_
            rintro e W8 ⟨rfl, _, b8⟩
            go_wp2_with fail
            go_ret
            exact ⟨ret_str (by rw [HS2.out]), (hAt.below b8 hcw).2⟩
    · obtain rfl : k = s.size := by omega
      have hnx : ∀ ty, (Instr.next (.pointer (some ⟨w.heap.size + 1, 0, none⟩)) true ty).run Tryz.prog wr = _ := fun ty => Lib.run_next_end_at wr (w.heap.size + 1) s s.size ty hit hlt
      have cC : Calls Tryz.prog 175 #[.pointer (some ⟨w.heap.size, 0, none⟩)] wr fun e w' => e = .returned (.int .i64 0) ∧ w' = wr := c_cap w.heap.size none 0 0 wr (by rw [Lib.cell_of_heap hfr]; rfl)
      have HS : Hid (s = bs ANS) := Lib.hid (by rw [← hsp, ← hlen, List.drop_length, List.take_length]; show s = bs (_ ++ []); rw [List.append_nil, bs_self])
      clear hsp
      clear hit hfr
      go_wp2_with fail
      refine cC.mono ?_
      rintro e W' ⟨rfl, rfl⟩
      go_wp2_with fail
      go_ret
      exact ⟨ret_str HS.out, hAt.2⟩
end Go.Proofs.YtbdmmgmcbecolaaGreatDoor
namespace Go.Proofs.YtbdmmgmcbecolaaGreatDoor
open Go.RowKit

theorem fields_titled (s : ByteArray) (w : World) (hs : s.size ≤ 1000000) (hasc : ∀ j (h : j < s.size), s[j].toNat < 128) :
    Calls Tryz.prog 159 #[.string s] w fun e w' => e = .returned (.string (bs (titL true s.data.toList))) ∧ Below w.heap.size w w' := by
  have HM := Lib.hid (fun w c => map_titled s w c hs hasc)
  obtain ⟨A, hA⟩ : ∃ A, A = bs (titL true s.data.toList) := ⟨_, rfl⟩
  rw [← hA] at HM ⊢
  clear hasc hA
  go_enter Tryz.func159, Tryz.ntmps159
  go_wp2_with fail
  refine (HM.out _ w.heap.size (box_lt _ _ _) (heap_alloc_new w _)).mono ?_
  rintro e w1 ⟨rfl, hb⟩
  go_wp2_with fail
  go_ret
  exact ⟨rfl, (below_box w _ _).trans hb⟩

/-- a letter as a small one -/
def smallN (c : Nat) : Nat := if 65 ≤ c ∧ c ≤ 90 then c + 32 else c
theorem fields_small (c : Nat) (w : World) (hc : c ≤ 1114111) : Calls Tryz.prog 145 #[.int .i32 (c : Int)] w fun e w' => e = .returned (.int .i32 (smallN c : Nat)) ∧ w' = w := by
  by_cases h1 : c < 65
  · have H : Hid (smallN c = c) := Lib.hid (if_neg (by omega))
    have t : decide ((c : Int) ≥ 65) = false := by simp; omega
    go_enter Tryz.func145, Tryz.ntmps145
    go_wp2_with fail
    go_ret
    exact ⟨by rw [H.out]; rfl, rfl⟩
  · by_cases h2 : 90 < c
    · have H : Hid (smallN c = c) := Lib.hid (if_neg (by omega))
      have t : decide ((c : Int) ≤ 90) = false := by simp; omega
      go_enter Tryz.func145, Tryz.ntmps145
      go_wp2_with fail
      go_ret
      exact ⟨by rw [H.out]; rfl, rfl⟩
    · have H : Hid (smallN c = c + 32) := Lib.hid (if_pos (by omega))
      have t : decide ((c : Int) ≤ 90) = true := by simp; omega
      have h3 : 65 ≤ c := by omega
      go_enter Tryz.func145, Tryz.ntmps145
      go_wp2_with fail
      go_ret
      refine ⟨ret_int ?_, rfl⟩
      rw [H.out]; omega

def gapB (c : UInt8) : Bool := c == 32 || c == 9
end Go.Proofs.YtbdmmgmcbecolaaGreatDoor
namespace Go.Proofs.YtbdmmgmcbecolaaGreatDoor
open Go.RowKit
theorem all_at (q : UInt8 → Bool) (s : ByteArray) (k : Nat) (h : k < s.size) (hq : q s[k] = false) : s.data.toList.all q = false := by
  rw [List.all_eq_false]
  exact ⟨s[k], List.getElem_mem (by rw [size_len]; exact h), by simp [hq]⟩
theorem all_of (q : UInt8 → Bool) (s : ByteArray) (h : ∀ j (hj : j < s.size), q s[j] = true) : s.data.toList.all q = true := by
  rw [List.all_eq_true]
  intro c hc
  obtain ⟨k, hk, rfl⟩ := List.getElem_of_mem hc
  exact h k (by rw [← size_len]; exact hk)
theorem upto_step (q : UInt8 → Bool) (s : ByteArray) (k : Nat) (h : ∀ j, j < k → ∀ hj : j < s.size, q (s[j]'hj) = true) (hk : k < s.size) (hq : q s[k] = true) : ∀ j, j < k + 1 → ∀ hj : j < s.size, q (s[j]'hj) = true := by
  intro j hj hjs
  by_cases e : j = k
  · subst e; exact hq
  · exact h j (by omega) hjs

theorem named_cases (n : Nat) : (97 ≤ n ∧ n ≤ 122 ∧ namedN n = true) ∨ (48 ≤ n ∧ n ≤ 57 ∧ namedN n = true) ∨ (n = 45 ∧ namedN n = true) ∨ (n < 48 ∧ n ≠ 45 ∧ namedN n = false) ∨ (57 < n ∧ n < 97 ∧ namedN n = false) ∨ (122 < n ∧ namedN n = false) := by
  unfold namedN letN digN
  simp only [Bool.or_eq_true, Bool.and_eq_true, decide_eq_true_eq, beq_iff_eq, Bool.or_eq_false_iff, Bool.and_eq_false_iff, decide_eq_false_iff_not, beq_eq_false_iff_ne]
  omega
theorem nameL_not (l : List UInt8) (h : l.all (fun c => namedN c.toNat) = false) : nameL l = false := by unfold nameL; rw [h, Bool.and_false]
theorem nameL_len (s : ByteArray) (h : s.data.toList.all (fun c => namedN c.toNat) = true) : nameL s.data.toList = (decide (1 ≤ s.size) && decide (s.size ≤ 32)) := by
  unfold nameL
  rw [h, Bool.and_true, size_len]
  congr 1
  cases hl : s.data.toList with
  | nil => rw [decide_eq_false (by rw [← size_len, hl]; decide)]; rfl
  | cons a t => rw [decide_eq_true (by rw [← size_len, hl]; simp)]; rfl
end Go.Proofs.YtbdmmgmcbecolaaGreatDoor
namespace Go.Proofs.YtbdmmgmcbecolaaGreatDoor
open Go.RowKit

def smallB (c : UInt8) : UInt8 := UInt8.ofNat (smallN c.toNat)
/-- what stands ahead of the first colon -/
def ahead (l : List UInt8) : List UInt8 := l.takeWhile (fun c => c != 58)
def gapL : List UInt8 := [32, 9]
def parseName (l : List UInt8) : List UInt8 := (ahead l).map smallB
def parseVal (l : List UInt8) : List UInt8 := Go.Lib.trimS (l.drop ((ahead l).length + 1)) gapL
def plainAll (l : List UInt8) : Bool := l.all (fun c => plainB c.toNat)
def parseOk (l : List UInt8) : Bool := plainAll l && decide ((ahead l).length < l.length) && nameL (parseName l)
def parseN (l : List UInt8) : List UInt8 := if parseOk l = true then parseName l else []
def parseV (l : List UInt8) : List UInt8 := if parseOk l = true then parseVal l else []
def parseE (l : List UInt8) : Nat := if parseOk l = true then 0 else 4

theorem ahead_le (l : List UInt8) : (ahead l).length ≤ l.length := (List.takeWhile_prefix _).length_le
theorem ahead_take (l : List UInt8) : l.take (ahead l).length = ahead l := (List.prefix_iff_eq_take.1 (List.takeWhile_prefix _)).symm
theorem index58 (l : List UInt8) : Go.Lib.index l [58] = if (ahead l).length < l.length then ((ahead l).length : Int) else -1 := by
  induction l with
  | nil => rfl
  | cons c t ih =>
    unfold Go.Lib.index
    by_cases hc : c = 58
    · subst hc
      have : ahead (58 :: t) = [] := by unfold ahead; rw [List.takeWhile_cons_of_neg (by decide)]
      rw [this, if_pos (by simp [List.isPrefixOf]), if_pos (by simp)]; rfl
    · have ha : ahead (c :: t) = c :: ahead t := by unfold ahead; rw [List.takeWhile_cons_of_pos (by simpa using hc)]
      rw [if_neg (by simp [List.isPrefixOf]; exact fun h => hc h.symm), ih, ha]
      by_cases hlt : (ahead t).length < t.length
      · rw [if_pos hlt, if_neg (by rw [beq_iff_eq]; omega), if_pos (by simp; omega)]; simp
      · rw [if_neg hlt, if_pos (by decide), if_neg (by simp; omega)]
theorem cut58 (l : List UInt8) : Go.Lib.cut l [58] = if (ahead l).length < l.length then (ahead l, l.drop ((ahead l).length + 1), true) else (l, [], false) := by
  unfold Go.Lib.cut
  rw [index58]
  by_cases hlt : (ahead l).length < l.length
  · rw [if_pos hlt, if_pos (by omega), if_pos hlt, Int.toNat_natCast, ahead_take]; rfl
  · rw [if_neg hlt, if_neg (by decide), if_neg hlt]

theorem smallN_lt (c : Nat) (h : c < 128) : smallN c < 128 := by
  unfold smallN; split <;> omega
theorem mapD_small (l : List UInt8) (f : Int → Int) (hf : ∀ x : Nat, x < 128 → f x = (smallN x : Nat)) : ∀ h : (∀ c ∈ l, c.toNat < 128), Go.Lib.mapD f l = l.map smallB := by
  induction l with
  | nil => intro _; rfl
  | cons c t ih =>
    intro h
    have hc : c.toNat < 128 := h c (List.mem_cons_self ..)
    have hs := smallN_lt _ hc
    rw [Go.Lib.mapD_step f _ (by simp), Go.Lib.decodeL_ascii c t hc, hf _ hc, if_pos (by omega)]
    have e : Go.Lib.encodeRune ((smallN c.toNat : Nat) : Int) = [smallB c] := by
      unfold Go.Lib.encodeRune
      rw [Go.Lib.encodeRuneZ_one (by omega) (by omega)]
      rfl
    rw [e]
    show smallB c :: Go.Lib.mapD f t = _
    rw [ih (fun d hd => h d (List.mem_cons_of_mem _ hd))]; rfl
theorem plainB_lt (n : Nat) (h : plainB n = true) : n < 128 := by
  unfold plainB at h
  simp only [Bool.or_eq_true, beq_iff_eq, Bool.and_eq_true, decide_eq_true_eq] at h
  omega
theorem plainAll_lt (l : List UInt8) (h : plainAll l = true) : ∀ c ∈ l, c.toNat < 128 := fun c hc => plainB_lt _ (List.all_eq_true.1 h c hc)
theorem ahead_sub (l : List UInt8) (c : UInt8) (h : c ∈ ahead l) : c ∈ l := (List.takeWhile_subset _) h
end Go.Proofs.YtbdmmgmcbecolaaGreatDoor
namespace Go.Proofs.YtbdmmgmcbecolaaGreatDoor
open Go.RowKit

/-- what the library's variables hold, carried along a call -/
structure EnvF (w : World) : Prop where
  m : ∃ m, w.cell? ⟨1, 0, none⟩ = some (.int .i64 m)
  mlt : 1 < w.heap.size
  tabs : Lib.Utf8Tabs 4 5 w
  pow : Go.Lib.TabIs Tryz.prog w "internal/strconv.uint64pow10" .u64 Go.Lib.pow10Tab
  big : 6 < w.heap.size
  rng : ∃ tp p, w.cell? ⟨3, 0, none⟩ = some (.iface tp p)
  rlt : 3 < w.heap.size
theorem EnvF.below {w w' : World} (h : EnvF w) (hb : Below w.heap.size w w') : EnvF w' :=
  ⟨let ⟨m, hm⟩ := h.m; ⟨m, (hb.cell (p := ⟨1, 0, none⟩) h.mlt).trans hm⟩, Nat.lt_of_lt_of_le h.mlt hb.size, Utf8Tabs_below h.tabs hb, var?_below hb g_pow10 h.big h.pow, Nat.lt_of_lt_of_le h.big hb.size,
   let ⟨t, p, hp⟩ := h.rng; ⟨t, p, (hb.cell (p := ⟨3, 0, none⟩) h.rlt).trans hp⟩, Nat.lt_of_lt_of_le h.rlt hb.size⟩

/-- the same, without the error of a number that is too great (rows that reach no such number do not list it) -/
structure EnvW (w : World) : Prop where
  m : ∃ m, w.cell? ⟨1, 0, none⟩ = some (.int .i64 m)
  mlt : 1 < w.heap.size
  tabs : Lib.Utf8Tabs 4 5 w
  pow : Go.Lib.TabIs Tryz.prog w "internal/strconv.uint64pow10" .u64 Go.Lib.pow10Tab
  big : 6 < w.heap.size
theorem EnvW.below {w w' : World} (h : EnvW w) (hb : Below w.heap.size w w') : EnvW w' :=
  ⟨let ⟨m, hm⟩ := h.m; ⟨m, (hb.cell (p := ⟨1, 0, none⟩) h.mlt).trans hm⟩, Nat.lt_of_lt_of_le h.mlt hb.size, Utf8Tabs_below h.tabs hb, var?_below hb g_pow10 h.big h.pow, Nat.lt_of_lt_of_le h.big hb.size⟩
theorem EnvF.weak {w : World} (h : EnvF w) : EnvW w := ⟨h.m, h.mlt, h.tabs, h.pow, h.big⟩
end Go.Proofs.YtbdmmgmcbecolaaGreatDoor
