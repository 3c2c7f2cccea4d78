/- What the reference's Parse of a status line returns. -/
import Derived.Test.YtnfadmdndefanaaDoorStatusWalk
import Derived.Test.YtnfadmdndefanaaDoorStatusPlain2
namespace Go.Proofs.YtnfadmdndefanaaDoor
open Go.RowKit

theorem prefix_take (l : List UInt8) : versionL.isPrefixOf l = (l.take 9 == versionL) := by
  rw [Bool.eq_iff_iff, List.isPrefixOf_iff_prefix, beq_iff_eq, List.prefix_iff_eq_take]
  exact ⟨fun h => h.symm, fun h => h.symm⟩
theorem status_form (l : List UInt8) (h : putErr l = 4) : statusOf l = (0, 4) := if_pos h
theorem status_version (l : List UInt8) (h : putErr l ≠ 4) (h2 : versionL.isPrefixOf l = false) : statusOf l = (0, 13) := by
  unfold statusOf; rw [if_neg h, if_pos h2]
theorem status_code (l : List UInt8) (h : putErr l ≠ 4) (h2 : versionL.isPrefixOf l = true) : statusOf l = codeOf (l.drop 9) := by
  unfold statusOf; rw [if_neg h, if_neg (by simp [h2])]
theorem putErr_not4 (l : List UInt8) (h : plainL l) : putErr l ≠ 4 := by
  rw [putErr_ok l fun _ hk => h _ (List.getElem_mem hk)]; split <;> decide
theorem not_digit (c : UInt8) (h : c.toNat < 48 ∨ 57 < c.toNat) : isDigitB c = false := by
  unfold isDigitB; rcases h with h | h <;> simp <;> omega
theorem is_digit (c : UInt8) (h1 : 48 ≤ c.toNat) (h2 : c.toNat ≤ 57) : isDigitB c = true := by
  unfold isDigitB; simp [h1, h2]
theorem status_fin (l : List UInt8) (n : Int) (e : Nat) (h : statusOf l = (n, e)) : Ending.returned (.tuple #[.int .i64 n, .int .i64 e]) = .returned (.tuple #[.int .i64 (statusOf l).1, .int .i64 (statusOf l).2]) := by rw [h]

/-- what stands behind the version, in the walk's own spelling. -/
theorem status_split (s : ByteArray) (h : 12 ≤ s.size) (hcode : statusOf s.data.toList = codeOf (s.data.toList.drop 9)) : ∃ a b c : UInt8,
    (∀ h, ((s.extract 9 s.size)[0]'h).toNat = a.toNat) ∧ (∀ h, ((s.extract 9 s.size)[1]'h).toNat = b.toNat) ∧ (∀ h, ((s.extract 9 s.size)[2]'h).toNat = c.toNat) ∧
    ((∃ h, (s.extract 9 s.size)[3]'h ≠ 32) → statusOf s.data.toList = (0, 4)) ∧
    ((isDigitB a && isDigitB b && isDigitB c) = false → statusOf s.data.toList = (0, 4)) ∧
    ((∀ h, (s.extract 9 s.size)[3]'h = 32) → isDigitB a = true → isDigitB b = true → isDigitB c = true → statusOf s.data.toList = if classOf (numOf a b c) = 0 then (0, 4) else (numOf a b c, 0)) := by
  have hRl : (s.extract 9 s.size).data.toList = s.data.toList.drop 9 := by rw [extract_bs, bs_data, ← size_len s, List.take_length]
  have hRs : (s.extract 9 s.size).size = s.size - 9 := by rw [← size_len, hRl, List.length_drop, size_len]
  rw [← hRl] at hcode
  generalize s.extract 9 s.size = R at *
  have hz : 3 ≤ R.data.toList.length := by rw [size_len, hRs]; omega
  refine ⟨R.data.toList[0], R.data.toList[1], R.data.toList[2], fun _ => rfl, fun _ => rfl, fun _ => rfl, ?_, ?_, ?_⟩
  · rintro ⟨h3, hne⟩
    exact hcode.trans (codeOf_tail _ (by rw [size_len]; exact h3) hne)
  · exact fun hd => hcode.trans (codeOf_digits _ hz hd)
  · intro h3 ha hb hc
    rw [hcode, codeOf_main _ hz (fun h' => h3 (by rw [← size_len]; exact h')), if_neg (by rw [ha, hb, hc]; decide)]

set_option maxRecDepth 100000 in
set_option maxHeartbeats 4000000 in
theorem ref_status_parse (s : ByteArray) (w : World) (hs : s.size ≤ 9223372036854775807) :
    Calls Tryd.prog 29 #[.string s] w fun e w' => e = .returned (.tuple #[.int .i64 (statusOf s.data.toList).1, .int .i64 (statusOf s.data.toList).2]) ∧ w' = w := by
  go_enter Tryd.func29, Tryd.ntmps29
  go_wp2_with fail
  go_loop [4] (fun j => ∃ k : Nat, k ≤ s.size ∧ j = .int .i64 k ∧ Hid (∀ j, j < k → ∀ hj : j < s.size, plainB (s[j]'hj).toNat = true)) (fun j => s.size - (intOf j).toNat)
  case atStart => exact ⟨0, by omega, rfl, Lib.hid (fun j hj => by omega)⟩
  case round =>
    obtain ⟨k, hk, rfl, Hall⟩ := hrel
    by_cases hlt : k < s.size
    · have hcb : s[k].toNat < 256 := s[k].toNat_lt
      by_cases hpl : plainB s[k].toNat = false
      · have H := Lib.hid (status_form s.data.toList (putErr_4 s.data.toList k s[k] (by rw [List.getElem?_eq_getElem (by simpa using hlt)]; rfl) hpl))
        go_wp2_with (go_at_call 25; refine (ref_plain _ _ hcb).mono ?_; rintro e w' ⟨rfl, rfl⟩)
        go_ret2
        exact ⟨status_fin _ 0 4 H.out, rfl⟩
      · have hpl' : plainB s[k].toNat = true := by simpa using hpl
        clear hpl
        have H := Lib.hid (plain_all_step s k Hall.out hlt hpl')
        go_wp2_with (go_at_call 25; refine (ref_plain _ _ hcb).mono ?_; rintro e w' ⟨rfl, rfl⟩)
        go_round
        case rel => exact ⟨k + 1, by omega, by go_num, H⟩
        case measure => simp [intOf]; omega
    · have hp : plainL s.data.toList := fun c hc => by
        obtain ⟨j, hj, rfl⟩ := List.getElem_of_mem hc
        exact Hall.out j (by simp at hj; omega) (by simpa using hj)
      have h4 := putErr_not4 _ hp
      clear hp Hall
      by_cases hpre : versionL.isPrefixOf s.data.toList = true
      · have hcode := status_code _ h4 hpre
        rw [prefix_take, beq_iff_eq] at hpre
        have h9 : 9 ≤ s.size := by
          have := congrArg List.length hpre
          rw [List.length_take, size_len] at this
          simp [versionL] at this; omega
        have hcmp : ((s.extract 0 9).toList == [72, 84, 84, 80, 47, 49, 46, 49, 32]) = true := by
          rw [extract_bs, ByteArray.toList_eq, bs_data, beq_iff_eq, List.drop_zero]; exact hpre
        have Hcode := Lib.hid hcode
        clear hcode hpre h4
        by_cases h3 : s.size < 12
        · have H := Lib.hid (Hcode.out.trans (codeOf_short _ (by rw [List.length_drop, size_len]; omega)))
          have h3' : s.size - 9 < 3 := by omega
          go_wp2_with fail
          go_ret2
          exact ⟨status_fin _ 0 4 H.out, rfl⟩
        · obtain ⟨a, b, c, ea, eb, ec, htail, hdig, hmain⟩ := status_split s (by omega) Hcode.out
          have Hdig := Lib.hid hdig
          have Hmain := Lib.hid hmain
          have h3' : 12 ≤ s.size := by omega
          have d1 : decide (s.size - 9 < 3) = false := by simp; omega
          clear h3 hdig hmain Hcode
          by_cases ht : ∃ h, (s.extract 9 s.size)[3]'h ≠ 32
          · have H := Lib.hid (htail ht)
            have hlt3 : 12 < s.size := by obtain ⟨h, _⟩ := ht; rw [ByteArray.size_extract] at h; omega
            have hc3 : ∀ h, ((((s.extract 9 s.size)[3]'h).toNat : Int) != 32) = true := fun h => by
              rw [bne_iff_ne]; intro e; obtain ⟨h', hne⟩ := ht; exact hne (UInt8.toNat_inj.1 (by show _ = 32; omega))
            clear ht htail ea eb ec
            go_wp2_with fail
            go_ret2
            exact ⟨status_fin _ 0 4 H.out, rfl⟩
          · have h32 : ∀ h, (s.extract 9 s.size)[3]'h = 32 := fun h => Classical.byContradiction fun hne => ht ⟨h, hne⟩
            have Hm := Lib.hid (Hmain.out h32)
            have hc3 : ∀ h, ((((s.extract 9 s.size)[3]'h).toNat : Int) != 32) = false := fun h => by
              rw [h32 h]; rfl
            clear ht htail Hmain h32
            have x0 : a.toNat < 256 := a.toNat_lt
            have x1 : b.toNat < 256 := b.toNat_lt
            have x2 : c.toNat < 256 := c.toNat_lt
            have d2 : decide ((s.size : Int) < 9) = false := by simp; omega
            have d3 : decide (((s.size - 9 : Nat) : Int) < 3) = false := by simp; omega
            have d4 : decide (s.size < 9) = false := by simp; omega
            by_cases h12 : s.size = 12
            · have d5 : decide (3 < s.size - 9) = false := by simp; omega
              have d6 : decide ((3 : Int) < ((s.size - 9 : Nat) : Int)) = false := by simp; omega
              have h12' : s.size ≤ 12 := by omega
              clear h12
              go_wp2_with fail
              go_loop [6, 7] (fun n j => ∃ k : Nat, k ≤ 3 ∧ j = .int .i64 k ∧ n = .int .i64 (if k = 0 then 0 else if k = 1 then (a.toNat : Int) - 48 else if k = 2 then 10 * ((a.toNat : Int) - 48) + b.toNat - 48 else numOf a b c) ∧ Hid ((1 ≤ k → 48 ≤ a.toNat ∧ a.toNat ≤ 57) ∧ (2 ≤ k → 48 ≤ b.toNat ∧ b.toNat ≤ 57) ∧ (3 ≤ k → 48 ≤ c.toNat ∧ c.toNat ≤ 57))) (fun _ j => 3 - (intOf j).toNat)
              case atStart => exact ⟨0, by omega, rfl, rfl, Lib.hid ⟨fun h => by omega, fun h => by omega, fun h => by omega⟩⟩
              case round =>
                obtain ⟨k, hk, rfl, rfl, Hk⟩ := hrel
                obtain ⟨q1, q2, q3⟩ := Hk.out
                rcases (show k = 0 ∨ k = 1 ∨ k = 2 ∨ k = 3 by omega) with rfl | rfl | rfl | rfl
                · clear q1 q2 q3
                  by_cases hlo : a.toNat < 48
                  · have H := Lib.hid (Hdig.out (by rw [not_digit a (.inl hlo)]; simp))
                    go_wp2_with fail
                    go_ret2
                    exact ⟨status_fin _ 0 4 H.out, rfl⟩
                  · by_cases hhi : 57 < a.toNat
                    · have H := Lib.hid (Hdig.out (by rw [not_digit a (.inr hhi)]; simp))
                      go_wp2_with fail
                      go_ret2
                      exact ⟨status_fin _ 0 4 H.out, rfl⟩
                    · have z1 : 48 ≤ a.toNat := by omega
                      have z2 : a.toNat ≤ 57 := by omega
                      clear hlo hhi
                      go_wp2_with fail
                      go_round
                      case rel => exact ⟨1, by omega, rfl, by go_num, Lib.hid ⟨fun _ => ⟨z1, z2⟩, fun h => by omega, fun h => by omega⟩⟩
                      case measure => simp [intOf]
                · obtain ⟨y1, y2⟩ := q1 (by omega)
                  clear q1 q2 q3
                  by_cases hlo : b.toNat < 48
                  · have H := Lib.hid (Hdig.out (by rw [not_digit b (.inl hlo)]; simp))
                    go_wp2_with fail
                    go_ret2
                    exact ⟨status_fin _ 0 4 H.out, rfl⟩
                  · by_cases hhi : 57 < b.toNat
                    · have H := Lib.hid (Hdig.out (by rw [not_digit b (.inr hhi)]; simp))
                      go_wp2_with fail
                      go_ret2
                      exact ⟨status_fin _ 0 4 H.out, rfl⟩
                    · have z1 : 48 ≤ b.toNat := by omega
                      have z2 : b.toNat ≤ 57 := by omega
                      clear hlo hhi
                      go_wp2_with fail
                      go_round
                      case rel => exact ⟨2, by omega, rfl, by go_num, Lib.hid ⟨fun _ => ⟨y1, y2⟩, fun _ => ⟨z1, z2⟩, fun h => by omega⟩⟩
                      case measure => simp [intOf]
                · obtain ⟨y1, y2⟩ := q1 (by omega)
                  obtain ⟨y3, y4⟩ := q2 (by omega)
                  clear q1 q2 q3
                  by_cases hlo : c.toNat < 48
                  · have H := Lib.hid (Hdig.out (by rw [not_digit c (.inl hlo)]; simp))
                    go_wp2_with fail
                    go_ret2
                    exact ⟨status_fin _ 0 4 H.out, rfl⟩
                  · by_cases hhi : 57 < c.toNat
                    · have H := Lib.hid (Hdig.out (by rw [not_digit c (.inr hhi)]; simp))
                      go_wp2_with fail
                      go_ret2
                      exact ⟨status_fin _ 0 4 H.out, rfl⟩
                    · have z1 : 48 ≤ c.toNat := by omega
                      have z2 : c.toNat ≤ 57 := by omega
                      clear hlo hhi
                      go_wp2_with fail
                      go_round
                      case rel =>
                        refine ⟨3, by omega, rfl, ?_, Lib.hid ⟨fun _ => ⟨y1, y2⟩, fun _ => ⟨y3, y4⟩, fun _ => ⟨z1, z2⟩⟩⟩
                        congr 1
                        simp only [numOf]
                        simp
                        omega
                      case measure => simp [intOf]
                · obtain ⟨y1, y2⟩ := q1 (by omega)
                  obtain ⟨y3, y4⟩ := q2 (by omega)
                  obtain ⟨y5, y6⟩ := q3 (by omega)
                  clear q1 q2 q3
                  have hM := Hm.out (is_digit a y1 y2) (is_digit b y3 y4) (is_digit c y5 y6)
                  by_cases hcl : classOf (numOf a b c) = 0
                  · rw [if_pos hcl] at hM
                    have H := Lib.hid hM
                    clear hM
                    go_wp2_with (go_at_call 35; refine (ref_class _ _).mono ?_; rintro e w' ⟨rfl, rfl⟩)
                    go_ret2
                    exact ⟨status_fin _ 0 4 H.out, rfl⟩
                  · rw [if_neg hcl] at hM
                    have H := Lib.hid hM
                    have hclb : (classOf (numOf a b c) == 0) = false := by rw [beq_eq_false_iff_ne]; exact hcl
                    clear hM hcl
                    go_wp2_with (go_at_call 35; refine (ref_class _ _).mono ?_; rintro e w' ⟨rfl, rfl⟩)
                    go_ret2
                    exact ⟨status_fin _ (numOf a b c) 0 H.out, rfl⟩
            · have h12' : 12 < s.size := by omega
              have d5 : decide (3 < s.size - 9) = true := by simp; omega
              have d6 : decide ((3 : Int) < ((s.size - 9 : Nat) : Int)) = true := by simp; omega
              clear h12
              go_wp2_with fail
              go_loop [6, 7] (fun n j => ∃ k : Nat, k ≤ 3 ∧ j = .int .i64 k ∧ n = .int .i64 (if k = 0 then 0 else if k = 1 then (a.toNat : Int) - 48 else if k = 2 then 10 * ((a.toNat : Int) - 48) + b.toNat - 48 else numOf a b c) ∧ Hid ((1 ≤ k → 48 ≤ a.toNat ∧ a.toNat ≤ 57) ∧ (2 ≤ k → 48 ≤ b.toNat ∧ b.toNat ≤ 57) ∧ (3 ≤ k → 48 ≤ c.toNat ∧ c.toNat ≤ 57))) (fun _ j => 3 - (intOf j).toNat)
              case atStart => exact ⟨0, by omega, rfl, rfl, Lib.hid ⟨fun h => by omega, fun h => by omega, fun h => by omega⟩⟩
              case round =>
                obtain ⟨k, hk, rfl, rfl, Hk⟩ := hrel
                obtain ⟨q1, q2, q3⟩ := Hk.out
                rcases (show k = 0 ∨ k = 1 ∨ k = 2 ∨ k = 3 by omega) with rfl | rfl | rfl | rfl
                · clear q1 q2 q3
                  by_cases hlo : a.toNat < 48
                  · have H := Lib.hid (Hdig.out (by rw [not_digit a (.inl hlo)]; simp))
                    go_wp2_with fail
                    go_ret2
                    exact ⟨status_fin _ 0 4 H.out, rfl⟩
                  · by_cases hhi : 57 < a.toNat
                    · have H := Lib.hid (Hdig.out (by rw [not_digit a (.inr hhi)]; simp))
                      go_wp2_with fail
                      go_ret2
                      exact ⟨status_fin _ 0 4 H.out, rfl⟩
                    · have z1 : 48 ≤ a.toNat := by omega
                      have z2 : a.toNat ≤ 57 := by omega
                      clear hlo hhi
                      go_wp2_with fail
                      go_round
                      case rel => exact ⟨1, by omega, rfl, by go_num, Lib.hid ⟨fun _ => ⟨z1, z2⟩, fun h => by omega, fun h => by omega⟩⟩
                      case measure => simp [intOf]
                · obtain ⟨y1, y2⟩ := q1 (by omega)
                  clear q1 q2 q3
                  by_cases hlo : b.toNat < 48
                  · have H := Lib.hid (Hdig.out (by rw [not_digit b (.inl hlo)]; simp))
                    go_wp2_with fail
                    go_ret2
                    exact ⟨status_fin _ 0 4 H.out, rfl⟩
                  · by_cases hhi : 57 < b.toNat
                    · have H := Lib.hid (Hdig.out (by rw [not_digit b (.inr hhi)]; simp))
                      go_wp2_with fail
                      go_ret2
                      exact ⟨status_fin _ 0 4 H.out, rfl⟩
                    · have z1 : 48 ≤ b.toNat := by omega
                      have z2 : b.toNat ≤ 57 := by omega
                      clear hlo hhi
                      go_wp2_with fail
                      go_round
                      case rel => exact ⟨2, by omega, rfl, by go_num, Lib.hid ⟨fun _ => ⟨y1, y2⟩, fun _ => ⟨z1, z2⟩, fun h => by omega⟩⟩
                      case measure => simp [intOf]
                · obtain ⟨y1, y2⟩ := q1 (by omega)
                  obtain ⟨y3, y4⟩ := q2 (by omega)
                  clear q1 q2 q3
                  by_cases hlo : c.toNat < 48
                  · have H := Lib.hid (Hdig.out (by rw [not_digit c (.inl hlo)]; simp))
                    go_wp2_with fail
                    go_ret2
                    exact ⟨status_fin _ 0 4 H.out, rfl⟩
                  · by_cases hhi : 57 < c.toNat
                    · have H := Lib.hid (Hdig.out (by rw [not_digit c (.inr hhi)]; simp))
                      go_wp2_with fail
                      go_ret2
                      exact ⟨status_fin _ 0 4 H.out, rfl⟩
                    · have z1 : 48 ≤ c.toNat := by omega
                      have z2 : c.toNat ≤ 57 := by omega
                      clear hlo hhi
                      go_wp2_with fail
                      go_round
                      case rel =>
                        refine ⟨3, by omega, rfl, ?_, Lib.hid ⟨fun _ => ⟨y1, y2⟩, fun _ => ⟨y3, y4⟩, fun _ => ⟨z1, z2⟩⟩⟩
                        congr 1
                        simp only [numOf]
                        simp
                        omega
                      case measure => simp [intOf]
                · obtain ⟨y1, y2⟩ := q1 (by omega)
                  obtain ⟨y3, y4⟩ := q2 (by omega)
                  obtain ⟨y5, y6⟩ := q3 (by omega)
                  clear q1 q2 q3
                  have hM := Hm.out (is_digit a y1 y2) (is_digit b y3 y4) (is_digit c y5 y6)
                  by_cases hcl : classOf (numOf a b c) = 0
                  · rw [if_pos hcl] at hM
                    have H := Lib.hid hM
                    clear hM
                    go_wp2_with (go_at_call 35; refine (ref_class _ _).mono ?_; rintro e w' ⟨rfl, rfl⟩)
                    go_ret2
                    exact ⟨status_fin _ 0 4 H.out, rfl⟩
                  · rw [if_neg hcl] at hM
                    have H := Lib.hid hM
                    have hclb : (classOf (numOf a b c) == 0) = false := by rw [beq_eq_false_iff_ne]; exact hcl
                    clear hM hcl
                    go_wp2_with (go_at_call 35; refine (ref_class _ _).mono ?_; rintro e w' ⟨rfl, rfl⟩)
                    go_ret2
                    exact ⟨status_fin _ (numOf a b c) 0 H.out, rfl⟩
      · have hpre' : versionL.isPrefixOf s.data.toList = false := Bool.eq_false_iff.2 hpre
        have H := Lib.hid (status_version _ h4 hpre')
        rw [prefix_take] at hpre'
        clear hpre h4
        by_cases h9 : s.size < 9
        · clear hpre'
          go_wp2_with fail
          go_ret2
          exact ⟨status_fin _ 0 13 H.out, rfl⟩
        · have hcmp : ((s.extract 0 9).toList == [72, 84, 84, 80, 47, 49, 46, 49, 32]) = false := by
            rw [extract_bs, ByteArray.toList_eq, bs_data, List.drop_zero]; exact hpre'
          clear hpre'
          go_wp2_with fail
          go_ret2
          exact ⟨status_fin _ 0 13 H.out, rfl⟩
end Go.Proofs.YtnfadmdndefanaaDoor
