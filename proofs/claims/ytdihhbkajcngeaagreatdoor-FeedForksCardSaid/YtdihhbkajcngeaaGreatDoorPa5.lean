/- What the reference's Parse of a status line returns. What Parse of package status returns. Plain facts on the line of a code and what it is parsed as (no program in sight). Plain words on replies: what one is printed as, and what is taken of bytes (no program in sight). DERIVED: THE SHELF's CONTRACTS AT THIS DUMP, IN PLAIN WORDS (tools/lay-plain.mjs out of 'YtdihhbkajcngeaaGreatDoorSlLaysG.lean', which tools/lay-shelf.mjs wrote): THE SAME DECLARATIONS UNDER THE SAME NAMES: 'import', 'namespace', 'open', 'def', 'theorem' AND NOTHING ELSE: no command of the shelf's: FOR A HAND-IN. Each laying: the table of numbers ('.._ren') and one theorem, a field a fact of the dump's own or the kernel's comparison; each contract: ONE APPLICATION. slices.Equal and slices.Clone at the fields of a reply. copy of elements of more cells than one. -/
import Derived.Test.YtdihhbkajcngeaaGreatDoorPa4
import Derived.Shelf.Strings.SlTrimAscii
import Derived.Lib.SmallJoins
import Derived.Shelf.SlicesQ.Equal
import Derived.Shelf.SlicesE.Clone
import Derived.Shelf.SlicesQ.IndexFunc
import Derived.Ground.SlgqProg
import Derived.Ground.SlgnProg
import Derived.Ground.SlgfProg
import Derived.Test.YtdihhbkajcngeaaGreatDoorProg
import Derived.Laws.StructEq
import Derived.Laws.IdiomCopy
import Derived.Laws.CopyOwn
import Derived.Shelf.Spec.SlicesInsert
set_option linter.unusedVariables false
namespace Go.Proofs.YtdihhbkajcngeaaGreatDoor
open Go.RowKit

theorem prefix_take (l : List UInt8) : versionL.isPrefixOf l = (l.take 9 == versionL) := by
  rw [Bool.eq_iff_iff, List.isPrefixOf_iff_prefix, beq_iff_eq, List.prefix_iff_eq_take]
  exact ⟨fun h => h.symm, fun h => h.symm⟩
theorem status_form (l : List UInt8) (h : putErr l = 4) : statusOf l = (0, 4) := if_pos h
theorem status_version (l : List UInt8) (h : putErr l ≠ 4) (h2 : versionL.isPrefixOf l = false) : statusOf l = (0, 13) := by
  unfold statusOf; rw [if_neg h, if_pos h2]
theorem status_code (l : List UInt8) (h : putErr l ≠ 4) (h2 : versionL.isPrefixOf l = true) : statusOf l = codeOf (l.drop 9) := by
  unfold statusOf; rw [if_neg h, if_neg (by simp [h2])]
theorem putErr_not4 (l : List UInt8) (h : plainL l) : putErr l ≠ 4 := by
  rw [putErr_ok l fun _ hk => h _ (List.getElem_mem hk)]; split <;> decide
theorem not_digit (c : UInt8) (h : c.toNat < 48 ∨ 57 < c.toNat) : isDigitB c = false := by
  unfold isDigitB; rcases h with h | h <;> simp <;> omega
theorem is_digit (c : UInt8) (h1 : 48 ≤ c.toNat) (h2 : c.toNat ≤ 57) : isDigitB c = true := by
  unfold isDigitB; simp [h1, h2]
theorem status_fin (l : List UInt8) (n : Int) (e : Nat) (h : statusOf l = (n, e)) : Ending.returned (.tuple #[.int .i64 n, .int .i64 e]) = .returned (.tuple #[.int .i64 (statusOf l).1, .int .i64 (statusOf l).2]) := by rw [h]

/-- what stands behind the version, in the walk's own spelling. -/
theorem status_split (s : ByteArray) (h : 12 ≤ s.size) (hcode : statusOf s.data.toList = codeOf (s.data.toList.drop 9)) : ∃ a b c : UInt8,
    (∀ h, ((s.extract 9 s.size)[0]'h).toNat = a.toNat) ∧ (∀ h, ((s.extract 9 s.size)[1]'h).toNat = b.toNat) ∧ (∀ h, ((s.extract 9 s.size)[2]'h).toNat = c.toNat) ∧
    ((∃ h, (s.extract 9 s.size)[3]'h ≠ 32) → statusOf s.data.toList = (0, 4)) ∧
    ((isDigitB a && isDigitB b && isDigitB c) = false → statusOf s.data.toList = (0, 4)) ∧
    ((∀ h, (s.extract 9 s.size)[3]'h = 32) → isDigitB a = true → isDigitB b = true → isDigitB c = true → statusOf s.data.toList = if classOf (numOf a b c) = 0 then (0, 4) else (numOf a b c, 0)) := by
  have hRl : (s.extract 9 s.size).data.toList = s.data.toList.drop 9 := by rw [extract_bs, bs_data, ← size_len s, List.take_length]
  have hRs : (s.extract 9 s.size).size = s.size - 9 := by rw [← size_len, hRl, List.length_drop, size_len]
  rw [← hRl] at hcode
  generalize s.extract 9 s.size = R at *
  have hz : 3 ≤ R.data.toList.length := by rw [size_len, hRs]; omega
  refine ⟨R.data.toList[0], R.data.toList[1], R.data.toList[2], fun _ => rfl, fun _ => rfl, fun _ => rfl, ?_, ?_, ?_⟩
  · rintro ⟨h3, hne⟩
    exact hcode.trans (codeOf_tail _ (by rw [size_len]; exact h3) hne)
  · exact fun hd => hcode.trans (codeOf_digits _ hz hd)
  · intro h3 ha hb hc
    rw [hcode, codeOf_main _ hz (fun h' => h3 (by rw [← size_len]; exact h')), if_neg (by rw [ha, hb, hc]; decide)]

set_option maxRecDepth 100000 in
set_option maxHeartbeats 4000000 in
theorem ref_status_parse (s : ByteArray) (w : World) (hs : s.size ≤ 9223372036854775807) :
    Calls Tryz.prog 37 #[.string s] w fun e w' => e = .returned (.tuple #[.int .i64 (statusOf s.data.toList).1, .int .i64 (statusOf s.data.toList).2]) ∧ w' = w := by
  go_enter Tryz.func37, Tryz.ntmps37
  go_wp2_with fail
  go_loop [4] (fun j => ∃ k : Nat, k ≤ s.size ∧ j = .int .i64 k ∧ Hid (∀ j, j < k → ∀ hj : j < s.size, plainB (s[j]'hj).toNat = true)) (fun j => s.size - (intOf j).toNat)
  case atStart => exact ⟨0, by omega, rfl, Lib.hid (fun j hj => by omega)⟩
  case round =>
    obtain ⟨k, hk, rfl, Hall⟩ := hrel
    by_cases hlt : k < s.size
    · have hcb : s[k].toNat < 256 := s[k].toNat_lt
      by_cases hpl : plainB s[k].toNat = false
      · have H := Lib.hid (status_form s.data.toList (putErr_4 s.data.toList k s[k] (by rw [List.getElem?_eq_getElem (by simpa using hlt)]; rfl) hpl))
        go_wp2_with (go_at_call 58; refine (ref_plain _ _ hcb).mono ?_; rintro e w' ⟨rfl, rfl⟩)
        go_ret2
        exact ⟨status_fin _ 0 4 H.out, rfl⟩
      · have hpl' : plainB s[k].toNat = true := by simpa using hpl
        clear hpl
        have H := Lib.hid (plain_all_step s k Hall.out hlt hpl')
        go_wp2_with (go_at_call 58; refine (ref_plain _ _ hcb).mono ?_; rintro e w' ⟨rfl, rfl⟩)
        go_round
        case rel => exact ⟨k + 1, by omega, by go_num, H⟩
        case measure => simp [intOf]; omega
    · have hp : plainL s.data.toList := fun c hc => by
        obtain ⟨j, hj, rfl⟩ := List.getElem_of_mem hc
        exact Hall.out j (by simp at hj; omega) (by simpa using hj)
      have h4 := putErr_not4 _ hp
      clear hp Hall
      by_cases hpre : versionL.isPrefixOf s.data.toList = true
      · have hcode := status_code _ h4 hpre
        rw [prefix_take, beq_iff_eq] at hpre
        have h9 : 9 ≤ s.size := by
          have := congrArg List.length hpre
          rw [List.length_take, size_len] at this
          simp [versionL] at this; omega
        have hcmp : ((s.extract 0 9).toList == [72, 84, 84, 80, 47, 49, 46, 49, 32]) = true := by
          rw [extract_bs, ByteArray.toList_eq, bs_data, beq_iff_eq, List.drop_zero]; exact hpre
        have Hcode := Lib.hid hcode
        clear hcode hpre h4
        by_cases h3 : s.size < 12
        · have H := Lib.hid (Hcode.out.trans (codeOf_short _ (by rw [List.length_drop, size_len]; omega)))
          have h3' : s.size - 9 < 3 := by omega
          go_wp2_with fail
          go_ret2
          exact ⟨status_fin _ 0 4 H.out, rfl⟩
        · obtain ⟨a, b, c, ea, eb, ec, htail, hdig, hmain⟩ := status_split s (by omega) Hcode.out
          have Hdig := Lib.hid hdig
          have Hmain := Lib.hid hmain
          have h3' : 12 ≤ s.size := by omega
          have d1 : decide (s.size - 9 < 3) = false := by simp; omega
          clear h3 hdig hmain Hcode
          by_cases ht : ∃ h, (s.extract 9 s.size)[3]'h ≠ 32
          · have H := Lib.hid (htail ht)
            have hlt3 : 12 < s.size := by obtain ⟨h, _⟩ := ht; rw [ByteArray.size_extract] at h; omega
            have hc3 : ∀ h, ((((s.extract 9 s.size)[3]'h).toNat : Int) != 32) = true := fun h => by
              rw [bne_iff_ne]; intro e; obtain ⟨h', hne⟩ := ht; exact hne (UInt8.toNat_inj.1 (by show _ = 32; omega))
            clear ht htail ea eb ec
            go_wp2_with fail
            go_ret2
            exact ⟨status_fin _ 0 4 H.out, rfl⟩
          · have h32 : ∀ h, (s.extract 9 s.size)[3]'h = 32 := fun h => Classical.byContradiction fun hne => ht ⟨h, hne⟩
            have Hm := Lib.hid (Hmain.out h32)
            have hc3 : ∀ h, ((((s.extract 9 s.size)[3]'h).toNat : Int) != 32) = false := fun h => by
              rw [h32 h]; rfl
            clear ht htail Hmain h32
            have x0 : a.toNat < 256 := a.toNat_lt
            have x1 : b.toNat < 256 := b.toNat_lt
            have x2 : c.toNat < 256 := c.toNat_lt
            have d2 : decide ((s.size : Int) < 9) = false := by simp; omega
            have d3 : decide (((s.size - 9 : Nat) : Int) < 3) = false := by simp; omega
            have d4 : decide (s.size < 9) = false := by simp; omega
            by_cases h12 : s.size = 12
            · have d5 : decide (3 < s.size - 9) = false := by simp; omega
              have d6 : decide ((3 : Int) < ((s.size - 9 : Nat) : Int)) = false := by simp; omega
              have h12' : s.size ≤ 12 := by omega
              clear h12
              go_wp2_with fail
              go_loop [6, 7] (fun n j => ∃ k : Nat, k ≤ 3 ∧ j = .int .i64 k ∧ n = .int .i64 (if k = 0 then 0 else if k = 1 then (a.toNat : Int) - 48 else if k = 2 then 10 * ((a.toNat : Int) - 48) + b.toNat - 48 else numOf a b c) ∧ Hid ((1 ≤ k → 48 ≤ a.toNat ∧ a.toNat ≤ 57) ∧ (2 ≤ k → 48 ≤ b.toNat ∧ b.toNat ≤ 57) ∧ (3 ≤ k → 48 ≤ c.toNat ∧ c.toNat ≤ 57))) (fun _ j => 3 - (intOf j).toNat)
              case atStart => exact ⟨0, by omega, rfl, rfl, Lib.hid ⟨fun h => by omega, fun h => by omega, fun h => by omega⟩⟩
              case round =>
                obtain ⟨k, hk, rfl, rfl, Hk⟩ := hrel
                obtain ⟨q1, q2, q3⟩ := Hk.out
                rcases (show k = 0 ∨ k = 1 ∨ k = 2 ∨ k = 3 by omega) with rfl | rfl | rfl | rfl
                · clear q1 q2 q3
                  by_cases hlo : a.toNat < 48
                  · have H := Lib.hid (Hdig.out (by rw [not_digit a (.inl hlo)]; simp))
                    go_wp2_with fail
                    go_ret2
                    exact ⟨status_fin _ 0 4 H.out, rfl⟩
                  · by_cases hhi : 57 < a.toNat
                    · have H := Lib.hid (Hdig.out (by rw [not_digit a (.inr hhi)]; simp))
                      go_wp2_with fail
                      go_ret2
                      exact ⟨status_fin _ 0 4 H.out, rfl⟩
                    · have z1 : 48 ≤ a.toNat := by omega
                      have z2 : a.toNat ≤ 57 := by omega
                      clear hlo hhi
                      go_wp2_with fail
                      go_round
                      case rel => exact ⟨1, by omega, rfl, by go_num, Lib.hid ⟨fun _ => ⟨z1, z2⟩, fun h => by omega, fun h => by omega⟩⟩
                      case measure => simp [intOf]
                · obtain ⟨y1, y2⟩ := q1 (by omega)
                  clear q1 q2 q3
                  by_cases hlo : b.toNat < 48
                  · have H := Lib.hid (Hdig.out (by rw [not_digit b (.inl hlo)]; simp))
                    go_wp2_with fail
                    go_ret2
                    exact ⟨status_fin _ 0 4 H.out, rfl⟩
                  · by_cases hhi : 57 < b.toNat
                    · have H := Lib.hid (Hdig.out (by rw [not_digit b (.inr hhi)]; simp))
                      go_wp2_with fail
                      go_ret2
                      exact ⟨status_fin _ 0 4 H.out, rfl⟩
                    · have z1 : 48 ≤ b.toNat := by omega
                      have z2 : b.toNat ≤ 57 := by omega
                      clear hlo hhi
                      go_wp2_with fail
                      go_round
                      case rel => exact ⟨2, by omega, rfl, by go_num, Lib.hid ⟨fun _ => ⟨y1, y2⟩, fun _ => ⟨z1, z2⟩, fun h => by omega⟩⟩
                      case measure => simp [intOf]
                · obtain ⟨y1, y2⟩ := q1 (by omega)
                  obtain ⟨y3, y4⟩ := q2 (by omega)
                  clear q1 q2 q3
                  by_cases hlo : c.toNat < 48
                  · have H := Lib.hid (Hdig.out (by rw [not_digit c (.inl hlo)]; simp))
                    go_wp2_with fail
                    go_ret2
                    exact ⟨status_fin _ 0 4 H.out, rfl⟩
                  · by_cases hhi : 57 < c.toNat
                    · have H := Lib.hid (Hdig.out (by rw [not_digit c (.inr hhi)]; simp))
                      go_wp2_with fail
                      go_ret2
                      exact ⟨status_fin _ 0 4 H.out, rfl⟩
                    · have z1 : 48 ≤ c.toNat := by omega
                      have z2 : c.toNat ≤ 57 := by omega
                      clear hlo hhi
                      go_wp2_with fail
                      go_round
                      case rel =>
                        refine ⟨3, by omega, rfl, ?_, Lib.hid ⟨fun _ => ⟨y1, y2⟩, fun _ => ⟨y3, y4⟩, fun _ => ⟨z1, z2⟩⟩⟩
                        congr 1
                        simp only [numOf]
                        simp
                        omega
                      case measure => simp [intOf]
                · obtain ⟨y1, y2⟩ := q1 (by omega)
                  obtain ⟨y3, y4⟩ := q2 (by omega)
                  obtain ⟨y5, y6⟩ := q3 (by omega)
                  clear q1 q2 q3
                  have hM := Hm.out (is_digit a y1 y2) (is_digit b y3 y4) (is_digit c y5 y6)
                  by_cases hcl : classOf (numOf a b c) = 0
                  · rw [if_pos hcl] at hM
                    have H := Lib.hid hM
                    clear hM
                    go_wp2_with (go_at_call 43; refine (ref_class _ _).mono ?_; rintro e w' ⟨rfl, rfl⟩)
                    go_ret2
                    exact ⟨status_fin _ 0 4 H.out, rfl⟩
                  · rw [if_neg hcl] at hM
                    have H := Lib.hid hM
                    have hclb : (classOf (numOf a b c) == 0) = false := by rw [beq_eq_false_iff_ne]; exact hcl
                    clear hM hcl
                    go_wp2_with (go_at_call 43; refine (ref_class _ _).mono ?_; rintro e w' ⟨rfl, rfl⟩)
                    go_ret2
                    exact ⟨status_fin _ (numOf a b c) 0 H.out, rfl⟩
            · have h12' : 12 < s.size := by omega
              have d5 : decide (3 < s.size - 9) = true := by simp; omega
              have d6 : decide ((3 : Int) < ((s.size - 9 : Nat) : Int)) = true := by simp; omega
              clear h12
              go_wp2_with fail
              go_loop [6, 7] (fun n j => ∃ k : Nat, k ≤ 3 ∧ j = .int .i64 k ∧ n = .int .i64 (if k = 0 then 0 else if k = 1 then (a.toNat : Int) - 48 else if k = 2 then 10 * ((a.toNat : Int) - 48) + b.toNat - 48 else numOf a b c) ∧ Hid ((1 ≤ k → 48 ≤ a.toNat ∧ a.toNat ≤ 57) ∧ (2 ≤ k → 48 ≤ b.toNat ∧ b.toNat ≤ 57) ∧ (3 ≤ k → 48 ≤ c.toNat ∧ c.toNat ≤ 57))) (fun _ j => 3 - (intOf j).toNat)
              case atStart => exact ⟨0, by omega, rfl, rfl, Lib.hid ⟨fun h => by omega, fun h => by omega, fun h => by omega⟩⟩
              case round =>
                obtain ⟨k, hk, rfl, rfl, Hk⟩ := hrel
                obtain ⟨q1, q2, q3⟩ := Hk.out
                rcases (show k = 0 ∨ k = 1 ∨ k = 2 ∨ k = 3 by omega) with rfl | rfl | rfl | rfl
                · clear q1 q2 q3
                  by_cases hlo : a.toNat < 48
                  · have H := Lib.hid (Hdig.out (by rw [not_digit a (.inl hlo)]; simp))
                    go_wp2_with fail
                    go_ret2
                    exact ⟨status_fin _ 0 4 H.out, rfl⟩
                  · by_cases hhi : 57 < a.toNat
                    · have H := Lib.hid (Hdig.out (by rw [not_digit a (.inr hhi)]; simp))
                      go_wp2_with fail
                      go_ret2
                      exact ⟨status_fin _ 0 4 H.out, rfl⟩
                    · have z1 : 48 ≤ a.toNat := by omega
                      have z2 : a.toNat ≤ 57 := by omega
                      clear hlo hhi
                      go_wp2_with fail
                      go_round
                      case rel => exact ⟨1, by omega, rfl, by go_num, Lib.hid ⟨fun _ => ⟨z1, z2⟩, fun h => by omega, fun h => by omega⟩⟩
                      case measure => simp [intOf]
                · obtain ⟨y1, y2⟩ := q1 (by omega)
                  clear q1 q2 q3
                  by_cases hlo : b.toNat < 48
                  · have H := Lib.hid (Hdig.out (by rw [not_digit b (.inl hlo)]; simp))
                    go_wp2_with fail
                    go_ret2
                    exact ⟨status_fin _ 0 4 H.out, rfl⟩
                  · by_cases hhi : 57 < b.toNat
                    · have H := Lib.hid (Hdig.out (by rw [not_digit b (.inr hhi)]; simp))
                      go_wp2_with fail
                      go_ret2
                      exact ⟨status_fin _ 0 4 H.out, rfl⟩
                    · have z1 : 48 ≤ b.toNat := by omega
                      have z2 : b.toNat ≤ 57 := by omega
                      clear hlo hhi
                      go_wp2_with fail
                      go_round
                      case rel => exact ⟨2, by omega, rfl, by go_num, Lib.hid ⟨fun _ => ⟨y1, y2⟩, fun _ => ⟨z1, z2⟩, fun h => by omega⟩⟩
                      case measure => simp [intOf]
                · obtain ⟨y1, y2⟩ := q1 (by omega)
                  obtain ⟨y3, y4⟩ := q2 (by omega)
                  clear q1 q2 q3
                  by_cases hlo : c.toNat < 48
                  · have H := Lib.hid (Hdig.out (by rw [not_digit c (.inl hlo)]; simp))
                    go_wp2_with fail
                    go_ret2
                    exact ⟨status_fin _ 0 4 H.out, rfl⟩
                  · by_cases hhi : 57 < c.toNat
                    · have H := Lib.hid (Hdig.out (by rw [not_digit c (.inr hhi)]; simp))
                      go_wp2_with fail
                      go_ret2
                      exact ⟨status_fin _ 0 4 H.out, rfl⟩
                    · have z1 : 48 ≤ c.toNat := by omega
                      have z2 : c.toNat ≤ 57 := by omega
                      clear hlo hhi
                      go_wp2_with fail
                      go_round
                      case rel =>
                        refine ⟨3, by omega, rfl, ?_, Lib.hid ⟨fun _ => ⟨y1, y2⟩, fun _ => ⟨y3, y4⟩, fun _ => ⟨z1, z2⟩⟩⟩
                        congr 1
                        simp only [numOf]
                        simp
                        omega
                      case measure => simp [intOf]
                · obtain ⟨y1, y2⟩ := q1 (by omega)
                  obtain ⟨y3, y4⟩ := q2 (by omega)
                  obtain ⟨y5, y6⟩ := q3 (by omega)
                  clear q1 q2 q3
                  have hM := Hm.out (is_digit a y1 y2) (is_digit b y3 y4) (is_digit c y5 y6)
                  by_cases hcl : classOf (numOf a b c) = 0
                  · rw [if_pos hcl] at hM
                    have H := Lib.hid hM
                    clear hM
                    go_wp2_with (go_at_call 43; refine (ref_class _ _).mono ?_; rintro e w' ⟨rfl, rfl⟩)
                    go_ret2
                    exact ⟨status_fin _ 0 4 H.out, rfl⟩
                  · rw [if_neg hcl] at hM
                    have H := Lib.hid hM
                    have hclb : (classOf (numOf a b c) == 0) = false := by rw [beq_eq_false_iff_ne]; exact hcl
                    clear hM hcl
                    go_wp2_with (go_at_call 43; refine (ref_class _ _).mono ?_; rintro e w' ⟨rfl, rfl⟩)
                    go_ret2
                    exact ⟨status_fin _ (numOf a b c) 0 H.out, rfl⟩
      · have hpre' : versionL.isPrefixOf s.data.toList = false := Bool.eq_false_iff.2 hpre
        have H := Lib.hid (status_version _ h4 hpre')
        rw [prefix_take] at hpre'
        clear hpre h4
        by_cases h9 : s.size < 9
        · clear hpre'
          go_wp2_with fail
          go_ret2
          exact ⟨status_fin _ 0 13 H.out, rfl⟩
        · have hcmp : ((s.extract 0 9).toList == [72, 84, 84, 80, 47, 49, 46, 49, 32]) = false := by
            rw [extract_bs, ByteArray.toList_eq, bs_data, List.drop_zero]; exact hpre'
          clear hpre'
          go_wp2_with fail
          go_ret2
          exact ⟨status_fin _ 0 13 H.out, rfl⟩
end Go.Proofs.YtdihhbkajcngeaaGreatDoor
namespace Go.Proofs.YtdihhbkajcngeaaGreatDoor
open Go.RowKit

theorem status_digits (s : ByteArray) (w : World) (hs : s.size ≤ 9223372036854775807) :
    Calls Tryz.prog 77 #[.string s] w fun e w' => e = .returned (.bool (s.data.toList.all isDigitB)) ∧ Below w.heap.size w w' := by
  have hcon : Calls Tryz.prog 71 #[.string s, .string ⟨#[48, 49, 50, 51, 52, 53, 54, 55, 56, 57]⟩] w (fun e w' => e = .returned (.string (bs (Go.Lib.trimS s.data.toList digitSet))) ∧ Below w.heap.size w w') :=
    Any.strings_Trim_laid Tryz.lays160 (by kernel_rfl) s ⟨#[48, 49, 50, 51, 52, 53, 54, 55, 56, 57]⟩ w hs (by decide) (Go.Proofs.ascii_of_all (by decide))
  have he : (bs (Go.Lib.trimS s.data.toList digitSet)).toList.isEmpty = s.data.toList.all isDigitB := by
    rw [isEmpty_bs]; exact digits_trim _
  obtain ⟨R, hR⟩ : ∃ R, R = bs (Go.Lib.trimS s.data.toList digitSet) := ⟨_, rfl⟩
  rw [← hR] at hcon he
  have Hcon := Lib.hid hcon
  have He := Lib.hid he
  clear hR hcon he
  go_enter Tryz.func77, Tryz.ntmps77
  go_wp2_with fail
  refine Hcon.out.mono ?_
  rintro e w' ⟨rfl, hb⟩
  go_wp2_with fail
  go_ret
  exact ⟨ret_bool He.out, hb⟩

/-- may what stands behind the version be? -/
def shapeB (l : List UInt8) : Bool := decide (3 ≤ l.length) && (decide (l.length = 3) || l[3]? == some 32) && ((l.take 3).all isDigitB)
theorem shape_short (l : List UInt8) (h : l.length < 3) : shapeB l = false := by
  unfold shapeB; rw [decide_eq_false (by omega)]; rfl
theorem shape_tail (l : List UInt8) (h : 3 < l.length) (h2 : l[3]? ≠ some 32) : shapeB l = false := by
  unfold shapeB
  have : (l[3]? == some 32) = false := by rw [beq_eq_false_iff_ne]; exact h2
  rw [this, decide_eq_false (show ¬ l.length = 3 by omega)]; simp
theorem shape_main (l : List UInt8) (h : 3 ≤ l.length) (h2 : l.length = 3 ∨ l[3]? = some 32) : shapeB l = (isDigitB l[0] && isDigitB l[1] && isDigitB l[2]) := by
  unfold shapeB
  have h3 : (decide (l.length = 3) || l[3]? == some 32) = true := by
    rcases h2 with h2 | h2
    · rw [decide_eq_true h2]; rfl
    · rw [h2]; simp
  rw [decide_eq_true h, h3, Bool.true_and, Bool.true_and]
  match l, h with
  | a :: b :: c :: t, _ => simp [Bool.and_assoc]
theorem piece1 (s : ByteArray) (k : Nat) (h : k < s.size) : (s.extract k (k + 1)).data.toList = [s[k]] := by
  rw [extract_bs, bs_data, List.take_succ_eq_append_getElem (by simpa using h), List.drop_append_of_le_length (by simp; omega), List.drop_of_length_le (by simp; omega)]
  rfl

theorem digit_at (t : ByteArray) (b : UInt8) (B : Bool) (w : World) (hs : t.size ≤ 9223372036854775807) (hb : t.data.toList = [b]) (hB : isDigitB b = B) :
    Calls Tryz.prog 77 #[.string t] w fun e w' => e = .returned (.bool B) ∧ Below w.heap.size w w' := by
  have h := status_digits t w hs
  rw [hb] at h
  simpa [hB] using h

set_option maxRecDepth 100000 in
set_option maxHeartbeats 4000000 in
theorem status_shape (s : ByteArray) (w : World) (hs : s.size ≤ 9223372036854775807) :
    Calls Tryz.prog 63 #[.string s] w fun e w' => e = .returned (.bool (shapeB s.data.toList)) ∧ Below w.heap.size w w' := by
  by_cases h3 : s.size < 3
  · have H := Lib.hid (shape_short s.data.toList (by rw [size_len]; exact h3))
    have t1 : ((s.size : Int) == 3) = false := by rw [beq_eq_false_iff_ne]; omega
    go_enter Tryz.func63, Tryz.ntmps63
    go_wp2_with fail
    go_ret
    exact ⟨ret_bool H.out.symm, Below.refl _ _⟩
  · by_cases ht : ∃ h : 3 < s.size, s[3] ≠ 32
    · obtain ⟨hlt, hne⟩ := ht
      have H := Lib.hid (shape_tail s.data.toList (by rw [size_len]; exact hlt) (by rw [List.getElem?_eq_getElem (by rw [size_len]; exact hlt)]; intro e; exact hne (Option.some.inj e)))
      have hc3 : ((s[3].toNat : Int) != 32) = true := by
        rw [bne_iff_ne]; intro e; exact hne (UInt8.toNat_inj.1 (by show _ = 32; omega))
      clear hne
      go_enter Tryz.func63, Tryz.ntmps63
      go_wp2_with fail
      go_ret
      exact ⟨ret_bool H.out.symm, Below.refl _ _⟩
    · have hm := shape_main s.data.toList (by rw [size_len]; omega) (by
        rcases Nat.lt_or_ge 3 s.size with h | h
        · right
          rw [List.getElem?_eq_getElem (by rw [size_len]; exact h)]
          have : s[3] = 32 := Classical.byContradiction fun hne => ht ⟨h, hne⟩
          exact congrArg some this
        · left; rw [size_len]; omega)
      change shapeB s.data.toList = (isDigitB (s[0]'(by omega)) && isDigitB (s[1]'(by omega)) && isDigitB (s[2]'(by omega))) at hm
      have hx : s.data.toList.length = s.size := size_len s
      have hsz3 : (s.extract 0 3).size = 3 := by rw [ByteArray.size_extract]; omega
      obtain ⟨a, ha⟩ : ∃ a, a = s[0]'(by omega) := ⟨_, rfl⟩
      obtain ⟨b, hb⟩ : ∃ b, b = s[1]'(by omega) := ⟨_, rfl⟩
      obtain ⟨c, hc⟩ : ∃ c, c = s[2]'(by omega) := ⟨_, rfl⟩
      have g0 : ((s.extract 0 3).extract 0 1).data.toList = [a] := by
        rw [piece1 (s.extract 0 3) 0 (by omega), ByteArray.getElem_extract, ha]
      have g1 : ((s.extract 0 3).extract 1 2).data.toList = [b] := by
        rw [piece1 (s.extract 0 3) 1 (by omega), ByteArray.getElem_extract, hb]
      have g2 : ((s.extract 0 3).extract 2 3).data.toList = [c] := by
        rw [piece1 (s.extract 0 3) 2 (by omega), ByteArray.getElem_extract, hc]
      have k0 : (s.extract 0 1).data.toList = [a] := by
        rw [piece1 s 0 (by omega), ha]
      have k1 : (s.extract 1 2).data.toList = [b] := by
        rw [piece1 s 1 (by omega), hb]
      have k2 : (s.extract 2 3).data.toList = [c] := by
        rw [piece1 s 2 (by omega), hc]
      rw [← ha, ← hb, ← hc] at hm
      clear ha hb hc
      obtain ⟨da, hda⟩ : ∃ d, isDigitB a = d := ⟨_, rfl⟩
      obtain ⟨db, hdb⟩ : ∃ d, isDigitB b = d := ⟨_, rfl⟩
      obtain ⟨dc, hdc⟩ : ∃ d, isDigitB c = d := ⟨_, rfl⟩
      rw [hda, hdb, hdc] at hm
      have z1 : ((s.extract 0 3).extract 0 1).size ≤ 9223372036854775807 := by rw [ByteArray.size_extract]; omega
      have z2 : ((s.extract 0 3).extract 1 2).size ≤ 9223372036854775807 := by rw [ByteArray.size_extract]; omega
      have z3 : ((s.extract 0 3).extract 2 3).size ≤ 9223372036854775807 := by rw [ByteArray.size_extract]; omega
      have y1 : (s.extract 0 1).size ≤ 9223372036854775807 := by rw [ByteArray.size_extract]; omega
      have y2 : (s.extract 1 2).size ≤ 9223372036854775807 := by rw [ByteArray.size_extract]; omega
      have y3 : (s.extract 2 3).size ≤ 9223372036854775807 := by rw [ByteArray.size_extract]; omega
      have C0 := fun w => digit_at _ a da w z1 g0 hda
      have C1 := fun w => digit_at _ b db w z2 g1 hdb
      have C2 := fun w => digit_at _ c dc w z3 g2 hdc
      have D0 := fun w => digit_at _ a da w y1 k0 hda
      have D1 := fun w => digit_at _ b db w y2 k1 hdb
      have D2 := fun w => digit_at _ c dc w y3 k2 hdc
      clear hda hdb hdc g0 g1 g2 k0 k1 k2 z1 z2 z3 y1 y2 y3 hx
      have Hm := Lib.hid hm
      have HC0 := Lib.hid C0
      have HC1 := Lib.hid C1
      have HC2 := Lib.hid C2
      have HD0 := Lib.hid D0
      have HD1 := Lib.hid D1
      have HD2 := Lib.hid D2
      clear hm C0 C1 C2 D0 D1 D2
      by_cases h4 : 3 < s.size
      · have hc3 : ((s[3].toNat : Int) != 32) = false := by
          have : s[3] = 32 := Classical.byContradiction fun hne => ht ⟨h4, hne⟩
          rw [this]; rfl
        clear ht
        cases da
        · go_enter Tryz.func63, Tryz.ntmps63
          go_wp2_with fail
          refine (HC0.out _).mono ?_
          rintro e w1 ⟨rfl, hb1⟩
          go_wp2_with fail
          go_ret
          exact ⟨ret_bool (by rw [Hm.out]; rfl), hb1⟩
        · cases db
          · go_enter Tryz.func63, Tryz.ntmps63
            go_wp2_with fail
            refine (HC0.out _).mono ?_
            rintro e w1 ⟨rfl, hb1⟩
            go_wp2_with fail
            refine (HC1.out _).mono ?_
            rintro e w2 ⟨rfl, hb2⟩
            go_wp2_with fail
            go_ret
            exact ⟨ret_bool (by rw [Hm.out]; rfl), bstep hb1 hb2⟩
          · go_enter Tryz.func63, Tryz.ntmps63
            go_wp2_with fail
            refine (HC0.out _).mono ?_
            rintro e w1 ⟨rfl, hb1⟩
            go_wp2_with fail
            refine (HC1.out _).mono ?_
            rintro e w2 ⟨rfl, hb2⟩
            go_wp2_with fail
            refine (HC2.out _).mono ?_
            rintro e w3 ⟨rfl, hb3⟩
            cases dc <;>
            · go_wp2_with fail
              go_ret
              exact ⟨ret_bool (by rw [Hm.out]; rfl), bstep hb1 (bstep hb2 hb3)⟩
      · have t3 : ((s.size : Int) == 3) = true := by rw [beq_iff_eq]; omega
        have t4 : s.size = 3 := by omega
        clear ht
        cases da
        · go_enter Tryz.func63, Tryz.ntmps63
          go_wp2_with fail
          refine (HD0.out _).mono ?_
          rintro e w1 ⟨rfl, hb1⟩
          go_wp2_with fail
          go_ret
          exact ⟨ret_bool (by rw [Hm.out]; rfl), hb1⟩
        · cases db
          · go_enter Tryz.func63, Tryz.ntmps63
            go_wp2_with fail
            refine (HD0.out _).mono ?_
            rintro e w1 ⟨rfl, hb1⟩
            go_wp2_with fail
            refine (HD1.out _).mono ?_
            rintro e w2 ⟨rfl, hb2⟩
            go_wp2_with fail
            go_ret
            exact ⟨ret_bool (by rw [Hm.out]; rfl), bstep hb1 hb2⟩
          · go_enter Tryz.func63, Tryz.ntmps63
            go_wp2_with fail
            refine (HD0.out _).mono ?_
            rintro e w1 ⟨rfl, hb1⟩
            go_wp2_with fail
            refine (HD1.out _).mono ?_
            rintro e w2 ⟨rfl, hb2⟩
            go_wp2_with fail
            refine (HD2.out _).mono ?_
            rintro e w3 ⟨rfl, hb3⟩
            cases dc <;>
            · go_wp2_with fail
              go_ret
              exact ⟨ret_bool (by rw [Hm.out]; rfl), bstep hb1 (bstep hb2 hb3)⟩

theorem codeOf_shape_no (l : List UInt8) (h : shapeB l = false) : codeOf l = (0, 4) := by
  rcases Nat.lt_or_ge l.length 3 with h3 | h3
  · exact codeOf_short l h3
  · by_cases h2 : l.length = 3 ∨ l[3]? = some 32
    · exact codeOf_digits l h3 (by rw [← shape_main l h3 h2]; exact h)
    · have h4 : 3 < l.length := by omega
      exact codeOf_tail l h4 (fun e => h2 (.inr (by rw [List.getElem?_eq_getElem h4, e])))
theorem codeOf_shape (l : List UInt8) (h : shapeB l = true) : ∃ a b c, 3 ≤ l.length ∧ l.take 3 = [a, b, c] ∧ isDigitB a = true ∧ isDigitB b = true ∧ isDigitB c = true ∧ codeOf l = if classOf (numOf a b c) = 0 then (0, 4) else (numOf a b c, 0) := by
  rcases Nat.lt_or_ge l.length 3 with h3 | h3
  · rw [shape_short l h3] at h; exact absurd h (by decide)
  · by_cases h2 : l.length = 3 ∨ l[3]? = some 32
    · have hm := shape_main l h3 h2
      rw [h] at hm
      have hm' := hm.symm
      rw [Bool.and_eq_true, Bool.and_eq_true] at hm'
      refine ⟨l[0], l[1], l[2], h3, ?_, hm'.1.1, hm'.1.2, hm'.2, ?_⟩
      · match l, h3 with
        | a :: b :: c :: t, _ => rfl
      · rw [codeOf_main l h3 ?_, if_neg (by rw [← hm]; decide)]
        intro h4
        rcases h2 with h2 | h2
        · omega
        · rw [List.getElem?_eq_getElem h4] at h2; exact Option.some.inj h2
    · have h4 : 3 < l.length := by omega
      rw [shape_tail l h4 (fun e => h2 (.inr e))] at h; exact absurd h (by decide)

theorem cut_prefix (s : ByteArray) (w : World) (R : ByteArray) (B : Bool) (hR : R = bs (Lib.trimPrefix s.data.toList versionL)) (hB : Lib.hasPrefix s.data.toList versionL = B) :
    Calls Tryz.prog 62 #[.string s, .string ⟨#[72, 84, 84, 80, 47, 49, 46, 49, 32]⟩] w fun e w' => e = .returned (.tuple #[.string R, .bool B]) ∧ w' = w := by
  have h := Tryz.strings_CutPrefix s ⟨#[72, 84, 84, 80, 47, 49, 46, 49, 32]⟩ w
  subst hR; subst hB
  exact h

theorem status_fin2 (l : List UInt8) (n : Int) (e : Nat) (h : statusOf l = (n, e)) : Ending.returned (.tuple #[.int .i64 n, .int .i64 e]) = .returned (.tuple #[.int .i64 (statusOf l).1, .int .i64 (statusOf l).2]) := by rw [h]

set_option maxRecDepth 100000 in
set_option maxHeartbeats 4000000 in
theorem status_parse (s : ByteArray) (w : World) (hs : s.size ≤ 9223372036854775807) :
    Calls Tryz.prog 49 #[.string s] w fun e w' => e = .returned (.tuple #[.int .i64 (statusOf s.data.toList).1, .int .i64 (statusOf s.data.toList).2]) ∧ Below w.heap.size w w' := by
  by_cases h4 : putErr s.data.toList = 4
  · have H := Lib.hid (status_form s.data.toList h4)
    have hput := lines_put s w hs
    rw [h4] at hput
    have Hput := Lib.hid hput
    clear hput h4
    go_enter Tryz.func49, Tryz.ntmps49
    go_wp2_with fail
    refine Hput.out.mono ?_
    rintro e w' ⟨rfl, rfl⟩
    go_wp2_with fail
    go_ret2
    exact ⟨status_fin2 _ 0 4 H.out, Below.refl _ _⟩
  · obtain ⟨E, hE⟩ : ∃ E, E = putErr s.data.toList := ⟨_, rfl⟩
    have hE4 : ((E : Int) == 4) = false := by rw [beq_eq_false_iff_ne, hE]; omega
    have hE4' : (E == 4) = false := by rw [beq_eq_false_iff_ne, hE]; omega
    have hput := lines_put s w hs
    rw [← hE] at hput
    obtain ⟨PL, hPL⟩ : ∃ PL, PL = putLine s := ⟨_, rfl⟩
    rw [← hPL] at hput
    have Hput := Lib.hid hput
    clear hput hE hPL
    by_cases hpre : versionL.isPrefixOf s.data.toList = true
    · have hcode := status_code _ h4 hpre
      obtain ⟨R, hR⟩ : ∃ R, R = bs (Lib.trimPrefix s.data.toList versionL) := ⟨_, rfl⟩
      have Hcut := Lib.hid (cut_prefix s w R true hR hpre)
      have hRl : R.data.toList = s.data.toList.drop 9 := by
        rw [hR, bs_data]; unfold Lib.trimPrefix; rw [if_pos (show Lib.hasPrefix s.data.toList versionL = true from hpre)]; rfl
      have hRs : R.size ≤ 9223372036854775807 := by
        rw [← size_len, hRl, List.length_drop, size_len]; omega
      rw [← hRl] at hcode
      clear hR hRl hpre h4
      cases hsh : shapeB R.data.toList with
      | false =>
        have H := Lib.hid (hcode.trans (codeOf_shape_no _ hsh))
        have hshp := fun w => status_shape R w hRs
        rw [hsh] at hshp
        have Hshp := Lib.hid hshp
        clear hshp hsh hcode
        go_enter Tryz.func49, Tryz.ntmps49
        go_wp2_with fail
        refine Hput.out.mono ?_
        rintro e w' ⟨rfl, rfl⟩
        go_wp2_with fail
        refine Hcut.out.mono ?_
        rintro e w' ⟨rfl, rfl⟩
        go_wp2_with fail
        refine (Hshp.out _).mono ?_
        rintro e w1 ⟨rfl, hb1⟩
        go_wp2_with fail
        go_ret2
        exact ⟨status_fin2 _ 0 4 H.out, hb1⟩
      | true =>
        obtain ⟨a, b, c, h3, ht, ha, hb, hc, hcd⟩ := codeOf_shape _ hsh
        rw [hcd] at hcode
        rw [size_len] at h3
        have hshp := fun w => status_shape R w hRs
        rw [hsh] at hshp
        have Hshp := Lib.hid hshp
        have hT : (R.extract 0 3).data.toList = [a, b, c] := by rw [extract_bs, bs_data, List.drop_zero]; exact ht
        have hato := fun w => Tryz.strconv_Atoi (R.extract 0 3) (numOf a b c) (by rw [ByteArray.size_extract]; omega) (by rw [hT]; exact atoi_three a b c ha hb hc) w
        have Hato := Lib.hid hato
        obtain ⟨C, hC⟩ : ∃ C, C = numOf a b c := ⟨_, rfl⟩
        rw [← hC] at Hato hcode
        have hCb : 0 ≤ C ∧ C ≤ 999 := by
          obtain ⟨a1, a2⟩ := digit_bd a ha
          obtain ⟨b1, b2⟩ := digit_bd b hb
          obtain ⟨c1, c2⟩ := digit_bd c hc
          rw [hC]; unfold numOf; omega
        obtain ⟨hC0, hC9⟩ := hCb
        clear hshp hsh hcd ht ha hb hc hT hato hC
        by_cases hcl : classOf C = 0
        · rw [if_pos hcl] at hcode
          have H := Lib.hid hcode
          clear hcode
          go_enter Tryz.func49, Tryz.ntmps49
          go_wp2_with fail
          refine Hput.out.mono ?_
          rintro e w' ⟨rfl, rfl⟩
          go_wp2_with fail
          refine Hcut.out.mono ?_
          rintro e w' ⟨rfl, rfl⟩
          go_wp2_with fail
          refine (Hshp.out _).mono ?_
          rintro e w1 ⟨rfl, hb1⟩
          go_wp2_with fail
          refine (Hato.out _).mono ?_
          rintro e w2 ⟨rfl, t, rfl⟩
          go_wp2_with (go_at_call 65; refine (status_class _ _).mono ?_; rintro e w' ⟨rfl, rfl⟩)
          go_ret2
          exact ⟨status_fin2 _ 0 4 H.out, bstep hb1 (Go.Joins.below_bytesWorld _ _ _ _ (Nat.le_refl _))⟩
        · rw [if_neg hcl] at hcode
          have H := Lib.hid hcode
          have hclb : (classOf C == 0) = false := by rw [beq_eq_false_iff_ne]; exact hcl
          clear hcode hcl
          go_enter Tryz.func49, Tryz.ntmps49
          go_wp2_with fail
          refine Hput.out.mono ?_
          rintro e w' ⟨rfl, rfl⟩
          go_wp2_with fail
          refine Hcut.out.mono ?_
          rintro e w' ⟨rfl, rfl⟩
          go_wp2_with fail
          refine (Hshp.out _).mono ?_
          rintro e w1 ⟨rfl, hb1⟩
          go_wp2_with fail
          refine (Hato.out _).mono ?_
          rintro e w2 ⟨rfl, t, rfl⟩
          go_wp2_with (go_at_call 65; refine (status_class _ _).mono ?_; rintro e w' ⟨rfl, rfl⟩)
          go_ret2
          exact ⟨status_fin2 _ C 0 H.out, bstep hb1 (Go.Joins.below_bytesWorld _ _ _ _ (Nat.le_refl _))⟩
    · have hpre' : versionL.isPrefixOf s.data.toList = false := Bool.eq_false_iff.2 hpre
      have H := Lib.hid (status_version _ h4 hpre')
      obtain ⟨R, hR⟩ : ∃ R, R = bs (Lib.trimPrefix s.data.toList versionL) := ⟨_, rfl⟩
      have Hcut := Lib.hid (cut_prefix s w R false hR hpre')
      clear hR hpre hpre' h4
      go_enter Tryz.func49, Tryz.ntmps49
      go_wp2_with fail
      refine Hput.out.mono ?_
      rintro e w' ⟨rfl, rfl⟩
      go_wp2_with fail
      refine Hcut.out.mono ?_
      rintro e w' ⟨rfl, rfl⟩
      go_wp2_with fail
      go_ret2
      exact ⟨status_fin2 _ 0 13 H.out, Below.refl _ _⟩
end Go.Proofs.YtdihhbkajcngeaaGreatDoor
namespace Go.Proofs.YtdihhbkajcngeaaGreatDoor
open Go.RowKit

/-- three digits of a code -/
def digs (n : Nat) : List UInt8 := [UInt8.ofNat (48 + n / 100), UInt8.ofNat (48 + n / 10 % 10), UInt8.ofNat (48 + n % 10)]
theorem decDigits_three (n : Nat) (h1 : 100 ≤ n) (h2 : n ≤ 999) : Go.Lib.decDigits n = digs n := by
  rw [Go.Lib.decDigits, dif_neg (by omega), Go.Lib.decDigits, dif_neg (by omega), Go.Lib.decDigits_one (show n / 10 / 10 < 10 by omega)]
  rw [show n / 10 / 10 = n / 100 by omega]
  rfl
theorem digs_digit (n : Nat) (h1 : 100 ≤ n) (h2 : n ≤ 999) : ∀ k, k < 10 → isDigitB (UInt8.ofNat (48 + k)) = true := by
  decide +kernel
theorem toNat_dig (k : Nat) (h : k < 10) : (UInt8.ofNat (48 + k)).toNat = 48 + k := by
  rw [UInt8.toNat_ofNat', Nat.mod_eq_of_lt (by omega)]
theorem digs_num (n : Nat) (h1 : 100 ≤ n) (h2 : n ≤ 999) : numOf (UInt8.ofNat (48 + n / 100)) (UInt8.ofNat (48 + n / 10 % 10)) (UInt8.ofNat (48 + n % 10)) = n := by
  unfold numOf
  rw [toNat_dig _ (by omega), toNat_dig _ (by omega), toNat_dig _ (by omega)]
  omega
theorem dig_plain (k : Nat) (h : k < 10) : plainB (UInt8.ofNat (48 + k)).toNat = true := by
  rw [toNat_dig k h]
  have : ∀ k, k < 10 → plainB (48 + k) = true := by decide
  exact this k h
theorem all_plain (n : Nat) (h1 : 100 ≤ n) (h2 : n ≤ 999) (t : List UInt8) : (versionL ++ digs n ++ t).all (fun c => plainB c.toNat) = t.all (fun c => plainB c.toNat) := by
  rw [List.all_append, List.all_append]
  have e1 : versionL.all (fun c => plainB c.toNat) = true := by decide +kernel
  have e2 : (digs n).all (fun c => plainB c.toNat) = true := by
    unfold digs
    simp only [List.all_cons, List.all_nil]
    rw [dig_plain _ (by omega), dig_plain _ (by omega), dig_plain _ (by omega)]; rfl
  rw [e1, e2, Bool.true_and, Bool.true_and]
theorem putErr_four (l : List UInt8) : putErr l = 4 ↔ l.all (fun c => plainB c.toNat) = false := by
  unfold putErr
  constructor
  · intro h
    split at h
    · assumption
    · split at h <;> exact absurd h (by decide)
  · intro h; rw [if_pos h]

theorem statusOf_line (n : Nat) (h1 : 100 ≤ n) (h2 : n ≤ 599) (t : List UInt8) (ht : t = [] ∨ t.head? = some 32) :
    statusOf (versionL ++ digs n ++ t) = if t.all (fun c => plainB c.toNat) = false then (0, 4) else ((n : Int), 0) := by
  have hp := all_plain n h1 (by omega) t
  by_cases hpl : t.all (fun c => plainB c.toNat) = false
  · rw [if_pos hpl]
    exact status_form _ ((putErr_four _).2 (by rw [hp]; exact hpl))
  · rw [if_neg hpl]
    rw [status_code _ (fun h => hpl (by rw [← hp]; exact (putErr_four _).1 h)) (by
      rw [List.isPrefixOf_iff_prefix, List.append_assoc]; exact List.prefix_append _ _)]
    rw [List.append_assoc, List.drop_append_of_le_length (by decide)]
    have hv : versionL.drop 9 = [] := by decide
    rw [hv, List.nil_append]
    show codeOf (_ :: _ :: _ :: t) = _
    have hd := digs_digit n h1 (by omega)
    rw [codeOf_cons, if_neg (by
      rintro ⟨h3, h4⟩
      rcases ht with h | h
      · exact h3 h
      · exact h4 h), if_neg (by rw [hd _ (by omega), hd _ (by omega), hd _ (by omega)]; decide), digs_num n h1 (by omega), if_neg (by
      have := class_pos (n : Int) (by omega) (by omega); omega)]

theorem statusLine_data (n : Nat) (h1 : 100 ≤ n) (h2 : n ≤ 999) : (statusLine (n : Int)).data.toList = versionL ++ digs n ++ (32 :: (reasonOf (n : Int)).data.toList) := by
  unfold statusLine
  rw [itoa_nonneg _ (by omega), Int.toNat_natCast, decDigits_three n h1 h2]
  simp [ByteArray.data_append]
theorem reason_plain (code : Int) : (reasonOf code).data.toList.all (fun c => plainB c.toNat) = true := by
  unfold reasonOf
  repeat' split
  all_goals decide +kernel
theorem statusLine_len (n : Nat) (h1 : 100 ≤ n) (h2 : n ≤ 999) : (statusLine (n : Int)).size = 13 + (reasonOf (n : Int)).size := by
  rw [← size_len, statusLine_data n h1 h2]; simp [versionL, digs]; omega
theorem status_print_put (n : Nat) (h1 : 100 ≤ n) (h2 : n ≤ 599) : putErr (statusLine (n : Int)).data.toList = 0 := by
  have hl := statusLine_len n h1 (by omega)
  have hr := reason_size (n : Int)
  unfold putErr
  rw [if_neg (by
    rw [statusLine_data n h1 (by omega), all_plain n h1 (by omega), List.all_cons, reason_plain]; decide), if_neg (by rw [size_len]; omega)]
theorem status_print_parse (n : Nat) (h1 : 100 ≤ n) (h2 : n ≤ 599) : statusOf (statusLine (n : Int)).data.toList = ((n : Int), 0) := by
  rw [statusLine_data n h1 (by omega), statusOf_line n h1 h2 _ (.inr rfl), if_neg (by rw [List.all_cons, reason_plain]; decide)]
theorem status_cut12 (n : Nat) (h1 : 100 ≤ n) (h2 : n ≤ 599) : statusOf ((statusLine (n : Int)).extract 0 12).data.toList = ((n : Int), 0) := by
  have e : ((statusLine (n : Int)).extract 0 12).data.toList = versionL ++ digs n ++ [] := by
    rw [extract_bs, bs_data, statusLine_data n h1 (by omega)]; rfl
  rw [e, statusOf_line n h1 h2 [] (.inl rfl)]; rfl
theorem status_cut13 (n : Nat) (h1 : 100 ≤ n) (h2 : n ≤ 599) (words : ByteArray) : statusOf ((statusLine (n : Int)).extract 0 13 ++ words).data.toList = if putErr words.data.toList = 4 then (0, 4) else ((n : Int), 0) := by
  have e : ((statusLine (n : Int)).extract 0 13 ++ words).data.toList = versionL ++ digs n ++ (32 :: words.data.toList) := by
    rw [ByteArray.data_append, Array.toList_append, extract_bs, bs_data, statusLine_data n h1 (by omega)]; rfl
  rw [e, statusOf_line n h1 h2 _ (.inr rfl), List.all_cons, show plainB (32 : UInt8).toNat = true from rfl, Bool.true_and]
  by_cases h : putErr words.data.toList = 4
  · rw [if_pos h, if_pos ((putErr_four _).1 h)]
  · rw [if_neg h, if_neg (fun h' => h ((putErr_four _).2 h'))]
end Go.Proofs.YtdihhbkajcngeaaGreatDoor
namespace Go.Proofs.YtdihhbkajcngeaaGreatDoor
open Go.RowKit

def clen : List UInt8 := [99, 111, 110, 116, 101, 110, 116, 45, 108, 101, 110, 103, 116, 104]
def ownE : List (List UInt8 × List UInt8) → Nat
  | [] => 0
  | f :: t => if f.1 = clen then 22 else if fieldE f.1 f.2 ≠ 0 then fieldE f.1 f.2 else ownE t
/-- what is wrong with a reply that is to be printed -/
def repE (c : Int) (fs : List (List UInt8 × List UInt8)) : Nat := if printErr c ≠ 0 then printErr c else if 15 < fs.length then 21 else ownE fs
def repLines (c : Int) (fs : List (List UInt8 × List UInt8)) (n : Nat) : List (List UInt8) := (printOf c).data.toList :: printL clen (digL n) :: fs.map (fun f => printL f.1 f.2)
def repL (c : Int) (fs : List (List UInt8 × List UInt8)) (b : List UInt8) : List UInt8 := body (repLines c fs b.length) ++ 13 :: 10 :: b
def repS (c : Int) (fs : List (List UInt8 × List UInt8)) (b : List UInt8) : List UInt8 := if repE c fs = 0 then repL c fs b else []
theorem ownE_at (xs : List (List UInt8 × List UInt8)) : ∀ k, (∀ j (hj : j < xs.length), j < k → xs[j].1 ≠ clen ∧ fieldE xs[j].1 xs[j].2 = 0) → ownE xs = ownE (xs.drop k) := by
  induction xs with
  | nil => intro k _; simp
  | cons x t ih =>
    intro k h
    cases k with
    | zero => rfl
    | succ k =>
      have h0 : x.1 ≠ clen ∧ fieldE x.1 x.2 = 0 := h 0 (by simp) (by omega)
      show (if x.1 = clen then 22 else if fieldE x.1 x.2 ≠ 0 then fieldE x.1 x.2 else ownE t) = ownE (t.drop k)
      rw [if_neg h0.1, if_neg (fun hh => hh h0.2)]
      exact ih k (fun j hj hk => h (j + 1) (by simp; omega) (by omega))
theorem ownE_zero (fs : List (List UInt8 × List UInt8)) (h : ownE fs = 0) : ∀ f ∈ fs, f.1 ≠ clen ∧ fieldE f.1 f.2 = 0 := by
  induction fs with
  | nil => intro f hf; simp at hf
  | cons x t ih =>
    unfold ownE at h
    split at h
    · exact absurd h (by decide)
    · rename_i h1
      split at h
      · rename_i h2; exact absurd h h2
      · rename_i h2
        intro f hf
        rcases List.mem_cons.1 hf with rfl | hf
        · exact ⟨h1, Decidable.not_not.1 h2⟩
        · exact ih h f hf
theorem ownE_five (fs : List (List UInt8 × List UInt8)) (h : ∀ f ∈ fs, f.1 ≠ clen ∧ printOk f.1 f.2 = true) : ownE fs = 0 ∨ ownE fs = 5 := by
  induction fs with
  | nil => exact .inl rfl
  | cons x t ih =>
    unfold ownE
    obtain ⟨h1, h2⟩ := h x (List.mem_cons_self ..)
    rw [if_neg h1]
    have h3 : fieldE x.1 x.2 = 0 ∨ fieldE x.1 x.2 = 5 := by
      unfold fieldE; rw [if_pos h2]; split
      · exact .inr rfl
      · exact .inl rfl
    rcases h3 with h3 | h3
    · rw [h3, if_neg (by decide)]; exact ih (fun f hf => h f (List.mem_cons_of_mem _ hf))
    · rw [h3, if_pos (by decide)]; exact .inr rfl
theorem repE_zero (c : Int) (fs : List (List UInt8 × List UInt8)) (h : repE c fs = 0) : 100 ≤ c ∧ c ≤ 599 ∧ fs.length ≤ 15 ∧ ∀ f ∈ fs, f.1 ≠ clen ∧ fieldE f.1 f.2 = 0 := by
  unfold repE at h
  split at h
  · rename_i hx; exact absurd h hx
  · rename_i hx
    split at h
    · exact absurd h (by decide)
    · have hc : classOf c ≠ 0 := fun e => hx (by unfold printErr; rw [if_pos e]; decide)
      rw [Ne, class_iff] at hc
      exact ⟨by omega, by omega, by omega, ownE_zero fs h⟩
theorem clen_named : nameL clen = true := by decide
theorem dig_gapless (n : Nat) : noGap (Go.Lib.decDigits n) = true := by
  have e1 : headGap (Go.Lib.decDigits n) = false := by
    cases e : Go.Lib.decDigits n with
    | nil => rfl
    | cons c t => exact (dig_no n c (by rw [e]; exact List.mem_cons_self ..)).1
  unfold noGap
  rw [e1]
  have := dig_last n []
  rw [List.nil_append] at this
  rw [this]; rfl
theorem digL_nat (n : Nat) : digL (n : Int) = Go.Lib.decDigits n := by unfold digL; rw [if_neg (by omega), Int.toNat_natCast]
theorem clen_ok (n : Nat) (hn : n ≤ 1000000) : fieldE clen (digL n) = 0 := by
  have hp : printOk clen (digL n) = true := by
    unfold printOk
    rw [clen_named, Bool.true_and, Bool.and_eq_true]
    refine ⟨List.all_eq_true.2 fun c hc => digL_plain n c hc, ?_⟩
    rw [digL_nat]; exact dig_gapless n
  unfold fieldE
  rw [if_pos hp, if_neg]
  have := decDigits_len n (by omega)
  unfold printL tailV
  rw [digL_nat]
  split
  · simp [titL_len, clen]
  · simp only [List.length_append, List.length_cons, titL_len]
    rw [show clen.length = 14 from rfl]; omega
theorem printL_ne (n v : List UInt8) : printL n v ≠ [] := by unfold printL; simp
theorem good_print (n v : List UInt8) (h : fieldE n v = 0) : goodLine (printL n v) := by
  have := putErr_good _ (print_put n v h)
  exact ⟨printL_ne n v, this.1, this.2⟩
theorem printOf_line (c : Int) (h1 : 100 ≤ c) (h2 : c ≤ 599) : printOf c = statusLine c := by
  unfold printOf; rw [if_neg (by rw [class_iff]; omega)]
theorem good_status (c : Int) (h1 : 100 ≤ c) (h2 : c ≤ 599) : goodLine (printOf c).data.toList ∧ statusOf (printOf c).data.toList = (c, 0) := by
  obtain ⟨n, rfl⟩ : ∃ n : Nat, c = n := ⟨c.toNat, by omega⟩
  rw [printOf_line _ h1 h2]
  have := putErr_good _ (status_print_put n (by omega) (by omega))
  refine ⟨⟨?_, this.1, this.2⟩, status_print_parse n (by omega) (by omega)⟩
  rw [statusLine_data n (by omega) (by omega)]; simp [versionL]
theorem good_lines (c : Int) (fs : List (List UInt8 × List UInt8)) (n : Nat) (h : repE c fs = 0) (hn : n ≤ 1000000) : (∀ x ∈ repLines c fs n, goodLine x) ∧ (repLines c fs n).length ≤ 17 := by
  obtain ⟨h1, h2, h3, h4⟩ := repE_zero c fs h
  refine ⟨?_, by unfold repLines; simp; omega⟩
  intro x hx
  unfold repLines at hx
  rcases List.mem_cons.1 hx with rfl | hx
  · exact (good_status c h1 h2).1
  rcases List.mem_cons.1 hx with rfl | hx
  · exact good_print _ _ (clen_ok n hn)
  · obtain ⟨f, hf, rfl⟩ := List.mem_map.1 hx
    exact good_print _ _ (h4 f hf).2
theorem fldE_cons (x : List UInt8) (t : List (List UInt8)) (h : parseE x = 0) : fldE (x :: t) = fldE t := if_neg (fun hh => hh h)
theorem fld_print (fs : List (List UInt8 × List UInt8)) (h : ∀ f ∈ fs, fieldE f.1 f.2 = 0) : fldE (fs.map (fun f => printL f.1 f.2)) = 0 ∧ fldL (fs.map (fun f => printL f.1 f.2)) = fs := by
  induction fs with
  | nil => exact ⟨rfl, rfl⟩
  | cons f t ih =>
    obtain ⟨x1, x2, x3⟩ := print_parse f.1 f.2 (fieldE_zero _ _ (h f (List.mem_cons_self ..))).1
    obtain ⟨i1, i2⟩ := ih (fun g hg => h g (List.mem_cons_of_mem _ hg))
    refine ⟨by rw [List.map_cons, fldE_cons _ _ x3, i1], ?_⟩
    unfold fldL at i2 ⊢
    rw [List.map_cons, List.map_cons, i2, x1, x2]
/-- what is wrong with a head's lines; its code, its body's length, its other fields -/
def hdE (ls : List (List UInt8)) : Nat := if ls = [] then 4 else if (statusOf (ls.getD 0 [])).2 ≠ 0 then (statusOf (ls.getD 0 [])).2 else if fldE ls.tail ≠ 0 then fldE ls.tail else if getE (fldL ls.tail) clen ≠ 0 then getE (fldL ls.tail) clen else numE (getS (fldL ls.tail) clen)
def hdC (ls : List (List UInt8)) : Int := (statusOf (ls.getD 0 [])).1
def hdN (ls : List (List UInt8)) : Nat := numV (getS (fldL ls.tail) clen)
def restF (fs : List (List UInt8 × List UInt8)) : List (List UInt8 × List UInt8) := fs.filter (fun f => f.1 != clen)
def takE (s : ByteArray) (most : Int) : Nat := if (headOf s).2.2 ≠ 0 then (headOf s).2.2 else if hdE (headOf s).1 ≠ 0 then hdE (headOf s).1 else if most < (hdN (headOf s).1 : Int) then 5 else if (s.size : Int) - (headOf s).2.1 < (hdN (headOf s).1 : Int) then 3 else 0
def takC (s : ByteArray) (most : Int) : Int := if takE s most = 0 then hdC (headOf s).1 else 0
def takF (s : ByteArray) (most : Int) : List (List UInt8 × List UInt8) := if takE s most = 0 then restF (fldL (headOf s).1.tail) else []
def takB (s : ByteArray) (most : Int) : List UInt8 := if takE s most = 0 then (s.data.toList.take ((headOf s).2.1.toNat + hdN (headOf s).1)).drop (headOf s).2.1.toNat else []
def takN (s : ByteArray) (most : Int) : Int := if takE s most = 0 then (headOf s).2.1 + (hdN (headOf s).1 : Int) else 0
theorem tak_bad (s : ByteArray) (most : Int) (h : takE s most ≠ 0) : takC s most = 0 ∧ takF s most = [] ∧ takB s most = [] ∧ takN s most = 0 := by
  unfold takC takF takB takN
  rw [if_neg h, if_neg h, if_neg h, if_neg h]
  exact ⟨rfl, rfl, rfl, rfl⟩
theorem rest_none (fs : List (List UInt8 × List UInt8)) (h : ∀ f ∈ fs, f.1 ≠ clen) : restF fs = fs ∧ hits fs clen = [] := by
  refine ⟨List.filter_eq_self.2 (fun f hf => bne_iff_ne.2 (h f hf)), ?_⟩
  unfold hits
  rw [List.filter_eq_nil_iff.2 (fun f hf => by simpa using h f hf)]; rfl
theorem hd_rep (c : Int) (fs : List (List UInt8 × List UInt8)) (n : Nat) (h : repE c fs = 0) (hn : n ≤ 1000000) :
    hdE (repLines c fs n) = 0 ∧ hdC (repLines c fs n) = c ∧ hdN (repLines c fs n) = n ∧ restF (fldL (repLines c fs n).tail) = fs := by
  obtain ⟨h1, h2, h3, h4⟩ := repE_zero c fs h
  have hs := (good_status c h1 h2).2
  obtain ⟨i1, i2⟩ := fld_print fs (fun f hf => (h4 f hf).2)
  obtain ⟨x1, x2, x3⟩ := print_parse clen (digL n) (fieldE_zero _ _ (clen_ok n hn)).1
  obtain ⟨r1, r2⟩ := rest_none fs (fun f hf => (h4 f hf).1)
  have hg : (repLines c fs n).getD 0 [] = (printOf c).data.toList := rfl
  have ht : (repLines c fs n).tail = printL clen (digL n) :: fs.map (fun f => printL f.1 f.2) := rfl
  have hF : fldL (repLines c fs n).tail = (clen, digL n) :: fs := by
    rw [ht]
    unfold fldL at i2 ⊢
    rw [List.map_cons, i2, x1, x2]
  have hE : fldE (repLines c fs n).tail = 0 := by rw [ht, fldE_cons _ _ x3, i1]
  have hh : hits ((clen, digL n) :: fs) clen = [digL n] := by
    unfold hits at r2 ⊢
    rw [List.filter_cons_of_pos (by simp), List.map_cons, r2]
  obtain ⟨n1, n2⟩ := numE_dec n (by omega)
  refine ⟨?_, ?_, ?_, ?_⟩
  · unfold hdE
    rw [if_neg (by unfold repLines; simp), hg, hs, if_neg (by simp), hE, if_neg (by simp), hF]
    unfold getE getS
    rw [hh]
    show (if (0 : Nat) ≠ 0 then 0 else numE (digL n)) = 0
    rw [if_neg (by simp), digL_nat, n1]
  · unfold hdC; rw [hg, hs]
  · unfold hdN; rw [hF]; unfold getS; rw [hh]
    show numV (digL n) = n
    rw [digL_nat, n2]
  · rw [hF]
    unfold restF at r1 ⊢
    rw [List.filter_cons_of_neg (by simp), r1]
theorem head_rep (c : Int) (fs : List (List UInt8 × List UInt8)) (b rest : List UInt8) (s : ByteArray) (h : repE c fs = 0) (hn : b.length ≤ 1000000) (hs : s.data.toList = body (repLines c fs b.length) ++ 13 :: 10 :: rest) :
    headOf s = (repLines c fs b.length, ((body (repLines c fs b.length)).length : Int) + 2, 0) := by
  obtain ⟨g1, g2⟩ := good_lines c fs b.length h hn
  have := head_ok s rest (repLines c fs b.length) [] [] 18 g1 (by simpa using g2) (by simp) (by simpa using hs)
  unfold headOf
  rw [show (0 : Int) = ((([] : List UInt8).length : Nat) : Int) from rfl, this]
  simp
/-- what is taken of a printed reply with anything behind it -/
theorem rep_take (c : Int) (fs : List (List UInt8 × List UInt8)) (b rest : List UInt8) (s : ByteArray) (most : Int) (h : repE c fs = 0) (hn : b.length ≤ 1000000) (hs : s.data.toList = repL c fs b ++ rest) (hm : (b.length : Int) ≤ most) :
    takE s most = 0 ∧ takC s most = c ∧ takF s most = fs ∧ takB s most = b ∧ takN s most = (repL c fs b).length := by
  have hd := head_rep c fs b (b ++ rest) s h hn (by rw [hs]; unfold repL; simp)
  obtain ⟨e1, e2, e3, e4⟩ := hd_rep c fs b.length h hn
  have hsz : s.size = (body (repLines c fs b.length)).length + 2 + b.length + rest.length := by
    rw [← size_len, hs]; unfold repL; simp only [List.length_append, List.length_cons]; omega
  have hE : takE s most = 0 := by
    unfold takE
    rw [hd]
    simp only [e1, e3]
    rw [if_neg (by simp), if_neg (by simp), if_neg (by omega), if_neg (by omega)]
  refine ⟨hE, ?_, ?_, ?_, ?_⟩
  · unfold takC; rw [if_pos hE, hd]; exact e2
  · unfold takF; rw [if_pos hE, hd]; exact e4
  · unfold takB; rw [if_pos hE, hd]
    simp only [e3]
    have ht : (((body (repLines c fs b.length)).length : Int) + 2).toNat = (body (repLines c fs b.length) ++ [13, 10]).length := by simp; omega
    rw [ht, hs]
    unfold repL
    have e5 : body (repLines c fs b.length) ++ 13 :: 10 :: b ++ rest = (body (repLines c fs b.length) ++ [13, 10]) ++ (b ++ rest) := by simp
    rw [e5, List.take_length_add_append, List.drop_left, List.take_left]
  · unfold takN; rw [if_pos hE, hd]
    simp only [e3]
    unfold repL
    simp only [List.length_append, List.length_cons]; omega
theorem rep_long (c : Int) (fs : List (List UInt8 × List UInt8)) (b rest : List UInt8) (s : ByteArray) (most : Int) (h : repE c fs = 0) (hn : b.length ≤ 1000000) (hs : s.data.toList = repL c fs b ++ rest) (hm : most < (b.length : Int)) : takE s most = 5 := by
  have hd := head_rep c fs b (b ++ rest) s h hn (by rw [hs]; unfold repL; simp)
  obtain ⟨e1, e2, e3, e4⟩ := hd_rep c fs b.length h hn
  unfold takE
  rw [hd]
  simp only [e1, e3]
  rw [if_neg (by simp), if_neg (by simp), if_pos hm]
theorem rep_cut (c : Int) (fs : List (List UInt8 × List UInt8)) (b : List UInt8) (s : ByteArray) (k : Nat) (h : repE c fs = 0) (hn : b.length ≤ 1000000) (hk : k < (repL c fs b).length) (hs : s.data.toList = (repL c fs b).take k) : takE s (b.length : Int) = 3 := by
  obtain ⟨g1, g2⟩ := good_lines c fs b.length h hn
  by_cases hb : k < (body (repLines c fs b.length)).length + 2
  · have hs2 : s.data.toList = (body (repLines c fs b.length) ++ [13, 10]).take k := by
      rw [hs]; unfold repL
      have e5 : body (repLines c fs b.length) ++ 13 :: 10 :: b = (body (repLines c fs b.length) ++ [13, 10]) ++ b := by simp
      rw [e5, List.take_append_of_le_length (by simp; omega)]
    have := head_cut s (repLines c fs b.length) [] [] 18 k g1 (by simpa using g2) (by simp) hb (by rw [hs2]; simp)
    have hd : headOf s = ([], 0, 3) := by
      unfold headOf
      rw [show (0 : Int) = ((([] : List UInt8).length : Nat) : Int) from rfl, this]
      rfl
    unfold takE
    rw [hd]
    rfl
  · have hl : (repL c fs b).length = (body (repLines c fs b.length)).length + 2 + b.length := by unfold repL; simp only [List.length_append, List.length_cons]; omega
    have hd := head_rep c fs b (b.take (k - ((body (repLines c fs b.length)).length + 2))) s h hn (by
      rw [hs]; unfold repL
      have e5 : ∀ x, body (repLines c fs b.length) ++ 13 :: 10 :: x = (body (repLines c fs b.length) ++ [13, 10]) ++ x := fun x => by simp
      rw [e5, e5, List.take_append, List.take_of_length_le (by simp; omega)]
      simp)
    obtain ⟨e1, e2, e3, e4⟩ := hd_rep c fs b.length h hn
    have hsz : s.size = k := by rw [← size_len, hs, List.length_take]; omega
    unfold takE
    rw [hd]
    simp only [e1, e3]
    rw [if_neg (by simp), if_neg (by simp), if_neg (by omega), if_pos (by omega)]
theorem tak_zero (s : ByteArray) (most : Int) (h : takE s most = 0) : (headOf s).2.2 = 0 ∧ hdE (headOf s).1 = 0 ∧ (hdN (headOf s).1 : Int) ≤ most ∧ (hdN (headOf s).1 : Int) ≤ (s.size : Int) - (headOf s).2.1 := by
  unfold takE at h
  split at h
  · rename_i hx; exact absurd h hx
  rename_i h1
  split at h
  · rename_i hx; exact absurd h hx
  rename_i h2
  split at h
  · exact absurd h (by decide)
  split at h
  · exact absurd h (by decide)
  exact ⟨Decidable.not_not.1 h1, Decidable.not_not.1 h2, by omega, by omega⟩
theorem hdE_zero (ls : List (List UInt8)) (h : hdE ls = 0) : ls ≠ [] ∧ (statusOf (ls.getD 0 [])).2 = 0 ∧ fldE ls.tail = 0 ∧ getE (fldL ls.tail) clen = 0 ∧ numE (getS (fldL ls.tail) clen) = 0 := by
  unfold hdE at h
  split at h
  · exact absurd h (by decide)
  rename_i h1
  split at h
  · rename_i hx; exact absurd h hx
  rename_i h2
  split at h
  · rename_i hx; exact absurd h hx
  rename_i h3
  split at h
  · rename_i hx; exact absurd h hx
  rename_i h4
  exact ⟨h1, Decidable.not_not.1 h2, Decidable.not_not.1 h3, Decidable.not_not.1 h4, h⟩
theorem fldE_none (ls : List (List UInt8)) (h : fldE ls = 0) : ∀ x ∈ ls, parseE x = 0 := by
  induction ls with
  | nil => intro x hx; simp at hx
  | cons y t ih =>
    unfold fldE at h
    split at h
    · rename_i hx; exact absurd h hx
    · rename_i hx
      intro x hm
      rcases List.mem_cons.1 hm with rfl | hm
      · exact Decidable.not_not.1 hx
      · exact ih h x hm
theorem split_one (fs : List (List UInt8 × List UInt8)) (h : getE fs clen = 0) : ∃ a x b, fs = a ++ x :: b ∧ x.1 = clen ∧ (∀ y ∈ a, y.1 ≠ clen) ∧ (∀ y ∈ b, y.1 ≠ clen) ∧ restF fs = a ++ b := by
  have hl : (fs.filter (fun f => f.1 == clen)).length = 1 := by
    unfold getE hits at h
    cases e : (fs.filter (fun f => f.1 == clen)) with
    | nil => rw [e] at h; exact absurd h (by decide)
    | cons x t =>
      cases t with
      | nil => rfl
      | cons y u => rw [e] at h; exact absurd h (by simp)
  clear h
  induction fs with
  | nil => simp at hl
  | cons f t ih =>
    by_cases hf : f.1 = clen
    · rw [List.filter_cons_of_pos (by simp [hf]), List.length_cons] at hl
      have hn : t.filter (fun f => f.1 == clen) = [] := List.length_eq_zero_iff.1 (by omega)
      have ht : ∀ y ∈ t, y.1 ≠ clen := fun y hy e => by
        have := List.filter_eq_nil_iff.1 hn y hy
        simp [e] at this
      refine ⟨[], f, t, rfl, hf, fun y hy => by simp at hy, ht, ?_⟩
      unfold restF
      rw [List.filter_cons_of_neg (by simp [hf])]
      exact (rest_none t ht).1
    · rw [List.filter_cons_of_neg (by simp [hf])] at hl
      obtain ⟨a, x, b, e1, e2, e3, e4, e5⟩ := ih hl
      refine ⟨f :: a, x, b, by rw [e1]; rfl, e2, ?_, e4, ?_⟩
      · intro y hy
        rcases List.mem_cons.1 hy with rfl | hy
        · exact hf
        · exact e3 y hy
      · unfold restF at e5 ⊢
        rw [List.filter_cons_of_pos (by simp [hf]), e5]; rfl
theorem get_one (fs : List (List UInt8 × List UInt8)) (h : getE fs clen = 0) : (restF fs).length + 1 = fs.length := by
  obtain ⟨a, x, b, e1, -, -, -, e2⟩ := split_one fs h
  rw [e2, e1]; simp; omega
theorem code_status (l : List UInt8) (h : (statusOf l).2 = 0) : 100 ≤ (statusOf l).1 ∧ (statusOf l).1 ≤ 599 := by
  have hc : ∀ r, (codeOf r).2 = 0 → classOf (codeOf r).1 ≠ 0 := by
    intro r hr
    match r with
    | [] => exact absurd hr (by decide)
    | [_] => exact absurd hr (by show ¬ (4 = 0); decide)
    | [_, _] => exact absurd hr (by show ¬ (4 = 0); decide)
    | a :: b :: c :: t =>
      rw [codeOf_cons] at hr ⊢
      split at hr
      · exact absurd hr (by decide)
      · rename_i h1
        rw [if_neg h1]
        split at hr
        · exact absurd hr (by decide)
        · rename_i h2
          rw [if_neg h2]
          split at hr
          · exact absurd hr (by decide)
          · rename_i h3
            rw [if_neg h3]; exact h3
  have key : classOf (statusOf l).1 ≠ 0 := by
    unfold statusOf at h ⊢
    split at h
    · exact absurd h (by decide)
    · rename_i h1
      rw [if_neg h1]
      split at h
      · exact absurd h (by decide)
      · rename_i h2
        rw [if_neg h2]
        exact hc _ h
  rw [Ne, class_iff] at key
  omega
/-- what is taken may be printed, unless a field is too long -/
theorem rep_again (s : ByteArray) (most : Int) (h : takE s most = 0) :
    (repE (takC s most) (takF s most) = 0 ∨ repE (takC s most) (takF s most) = 5) ∧ 0 < takN s most ∧ takN s most ≤ (s.size : Int) ∧ ((takB s most).length : Int) ≤ most ∧ ((takB s most).length : Int) ≤ takN s most ∧ ((s.data.toList.take (takN s most).toNat).drop ((takN s most).toNat - (takB s most).length)) = takB s most := by
  obtain ⟨h1, h2, h3, h4⟩ := tak_zero s most h
  obtain ⟨k1, k2, k3, k4, k5⟩ := hdE_zero _ h2
  obtain ⟨n1, n2⟩ := headOf_bd s h1
  obtain ⟨b1, b2⟩ := headOf_bound s
  have hC : takC s most = hdC (headOf s).1 := if_pos h
  have hF : takF s most = restF (fldL (headOf s).1.tail) := if_pos h
  have hN : takN s most = (headOf s).2.1 + (hdN (headOf s).1 : Int) := if_pos h
  have hB : takB s most = (s.data.toList.take ((headOf s).2.1.toNat + hdN (headOf s).1)).drop (headOf s).2.1.toNat := if_pos h
  have hbl : (takB s most).length = hdN (headOf s).1 := by
    rw [hB, List.length_drop, List.length_take, size_len]; omega
  have hle : (fldL (headOf s).1.tail).length ≤ 16 := by unfold fldL; rw [List.length_map, List.length_tail]; omega
  have hone := get_one _ k4
  have hcode := code_status _ k2
  refine ⟨?_, by rw [hN]; omega, by rw [hN]; omega, by rw [hbl]; omega, by rw [hbl, hN]; omega, ?_⟩
  · rw [hC, hF]
    unfold repE
    have hp : printErr (hdC (headOf s).1) = 0 := by
      unfold printErr hdC
      rw [if_neg]
      rw [class_iff]; omega
    rw [hp, if_neg (by simp), if_neg (by omega)]
    refine ownE_five _ (fun f hf => ?_)
    unfold restF at hf
    obtain ⟨hm, hc⟩ := List.mem_filter.1 hf
    refine ⟨bne_iff_ne.1 hc, ?_⟩
    unfold fldL at hm
    obtain ⟨x, hx, rfl⟩ := List.mem_map.1 hm
    exact parse_print x (fldE_none _ k3 x hx)
  · rw [hbl, hN]
    have e1 : ((headOf s).2.1 + (hdN (headOf s).1 : Int)).toNat = (headOf s).2.1.toNat + hdN (headOf s).1 := by omega
    rw [e1, Nat.add_sub_cancel, hB]
end Go.Proofs.YtdihhbkajcngeaaGreatDoor
namespace Go.Proofs
open Go.Shelf
def layEqualF_ren : Go.Shelf.Ren := ⟨fun | 8 => 31 | n => n, fun | 22 => 50 | 24 => 73 | 4 => 4 | 3 => 3 | 0 => 0 | n => n, fun | n => n⟩
theorem layEqualF : Go.Proofs.SlLaysQ.n8 Tryz.prog layEqualF_ren := {
  mixed := by kernel_rfl
  f8 := ⟨Tryz.f31.name, by decide, Tryz.func31.trans (congrArg some (by kernel_rfl))⟩
  t0 := Tryz.underlying0
  a0 := Tryz.isAgg0
  z0 := Tryz.sizeOf0
  v0 := Tryz.zeroValue0
  t3 := Tryz.underlying3
  a3 := Tryz.isAgg3
  z3 := Tryz.sizeOf3
  v3 := Tryz.zeroValue3
  t4 := Tryz.underlying4
  a4 := Tryz.isAgg4
  z4 := Tryz.sizeOf4
  v4 := Tryz.zeroValue4
  t22 := Tryz.underlying50
  a22 := Tryz.isAgg50
  z22 := Tryz.sizeOf50
  v22 := Tryz.zeroValue50 }
def layIndexF_ren : Go.Shelf.Ren := ⟨fun | 6 => 74 | n => n, fun | 22 => 50 | 23 => 73 | 25 => 106 | 3 => 3 | 0 => 0 | 4 => 4 | n => n, fun | n => n⟩
theorem layIndexF : Go.Proofs.SlLaysH0.n6 Tryz.prog layIndexF_ren := {
  mixed := by kernel_rfl
  f6 := ⟨Tryz.f74.name, by decide, Tryz.func74.trans (congrArg some (by kernel_rfl))⟩
  t0 := Tryz.underlying0
  a0 := Tryz.isAgg0
  z0 := Tryz.sizeOf0
  v0 := Tryz.zeroValue0
  t3 := Tryz.underlying3
  a3 := Tryz.isAgg3
  z3 := Tryz.sizeOf3
  v3 := Tryz.zeroValue3
  t4 := Tryz.underlying4
  a4 := Tryz.isAgg4
  z4 := Tryz.sizeOf4
  v4 := Tryz.zeroValue4
  t22 := Tryz.underlying50
  a22 := Tryz.isAgg50
  z22 := Tryz.sizeOf50
  v22 := Tryz.zeroValue50
  t25 := Tryz.underlying106
  a25 := Tryz.isAgg106
  z25 := Tryz.sizeOf106
  v25 := Tryz.zeroValue106 }
def layCloneB_ren : Go.Shelf.Ren := ⟨fun | 41 => 32 | n => n, fun | 22 => 53 | 23 => 5 | 4 => 4 | n => n, fun | n => n⟩
theorem layCloneB : Go.Proofs.SlLaysE0.n41 Tryz.prog layCloneB_ren := {
  mixed := by kernel_rfl
  f41 := ⟨Tryz.f32.name, by decide, Tryz.func32.trans (congrArg some (by kernel_rfl))⟩
  t4 := Tryz.underlying4
  a4 := Tryz.isAgg4
  z4 := Tryz.sizeOf4
  v4 := Tryz.zeroValue4
  t22 := Tryz.underlying53
  a22 := Tryz.isAgg53
  z22 := Tryz.sizeOf53
  v22 := Tryz.zeroValue53 }
end Go.Proofs
namespace Go.Proofs.YtdihhbkajcngeaaGreatDoor
open Go.RowKit Go.Shelf Go.Lib
theorem bs_same (x y : List UInt8) : (bs x).toList = (bs y).toList ↔ x = y := by
  rw [ByteArray.toList_eq, ByteArray.toList_eq, bs_data, bs_data]
/-- a field's two cells -/
def encF (x : List UInt8 × List UInt8) : List Value := [.string (bs x.1), .string (bs x.2)]
theorem eq_field_in (d : Nat) (x y : List UInt8 × List UInt8) (w : World) : (Op.equalIn (d + 2) 73 (.agg (encF x).toArray) (.agg (encF y).toArray)).run Tryz.prog w = .ok (decide (x = y)) w := by
  have u3 := Tryz.underlying9
  have hS : Tryz.prog.underlying 73 = some (.struct (Tryz.prog.fieldsOf 73)) := by kernel_rfl
  have hp : Tryz.prog.stoodInHeld 73 = false := by kernel_rfl
  simp only [encF]
  rw [run_equalIn_agg w (d + 1) 73 _ _ hS hp]
  simp only [Program.fieldsOf, Tryz.underlying73]
  go_simp
  obtain ⟨x1, x2⟩ := x
  obtain ⟨y1, y2⟩ := y
  by_cases h1 : x1 = y1 <;> by_cases h2 : x2 = y2 <;> simp [h1, h2, bs_same]
theorem neqF : NeqAt Tryz.prog 73 (fun x => .agg (encF x).toArray) (fun x y => decide (x = y)) := by
  refine ⟨fun x y w => ?_, GuardAt.agg _ (by kernel_rfl)⟩
  rw [run_neq_struct, show (10000 : Nat) = 9998 + 2 from rfl, eq_field_in]; rfl
theorem allEq_dec (xs ys : List (List UInt8 × List UInt8)) : Lib.allEq (fun x y => decide (x = y)) xs ys = decide (xs = ys) := by
  induction xs generalizing ys with
  | nil => cases ys <;> simp [Lib.allEq]
  | cons x t ih =>
    cases ys with
    | nil => simp [Lib.allEq]
    | cons y u =>
      rw [Lib.allEq, ih u]
      by_cases h1 : x = y <;> by_cases h2 : t = u <;> simp [h1, h2]
theorem fcell {w : World} {b o : Nat} {fs : List (List UInt8 × List UInt8)} (h : ∀ j (hj : j < fs.length), w.cell? ⟨b, o + j * 2, none⟩ = some (.string (bs fs[j].1)) ∧ w.cell? ⟨b, o + j * 2 + 1, none⟩ = some (.string (bs fs[j].2))) :
    ∀ j, j < fs.length → ∀ i v, (encF fs[j]!)[i]? = some v → w.cell? ⟨b, o + j * 2 + i, none⟩ = some v := by
  intro j hj i v hv
  rw [getElem!_pos fs j hj] at hv
  obtain ⟨h1, h2⟩ := h j hj
  match i, hv with
  | 0, hv => simp only [encF, List.getElem?_cons_zero, Option.some.injEq] at hv; subst hv; exact h1
  | 1, hv => simp only [encF, List.getElem?_cons_succ, List.getElem?_cons_zero, Option.some.injEq] at hv; subst hv; exact h2
set_option maxRecDepth 100000 in
set_option maxHeartbeats 1000000 in
theorem equal_len (a b : Option Addr) (n m c d : Nat) (w : World) (h : n ≠ m ∨ n = 0) (hn : n ≤ 1000000) (hm : m ≤ 1000000) :
    Calls Tryz.prog 31 #[.slice a n c, .slice b m d] w fun e w' => e = .returned (.bool (decide (n = m))) ∧ Below w.heap.size w w' := by
  rcases Nat.decEq n m with h1 | rfl
  · have h2 : ((n : Int) != (m : Int)) = true := by rw [bne_iff_ne]; omega
    rw [decide_eq_false h1]
    go_enter Tryz.func31, Tryz.ntmps31
    go_wp2_with fail
    go_ret
    exact ⟨rfl, Below.refl _ _⟩
  · obtain rfl : n = 0 := by omega
    rw [decide_eq_true rfl]
    go_enter Tryz.func31, Tryz.ntmps31
    go_wp2_with fail
    refine wp_loop_rounds 1 ?_
    rw [rounds_succ]
    go_wp2_with fail
    go_ret
    exact ⟨rfl, Below.refl _ _⟩
/-- slices.Equal at fields -/
theorem equal_fields (va vb : Value) (xs ys : List (List UInt8 × List UInt8)) (w : World) (ha : HoldsF w va xs) (hb : HoldsF w vb ys) (hx : xs.length ≤ 1000000) (hy : ys.length ≤ 1000000) :
    Calls Tryz.prog 31 #[va, vb] w fun e w' => e = .returned (.bool (decide (xs = ys))) ∧ Below w.heap.size w w' := by
  obtain ⟨a, c, rfl, h1, h2⟩ := ha
  obtain ⟨b, d, rfl, h3, h4⟩ := hb
  by_cases h : xs.length ≠ ys.length ∨ xs.length = 0
  · refine (equal_len a b _ _ c d w h hx hy).mono ?_
    rintro e w' ⟨rfl, hbl⟩
    refine ⟨?_, hbl⟩
    rcases h with h | h
    · rw [decide_eq_false h, decide_eq_false (fun e => h (by rw [e]))]
    · have e0 : xs = [] := List.eq_nil_of_length_eq_zero h
      subst e0
      cases ys with
      | nil => rfl
      | cons y u => rfl
  · rw [not_or, Decidable.not_not] at h
    obtain ⟨g1, g2⟩ := h
    obtain ⟨b1, o1, rfl, hl1, hc1⟩ := h2 (fun e => g2 (by rw [e]; rfl))
    obtain ⟨b2, o2, rfl, hl2, hc2⟩ := h4 (fun e => g2 (by rw [g1, e]; rfl))
    refine (AnyQ.slices_Equal layEqualF 2 Tryz.isAgg73 Tryz.sizeOf73 encF (fun _ => rfl) _ neqF b1 o1 xs.length c b2 o2 ys.length d xs ys w (Nat.le_refl _) (Nat.le_refl _) (by omega) (by omega) (fcell hc1) (fcell hc2)).mono ?_
    rintro e w' ⟨rfl, q, rfl⟩
    refine ⟨?_, ⟨rfl, rfl, rfl, Nat.le_refl _, fun _ _ => rfl⟩⟩
    rw [List.take_length, List.take_length, allEq_dec]
theorem info_fieldS : (Tryz.prog.info? 73).map (fun i => (i.zero, i.size, i.bytes)) = some (some (.agg #[.string ByteArray.empty, .string ByteArray.empty]), 2, 32) := by kernel_rfl
theorem fcells_one (fs : List (List UInt8 × List UInt8)) : ∀ u ∈ fcells fs, u.oneCell' = true := by
  induction fs with
  | nil => intro u hu; cases hu
  | cons f t ih =>
    intro u hu
    rcases List.mem_cons.1 hu with rfl | hu
    · rfl
    rcases List.mem_cons.1 hu with rfl | hu
    · rfl
    · exact ih u hu
theorem fcells_at {w : World} {b o : Nat} {fs : List (List UInt8 × List UInt8)} (h : ∀ j (hj : j < fs.length), w.cell? ⟨b, o + j * 2, none⟩ = some (.string (bs fs[j].1)) ∧ w.cell? ⟨b, o + j * 2 + 1, none⟩ = some (.string (bs fs[j].2))) :
    ∀ j u, (fcells fs)[j]? = some u → w.cell? ⟨b, o + j, none⟩ = some u := by
  intro j u hu
  have hj : j < fs.length * 2 := by rw [← fcells_length]; exact (List.getElem?_eq_some_iff.1 hu).1
  have hk : j / 2 < fs.length := by omega
  obtain ⟨g1, g2⟩ := fcells_get fs (j / 2) hk
  obtain ⟨h1, h2⟩ := h (j / 2) hk
  rcases Nat.mod_two_eq_zero_or_one j with e | e
  · have e2 : j / 2 * 2 = j := by omega
    rw [e2] at g1 h1
    rw [g1] at hu
    rw [← Option.some.inj hu]
    exact h1
  · have e2 : j / 2 * 2 + 1 = j := by omega
    have e3 : o + j / 2 * 2 + 1 = o + j := by omega
    rw [e2] at g2
    rw [e3] at h2
    rw [g2] at hu
    rw [← Option.some.inj hu]
    exact h2
end Go.Proofs.YtdihhbkajcngeaaGreatDoor
namespace Go.Proofs.YtdihhbkajcngeaaGreatDoor
open Go.RowKit
variable {P : Program}
theorem run_copy_wide (w : World) (dT sT ty elem : TypeId) (k m b o dLen dCap : Nat) (a : Addr) (sLen sCap : Nat) (cs : List Value)
    (hu : P.underlying dT = some (.slice elem)) (hs : (P.info? elem).map (·.size) = some k) (hm : Nat.min sLen dLen = m) (hn : m * k = cs.length)
    (hsrc : ∀ j v, cs[j]? = some v → w.cell? (a.add j) = some v) (hc : ∀ j, j < cs.length → (w.cell? ⟨b, o + j, none⟩).isSome = true) (hf : ∀ j, j < cs.length → w.frozen? ⟨b, o + j, none⟩ = false) (h1 : ∀ v ∈ cs, v.oneCell' = true) :
    (Builtin.copy_ #[dT, sT] ty #[.slice (some ⟨b, o, none⟩) dLen dCap, .slice (some a) sLen sCap]).run P w = .ok (goInt m) (w.setCells b o cs) := by
  have hl := run_loadCells_list (P := P) w a cs hsrc
  have hst := run_storeCells_cells (P := P) b o cs 0 w (by simpa using hc) (by simpa using hf) h1
  cases hq : P.info? elem with
  | none => simp [hq] at hs
  | some i =>
    have hi : i.size = k := by simpa [hq] using hs
    simp [Builtin.copy_, run_underlying hu, Builtin.lenOf, Builtin.firstCells, sizeOf, typeInfo, hq, hi, hm, hn, hl, hst]
theorem run_copy_row_wide (w : World) (dT sT ty elem : TypeId) (k m g o dLen dCap : Nat) (a : Addr) (sLen sCap : Nat) (cur : Array Value) (t : TypeId) (cs : List Value)
    (hu : P.underlying dT = some (.slice elem)) (hs : (P.info? elem).map (·.size) = some k) (hm : Nat.min sLen dLen = m) (hn : m * k = cs.length)
    (hg : w.heap[g]? = some (.cells cur t (0, 0)))
    (hsrc : ∀ j v, cs[j]? = some v → w.cell? (a.add j) = some v) (hfit : o + cs.length ≤ cur.size) (h1 : ∀ v ∈ cs, v.oneCell' = true) :
    (Builtin.copy_ #[dT, sT] ty #[.slice (some ⟨g, o, none⟩) dLen dCap, .slice (some a) sLen sCap]).run P w = .ok (goInt m) (w.setRow g (splice cur.toList o cs).toArray) := by
  have hl := run_loadCells_list (P := P) w a cs hsrc
  have hst := run_storeCells_at P g o t cs 0 cur w hg (by simpa using hfit) h1
  rw [List.append_assoc] at hst
  cases hq : P.info? elem with
  | none => simp [hq] at hs
  | some i =>
    have hi : i.size = k := by simpa [hq] using hs
    simp [Builtin.copy_, run_underlying hu, Builtin.lenOf, Builtin.firstCells, sizeOf, typeInfo, hq, hi, hm, hn, hl, hst, splice]
theorem wpList_copy_wide {w : World} {ops : Array Oper} {rest : List Oper} {o : Oper} {a : Act} {Q : Exit → Act → World → Prop} (hgd : o.guard = none) (d s : Operand) (dT sT : TypeId)
    (ho : o.op = .call { callee := .builtin .copy, args := #[d, s], argTypes := #[dT, sT] }) (elem : TypeId) (k : Nat) (hu : P.underlying dT = some (.slice elem)) (hsz : (P.info? elem).map (·.size) = some k)
    (g off dLen dCap : Nat) (ad : Addr) (sLen sCap : Nat) (hd : a.eval d = .slice (some ⟨g, off, none⟩) dLen dCap) (hs : a.eval s = .slice (some ad) sLen sCap)
    (cur : Array Value) (t : TypeId) (hg : w.heap[g]? = some (.cells cur t (0, 0))) (m : Nat) (cs : List Value) (hm : Nat.min sLen dLen = m) (hn : m * k = cs.length)
    (hsrc : ∀ j v, cs[j]? = some v → w.cell? (ad.add j) = some v) (hfit : off + cs.length ≤ cur.size) (h1 : ∀ v ∈ cs, v.oneCell' = true)
    (h : ∀ w', Hid (w' = w.setRow g (splice cur.toList off cs).toArray) → wpList P ops Q rest (a.put o.dst (goInt m)) w') : wpList P ops Q (o :: rest) a w := by
  refine wpList_plain hgd fun K hK => ?_
  have hrun := run_copy_row_wide (P := P) w dT sT o.type elem k m g off dLen dCap ad sLen sCap cur t cs hu hsz hm hn hg hsrc hfit h1
  unfold Oper.wp
  simp [execOp, ho, resolve, invoke, builtin, hd, hs, hrun, Result.andThen]
  exact hK _ _ (h _ rfl)
theorem step_copy_wide {ops : Array Oper} {o : Oper} {a : Act} {w : World} {K : Act → World → Prop} {Q : Exit → Act → World → Prop} {E : Prop} (hgd : o.guard = none) (d s : Operand) (dT sT : TypeId)
    (ho : o.op = .call { callee := .builtin .copy, args := #[d, s], argTypes := #[dT, sT] }) (elem : TypeId) (k : Nat) (hu : P.underlying dT = some (.slice elem)) (hsz : (P.info? elem).map (·.size) = some k)
    (g off dLen dCap : Nat) (ad : Addr) (sLen sCap : Nat) (hd : a.eval d = .slice (some ⟨g, off, none⟩) dLen dCap) (hs : a.eval s = .slice (some ad) sLen sCap)
    (cur : Array Value) (t : TypeId) (hg : w.heap[g]? = some (.cells cur t (0, 0))) (m : Nat) (cs : List Value) (hm : Nat.min sLen dLen = m) (hn : m * k = cs.length)
    (hsrc : ∀ j v, cs[j]? = some v → w.cell? (ad.add j) = some v) (hfit : off + cs.length ≤ cur.size) (h1 : ∀ v ∈ cs, v.oneCell' = true)
    (h : ∀ w', Hid (w' = w.setRow g (splice cur.toList off cs).toArray) → K (a.put o.dst (goInt m)) w') :
    if Region.wanted o (yielded ops a.tmps) = true then Oper.wp P o a w K Q else E := by
  have hw : Region.wanted o (yielded ops a.tmps) = true := by simp [Region.wanted, hgd]
  rw [if_pos hw]
  have hrun := run_copy_row_wide (P := P) w dT sT o.type elem k m g off dLen dCap ad sLen sCap cur t cs hu hsz hm hn hg hsrc hfit h1
  unfold Oper.wp
  simp [execOp, ho, resolve, invoke, builtin, hd, hs, hrun, Result.andThen]
  exact h _ rfl
end Go.Proofs.YtdihhbkajcngeaaGreatDoor
