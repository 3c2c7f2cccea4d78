/- The words of a line: what lines.Words and the reference's Words return; ref.Same. -/
import Derived.Test.YtgaojfebmcmpaaaGreatDoorWordsPlain
import Derived.BigQuiet
import Derived.Outline
namespace Go.Proofs.YtgaojfebmcmpaaaGreatDoor
open Go.RowKit

theorem words_blank (l : List UInt8) (a i : Nat) (hi : i < l.length) (h : l[i] = 32) (xs : List (List UInt8)) (hw : words l = xs ++ addPre ((l.take i).drop a) (words (l.drop i))) :
    words l = (xs ++ [(l.take i).drop a]) ++ addPre ((l.take (i + 1)).drop (i + 1)) (words (l.drop (i + 1))) := by
  rw [List.drop_eq_getElem_cons hi, h, addPre_blank] at hw
  rw [hw, show (l.take (i + 1)).drop (i + 1) = [] from List.drop_of_length_le (List.length_take_le _ _), addPre_nil]
  simp
theorem words_other (l : List UInt8) (a i : Nat) (ha : a ≤ i) (hi : i < l.length) (h : l[i] ≠ 32) (xs : List (List UInt8)) (hw : words l = xs ++ addPre ((l.take i).drop a) (words (l.drop i))) :
    words l = xs ++ addPre ((l.take (i + 1)).drop a) (words (l.drop (i + 1))) := by
  rw [List.drop_eq_getElem_cons hi, addPre_other _ _ _ h] at hw
  rw [hw, List.take_succ_eq_append_getElem hi, List.drop_append_of_le_length (by simp; omega)]
theorem words_end (l : List UInt8) (a : Nat) (xs : List (List UInt8)) (hw : words l = xs ++ addPre ((l.take l.length).drop a) (words (l.drop l.length))) : words l = xs ++ [l.drop a] := by
  rw [List.drop_length, List.take_length] at hw
  rw [hw]; simp [words, addPre]

set_option maxRecDepth 100000 in
set_option maxHeartbeats 2000000 in
theorem ref_words (s : ByteArray) (w : World) (hs : s.size < 1073741824) :
    Calls Tryz.prog 64 #[.string s] w fun e w' => ∃ v, e = .returned v ∧ w'.ownsRow w.heap.size 9 1 v (words s.data.toList).length (strs (words s.data.toList)) ∧ Below w.heap.size w w' := by
  obtain ⟨l, hl⟩ : ∃ l, l = s.data.toList := ⟨_, rfl⟩
  have hlen : l.length = s.size := by rw [hl]; simp
  rw [← hl]
  go_enter Tryz.func64, Tryz.ntmps64
  go_wp2_with fail
  go_loopw [3, 4, 5] (fun v f j wr => ∃ (i a : Nat) (xs : List (List UInt8)), a ≤ i ∧ i ≤ s.size ∧ xs.length ≤ i ∧ f = .int .i64 a ∧ j = .int .i64 i ∧ wr.ownsRow w.heap.size 9 1 v xs.length (strs xs) ∧ Below w.heap.size w wr ∧ Hid (words l = xs ++ addPre ((l.take i).drop a) (words (l.drop i)))) (fun _ _ j _ => s.size - (intOf j).toNat)
  case atStart =>
    exact ⟨0, 0, [], by omega, by omega, by simp, rfl, rfl, World.ownsRow_nil _ _ _ _, Below.refl _ _, Lib.hid (by simp [addPre_nil])⟩
  case round =>
    obtain ⟨i, a, xs, ha, hi, hx, rfl, rfl, hown, hb, Hw⟩ := hrel
    by_cases hlt : i < s.size
    · by_cases h32 : s[i] = 32
      · have h32' : s[i].toNat = 32 := by rw [h32]; rfl
        have hli : l[i]'(by omega) = 32 := by subst hl; exact h32
        have H := Lib.hid (words_blank l a i (by omega) hli xs Hw.out)
        have he := extract_bs s a i
        rw [← hl] at he
        have He := Lib.hid he
        clear he hli h32
        go_wp2_with (at_builtin; go_loud (refine append_str wr (by rfl) _ _ (by rfl) w.heap.size _ xs (by rfl) hown (s.extract a i) ((l.take i).drop a) He.out (by rfl) (by omega) hb.size ?_); intro v' w1 hown1 hg1 hne1)
        have hb1 := below_own hb hg1 hown (Nat.le_refl _) hb.size
        go_roundw
        case rel => exact ⟨i + 1, i + 1, xs ++ [(l.take i).drop a], by omega, by omega, by simp; omega, by go_num, by go_num, hown1, hb1, H⟩
        case measure => simp [intOf]; omega
      · have h32' : ((s[i].toNat : Int) == 32) = false := by
          rw [beq_eq_false_iff_ne]; intro h; exact h32 (UInt8.toNat_inj.1 (by show _ = 32; omega))
        have hli : l[i]'(by omega) ≠ 32 := by subst hl; exact h32
        have H := Lib.hid (words_other l a i ha (by omega) hli xs Hw.out)
        clear hli h32
        go_wp2_with fail
        go_roundw
        case rel => exact ⟨i + 1, a, xs, by omega, by omega, by omega, rfl, by go_num, hown, hb, H⟩
        case measure => simp [intOf]; omega
    · obtain rfl : i = s.size := by omega
      have hw2 := Hw.out
      rw [← hlen] at hw2
      have H := Lib.hid (words_end l a xs hw2)
      clear hw2
      have he := extract_bs s a s.size
      rw [← hl, ← hlen, List.take_length, hlen] at he
      have He := Lib.hid he
      clear he
      go_wp2_with (at_builtin; refine append_str wr (by rfl) _ _ (by rfl) w.heap.size _ xs (by rfl) hown (s.extract a s.size) (l.drop a) He.out (by rfl) (by omega) hb.size ?_; intro v' w1 hown1 hg1 hne1)
      have hb1 := below_own hb hg1 hown (Nat.le_refl _) hb.size
      go_ret
      refine ⟨_, rfl, ?_, hb1⟩
      rw [H.out]
      exact hown1
end Go.Proofs.YtgaojfebmcmpaaaGreatDoor
