/- The law LinesLong of layer 21. -/
import Derived.Test.YtnfadmdndefanaaDoorLinesBackWalk
namespace Go.Proofs.YtnfadmdndefanaaDoor
open Go.RowKit

theorem scan_long (x : List UInt8) (c : UInt8) (rest : List UInt8) (hc : plainB c.toNat = true) : ∀ n, plainL x → n + x.length = 256 → scan (x ++ c :: rest) n = (256, 5) := by
  have hc13 : c ≠ 13 := fun e => by rw [e] at hc; exact absurd hc (by decide)
  induction x with
  | nil =>
    intro n _ hl
    have : n = 256 := by simpa using hl
    subst this
    rw [List.nil_append, scan, if_neg (by simp [hc13]), if_neg (by simp [hc13]), if_neg (by simp [hc]), if_pos rfl]
  | cons a t ih =>
    intro n hp hl
    have ha := hp a (List.mem_cons_self ..)
    have h13 : a ≠ 13 := fun e => by rw [e] at ha; exact absurd ha (by decide)
    rw [List.cons_append, scan, if_neg (by simp [h13]), if_neg (by simp [h13]), if_neg (by simp [ha]), if_neg (by simp at hl; omega)]
    exact ih (n + 1) (fun b hb => hp b (List.mem_cons_of_mem _ hb)) (by simp at hl; omega)

theorem repeatL_eq (l : List UInt8) (n : Nat) : Go.Lib.repeatL l n = (List.replicate n l).flatten := by
  induction n with
  | zero => rfl
  | succ n ih => rw [List.replicate_succ, List.flatten_cons, ← ih]; rfl

theorem repeat256 (c : UInt8) (S : ByteArray) (hS : S = bs (List.replicate 256 c)) (w : World) :
    Calls Tryd.prog 26 #[.string ⟨#[c]⟩, .int .i64 256] w fun e w' => e = .returned (.string S) ∧ Below w.heap.size w w' := by
  have h := Tryd.strings_Repeat ⟨#[c]⟩ 256 w (by decide) (by show 1 * 256 ≤ _; decide)
  have e1 : (⟨(Go.Lib.repeatL (ByteArray.mk #[c]).data.toList 256).toArray⟩ : ByteArray) = S := by
    rw [hS, repeatL_eq]
    show bs (List.replicate 256 [c]).flatten = _
    rw [List.flatten_replicate_singleton]
  rw [e1] at h
  exact h

theorem putErr_plain (l : List UInt8) (h : plainL l) : putErr l = if 256 < l.length then 5 else 0 :=
  putErr_ok l fun _ hk => h _ (List.getElem_mem hk)

set_option maxRecDepth 100000 in
set_option maxHeartbeats 4000000 in
theorem linesLong_walk (c : UInt8) (beh : ByteArray) (m : Int) (w : World) (hm : MaxLenIs w m) (hbeh : beh.size ≤ 9223372036854775807) :
    Calls Tryd.prog 7 #[.int .u8 (c.toNat : Int), .string beh] w fun e w' => e = .returned (.bool true) ∧ Below w.heap.size w w' := by
  have Hm := Lib.hid hm
  clear hm
  by_cases h1 : (100 : Int) < (beh.size : Int)
  · go_enter Tryd.func7, Tryd.ntmps7
    go_wp2_with (go_at_call 12; refine (awake21 m _ Hm.out).mono ?_; rintro e w' ⟨rfl, hb⟩)
    go_ret
    exact ⟨rfl, by assumption⟩
  · have hconv : (convert 47 9 (.slice (some ⟨w.heap.size, 0, none⟩) 1 1)).run Tryd.prog (w.alloc (.cells #[.int .u8 (c.toNat : Int)] 5)) = .ok (.string ⟨#[c]⟩) (w.alloc (.cells #[.int .u8 (c.toNat : Int)] 5)) := run_convert_bytes_back (P := Tryd.prog) (w.alloc (.cells #[.int .u8 (c.toNat : Int)] 5)) 47 9 5 ⟨w.heap.size, 0, none⟩ 1 [c] Tryd.underlying47 Tryd.underlying5 Tryd.underlying9 (fun j hj => by
        obtain rfl : j = 0 := by simp at hj; exact hj
        exact cell_one_new w (.int .u8 (c.toNat : Int)) 5 0 _ rfl)
    have hcb : c.toNat < 256 := c.toNat_lt
    have hba : Below w.heap.size w (w.alloc (.cells #[.int .u8 (c.toNat : Int)] 5)) := (Below.refl _ _).alloc (Nat.le_refl _) _
    have Hm1 := Lib.hid (Hm.out.below hba)
    by_cases hp : plainB c.toNat = false
    · have hE : putErr [c] = 4 := putErr_4 [c] 0 c rfl hp
      go_enter Tryd.func7, Tryd.ntmps7
      go_wp2_with (first
        | (go_at_call 25; refine (ref_plain _ _ hcb).mono ?_; rintro e w' ⟨rfl, rfl⟩)
        | (go_at_call 15; refine (lines_put ⟨#[c]⟩ _ (by show 1 ≤ _; decide)).mono ?_; rintro e w' ⟨rfl, rfl⟩)
        | (go_at_call 12; refine (awake21 m _ Hm1.out).mono ?_; rintro e w' ⟨rfl, hb⟩))
      go_ret
      exact ⟨rfl, bstep hba (by assumption)⟩
    · have hp' : plainB c.toNat = true := by simpa using hp
      clear hp
      have hpc : plainL (List.replicate 256 c) := fun x hx => by rw [List.eq_of_mem_replicate hx]; exact hp'
      obtain ⟨S, hS⟩ : ∃ S, S = bs (List.replicate 256 c) := ⟨_, rfl⟩
      have hSd : S.data.toList = List.replicate 256 c := by rw [hS, bs_data]
      have hSs : S.size = 256 := by rw [← size_len, hSd, List.length_replicate]
      have hE1 : putErr S.data.toList = 0 := by rw [hSd, putErr_plain _ hpc, List.length_replicate]; rfl
      obtain ⟨T, hT⟩ : ∃ T, T = bs (List.replicate 256 c ++ [13, 10]) := ⟨_, rfl⟩
      have hP1 : putLine S = T := by rw [hS, putLine_bs _ (by rw [← hSd]; exact hE1), hT]
      have hTd : T.data.toList = List.replicate 256 c ++ [13, 10] := by rw [hT, bs_data]
      have hTs : T.size = 258 := by rw [← size_len, hTd]; simp
      have hE2 : putErr (S.data.toList ++ [120]) = 5 := by
        rw [hSd, putErr_plain _ (fun x hx => by
          rcases List.mem_append.1 hx with h | h
          · exact hpc x h
          · rw [List.mem_singleton.1 h]; decide)]
        simp
      have hTB : (T ++ beh).data.toList = [] ++ (List.replicate 256 c ++ 13 :: 10 :: beh.data.toList) := by
        rw [ByteArray.data_append, Array.toList_append, hTd]; simp
      obtain ⟨k1, k2, k3⟩ := take_line (T ++ beh) [] (List.replicate 256 c) beh.data.toList hTB hpc (by simp)
      have k1' : takeErr (T ++ beh) 0 = 0 := k1
      have k2' : takeLine (T ++ beh) 0 = S := by rw [hS]; exact k2
      have k3' : takeNext (T ++ beh) 0 = 258 := by
        refine k3.trans ?_
        simp
      have hLong : takeErr (S ++ ⟨#[120, 13, 10]⟩) 0 = 5 := by
        have := takeErr_in (S ++ ⟨#[120, 13, 10]⟩) 0 (Nat.zero_le _)
        refine Eq.trans this ?_
        unfold scanAt
        rw [ByteArray.data_append, Array.toList_append, hSd]
        show (scan (List.replicate 256 c ++ [120, 13, 10]) 0).2 = 5
        rw [scan_long _ 120 [13, 10] (by decide) 0 hpc (by simp)]
      have hz1 : S.size ≤ 9223372036854775807 := by omega
      have hz2 : (S ++ ⟨#[120]⟩).size ≤ 9223372036854775807 := by rw [ByteArray.size_append]; show S.size + 1 ≤ _; omega
      have hz3 : (T ++ beh).size ≤ 9223372036854775807 := by rw [ByteArray.size_append]; omega
      have hz4 : (S ++ ⟨#[120, 13, 10]⟩).size ≤ 9223372036854775807 := by rw [ByteArray.size_append]; show S.size + 3 ≤ _; omega
      have y1 : S.size + (ByteArray.mk #[120]).size ≤ 9223372036854775807 := by show S.size + 1 ≤ _; omega
      have y2 : T.size + beh.size ≤ 9223372036854775807 := by omega
      have y3 : S.size + (ByteArray.mk #[120, 13, 10]).size ≤ 9223372036854775807 := by show S.size + 3 ≤ _; omega
      have HS := Lib.hid hS
      clear hS hSd hT hTd hTB k1 k2 k3 hSs hTs hpc
      go_enter Tryd.func7, Tryd.ntmps7
      go_wp2_with (go_at_call 25; refine (ref_plain _ _ hcb).mono ?_; rintro e w' ⟨rfl, rfl⟩)
      refine (repeat256 c S HS.out _).mono ?_
      rintro e w2 ⟨rfl, hb2⟩
      have hb3 := bstep hba hb2
      have Hm2 := Lib.hid (Hm1.out.below hb2)
      clear hb2 Hm1
      go_wp2_with fail
      refine (lines_put _ _ hz1).mono ?_
      rintro e w' ⟨rfl, rfl⟩
      go_wp2_with fail
      refine (lines_put _ _ hz2).mono ?_
      rintro e w' ⟨rfl, rfl⟩
      go_wp2_with fail
      refine (lines_take _ _ _ hz3).mono ?_
      rintro e w' ⟨rfl, rfl⟩
      go_wp2_with fail
      refine (lines_take _ _ _ hz4).mono ?_
      rintro e w' ⟨rfl, rfl⟩
      go_wp2_with (go_at_call 12; refine (awake21 m _ Hm2.out).mono ?_; rintro e w' ⟨rfl, hb⟩)
      go_ret
      exact ⟨rfl, bstep hb3 (by assumption)⟩
end Go.Proofs.YtnfadmdndefanaaDoor
