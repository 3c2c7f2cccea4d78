/- A text cut at its blanks: the words (no program in sight). -/
import Derived.Test.YtgaojfebmcmpaaaGreatDoorStrs
namespace Go.Proofs.YtgaojfebmcmpaaaGreatDoor

def words : List UInt8 → List (List UInt8)
  | [] => [[]]
  | c :: r => if c = 32 then [] :: words r else match words r with
    | w :: ws => (c :: w) :: ws
    | [] => [[c]]

theorem words_ne (l : List UInt8) : words l ≠ [] := by
  cases l with
  | nil => simp [words]
  | cons c r =>
    unfold words
    split
    · simp
    · split <;> simp

/-- bytes put ahead of the first word -/
def addPre (p : List UInt8) : List (List UInt8) → List (List UInt8)
  | [] => [p]
  | w :: t => (p ++ w) :: t

theorem addPre_nil (l : List UInt8) : addPre [] (words l) = words l := by
  cases h : words l with
  | nil => exact absurd h (words_ne l)
  | cons w t => rfl

theorem addPre_blank (p r : List UInt8) : addPre p (words (32 :: r)) = p :: words r := by
  rw [words, if_pos rfl]; simp [addPre]

theorem addPre_other (p r : List UInt8) (c : UInt8) (hc : c ≠ 32) : addPre p (words (c :: r)) = addPre (p ++ [c]) (words r) := by
  rw [words, if_neg hc]
  cases h : words r with
  | nil => exact absurd h (words_ne r)
  | cons w t => simp [addPre]

open Go.Lib in
theorem index_cons (c : UInt8) (r : List UInt8) : index (c :: r) [32] = if c = 32 then 0 else if index r [32] == -1 then -1 else index r [32] + 1 := by
  by_cases h : c = 32
  · subst h
    unfold index
    simp
  · rw [if_neg h]
    have h0 : [(32 : UInt8)].isPrefixOf (c :: r) = false := by simp [List.isPrefixOf]; exact fun e => h e.symm
    rw [index.eq_def]
    simp only [h0]
    rfl

open Go.Lib in
theorem split_words (l : List UInt8) : split l [32] = words l := by
  induction l with
  | nil => rfl
  | cons c r ih =>
    by_cases hc : c = 32
    · have hi : index (c :: r) [32] = (0 : Nat) := by rw [index_cons, if_pos hc]; rfl
      unfold split
      rw [count_hit (by simp) hi, Nat.add_comm, splitK, if_neg (by rw [hi]; decide), hi, words, if_pos hc, ← ih]
      rfl
    · rw [words, if_neg hc]
      rcases index_spec r [32] with ⟨hm, _⟩ | ⟨i, hi, _⟩
      · have h1 : index (c :: r) [32] = -1 := by rw [index_cons, if_neg hc, hm]; rfl
        have e1 : split (c :: r) [32] = [c :: r] := by unfold split; rw [count_miss h1]; rfl
        have e2 : split r [32] = [r] := by unfold split; rw [count_miss hm]; rfl
        rw [e1, ← ih, e2]
      · have h1 : index (c :: r) [32] = ((i + 1 : Nat) : Int) := by
          rw [index_cons, if_neg hc, hi, if_neg (by simp <;> omega)]; rfl
        have e1 : split (c :: r) [32] = (c :: r.take i) :: splitK [32] 0 (count (r.drop (i + 1)) [32]) (r.drop (i + 1)) := by
          unfold split
          rw [count_hit (by simp) h1, Nat.add_comm, splitK, if_neg (by rw [h1]; simp <;> omega), h1]
          rfl
        have e2 : split r [32] = (r.take i) :: splitK [32] 0 (count (r.drop (i + 1)) [32]) (r.drop (i + 1)) := by
          unfold split
          rw [count_hit (by simp) hi, Nat.add_comm, splitK, if_neg (by rw [hi]; simp <;> omega), hi]
          rfl
        rw [e1, ← ih, e2]

open Go.Lib in
/-- what strings.Split lays, cut at a blank. -/
theorem splitB_words (s : ByteArray) : (splitB ⟨#[32]⟩ 0 (countB s ⟨#[32]⟩) s).map Value.string = strs (words s.data.toList) := by
  have h := splitB_data ⟨#[32]⟩ 0 (countB s ⟨#[32]⟩) s
  have h2 : splitK (⟨#[32]⟩ : ByteArray).data.toList 0 (countB s ⟨#[32]⟩) s.data.toList = words s.data.toList := split_words s.data.toList
  rw [h2] at h
  unfold strs
  rw [← h, List.map_map]
  apply List.map_congr_left
  intro x _
  simp only [Function.comp_apply, bs_self]

open Go.Lib in
theorem countB_words (s : ByteArray) : countB s ⟨#[32]⟩ + 1 = (words s.data.toList).length := by
  have h := splitB_words s
  have h2 := congrArg List.length h
  rw [strs_length, List.length_map] at h2
  rw [← h2]
  have h3 := splitB_data ⟨#[32]⟩ 0 (countB s ⟨#[32]⟩) s
  have key : ∀ l : List UInt8, (split l [32]).length = count l [32] + 1 := by
    intro l
    induction l with
    | nil => rfl
    | cons c r ih =>
      rcases index_spec (c :: r) [32] with ⟨hm, _⟩ | ⟨i, hi, _⟩
      · have e1 : split (c :: r) [32] = [c :: r] := by unfold split; rw [count_miss hm]; rfl
        rw [e1, count_miss hm]; rfl
      · by_cases hc : c = 32
        · have hi0 : index (c :: r) [32] = (0 : Nat) := by rw [index_cons, if_pos hc]; rfl
          have e2 : split (c :: r) [32] = [] :: split r [32] := by
            unfold split
            rw [count_hit (by simp) hi0, Nat.add_comm, splitK, if_neg (by rw [hi0]; decide), hi0]; rfl
          rw [e2, count_hit (by simp) hi0, List.length_cons, ih]
          show _ = 1 + count r [32] + 1
          omega
        · rcases index_spec r [32] with ⟨hm, _⟩ | ⟨j, hj, _⟩
          · have h1 : index (c :: r) [32] = -1 := by rw [index_cons, if_neg hc, hm]; rfl
            rw [h1] at hi; omega
          · have h1 : index (c :: r) [32] = ((j + 1 : Nat) : Int) := by
              rw [index_cons, if_neg hc, hj, if_neg (by simp <;> omega)]; rfl
            have e1 : split (c :: r) [32] = (c :: r.take j) :: splitK [32] 0 (count (r.drop (j + 1)) [32]) (r.drop (j + 1)) := by
              unfold split
              rw [count_hit (by simp) h1, Nat.add_comm, splitK, if_neg (by rw [h1]; simp <;> omega), h1]
              rfl
            have e2 : split r [32] = (r.take j) :: splitK [32] 0 (count (r.drop (j + 1)) [32]) (r.drop (j + 1)) := by
              unfold split
              rw [count_hit (by simp) hj, Nat.add_comm, splitK, if_neg (by rw [hj]; simp <;> omega), hj]
              rfl
            have e3 : count (c :: r) [32] = count r [32] := by
              rw [count_hit (by simp) h1, count_hit (by simp) hj]; rfl
            rw [e1, e3, ← ih, e2]; rfl
  have h4 := key s.data.toList
  have h5 := congrArg List.length h3
  rw [List.length_map] at h5
  rw [h5]
  exact h4.symm
end Go.Proofs.YtgaojfebmcmpaaaGreatDoor
