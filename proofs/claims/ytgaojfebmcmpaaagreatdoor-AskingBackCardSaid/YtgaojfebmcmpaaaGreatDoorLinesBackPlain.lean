/- Lines laid one behind the other read as a head; cut anywhere they are too short (no program in sight). -/
import Derived.Test.YtgaojfebmcmpaaaGreatDoorHeadWalk
namespace Go.Proofs.YtgaojfebmcmpaaaGreatDoor
open Go.RowKit

def plainL (x : List UInt8) : Prop := ∀ c ∈ x, plainB c.toNat = true
/-- the lines, each with its end. -/
def body : List (List UInt8) → List UInt8
  | [] => []
  | x :: t => x ++ 13 :: 10 :: body t
theorem body_append (l m : List (List UInt8)) : body (l ++ m) = body l ++ body m := by
  induction l with
  | nil => rfl
  | cons x t ih => simp [body, ih]

theorem plain_not13 : plainB 13 = false := by decide

theorem scan_line (x rest : List UInt8) : ∀ n, plainL x → n + x.length ≤ 256 → scan (x ++ 13 :: 10 :: rest) n = (n + x.length, 0) := by
  induction x with
  | nil => intro n _ _; rw [List.nil_append, scan, if_neg (by simp), if_pos (by simp)]; rfl
  | cons c t ih =>
    intro n hp hl
    have hc := hp c (List.mem_cons_self ..)
    have h13 : c ≠ 13 := fun e => by rw [e] at hc; exact absurd hc (by decide)
    rw [List.cons_append, scan, if_neg (by simp [h13]), if_neg (by simp [h13]), if_neg (by simp [hc]), if_neg (by simp at hl; omega), ih (n + 1) (fun c h => hp c (List.mem_cons_of_mem _ h)) (by simp at hl; omega)]
    simp; omega

/-- a proper beginning of a line with its end is too short. -/
theorem scan_cut (x : List UInt8) : ∀ n k, plainL x → n + x.length ≤ 256 → k < x.length + 2 → (scan ((x ++ [13, 10]).take k) n).2 = 3 := by
  induction x with
  | nil =>
    intro n k _ _ hk
    match k, hk with
    | 0, _ => simp [scan]
    | 1, _ => simp [scan]
  | cons c t ih =>
    intro n k hp hl hk
    cases k with
    | zero => simp [scan]
    | succ k =>
      have hc := hp c (List.mem_cons_self ..)
      have h13 : c ≠ 13 := fun e => by rw [e] at hc; exact absurd hc (by decide)
      rw [List.cons_append, List.take_succ_cons, scan, if_neg (by simp [h13]), if_neg (by simp [h13]), if_neg (by simp [hc]), if_neg (by simp at hl; omega)]
      exact ih (n + 1) k (fun c h => hp c (List.mem_cons_of_mem _ h)) (by simp at hl; omega) (by simp at hk; omega)

theorem take_line (s : ByteArray) (pre x rest : List UInt8) (hs : s.data.toList = pre ++ (x ++ 13 :: 10 :: rest)) (hp : plainL x) (hl : x.length ≤ 256) :
    takeErr s (pre.length : Int) = 0 ∧ takeLine s (pre.length : Int) = bs x ∧ takeNext s (pre.length : Int) = ((pre ++ (x ++ [13, 10])).length : Int) := by
  have hsz : pre.length ≤ s.size := by rw [← size_len, hs]; simp
  have hsc : scanAt s.data.toList pre.length 0 = (x.length, 0) := by
    unfold scanAt
    rw [hs, List.drop_left, scan_line x rest 0 hp (by omega)]; simp
  have he : takeErr s (pre.length : Int) = 0 := by rw [takeErr_in s _ hsz, hsc]
  refine ⟨he, ?_, ?_⟩
  · unfold takeLine
    rw [if_pos he, Int.toNat_natCast, hsc, extract_bs, hs]
    congr 1
    rw [← List.append_assoc, ← List.length_append, List.take_left, List.drop_left]
  · unfold takeNext
    rw [if_pos he, Int.toNat_natCast, hsc]
    simp; omega

theorem take_cut (s : ByteArray) (pre x : List UInt8) (k : Nat) (hs : s.data.toList = pre ++ (x ++ [13, 10]).take k) (hk : k < x.length + 2) (hp : plainL x) (hl : x.length ≤ 256) : takeErr s (pre.length : Int) = 3 := by
  have hsz : pre.length ≤ s.size := by rw [← size_len, hs]; simp
  rw [takeErr_in s _ hsz]
  unfold scanAt
  rw [hs, List.drop_left]
  exact scan_cut x 0 k hp (by omega) hk

theorem isEmpty_bs (x : List UInt8) : (bs x).toList.isEmpty = x.isEmpty := by rw [ByteArray.toList_eq, bs_data]

def goodLine (x : List UInt8) : Prop := x ≠ [] ∧ plainL x ∧ x.length ≤ 256

theorem head_ok (s : ByteArray) (rest : List UInt8) : ∀ (ls : List (List UInt8)) (pre : List UInt8) (xs : List (List UInt8)) (f : Nat), (∀ x ∈ ls, goodLine x) → xs.length + ls.length ≤ 17 → f + xs.length = 18 →
    s.data.toList = pre ++ (body ls ++ 13 :: 10 :: rest) → headR f s (pre.length : Int) xs = (xs ++ ls, ((pre ++ body ls).length : Int) + 2, 0) := by
  intro ls
  induction ls with
  | nil =>
    intro pre xs f _ hle hf hs
    obtain ⟨f, rfl⟩ : ∃ g, f = g + 1 := ⟨f - 1, by simp at hle; omega⟩
    obtain ⟨h1, h2, h3⟩ := take_line s pre [] rest (by simpa [body] using hs) (fun c h => by simp at h) (by simp)
    rw [headR_end f s _ xs h1 (by rw [h2, isEmpty_bs]; rfl), h3]
    simp [body]
  | cons x t ih =>
    intro pre xs f hg hle hf hs
    obtain ⟨hx0, hxp, hxl⟩ := hg x (List.mem_cons_self ..)
    obtain ⟨f, rfl⟩ : ∃ g, f = g + 1 := ⟨f - 1, by simp at hle; omega⟩
    have hs' : s.data.toList = pre ++ (x ++ 13 :: 10 :: (body t ++ 13 :: 10 :: rest)) := by rw [hs]; simp [body]
    obtain ⟨h1, h2, h3⟩ := take_line s pre x _ hs' hxp hxl
    rw [headR_more f s _ xs h1 (by rw [h2, isEmpty_bs]; cases x <;> simp_all) (by simp at hle; omega), h3, h2, bs_data]
    rw [ih (pre ++ (x ++ [13, 10])) (xs ++ [x]) f (fun y hy => hg y (List.mem_cons_of_mem _ hy)) (by simp at hle ⊢; omega) (by simp; omega) (by rw [hs']; simp)]
    simp [body]

theorem head_many (s : ByteArray) (rest : List UInt8) : ∀ (ls : List (List UInt8)) (pre : List UInt8) (xs : List (List UInt8)) (f : Nat), (∀ x ∈ ls, goodLine x) → 17 < xs.length + ls.length → xs.length ≤ 17 → f + xs.length = 18 →
    s.data.toList = pre ++ (body ls ++ 13 :: 10 :: rest) → headR f s (pre.length : Int) xs = ([], 0, 21) := by
  intro ls
  induction ls with
  | nil => intro pre xs f _ hle h2 _ _; simp at hle; omega
  | cons x t ih =>
    intro pre xs f hg hle h17 hf hs
    obtain ⟨hx0, hxp, hxl⟩ := hg x (List.mem_cons_self ..)
    obtain ⟨f, rfl⟩ : ∃ g, f = g + 1 := ⟨f - 1, by omega⟩
    have hs' : s.data.toList = pre ++ (x ++ 13 :: 10 :: (body t ++ 13 :: 10 :: rest)) := by rw [hs]; simp [body]
    obtain ⟨h1, h2, h3⟩ := take_line s pre x _ hs' hxp hxl
    have he : (takeLine s (pre.length : Int)).toList.isEmpty = false := by rw [h2, isEmpty_bs]; cases x <;> simp_all
    by_cases h : xs.length = 17
    · exact headR_many f s _ xs h1 he h
    · rw [headR_more f s _ xs h1 he h, h3, h2, bs_data]
      exact ih (pre ++ (x ++ [13, 10])) (xs ++ [x]) f (fun y hy => hg y (List.mem_cons_of_mem _ hy)) (by simp at hle ⊢; omega) (by simp; omega) (by simp; omega) (by rw [hs']; simp)

theorem head_cut (s : ByteArray) : ∀ (ls : List (List UInt8)) (pre : List UInt8) (xs : List (List UInt8)) (f k : Nat), (∀ x ∈ ls, goodLine x) → xs.length + ls.length ≤ 17 → f + xs.length = 18 →
    k < (body ls).length + 2 → s.data.toList = pre ++ (body ls ++ [13, 10]).take k → headR f s (pre.length : Int) xs = ([], 0, 3) := by
  intro ls
  induction ls with
  | nil =>
    intro pre xs f k _ hle hf hk hs
    obtain ⟨f, rfl⟩ : ∃ g, f = g + 1 := ⟨f - 1, by simp at hle; omega⟩
    have h := take_cut s pre [] k (by simpa [body] using hs) (by simpa [body] using hk) (fun c h => by simp at h) (by simp)
    rw [headR_err f s _ xs (by rw [h]; decide), h]
  | cons x t ih =>
    intro pre xs f k hg hle hf hk hs
    obtain ⟨hx0, hxp, hxl⟩ := hg x (List.mem_cons_self ..)
    obtain ⟨f, rfl⟩ : ∃ g, f = g + 1 := ⟨f - 1, by simp at hle; omega⟩
    have hb : body (x :: t) ++ [13, 10] = (x ++ [13, 10]) ++ (body t ++ [13, 10]) := by simp [body]
    rw [hb] at hs
    by_cases hkx : k < x.length + 2
    · rw [List.take_append_of_le_length (by simp; omega)] at hs
      have h := take_cut s pre x k hs hkx hxp hxl
      rw [headR_err f s _ xs (by rw [h]; decide), h]
    · have hlen : (x ++ [13, 10]).length ≤ k := by simp; omega
      rw [List.take_append, List.take_of_length_le hlen] at hs
      have hs' : s.data.toList = pre ++ (x ++ 13 :: 10 :: (body t ++ [13, 10]).take (k - (x ++ [13, 10]).length)) := by rw [hs]; simp
      obtain ⟨h1, h2, h3⟩ := take_line s pre x _ hs' hxp hxl
      rw [headR_more f s _ xs h1 (by rw [h2, isEmpty_bs]; cases x <;> simp_all) (by simp at hle; omega), h3, h2, bs_data]
      exact ih (pre ++ (x ++ [13, 10])) (xs ++ [x]) f (k - (x ++ [13, 10]).length) (fun y hy => hg y (List.mem_cons_of_mem _ hy)) (by simp at hle ⊢; omega) (by simp; omega) (by simp [body] at hk ⊢; omega) (by rw [hs]; simp)

theorem putErr_good (x : List UInt8) (h : putErr x = 0) : plainL x ∧ x.length ≤ 256 := by
  unfold putErr at h
  split at h
  · cases h
  · rename_i h1
    split at h
    · cases h
    · refine ⟨fun c hc => ?_, by omega⟩
      have h2 : (x.all fun c => plainB c.toNat) = true := by simpa using h1
      exact List.all_eq_true.1 h2 c hc
theorem putLine_bs (x : List UInt8) (h : putErr x = 0) : putLine (bs x) = bs (x ++ [13, 10]) := by
  unfold putLine
  rw [bs_data, if_pos h]
  have : (bs x ++ ⟨#[13, 10]⟩ : ByteArray).data.toList = x ++ [13, 10] := by simp [bs]
  rw [← this, bs_self]
theorem putLine_bad (x : List UInt8) (h : putErr x ≠ 0) : putLine (bs x) = ⟨#[]⟩ := by
  unfold putLine
  rw [bs_data, if_neg h]
end Go.Proofs.YtgaojfebmcmpaaaGreatDoor
