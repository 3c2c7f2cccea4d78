/- Lines laid one behind the other read as a head; cut anywhere they are too short (no program in sight). Plain laws: trimming blanks and tabs byte by byte; what a field is printed as (no program in sight). Plain laws: a printed field is parsed as it was; a parsed one is printed again (no program in sight). What Print of package asking returns. What Print of the reference of asking returns. What cutting a line at its blanks returns. What first of package asking returns. What named of package asking returns. What whom and what of package asking return. -/
import Derived.Test.YtfcomhdgpdbnhaaGreatDoorPo4
import Derived.Deep.RegionWith
import Derived.Deep.RegionHeld3
import Derived.Deep.AppendLies
import Derived.Deep.RegionLaw
set_option linter.unusedVariables false
namespace Go.Proofs.YtfcomhdgpdbnhaaGreatDoor
open Go.RowKit

def plainL (x : List UInt8) : Prop := ∀ c ∈ x, plainB c.toNat = true
/-- the lines, each with its end. -/
def body : List (List UInt8) → List UInt8
  | [] => []
  | x :: t => x ++ 13 :: 10 :: body t
theorem body_append (l m : List (List UInt8)) : body (l ++ m) = body l ++ body m := by
  induction l with
  | nil => rfl
  | cons x t ih => simp [body, ih]

theorem plain_not13 : plainB 13 = false := by decide

theorem scan_line (x rest : List UInt8) : ∀ n, plainL x → n + x.length ≤ 256 → scan (x ++ 13 :: 10 :: rest) n = (n + x.length, 0) := by
  induction x with
  | nil => intro n _ _; rw [List.nil_append, scan, if_neg (by simp), if_pos (by simp)]; rfl
  | cons c t ih =>
    intro n hp hl
    have hc := hp c (List.mem_cons_self ..)
    have h13 : c ≠ 13 := fun e => by rw [e] at hc; exact absurd hc (by decide)
    rw [List.cons_append, scan, if_neg (by simp [h13]), if_neg (by simp [h13]), if_neg (by simp [hc]), if_neg (by simp at hl; omega), ih (n + 1) (fun c h => hp c (List.mem_cons_of_mem _ h)) (by simp at hl; omega)]
    simp; omega

/-- a proper beginning of a line with its end is too short. -/
theorem scan_cut (x : List UInt8) : ∀ n k, plainL x → n + x.length ≤ 256 → k < x.length + 2 → (scan ((x ++ [13, 10]).take k) n).2 = 3 := by
  induction x with
  | nil =>
    intro n k _ _ hk
    match k, hk with
    | 0, _ => simp [scan]
    | 1, _ => simp [scan]
  | cons c t ih =>
    intro n k hp hl hk
    cases k with
    | zero => simp [scan]
    | succ k =>
      have hc := hp c (List.mem_cons_self ..)
      have h13 : c ≠ 13 := fun e => by rw [e] at hc; exact absurd hc (by decide)
      rw [List.cons_append, List.take_succ_cons, scan, if_neg (by simp [h13]), if_neg (by simp [h13]), if_neg (by simp [hc]), if_neg (by simp at hl; omega)]
      exact ih (n + 1) k (fun c h => hp c (List.mem_cons_of_mem _ h)) (by simp at hl; omega) (by simp at hk; omega)

theorem take_line (s : ByteArray) (pre x rest : List UInt8) (hs : s.data.toList = pre ++ (x ++ 13 :: 10 :: rest)) (hp : plainL x) (hl : x.length ≤ 256) :
    takeErr s (pre.length : Int) = 0 ∧ takeLine s (pre.length : Int) = bs x ∧ takeNext s (pre.length : Int) = ((pre ++ (x ++ [13, 10])).length : Int) := by
  have hsz : pre.length ≤ s.size := by rw [← size_len, hs]; simp
  have hsc : scanAt s.data.toList pre.length 0 = (x.length, 0) := by
    unfold scanAt
    rw [hs, List.drop_left, scan_line x rest 0 hp (by omega)]; simp
  have he : takeErr s (pre.length : Int) = 0 := by rw [takeErr_in s _ hsz, hsc]
  refine ⟨he, ?_, ?_⟩
  · unfold takeLine
    rw [if_pos he, Int.toNat_natCast, hsc, extract_bs, hs]
    congr 1
    rw [← List.append_assoc, ← List.length_append, List.take_left, List.drop_left]
  · unfold takeNext
    rw [if_pos he, Int.toNat_natCast, hsc]
    simp; omega

theorem take_cut (s : ByteArray) (pre x : List UInt8) (k : Nat) (hs : s.data.toList = pre ++ (x ++ [13, 10]).take k) (hk : k < x.length + 2) (hp : plainL x) (hl : x.length ≤ 256) : takeErr s (pre.length : Int) = 3 := by
  have hsz : pre.length ≤ s.size := by rw [← size_len, hs]; simp
  rw [takeErr_in s _ hsz]
  unfold scanAt
  rw [hs, List.drop_left]
  exact scan_cut x 0 k hp (by omega) hk

theorem isEmpty_bs (x : List UInt8) : (bs x).toList.isEmpty = x.isEmpty := by rw [ByteArray.toList_eq, bs_data]

def goodLine (x : List UInt8) : Prop := x ≠ [] ∧ plainL x ∧ x.length ≤ 256

theorem head_ok (s : ByteArray) (rest : List UInt8) : ∀ (ls : List (List UInt8)) (pre : List UInt8) (xs : List (List UInt8)) (f : Nat), (∀ x ∈ ls, goodLine x) → xs.length + ls.length ≤ 17 → f + xs.length = 18 →
    s.data.toList = pre ++ (body ls ++ 13 :: 10 :: rest) → headR f s (pre.length : Int) xs = (xs ++ ls, ((pre ++ body ls).length : Int) + 2, 0) := by
  intro ls
  induction ls with
  | nil =>
    intro pre xs f _ hle hf hs
    obtain ⟨f, rfl⟩ : ∃ g, f = g + 1 := ⟨f - 1, by simp at hle; omega⟩
    obtain ⟨h1, h2, h3⟩ := take_line s pre [] rest (by simpa [body] using hs) (fun c h => by simp at h) (by simp)
    rw [headR_end f s _ xs h1 (by rw [h2, isEmpty_bs]; rfl), h3]
    simp [body]
  | cons x t ih =>
    intro pre xs f hg hle hf hs
    obtain ⟨hx0, hxp, hxl⟩ := hg x (List.mem_cons_self ..)
    obtain ⟨f, rfl⟩ : ∃ g, f = g + 1 := ⟨f - 1, by simp at hle; omega⟩
    have hs' : s.data.toList = pre ++ (x ++ 13 :: 10 :: (body t ++ 13 :: 10 :: rest)) := by rw [hs]; simp [body]
    obtain ⟨h1, h2, h3⟩ := take_line s pre x _ hs' hxp hxl
    rw [headR_more f s _ xs h1 (by rw [h2, isEmpty_bs]; cases x <;> simp_all) (by simp at hle; omega), h3, h2, bs_data]
    rw [ih (pre ++ (x ++ [13, 10])) (xs ++ [x]) f (fun y hy => hg y (List.mem_cons_of_mem _ hy)) (by simp at hle ⊢; omega) (by simp; omega) (by rw [hs']; simp)]
    simp [body]

theorem head_many (s : ByteArray) (rest : List UInt8) : ∀ (ls : List (List UInt8)) (pre : List UInt8) (xs : List (List UInt8)) (f : Nat), (∀ x ∈ ls, goodLine x) → 17 < xs.length + ls.length → xs.length ≤ 17 → f + xs.length = 18 →
    s.data.toList = pre ++ (body ls ++ 13 :: 10 :: rest) → headR f s (pre.length : Int) xs = ([], 0, 21) := by
  intro ls
  induction ls with
  | nil => intro pre xs f _ hle h2 _ _; simp at hle; omega
  | cons x t ih =>
    intro pre xs f hg hle h17 hf hs
    obtain ⟨hx0, hxp, hxl⟩ := hg x (List.mem_cons_self ..)
    obtain ⟨f, rfl⟩ : ∃ g, f = g + 1 := ⟨f - 1, by omega⟩
    have hs' : s.data.toList = pre ++ (x ++ 13 :: 10 :: (body t ++ 13 :: 10 :: rest)) := by rw [hs]; simp [body]
    obtain ⟨h1, h2, h3⟩ := take_line s pre x _ hs' hxp hxl
    have he : (takeLine s (pre.length : Int)).toList.isEmpty = false := by rw [h2, isEmpty_bs]; cases x <;> simp_all
    by_cases h : xs.length = 17
    · exact headR_many f s _ xs h1 he h
    · rw [headR_more f s _ xs h1 he h, h3, h2, bs_data]
      exact ih (pre ++ (x ++ [13, 10])) (xs ++ [x]) f (fun y hy => hg y (List.mem_cons_of_mem _ hy)) (by simp at hle ⊢; omega) (by simp; omega) (by simp; omega) (by rw [hs']; simp)

theorem head_cut (s : ByteArray) : ∀ (ls : List (List UInt8)) (pre : List UInt8) (xs : List (List UInt8)) (f k : Nat), (∀ x ∈ ls, goodLine x) → xs.length + ls.length ≤ 17 → f + xs.length = 18 →
    k < (body ls).length + 2 → s.data.toList = pre ++ (body ls ++ [13, 10]).take k → headR f s (pre.length : Int) xs = ([], 0, 3) := by
  intro ls
  induction ls with
  | nil =>
    intro pre xs f k _ hle hf hk hs
    obtain ⟨f, rfl⟩ : ∃ g, f = g + 1 := ⟨f - 1, by simp at hle; omega⟩
    have h := take_cut s pre [] k (by simpa [body] using hs) (by simpa [body] using hk) (fun c h => by simp at h) (by simp)
    rw [headR_err f s _ xs (by rw [h]; decide), h]
  | cons x t ih =>
    intro pre xs f k hg hle hf hk hs
    obtain ⟨hx0, hxp, hxl⟩ := hg x (List.mem_cons_self ..)
    obtain ⟨f, rfl⟩ : ∃ g, f = g + 1 := ⟨f - 1, by simp at hle; omega⟩
    have hb : body (x :: t) ++ [13, 10] = (x ++ [13, 10]) ++ (body t ++ [13, 10]) := by simp [body]
    rw [hb] at hs
    by_cases hkx : k < x.length + 2
    · rw [List.take_append_of_le_length (by simp; omega)] at hs
      have h := take_cut s pre x k hs hkx hxp hxl
      rw [headR_err f s _ xs (by rw [h]; decide), h]
    · have hlen : (x ++ [13, 10]).length ≤ k := by simp; omega
      rw [List.take_append, List.take_of_length_le hlen] at hs
      have hs' : s.data.toList = pre ++ (x ++ 13 :: 10 :: (body t ++ [13, 10]).take (k - (x ++ [13, 10]).length)) := by rw [hs]; simp
      obtain ⟨h1, h2, h3⟩ := take_line s pre x _ hs' hxp hxl
      rw [headR_more f s _ xs h1 (by rw [h2, isEmpty_bs]; cases x <;> simp_all) (by simp at hle; omega), h3, h2, bs_data]
      exact ih (pre ++ (x ++ [13, 10])) (xs ++ [x]) f (k - (x ++ [13, 10]).length) (fun y hy => hg y (List.mem_cons_of_mem _ hy)) (by simp at hle ⊢; omega) (by simp; omega) (by simp [body] at hk ⊢; omega) (by rw [hs]; simp)

theorem putErr_good (x : List UInt8) (h : putErr x = 0) : plainL x ∧ x.length ≤ 256 := by
  unfold putErr at h
  split at h
  · cases h
  · rename_i h1
    split at h
    · cases h
    · refine ⟨fun c hc => ?_, by omega⟩
      have h2 : (x.all fun c => plainB c.toNat) = true := by simpa using h1
      exact List.all_eq_true.1 h2 c hc
theorem putLine_bs (x : List UInt8) (h : putErr x = 0) : putLine (bs x) = bs (x ++ [13, 10]) := by
  unfold putLine
  rw [bs_data, if_pos h]
  have : (bs x ++ ⟨#[13, 10]⟩ : ByteArray).data.toList = x ++ [13, 10] := by simp [bs]
  rw [← this, bs_self]
theorem putLine_bad (x : List UInt8) (h : putErr x ≠ 0) : putLine (bs x) = ⟨#[]⟩ := by
  unfold putLine
  rw [bs_data, if_neg h]
end Go.Proofs.YtfcomhdgpdbnhaaGreatDoor
namespace Go.Proofs.YtfcomhdgpdbnhaaGreatDoor
open Go.RowKit

theorem gapL_contains (c : UInt8) : gapL.contains c = gapB c := by
  unfold gapL gapB
  simp only [List.contains, List.elem]
  cases (c == 32) <;> cases (c == 9) <;> rfl
theorem trimS_cons (g : UInt8) (X : List UInt8) (h : gapB g = true) : Go.Lib.trimS (g :: X) gapL = Go.Lib.trimS X gapL := by
  have hg : gapL.contains g = true := (gapL_contains g).trans h
  unfold Go.Lib.trimS Go.Lib.trimRightS Go.Lib.trimLeftS
  rw [List.reverse_cons, List.dropWhile_append]
  split
  · rename_i he
    rw [List.isEmpty_iff] at he
    rw [he, List.dropWhile_cons_of_pos hg]; rfl
  · rw [List.reverse_append]
    show List.dropWhile _ (g :: _) = _
    rw [List.dropWhile_cons_of_pos hg]; rfl
theorem trimS_snoc (X : List UInt8) (g : UInt8) (h : gapB g = true) : Go.Lib.trimS (X ++ [g]) gapL = Go.Lib.trimS X gapL := by
  have hg : gapL.contains g = true := (gapL_contains g).trans h
  unfold Go.Lib.trimS Go.Lib.trimRightS
  rw [List.reverse_append]
  show Go.Lib.trimLeftS (List.dropWhile _ (g :: _)).reverse _ = _
  rw [List.dropWhile_cons_of_pos hg]; rfl
theorem trimS_le (X : List UInt8) : (Go.Lib.trimS X gapL).length ≤ X.length := by
  unfold Go.Lib.trimS Go.Lib.trimRightS Go.Lib.trimLeftS
  refine Nat.le_trans (List.dropWhile_suffix _).length_le ?_
  rw [List.length_reverse]
  refine Nat.le_trans (List.dropWhile_suffix _).length_le ?_
  rw [List.length_reverse]; exact Nat.le_refl _
def headGap (X : List UInt8) : Bool := match X with | [] => false | c :: _ => gapB c
def noGap (X : List UInt8) : Bool := !headGap X && !headGap X.reverse
theorem trimS_done (X : List UInt8) (h1 : headGap X = false) (h2 : headGap X.reverse = false) : Go.Lib.trimS X gapL = X := by
  have key : ∀ Y : List UInt8, headGap Y = false → Y.dropWhile (gapL.contains ·) = Y := by
    intro Y h
    cases Y with
    | nil => rfl
    | cons c t => exact List.dropWhile_cons_of_neg (by rw [gapL_contains]; show ¬ gapB c = true; rw [show gapB c = false from h]; decide)
  unfold Go.Lib.trimS Go.Lib.trimRightS Go.Lib.trimLeftS
  rw [key _ h2, List.reverse_reverse, key _ h1]
theorem trimS_iff (X : List UInt8) : Go.Lib.trimS X gapL = X ↔ noGap X = true := by
  unfold noGap
  constructor
  · intro h
    have a : headGap X = false := by
      cases X with
      | nil => rfl
      | cons c t =>
        rw [Bool.eq_false_iff]
        intro hc
        have := trimS_le t
        rw [← trimS_cons c t hc, h] at this
        simp at this
        omega
    have b : headGap X.reverse = false := by
      cases hr : X.reverse with
      | nil => rfl
      | cons c t =>
        rw [Bool.eq_false_iff]
        intro hc
        have e : X = t.reverse ++ [c] := by rw [← List.reverse_reverse X, hr, List.reverse_cons]
        have := trimS_le t.reverse
        rw [← trimS_snoc t.reverse c hc, ← e, h, e] at this
        simp at this
        omega
    rw [a, b]; rfl
  · intro h
    simp only [Bool.and_eq_true, Bool.not_eq_true'] at h
    exact trimS_done X h.1 h.2

/-- what stands behind a name's colon -/
def tailV (v : List UInt8) : List UInt8 := if v.isEmpty then [] else 32 :: v
def printL (n v : List UInt8) : List UInt8 := titL true n ++ 58 :: tailV v
def printOk (n v : List UInt8) : Bool := nameL n && plainAll v && noGap v
def fieldE (n v : List UInt8) : Nat := if printOk n v = true then (if 256 < (printL n v).length then 5 else 0) else 4
def fieldS (n v : List UInt8) : List UInt8 := if fieldE n v = 0 then printL n v else []

theorem titL_append (b : Bool) (x y : List UInt8) : titL b (x ++ y) = titL b x ++ titL (match x.getLast? with | none => b | some c => stB c) y := by
  induction x generalizing b with
  | nil => rfl
  | cons c t ih =>
    show UInt8.ofNat _ :: titL (stB c) (t ++ y) = (UInt8.ofNat _ :: titL (stB c) t) ++ _
    rw [ih, List.cons_append, List.getLast?_cons]
    congr 2
    cases t.getLast? <;> rfl
theorem titL_len (b : Bool) (l : List UInt8) : (titL b l).length = l.length := by
  induction l generalizing b with
  | nil => rfl
  | cons c t ih => simp [titL, ih]
/-- trimming the end of a printed name, colon, blank and value: the blank goes just where there is no value -/
theorem trimR_print (t v : List UInt8) (h : noGap v = true) : Go.Lib.trimRightS (t ++ [58, 32] ++ v) gapL = t ++ 58 :: tailV v := by
  unfold Go.Lib.trimRightS tailV
  cases hv : v with
  | nil =>
    simp only [List.isEmpty_nil, if_true]
    have e : (t ++ [58, 32] ++ []).reverse = 32 :: 58 :: t.reverse := by simp
    rw [e, List.dropWhile_cons_of_pos (by decide), List.dropWhile_cons_of_neg (by decide)]
    simp
  | cons a r =>
    rw [← hv]
    have hb : headGap v.reverse = false := by
      unfold noGap at h; simp only [Bool.and_eq_true, Bool.not_eq_true'] at h; exact h.2
    have e : (t ++ [58, 32] ++ v).reverse = v.reverse ++ (32 :: 58 :: t.reverse) := by simp
    rw [e]
    cases hr : v.reverse with
    | nil => rw [List.reverse_eq_nil_iff.1 hr] at hv; exact absurd hv (by simp)
    | cons c u =>
      rw [hr] at hb
      rw [List.cons_append, List.dropWhile_cons_of_neg (by rw [gapL_contains]; rw [show gapB c = false from hb]; decide), ← List.cons_append, ← hr, List.reverse_append]
      simp [hv]
end Go.Proofs.YtfcomhdgpdbnhaaGreatDoor
namespace Go.Proofs.YtfcomhdgpdbnhaaGreatDoor
open Go.RowKit

theorem ahead_of (m t : List UInt8) (h : ∀ c ∈ m, c ≠ 58) : ahead (m ++ 58 :: t) = m := by
  unfold ahead
  rw [List.takeWhile_append_of_pos (fun c hc => by simpa using h c hc), List.takeWhile_cons_of_neg (by decide), List.append_nil]
theorem parse_of (m n v t : List UInt8) (h : ∀ c ∈ m, c ≠ 58) (hm : plainAll m = true) (ht : plainAll t = true) (hn : nameL n = true) (e : m.map smallB = n) (hv : Go.Lib.trimS t gapL = v) :
    parseN (m ++ 58 :: t) = n ∧ parseV (m ++ 58 :: t) = v ∧ parseE (m ++ 58 :: t) = 0 := by
  have ha := ahead_of m t h
  have hname : parseName (m ++ 58 :: t) = n := by unfold parseName; rw [ha, e]
  have hval : parseVal (m ++ 58 :: t) = v := by
    unfold parseVal; rw [ha]
    rw [show (m ++ 58 :: t).drop (m.length + 1) = t by
      rw [← List.drop_drop, List.drop_left]; rfl]
    exact hv
  have hok : parseOk (m ++ 58 :: t) = true := by
    unfold parseOk
    rw [hname, hn, ha]
    have hp : plainAll (m ++ 58 :: t) = true := by
      unfold plainAll at hm ht ⊢
      rw [List.all_append, hm, List.all_cons, ht]; rfl
    rw [hp, decide_eq_true (by simp)]; rfl
  unfold parseN parseV parseE
  rw [hok]
  exact ⟨hname, hval, rfl⟩

theorem namedN_bd (n : Nat) (h : namedN n = true) : (97 ≤ n ∧ n ≤ 122) ∨ (48 ≤ n ∧ n ≤ 57) ∨ n = 45 := by
  rcases named_cases n with ⟨a, b, _⟩ | ⟨a, b, _⟩ | ⟨a, _⟩ | ⟨_, _, c⟩ | ⟨_, _, c⟩ | ⟨_, c⟩
  · exact .inl ⟨a, b⟩
  · exact .inr (.inl ⟨a, b⟩)
  · exact .inr (.inr a)
  · rw [c] at h; exact absurd h (by decide)
  · rw [c] at h; exact absurd h (by decide)
  · rw [c] at h; exact absurd h (by decide)
theorem letN_iff (n : Nat) : letN n = true ↔ 97 ≤ n ∧ n ≤ 122 := by
  unfold letN; simp
theorem titN_named (b : Bool) (n : Nat) (h : namedN n = true) : titN b n = n ∨ (97 ≤ n ∧ n ≤ 122 ∧ titN b n = n - 32) := by
  unfold titN
  split
  · rename_i hb
    simp only [Bool.and_eq_true] at hb
    have := (letN_iff n).1 hb.2
    exact .inr ⟨this.1, this.2, rfl⟩
  · exact .inl rfl
theorem tit_byte (b : Bool) (c : UInt8) (h : namedN c.toNat = true) : (UInt8.ofNat (titN b c.toNat)).toNat = titN b c.toNat := by
  rw [UInt8.toNat_ofNat']
  have := namedN_bd _ h
  rcases titN_named b _ h with e | ⟨_, _, e⟩ <;> rw [e] <;> omega
theorem tit_small (b : Bool) (c : UInt8) (h : namedN c.toNat = true) : smallB (UInt8.ofNat (titN b c.toNat)) = c := by
  unfold smallB
  rw [tit_byte b c h]
  have hb := namedN_bd _ h
  apply UInt8.toNat_inj.1
  rw [UInt8.toNat_ofNat']
  unfold smallN
  rcases titN_named b _ h with e | ⟨a1, a2, e⟩
  · rw [e, if_neg (by omega)]; omega
  · rw [e, if_pos (by omega)]; omega
theorem plainB_of (n : Nat) (h1 : 32 ≤ n) (h2 : n ≤ 126) : plainB n = true := by
  unfold plainB; rw [decide_eq_true h1, decide_eq_true h2]; simp
theorem tit_plain (b : Bool) (c : UInt8) (h : namedN c.toNat = true) : plainB (UInt8.ofNat (titN b c.toNat)).toNat = true ∧ UInt8.ofNat (titN b c.toNat) ≠ 58 := by
  rw [tit_byte b c h]
  have hb := namedN_bd _ h
  rcases titN_named b _ h with e | ⟨a1, a2, e⟩
  · refine ⟨by rw [e]; exact plainB_of _ (by omega) (by omega), fun he => ?_⟩
    have := congrArg UInt8.toNat he
    rw [tit_byte b c h, e] at this
    have : (58 : UInt8).toNat = 58 := rfl
    omega
  · refine ⟨by rw [e]; exact plainB_of _ (by omega) (by omega), fun he => ?_⟩
    have := congrArg UInt8.toNat he
    rw [tit_byte b c h, e] at this
    have : (58 : UInt8).toNat = 58 := rfl
    omega
theorem titL_small (b : Bool) (l : List UInt8) (h : ∀ c ∈ l, namedN c.toNat = true) : (titL b l).map smallB = l := by
  induction l generalizing b with
  | nil => rfl
  | cons c t ih =>
    show smallB _ :: (titL _ t).map smallB = c :: t
    rw [tit_small b c (h c (List.mem_cons_self ..)), ih _ (fun d hd => h d (List.mem_cons_of_mem _ hd))]
theorem titL_plain (b : Bool) (l : List UInt8) (h : ∀ c ∈ l, namedN c.toNat = true) : plainAll (titL b l) = true ∧ ∀ c ∈ titL b l, c ≠ 58 := by
  induction l generalizing b with
  | nil => exact ⟨rfl, fun c hc => by simp [titL] at hc⟩
  | cons c t ih =>
    have h1 := tit_plain b c (h c (List.mem_cons_self ..))
    have h2 := ih (stB c) (fun d hd => h d (List.mem_cons_of_mem _ hd))
    constructor
    · show plainAll (_ :: _) = true
      unfold plainAll at h2 ⊢
      rw [List.all_cons, h1.1, h2.1]; rfl
    · intro d hd
      change d ∈ UInt8.ofNat (titN b c.toNat) :: titL (stB c) t at hd
      rcases List.mem_cons.1 hd with rfl | hd
      · exact h1.2
      · exact h2.2 d hd
theorem nameL_all (n : List UInt8) (h : nameL n = true) : (∀ c ∈ n, namedN c.toNat = true) ∧ n ≠ [] ∧ n.length ≤ 32 := by
  unfold nameL at h
  simp only [Bool.and_eq_true, Bool.not_eq_true', decide_eq_true_eq, List.all_eq_true] at h
  exact ⟨h.2, fun e => by rw [e] at h; exact absurd h.1.1 (by decide), h.1.2⟩
theorem printOk_and (n v : List UInt8) (h : printOk n v = true) : nameL n = true ∧ plainAll v = true ∧ noGap v = true := by
  unfold printOk at h; simp only [Bool.and_eq_true] at h; exact ⟨h.1.1, h.1.2, h.2⟩
theorem fieldE_zero (n v : List UInt8) (h : fieldE n v = 0) : printOk n v = true ∧ (printL n v).length ≤ 256 := by
  unfold fieldE at h
  split at h
  · split at h
    · exact absurd h (by decide)
    · exact ⟨by assumption, by omega⟩
  · exact absurd h (by decide)
theorem tailV_plain (v : List UInt8) (h : plainAll v = true) : plainAll (tailV v) = true := by
  unfold tailV; split
  · rfl
  · unfold plainAll at h ⊢; rw [List.all_cons, h]; rfl
theorem trimS_tail (v : List UInt8) (h : noGap v = true) : Go.Lib.trimS (tailV v) gapL = v := by
  unfold tailV
  split
  · rename_i he; rw [List.isEmpty_iff] at he; rw [he]; rfl
  · rw [trimS_cons 32 v (by decide)]; exact (trimS_iff v).2 h
/-- a printed field, parsed -/
theorem print_parse (n v : List UInt8) (h : printOk n v = true) : parseN (printL n v) = n ∧ parseV (printL n v) = v ∧ parseE (printL n v) = 0 := by
  obtain ⟨h1, h2, h3⟩ := printOk_and n v h
  obtain ⟨ha, hne, hlen⟩ := nameL_all n h1
  obtain ⟨p1, p2⟩ := titL_plain true n ha
  exact parse_of _ n v _ p2 p1 (tailV_plain v h2) h1 (titL_small true n ha) (trimS_tail v h3)
theorem print_put (n v : List UInt8) (h : fieldE n v = 0) : putErr (printL n v) = 0 := by
  obtain ⟨hk, hl⟩ := fieldE_zero n v h
  obtain ⟨h1, h2, h3⟩ := printOk_and n v hk
  obtain ⟨ha, hne, hlen⟩ := nameL_all n h1
  obtain ⟨p1, p2⟩ := titL_plain true n ha
  have hp : plainAll (printL n v) = true := by
    have ht := tailV_plain v h2
    unfold printL
    unfold plainAll at p1 ht ⊢
    rw [List.all_append, p1, List.all_cons, ht]; rfl
  unfold putErr
  unfold plainAll at hp
  rw [hp, if_neg (by decide), if_neg (by omega)]
/-- in great letters -/
def greatB (c : UInt8) : UInt8 := if 97 ≤ c.toNat ∧ c.toNat ≤ 122 then UInt8.ofNat (c.toNat - 32) else c
theorem great_byte (c : UInt8) (h : namedN c.toNat = true) : smallB (greatB c) = c ∧ plainB (greatB c).toNat = true ∧ greatB c ≠ 58 := by
  have hb := namedN_bd _ h
  unfold greatB
  split
  · rename_i hl
    have e : (UInt8.ofNat (c.toNat - 32)).toNat = c.toNat - 32 := by rw [UInt8.toNat_ofNat']; omega
    refine ⟨?_, by rw [e]; exact plainB_of _ (by omega) (by omega), fun he => ?_⟩
    · unfold smallB; rw [e]; apply UInt8.toNat_inj.1; rw [UInt8.toNat_ofNat']; unfold smallN; rw [if_pos (by omega)]; omega
    · have := congrArg UInt8.toNat he
      rw [e] at this
      have : (58 : UInt8).toNat = 58 := rfl
      omega
  · refine ⟨?_, plainB_of _ (by omega) (by omega), fun he => ?_⟩
    · unfold smallB; apply UInt8.toNat_inj.1; rw [UInt8.toNat_ofNat']; unfold smallN; rw [if_neg (by omega)]; omega
    · have := congrArg UInt8.toNat he
      have : (58 : UInt8).toNat = 58 := rfl
      omega
theorem great_all (n : List UInt8) (h : ∀ c ∈ n, namedN c.toNat = true) : (n.map greatB).map smallB = n ∧ plainAll (n.map greatB) = true ∧ ∀ c ∈ n.map greatB, c ≠ 58 := by
  refine ⟨?_, ?_, ?_⟩
  · rw [List.map_map]; conv => rhs; rw [← List.map_id n]
    exact List.map_congr_left (fun c hc => (great_byte c (h c hc)).1)
  · unfold plainAll; rw [List.all_map, List.all_eq_true]; intro c hc; exact (great_byte c (h c hc)).2.1
  · intro c hc
    obtain ⟨d, hd, rfl⟩ := List.mem_map.1 hc
    exact (great_byte d (h d hd)).2.2
theorem trimS_pre (g : UInt8) (hg : gapB g = true) (k : Nat) (t : List UInt8) : Go.Lib.trimS (List.replicate k g ++ t) gapL = Go.Lib.trimS t gapL := by
  induction k with
  | zero => rfl
  | succ k ih => rw [List.replicate_succ, List.cons_append, trimS_cons g _ hg, ih]
theorem trimS_post (g : UInt8) (hg : gapB g = true) (k : Nat) (t : List UInt8) : Go.Lib.trimS (t ++ List.replicate k g) gapL = Go.Lib.trimS t gapL := by
  induction k with
  | zero => rw [List.replicate_zero, List.append_nil]
  | succ k ih => rw [List.replicate_succ', ← List.append_assoc, trimS_snoc _ g hg, ih]
theorem gaps_plain (g : UInt8) (hg : gapB g = true) (k : Nat) : plainAll (List.replicate k g) = true := by
  unfold plainAll
  rw [List.all_eq_true]
  intro c hc
  rw [(List.mem_replicate.1 hc).2]
  unfold gapB at hg
  simp only [Bool.or_eq_true, beq_iff_eq] at hg
  rcases hg with rfl | rfl <;> rfl
def greatLine (n v : List UInt8) (a b c : Nat) : List UInt8 := n.map greatB ++ 58 :: (List.replicate a 32 ++ (List.replicate b 9 ++ (v ++ List.replicate c 32)))
theorem great_parse (n v : List UInt8) (h : printOk n v = true) (a b c : Nat) : parseN (greatLine n v a b c) = n ∧ parseV (greatLine n v a b c) = v ∧ parseE (greatLine n v a b c) = 0 := by
  obtain ⟨h1, h2, h3⟩ := printOk_and n v h
  obtain ⟨ha, hne, hlen⟩ := nameL_all n h1
  obtain ⟨q1, q2, q3⟩ := great_all n ha
  refine parse_of _ n v _ q3 q2 ?_ h1 q1 ?_
  · have g1 := gaps_plain 32 (by decide) a
    have g2 := gaps_plain 9 (by decide) b
    have g3 := gaps_plain 32 (by decide) c
    unfold plainAll at h2 g1 g2 g3 ⊢
    rw [List.all_append, List.all_append, List.all_append, g1, g2, h2, g3]; rfl
  · rw [trimS_pre 32 (by decide), trimS_pre 9 (by decide), trimS_post 32 (by decide)]
    exact (trimS_iff v).2 h3

/-- what was parsed is a field that may be printed, unless that is too long -/
theorem trimS_idem (l : List UInt8) : noGap (Go.Lib.trimS l gapL) = true := by
  suffices h : ∀ k (l : List UInt8), l.length ≤ k → noGap (Go.Lib.trimS l gapL) = true from h _ l (Nat.le_refl _)
  intro k
  induction k with
  | zero => intro l hl; rw [List.length_eq_zero_iff.1 (Nat.le_zero.1 hl)]; rfl
  | succ k ih =>
    intro l hl
    by_cases h1 : headGap l = true
    · cases l with
      | nil => rfl
      | cons c t => rw [trimS_cons c t h1]; exact ih t (by simp at hl; omega)
    · by_cases h2 : headGap l.reverse = true
      · cases hr : l.reverse with
        | nil => rw [hr] at h2; exact absurd h2 (by decide)
        | cons c t =>
          have e : l = t.reverse ++ [c] := by rw [← List.reverse_reverse l, hr, List.reverse_cons]
          rw [hr] at h2
          rw [e, trimS_snoc _ c h2]
          exact ih _ (by rw [e] at hl; simp at hl; rw [List.length_reverse]; omega)
      · have e := trimS_done l (by simpa using h1) (by simpa using h2)
        rw [e]; unfold noGap; simp at h1 h2; rw [h1, h2]; rfl
theorem trimS_infix (l : List UInt8) : ∃ a b, l = a ++ Go.Lib.trimS l gapL ++ b := by
  unfold Go.Lib.trimS
  obtain ⟨b, hb⟩ : ∃ b, l = Go.Lib.trimRightS l gapL ++ b := by
    unfold Go.Lib.trimRightS
    obtain ⟨t, ht⟩ := List.dropWhile_suffix (l := l.reverse) (gapL.contains ·)
    refine ⟨t.reverse, ?_⟩
    have := congrArg List.reverse ht
    rw [List.reverse_append, List.reverse_reverse] at this
    exact this.symm
  obtain ⟨a, ha⟩ : ∃ a, Go.Lib.trimRightS l gapL = a ++ Go.Lib.trimLeftS (Go.Lib.trimRightS l gapL) gapL := by
    obtain ⟨t, ht⟩ := List.dropWhile_suffix (l := Go.Lib.trimRightS l gapL) (gapL.contains ·)
    exact ⟨t, ht.symm⟩
  exact ⟨a, b, by rw [← ha]; exact hb⟩
theorem parse_zero (l : List UInt8) (h : parseE l = 0) : parseOk l = true ∧ parseN l = parseName l ∧ parseV l = parseVal l := by
  unfold parseE at h
  split at h
  · rename_i hk; exact ⟨hk, if_pos hk, if_pos hk⟩
  · exact absurd h (by decide)
theorem parse_four (l : List UInt8) (h : parseE l ≠ 0) : parseE l = 4 ∧ parseN l = [] ∧ parseV l = [] := by
  unfold parseE parseN parseV at *
  split at h
  · exact absurd rfl h
  · rename_i hk; rw [if_neg hk, if_neg hk, if_neg hk]; exact ⟨rfl, rfl, rfl⟩
theorem parse_infix (l : List UInt8) (h : parseE l = 0) : ∃ a b, l = a ++ parseV l ++ b := by
  obtain ⟨_, _, hv⟩ := parse_zero l h
  rw [hv]
  unfold parseVal
  obtain ⟨a, b, e⟩ := trimS_infix (l.drop ((ahead l).length + 1))
  exact ⟨l.take ((ahead l).length + 1) ++ a, b, by rw [List.append_assoc, List.append_assoc, ← List.append_assoc a, ← e, List.take_append_drop]⟩
theorem parse_print (l : List UInt8) (h : parseE l = 0) : printOk (parseN l) (parseV l) = true := by
  obtain ⟨hk, hn, hv⟩ := parse_zero l h
  obtain ⟨a, b, e⟩ := parse_infix l h
  have hp : plainAll l = true ∧ nameL (parseName l) = true := by
    unfold parseOk at hk; simp only [Bool.and_eq_true] at hk; exact ⟨hk.1.1, hk.2⟩
  unfold printOk
  rw [hn, hp.2]
  have h1 : plainAll (parseV l) = true := by
    have := hp.1
    rw [e] at this
    unfold plainAll at this ⊢
    rw [List.all_append, List.all_append] at this
    simp only [Bool.and_eq_true] at this
    exact this.1.2
  have h2 : noGap (parseV l) = true := by rw [hv]; exact trimS_idem _
  rw [h1, h2]; rfl
end Go.Proofs.YtfcomhdgpdbnhaaGreatDoor
namespace Go.Proofs.YtfcomhdgpdbnhaaGreatDoor
open Go.RowKit

/-- a request's lines -/
def line1 (p : List UInt8) : List UInt8 := [71, 69, 84, 32] ++ p ++ [32, 72, 84, 84, 80, 47, 49, 46, 49]
def line2 (h : List UInt8) : List UInt8 := [72, 111, 115, 116, 58, 32] ++ h
def line3 (a b : Int) : List UInt8 := [82, 97, 110, 103, 101, 58, 32] ++ askL a b
def reqL (p h : List UInt8) (a b : Int) : List UInt8 := body [line1 p, line2 h, line3 a b] ++ [13, 10]
def lines4 (p h : List UInt8) (a b : Int) : List (List UInt8) := [line1 p, line2 h, line3 a b, []]
def aPrint (p h : List UInt8) (a b : Int) : List UInt8 := if aErr p h a b = 0 then reqL p h a b else []
theorem aErr_zero (p h : List UInt8) (a b : Int) (he : aErr p h a b = 0) : pathB p = true ∧ hostB h = true ∧ rErr a b = 0 := by
  unfold aErr at he
  split at he
  · exact absurd he (by decide)
  · rename_i hn
    refine ⟨?_, ?_, he⟩
    · cases e : pathB p with
      | false => exact absurd (.inl e) hn
      | true => rfl
    · cases e : hostB h with
      | false => exact absurd (.inr e) hn
      | true => rfl
theorem pathB_and (p : List UInt8) (h : pathB p = true) : p.length ≤ 64 ∧ (∀ c ∈ p, pathN c.toNat = true) ∧ p ≠ [] := by
  unfold pathB at h
  simp only [Bool.and_eq_true, decide_eq_true_eq, List.all_eq_true] at h
  refine ⟨h.1.2, h.2, ?_⟩
  intro e; rw [e] at h; exact absurd h.1.1 (by decide)
theorem hostB_and (p : List UInt8) (h : hostB p = true) : p.length ≤ 32 ∧ (∀ c ∈ p, hostN c.toNat = true) ∧ p ≠ [] := by
  unfold hostB at h
  simp only [Bool.and_eq_true, decide_eq_true_eq, List.all_eq_true, Bool.not_eq_true', List.isEmpty_eq_false_iff] at h
  exact ⟨h.1.2, h.2, h.1.1⟩
theorem pathN_plain (x : Nat) (h : pathN x = true) : plainB x = true ∧ x ≠ 32 := by
  unfold pathN at h
  simp only [Bool.and_eq_true, decide_eq_true_eq] at h
  exact ⟨plainB_of x (by omega) (by omega), by omega⟩
theorem hostN_plain (x : Nat) (h : hostN x = true) : plainB x = true ∧ x ≠ 32 := by
  unfold hostN letN digN at h
  simp only [Bool.or_eq_true, Bool.and_eq_true, decide_eq_true_eq, beq_iff_eq] at h
  exact ⟨plainB_of x (by omega) (by omega), by omega⟩
theorem put_of (l : List UInt8) (h : plainL l) (hl : l.length ≤ 256) : putErr l = 0 := by
  unfold putErr
  rw [if_neg (by rw [List.all_eq_true.2 h]; decide), if_neg (by omega)]
theorem digL_plain (n : Int) : plainL (digL n) := by
  intro c hc
  unfold digL at hc
  split at hc
  · simp at hc
  · have := List.all_eq_true.1 (decDigits_all n.toNat) c hc
    unfold digN at this
    simp only [Bool.and_eq_true, decide_eq_true_eq] at this
    exact plainB_of _ (by omega) (by omega)
theorem line1_put (p : List UInt8) (h : pathB p = true) : putErr (line1 p) = 0 := by
  obtain ⟨h1, h2, -⟩ := pathB_and p h
  refine put_of _ ?_ (by unfold line1; simp; omega)
  intro c hc
  unfold line1 at hc
  rw [List.mem_append, List.mem_append] at hc
  rcases hc with (hc | hc) | hc
  · exact (show ∀ d ∈ ([71, 69, 84, 32] : List UInt8), plainB d.toNat = true by decide) c hc
  · exact (pathN_plain _ (h2 c hc)).1
  · exact (show ∀ d ∈ ([32, 72, 84, 84, 80, 47, 49, 46, 49] : List UInt8), plainB d.toNat = true by decide) c hc
theorem line2_put (p : List UInt8) (h : hostB p = true) : putErr (line2 p) = 0 := by
  obtain ⟨h1, h2, -⟩ := hostB_and p h
  refine put_of _ ?_ (by unfold line2; simp; omega)
  intro c hc
  unfold line2 at hc
  rw [List.mem_append] at hc
  rcases hc with hc | hc
  · exact (show ∀ d ∈ ([72, 111, 115, 116, 58, 32] : List UInt8), plainB d.toNat = true by decide) c hc
  · exact (hostN_plain _ (h2 c hc)).1
theorem askL_len (a b : Int) (ha : a ≤ 9223372036854775807) (hb : b ≤ 9223372036854775807) : (askL a b).length ≤ 47 := by
  unfold askL
  split
  · rw [List.length_append]; have := textR_len a b ha hb; have e : asksL.length = 6 := rfl; omega
  · exact Nat.zero_le _
theorem askL_plain (a b : Int) : plainL (askL a b) := by
  unfold askL
  split
  · intro c hc
    unfold textR at hc
    rw [List.mem_append, List.mem_append, List.mem_cons] at hc
    rcases hc with hc | hc | hc | hc
    · exact (show ∀ d ∈ asksL, plainB d.toNat = true by decide) c hc
    · exact digL_plain a c hc
    · subst hc; decide
    · exact digL_plain b c hc
  · intro c hc; simp at hc
theorem line3_put (a b : Int) (ha : a ≤ 9223372036854775807) (hb : b ≤ 9223372036854775807) : putErr (line3 a b) = 0 := by
  refine put_of _ ?_ (by unfold line3; have := askL_len a b ha hb; simp; omega)
  intro c hc
  unfold line3 at hc
  rw [List.mem_append] at hc
  rcases hc with hc | hc
  · exact (show ∀ d ∈ ([82, 97, 110, 103, 101, 58, 32] : List UInt8), plainB d.toNat = true by decide) c hc
  · exact askL_plain a b c hc
/-- what laying a line that may be laid returns -/
theorem put_good (s : ByteArray) (w : World) (hs : s.size ≤ 256) (h : putErr s.data.toList = 0) :
    Calls Tryz.prog 30 #[.string s] w fun e w' => e = .returned (.tuple #[.string (s ++ ⟨#[13, 10]⟩), .int .i64 0]) ∧ w' = w := by
  have := lines_put s w (by omega)
  unfold putLine at this
  rw [if_pos h, h] at this
  exact this
theorem c_join3 (B : Nat) (x y z : ByteArray) (W : World) (hx : x.size ≤ 1000000) (hy : y.size ≤ 1000000) (hz : z.size ≤ 1000000) (h0 : W.cell? ⟨B, 0, none⟩ = some (.string x)) (h1 : W.cell? ⟨B, 1, none⟩ = some (.string y)) (h2 : W.cell? ⟨B, 2, none⟩ = some (.string z)) (hB : B < W.heap.size) :
    Calls Tryz.prog 29 #[.slice (some ⟨B, 0, none⟩) 3 3, .string ⟨#[32]⟩] W fun e w' => e = .returned (.string (bs (x.data.toList ++ 32 :: (y.data.toList ++ 32 :: z.data.toList)))) ∧ Below W.heap.size W w' := by
  have hj : Lib.join ([x, y, z].map (·.data.toList)) (ByteArray.mk #[32]).data.toList = x.data.toList ++ 32 :: (y.data.toList ++ 32 :: z.data.toList) := by
    simp [Lib.join]
  have := Tryz.strings_Join B 0 3 [x, y, z] ⟨#[32]⟩ W (fun j u hj => by
    match j, hj with
    | 0, hj => simp at hj; subst hj; exact h0
    | 1, hj => simp at hj; subst hj; exact h1
    | 2, hj => simp at hj; subst hj; exact h2) hB (by simp) (by simp) (by
      rw [hj]; simp only [List.length_append, List.length_cons, size_len]; omega)
  rw [hj] at this
  exact this
theorem c_join3n (x y z : ByteArray) (W : World) (hx : x.size ≤ 1000000) (hy : y.size ≤ 1000000) (hz : z.size ≤ 1000000) :
    Calls Tryz.prog 29 #[.slice (some ⟨W.heap.size, 0, none⟩) 3 3, .string ⟨#[32]⟩] (W.alloc (.cells #[.string x, .string y, .string z] 9)).drew fun e w' => e = .returned (.string (bs (x.data.toList ++ 32 :: (y.data.toList ++ 32 :: z.data.toList)))) ∧ Below (W.alloc (.cells #[.string x, .string y, .string z] 9)).drew.heap.size (W.alloc (.cells #[.string x, .string y, .string z] 9)).drew w' := by
  have hh : (W.alloc (.cells #[.string x, .string y, .string z] 9)).drew.heap[W.heap.size]? = some (.cells #[.string x, .string y, .string z] 9 (0, 0)) := heap_alloc_new W _
  refine c_join3 W.heap.size x y z _ hx hy hz ?_ ?_ ?_ (by simp) <;> (unfold World.cell?; rw [hh]; rfl)
set_option maxRecDepth 100000 in
set_option maxHeartbeats 4000000 in
theorem asking_print (p h : ByteArray) (a b : Int) (w : World) (hE : EnvF w) (ha0 : -9223372036854775808 ≤ a) (ha : a ≤ 9223372036854775807) (hb0 : -9223372036854775808 ≤ b) (hb : b ≤ 9223372036854775807) :
    Calls Tryz.prog 15 #[.agg #[.string p, .string h, .int .i64 a, .int .i64 b]] w fun e w' => e = .returned (.tuple #[.string (bs (aPrint p.data.toList h.data.toList a b)), .int .i64 (aErr p.data.toList h.data.toList a b : Nat)]) ∧ Below w.heap.size w w' := by
  have HC := Lib.hid (fun w => asking_check p h a b w)
  have HA := Lib.hid (fun w hE => ranges_ask a b w hE ha0 ha hb0 hb)
  have HE := Lib.hid (hE.below (below_agg4 w (.string p) (.string h) (.int .i64 a) (.int .i64 b) 46))
  clear hE
  by_cases he : aErr p.data.toList h.data.toList a b = 0
  · obtain ⟨z1, z2, hr⟩ := aErr_zero _ _ _ _ he
    have hp : p.size ≤ 64 := by have := (pathB_and _ z1).1; rwa [size_len] at this
    have hh : h.size ≤ 32 := by have := (hostB_and _ z2).1; rwa [size_len] at this
    have o1 := line1_put _ z1
    have o2 := line2_put _ z2
    have o3 := line3_put a b ha hb
    have HRQ : Hid (aPrint p.data.toList h.data.toList a b = reqL p.data.toList h.data.toList a b) := Lib.hid (if_pos he)
    rw [he] at HC ⊢
    rw [hr] at HA
    obtain ⟨Q, hQ⟩ : ∃ Q, bs (askL a b) = Q := ⟨_, rfl⟩
    rw [hQ] at HA
    have hQs : Q.size ≤ 47 := by rw [← hQ, bs_size]; exact askL_len a b ha hb
    have p1 := fun w => run_string_add_sum (P := Tryz.prog) w ⟨#[72, 111, 115, 116, 58, 32]⟩ h (by show 6 + _ ≤ _; omega)
    have p2 := fun w => run_string_add_sum (P := Tryz.prog) w ⟨#[82, 97, 110, 103, 101, 58, 32]⟩ Q (by show 7 + _ ≤ _; omega)
    obtain ⟨L1, hL1⟩ : ∃ L1, bs (line1 p.data.toList) = L1 := ⟨_, rfl⟩
    have e2 : (⟨#[72, 111, 115, 116, 58, 32]⟩ : ByteArray) ++ h = bs (line2 h.data.toList) := by
      rw [show (⟨#[72, 111, 115, 116, 58, 32]⟩ : ByteArray) = bs [72, 111, 115, 116, 58, 32] from rfl]
      conv => lhs; rw [← bs_self h]
      rw [bs_cat]; rfl
    have e3 : (⟨#[82, 97, 110, 103, 101, 58, 32]⟩ : ByteArray) ++ Q = bs (line3 a b) := by
      rw [show (⟨#[82, 97, 110, 103, 101, 58, 32]⟩ : ByteArray) = bs [82, 97, 110, 103, 101, 58, 32] from rfl, ← hQ, bs_cat]; rfl
    have s1 : L1.size ≤ 77 := by rw [← hL1, bs_size]; unfold line1; have := size_len p; simp only [List.length_append, List.length_cons, List.length_nil]; omega
    have HX : Hid (∀ (W : World) (B : Nat), (W.cell? ⟨B, 0, none⟩ = some (.string L1) ∧ W.cell? ⟨B, 1, none⟩ = some (.string (⟨#[72, 111, 115, 116, 58, 32]⟩ ++ h)) ∧ W.cell? ⟨B, 2, none⟩ = some (.string (⟨#[82, 97, 110, 103, 101, 58, 32]⟩ ++ Q)) ∧ W.cell? ⟨B, 3, none⟩ = some (.string ⟨#[]⟩)) → ∀ k, k < 4 → ∀ O, O = bs (body ((lines4 p.data.toList h.data.toList a b).take k)) →
        ∃ X, W.cell? ⟨B, k, none⟩ = some (.string X) ∧ X.size ≤ 100 ∧ (∀ w, Calls Tryz.prog 30 #[.string X] w fun e w' => e = .returned (.tuple #[.string (X ++ ⟨#[13, 10]⟩), .int .i64 0]) ∧ w' = w) ∧ O ++ (X ++ ⟨#[13, 10]⟩) = bs (body ((lines4 p.data.toList h.data.toList a b).take (k + 1)))) := Lib.hid (by
      intro W B hc k hk O hO
      obtain ⟨c0, c1, c2, c3⟩ := hc
      have hb : ∀ (O : ByteArray) (X : ByteArray) (A : List (List UInt8)) (x : List UInt8), O = bs (body A) → X = bs x → O ++ (X ++ ⟨#[13, 10]⟩) = bs (body (A ++ [x])) := by
        intro O X A x h1 h2
        rw [h1, h2, show (⟨#[13, 10]⟩ : ByteArray) = bs [13, 10] from rfl, bs_cat, bs_cat, body_append]
        rfl
      match k, hk with
      | 0, _ => exact ⟨L1, c0, by omega, fun w => put_good L1 w (by omega) (by rw [← hL1, bs_data]; exact o1), hb _ _ [] _ hO hL1.symm⟩
      | 1, _ => exact ⟨_, c1, by rw [ByteArray.size_append]; show 6 + _ ≤ _; omega, fun w => put_good _ w (by rw [ByteArray.size_append]; show 6 + _ ≤ _; omega) (by rw [e2, bs_data]; exact o2), hb _ _ [line1 p.data.toList] _ hO e2⟩
      | 2, _ => exact ⟨_, c2, by rw [ByteArray.size_append]; show 7 + _ ≤ _; omega, fun w => put_good _ w (by rw [ByteArray.size_append]; show 7 + _ ≤ _; omega) (by rw [e3, bs_data]; exact o3), hb _ _ [line1 p.data.toList, line2 h.data.toList] _ hO e3⟩
      | 3, _ => exact ⟨_, c3, by decide, fun w => put_good _ w (by decide) (by decide), hb _ _ [line1 p.data.toList, line2 h.data.toList, line3 a b] [] hO rfl⟩)
    clear e2 e3 o1 o2 o3 z1 z2
    have hl1 : (⟨#[71, 69, 84]⟩ : ByteArray).data.toList ++ 32 :: (p.data.toList ++ 32 :: (⟨#[72, 84, 84, 80, 47, 49, 46, 49]⟩ : ByteArray).data.toList) = line1 p.data.toList := by unfold line1; simp
    have hJ := fun W => c_join3n ⟨#[71, 69, 84]⟩ p ⟨#[72, 84, 84, 80, 47, 49, 46, 49]⟩ W (by decide) (by omega) (by decide)
    rw [hl1, hL1] at hJ
    have HJ := Lib.hid hJ
    clear hl1 hJ
    go_enter Tryz.func15, Tryz.ntmps15
    go_wp2_with fail
    refine (HC.out _).mono ?_
    rintro e w1 ⟨rfl, hb1⟩
    obtain ⟨c0, c1, c2, c3⟩ := box_four hb1
    have HB1 := Lib.hid hb1
    have HE1 := Lib.hid (HE.out.below hb1)
    clear hb1
    go_wp2_with fail
    refine (HA.out _ HE1.out).mono ?_
    rintro e w2 ⟨rfl, hb2⟩
    have HB2 := Lib.hid (bstep HB1.out hb2)
    have HE2 := Lib.hid (HE1.out.below hb2)
    obtain ⟨c0, c1, c2, c3⟩ := box_four HB2.out
    have hlt : w.heap.size < w2.heap.size := by have := HB2.out.size; simp at this; omega
    clear hb2
    go_wp2_with fail
    go_region_with (first
      | (go_at_call 29; go_loud (refine (HJ.out _).mono ?_; rintro e wx ⟨rfl, hbx⟩; obtain ⟨hcx, hfx⟩ := kcell hbx; have hsx := hbx.size)))
    all_goals
      have hbx' : Below w2.heap.size w2 wx := bstep (((Below.refl _ _).alloc (Nat.le_refl _) _).drew) hbx
      have HB3 := Lib.hid (bstep HB2.out (bstep hbx' ((Below.refl _ _).alloc (Nat.le_refl _) (.cells #[.string L1, .string (⟨#[72, 111, 115, 116, 58, 32]⟩ ++ h), .string (⟨#[82, 97, 110, 103, 101, 58, 32]⟩ ++ Q), .string ⟨#[]⟩] 9))))
      have HK := Lib.hid (box4 wx (.string L1) (.string (⟨#[72, 111, 115, 116, 58, 32]⟩ ++ h)) (.string (⟨#[82, 97, 110, 103, 101, 58, 32]⟩ ++ Q)) (.string ⟨#[]⟩) 9)
      clear hbx hbx' hcx hfx hsx c0 c1 c2 c3 hlt p1 p2
      generalize hN : wx.alloc (.cells #[.string L1, .string (⟨#[72, 111, 115, 116, 58, 32]⟩ ++ h), .string (⟨#[82, 97, 110, 103, 101, 58, 32]⟩ ++ Q), .string ⟨#[]⟩] 9) = wn at HB3 HK ⊢
      clear hN
      go_wp2_with fail
      go_simp
      go_loopg [7, 34] 4 (fun gk s7 s34 wy => ∃ (k : Nat) (O : ByteArray), s7 = .string O ∧ s34 = .int .i64 (k : Int) ∧ wy = wn ∧ k + gk = 4 ∧ O.size ≤ k * 200 ∧ Hid (O = bs (body ((lines4 p.data.toList h.data.toList a b).take k))))
      case atStart => exact ⟨0, ⟨#[]⟩, rfl, by simp, rfl, by omega, by decide, Lib.hid rfl⟩
      case round =>
        obtain ⟨k, O, rfl, rfl, rfl, hgk, hOs, HO⟩ := hrel
        by_cases hk : k < 4
        · obtain ⟨g', rfl⟩ : ∃ g', gk = g' + 1 := ⟨gk - 1, by omega⟩
          have tk : decide ((k : Int) < 4) = true := decide_eq_true (by omega)
          obtain ⟨X, hc, hXs, HP, HO2⟩ := HX.out wr wx.heap.size HK.out k hk O HO.out
          have padd := fun w => run_string_add_sum (P := Tryz.prog) w O (X ++ ⟨#[13, 10]⟩) (by rw [ByteArray.size_append]; show _ + (_ + 2) ≤ _; omega)
          have HPP := Lib.hid HP
          have HOO := Lib.hid HO2
          clear HP HO2
          go_wp2_with fail
          refine (HPP.out _).mono ?_
          rintro e w' ⟨rfl, rfl⟩
          go_wp2_with fail
          go_roundg g'
          case measure => omega
          case rel => exact ⟨k + 1, _, rfl, by simp, rfl, by omega, by rw [ByteArray.size_append, ByteArray.size_append]; show _ + (_ + 2) ≤ _; omega, Lib.hid HOO.out⟩
        · obtain rfl : k = 4 := by omega
          have HR : Hid (O = bs (reqL p.data.toList h.data.toList a b)) := Lib.hid (by rw [HO.out]; congr 1; unfold reqL lines4; simp [body])
          go_wp2_with fail
          go_ret2
          exact ⟨by rw [HRQ.out, ← HR.out]; rfl, bstep (below_agg4 w _ _ _ _ _) HB3.out⟩
  · have HR : Hid (aPrint p.data.toList h.data.toList a b = []) := Lib.hid (if_neg he)
    obtain ⟨Z, hZ⟩ : ∃ Z, aErr p.data.toList h.data.toList a b = Z := ⟨_, rfl⟩
    rw [hZ] at HC he ⊢
    have tz : ((Z : Int) != 0) = true := by rw [bne_iff_ne]; omega
    clear hZ
    go_enter Tryz.func15, Tryz.ntmps15
    go_wp2_with fail
    refine (HC.out _).mono ?_
    rintro e w1 ⟨rfl, hb1⟩
    go_wp2_with fail
    go_ret2
    exact ⟨by rw [HR.out]; rfl, bstep (below_agg4 w _ _ _ _ _) hb1⟩
end Go.Proofs.YtfcomhdgpdbnhaaGreatDoor
namespace Go.Proofs.YtfcomhdgpdbnhaaGreatDoor
open Go.RowKit

theorem bs_of (s : ByteArray) (l : List UInt8) (h : s.data.toList = l) : s = bs l := by rw [← h, bs_self]
end Go.Proofs.YtfcomhdgpdbnhaaGreatDoor
namespace Go.Proofs.YtfcomhdgpdbnhaaGreatDoor
open Go.RowKit

def MaxLenIs (w : World) (m : Int) : Prop := w.cell? ⟨0, 0, none⟩ = some (.int .i64 m)
theorem MaxLenIs.pos {w : World} {m : Int} (h : MaxLenIs w m) : 0 < w.heap.size := World.block_lt_of_cell? _ _ h
theorem MaxLenIs.below {w w' : World} {m : Int} (h : MaxLenIs w m) (hb : Below w.heap.size w w') : MaxLenIs w' m := (hb.cell (p := ⟨0, 0, none⟩) h.pos).trans h

theorem lines_words (s : ByteArray) (m : Int) (w : World) (hs : s.size < 1073741824) (hm : MaxLenIs w m) :
    Calls Tryz.prog 119 #[.string s] w fun e w' => ∃ v, e = .returned v ∧ w'.ownsRow w.heap.size 9 1 v (words s.data.toList).length (strs (words s.data.toList)) ∧ Below w.heap.size w w' := by
  have Hm := Lib.hid hm
  clear hm
  go_enter Tryz.func119, Tryz.ntmps119
  go_wp2_with (go_at_call 146; refine (Tryz.strings_Split s _ m _ (by omega) Hm.out (by decide)).mono ?_; rintro e w' ⟨rfl, rfl⟩)
  go_ret
  refine ⟨_, rfl, ?_, (Below.refl _ _).alloc (Nat.le_refl _) _⟩
  rw [splitB_words, countB_words]
  exact own_alloc w _ _ rfl (by rw [← countB_words]; have := Go.Lib.count_le s.data.toList [32]; have h2 : Go.Lib.countB s ⟨#[32]⟩ ≤ s.size + 1 := by simpa using this
                                unfold maxLen; omega)

/-! what the functions tell of the texts of awake -/
def t1 : ByteArray := ⟨#[97, 32, 98, 13, 10, 99]⟩
theorem aw1 : takeLine t1 0 = ⟨#[97, 32, 98]⟩ := by decide +kernel
theorem aw2 : takeNext t1 0 = 5 := by decide +kernel
theorem aw3 : takeErr t1 0 = 0 := by decide +kernel
theorem aw4 : takeNext t1 5 = 5 := by decide +kernel
theorem aw5 : takeErr t1 5 = 3 := by decide +kernel
theorem aw6 : takeErr ⟨#[97, 10]⟩ 0 = 4 := by decide +kernel
theorem aw7 : putLine ⟨#[120]⟩ = ⟨#[120, 13, 10]⟩ := by decide +kernel
theorem aw8 : putErr [120] = 0 := by decide +kernel
theorem aw9 : headOf ⟨#[97, 13, 10, 98, 13, 10, 13, 10, 99]⟩ = ([[97], [98]], 8, 0) := by decide +kernel
theorem aw10 : words [32, 97] = [[], [97]] := by decide +kernel
end Go.Proofs.YtfcomhdgpdbnhaaGreatDoor
namespace Go.Proofs.YtfcomhdgpdbnhaaGreatDoor
open Go.RowKit

/-- the block of a request that is being taken -/
def RdB (w : World) (R : Nat) (l f p h a b : Value) : Prop := w.heap[R]? = some (.cells #[l, f, p, h, a, b] 142 (0, 0))
theorem RdB.below {w w' : World} {R : Nat} {l f p h a b : Value} (k : RdB w R l f p h a b) (hb : Below w.heap.size w w') : RdB w' R l f p h a b :=
  (hb.block R (Array.getElem?_eq_some_iff.1 k).1).trans k
theorem RdB.lt {w : World} {R : Nat} {l f p h a b : Value} (k : RdB w R l f p h a b) : R < w.heap.size := (Array.getElem?_eq_some_iff.1 k).1
theorem RdB.cells {w : World} {R : Nat} {l f p h a b : Value} (k : RdB w R l f p h a b) :
    w.cell? ⟨R, 0, none⟩ = some l ∧ w.cell? ⟨R, 1, none⟩ = some f ∧ w.cell? ⟨R, 2, none⟩ = some p ∧ w.cell? ⟨R, 3, none⟩ = some h ∧ w.cell? ⟨R, 4, none⟩ = some a ∧ w.cell? ⟨R, 5, none⟩ = some b := by
  unfold RdB at k
  refine ⟨?_, ?_, ?_, ?_, ?_, ?_⟩ <;> (unfold World.cell?; rw [k]; rfl)
theorem RdB.free {w : World} {R : Nat} {l f p h a b : Value} (k : RdB w R l f p h a b) :
    w.frozen? ⟨R, 0, none⟩ = false ∧ w.frozen? ⟨R, 1, none⟩ = false ∧ w.frozen? ⟨R, 2, none⟩ = false ∧ w.frozen? ⟨R, 3, none⟩ = false ∧ w.frozen? ⟨R, 4, none⟩ = false ∧ w.frozen? ⟨R, 5, none⟩ = false := by
  unfold RdB at k
  refine ⟨?_, ?_, ?_, ?_, ?_, ?_⟩ <;> (unfold World.frozen?; rw [k]; rfl)
theorem RdB.set1 {w : World} {R : Nat} {l f p h a b : Value} (k : RdB w R l f p h a b) (v : Value) : RdB (w.setCell ⟨R, 1, none⟩ v) R l v p h a b := by
  unfold RdB at k ⊢; simp [World.setCell, Array.getElem?_modify, k]
theorem RdB.set2 {w : World} {R : Nat} {l f p h a b : Value} (k : RdB w R l f p h a b) (v : Value) : RdB (w.setCell ⟨R, 2, none⟩ v) R l f v h a b := by
  unfold RdB at k ⊢; simp [World.setCell, Array.getElem?_modify, k]
theorem RdB.set3 {w : World} {R : Nat} {l f p h a b : Value} (k : RdB w R l f p h a b) (v : Value) : RdB (w.setCell ⟨R, 3, none⟩ v) R l f p v a b := by
  unfold RdB at k ⊢; simp [World.setCell, Array.getElem?_modify, k]
theorem RdB.set45 {w : World} {R : Nat} {l f p h a b : Value} (k : RdB w R l f p h a b) (u v : Value) : RdB ((w.setCell ⟨R, 4, none⟩ u).setCell ⟨R, 5, none⟩ v) R l f p h u v := by
  unfold RdB at k ⊢; simp [World.setCell, Array.getElem?_modify, k]
theorem set_size (w : World) (a : Addr) (v : Value) : (w.setCell a v).heap.size = w.heap.size := by simp
theorem GR.refl (R : Nat) (w : World) : w.grownBy w (some R) := ⟨rfl, rfl, rfl, Nat.le_refl _, fun _ _ _ => rfl⟩
theorem _root_.Go.World.grownBy.below {w w1 w2 : World} {r : Option Nat} (h : w.grownBy w1 r) (hb : Below w1.heap.size w1 w2) : w.grownBy w2 r :=
  ⟨hb.os.trans h.os, hb.tape.trans h.tape, hb.output.trans h.output, Nat.le_trans h.size hb.size, fun k hk hne => (hb.block k (Nat.lt_of_lt_of_le hk h.size)).trans (h.block k hk hne)⟩
theorem _root_.Go.World.grownBy.set {w w1 : World} {R : Nat} (h : w.grownBy w1 (some R)) (j : Nat) (v : Value) : w.grownBy (w1.setCell ⟨R, j, none⟩ v) (some R) := by
  have hk : Below R w1 (w1.setCell ⟨R, j, none⟩ v) := (Below.refl R w1).setCell (p := ⟨R, j, none⟩) (Nat.le_refl _) v
  refine ⟨hk.os.trans h.os, hk.tape.trans h.tape, hk.output.trans h.output, by rw [set_size]; exact h.size, fun k hk hne => ?_⟩
  refine Eq.trans ?_ (h.block k hk hne)
  have hkR : R ≠ k := fun e => hne (by rw [e])
  simp [World.setCell, Array.getElem?_modify, hkR]
theorem _root_.Go.World.grownBy.toBelow {w w' : World} {R : Nat} (h : w.grownBy w' (some R)) (hR : R ≤ w.heap.size) : Below R w w' :=
  (Below.refl R w).grown h hR (fun k hk => by have := Option.some.inj hk; omega)
/-- what is wrong with the first line's words -/
def firstW (ws : List (List UInt8)) : Nat := if ws.length ≠ 3 then 4 else if ws.getD 0 [] ≠ [71, 69, 84] then 14 else if ws.getD 2 [] ≠ [72, 84, 84, 80, 47, 49, 46, 49] then 13 else if pathB (ws.getD 1 []) = false then 2 else 0
def firstL (ls : List (List UInt8)) : Nat := if ls = [] then 4 else firstW (words (ls.getD 0 []))
def wordL (ls : List (List UInt8)) : List UInt8 := (words (ls.getD 0 [])).getD 1 []
theorem bs_lit (x l : List UInt8) : ((bs x).toList == l) = decide (x = l) := by
  rw [ByteArray.toList_eq, bs_data]
  by_cases h : x = l
  · subst h; simp
  · simp [h]
theorem words_len (l : List UInt8) : ∀ x ∈ words l, x.length ≤ l.length := by
  induction l with
  | nil => intro x hx; simp [words] at hx; subst hx; exact Nat.le_refl _
  | cons c t ih =>
    intro x hx
    unfold words at hx
    split at hx
    · rcases List.mem_cons.1 hx with rfl | hx
      · exact Nat.zero_le _
      · have := ih x hx; simp; omega
    · cases hw : words t with
      | nil => rw [hw] at hx; simp at hx; subst hx; simp
      | cons y ys =>
        rw [hw] at hx ih
        rcases List.mem_cons.1 hx with rfl | hx
        · have := ih y (List.mem_cons_self ..); simp; omega
        · have := ih x (List.mem_cons_of_mem _ hx); simp; omega
def FirstPost (R : Nat) (w : World) (lv fv p h a b : Value) (ls : List (List UInt8)) (e : Ending) (w' : World) : Prop := e = .returned (.int .i64 (firstL ls : Nat)) ∧ RdB w' R lv fv (if firstL ls = 0 then .string (bs (wordL ls)) else p) h a b ∧ w.grownBy w' (some R)
set_option maxRecDepth 100000 in
set_option maxHeartbeats 4000000 in
theorem ask_first (R : Nat) (w : World) (lv fv p h a b : Value) (ls : List (List UInt8)) (hR : RdB w R lv fv p h a b) (hl : HoldsS w lv ls) (hx : ∀ x ∈ ls, x.length ≤ 1000000) (hE : EnvF w) :
    Calls Tryz.prog 80 #[.pointer (some ⟨R, 0, none⟩)] w (FirstPost R w lv fv p h a b ls) := by
  obtain ⟨k0, -, -, -, -, -⟩ := hR.cells
  obtain ⟨-, -, f2, -, -, -⟩ := hR.free
  have hRl := hR.lt
  by_cases hn : ls = []
  · subst hn
    obtain ⟨av, c, rfl, hc, hh⟩ := hl
    have HR := Lib.hid hR
    clear hR hh hx hE
    go_enter Tryz.func80, Tryz.ntmps80
    go_wp2_with fail
    go_ret
    exact ⟨rfl, HR.out, GR.refl _ _⟩
  · obtain ⟨av, c, rfl, hc, hh⟩ := hl
    obtain ⟨B, o, rfl, hBl, hcell⟩ := hh hn
    have hpos : 0 < ls.length := List.length_pos_iff.2 hn
    have c0 := hcell 0 hpos
    rw [Nat.add_zero] at c0
    obtain ⟨x0, hx0⟩ : ∃ x0, ls[0] = x0 := ⟨_, rfl⟩
    have hxl : x0.length ≤ 1000000 := hx x0 (hx0 ▸ List.getElem_mem hpos)
    have hg : ls.getD 0 [] = x0 := by rw [List.getD_eq_getElem?_getD, List.getElem?_eq_getElem hpos, hx0]; rfl
    rw [hx0] at c0
    have HF : Hid (firstL ls = firstW (words x0) ∧ wordL ls = (words x0).getD 1 []) := Lib.hid ⟨by unfold firstL; rw [if_neg hn, hg], by unfold wordL; rw [hg]⟩
    obtain ⟨m, hm⟩ := hE.m
    have HW := Lib.hid (lines_words (bs x0) m w (by rw [bs_size]; omega) hm)
    have tl : ((ls.length : Int) == 0) = false := by rw [beq_eq_false_iff_ne]; omega
    have HRR := Lib.hid hR
    have hwl := words_len x0
    obtain ⟨ws, hws⟩ : ∃ ws, words x0 = ws := ⟨_, rfl⟩
    rw [bs_data, hws] at HW
    rw [hws] at HF hwl
    clear hcell hh hx hR hg hx0 hm hE
    go_enter Tryz.func80, Tryz.ntmps80
    go_wp2_with fail
    refine HW.out.mono ?_
    rintro e w1 ⟨v, rfl, hown, hb1⟩
    have HB1 := Lib.hid hb1
    have hS := HoldsS.of_own hown
    obtain ⟨av, cv, hv, hcv, hhv⟩ := hS
    subst hv
    have HR1 := Lib.hid (HRR.out.below hb1)
    obtain ⟨-, -, g2, -, -, -⟩ := HR1.out.free
    clear hown c0 k0 f2 hb1
    by_cases h3 : ws.length = 3
    · obtain ⟨B', o', rfl, hBl', hcell'⟩ := hhv (by intro e; rw [e] at h3; simp at h3)
      have d0 := hcell' 0 (by omega)
      have d1 := hcell' 1 (by omega)
      have d2 := hcell' 2 (by omega)
      rw [Nat.add_zero] at d0
      obtain ⟨y0, y1, y2, rfl⟩ : ∃ y0 y1 y2, ws = [y0, y1, y2] := by
        match ws, h3 with
        | [y0, y1, y2], _ => exact ⟨y0, y1, y2, rfl⟩
      change w1.cell? ⟨B', o', none⟩ = some (.string (bs y0)) at d0
      change w1.cell? ⟨B', o' + 1, none⟩ = some (.string (bs y1)) at d1
      change w1.cell? ⟨B', o' + 2, none⟩ = some (.string (bs y2)) at d2
      have HP := Lib.hid (fun w => asking_path (bs y1) w)
      rw [bs_data] at HP
      have e0 := bs_lit y0 [71, 69, 84]
      have e2 := bs_lit y2 [72, 84, 84, 80, 47, 49, 46, 49]
      clear hcell' hhv h3 hwl
      by_cases q0 : y0 = [71, 69, 84]
      · rw [decide_eq_true q0] at e0
        by_cases q2 : y2 = [72, 84, 84, 80, 47, 49, 46, 49]
        · rw [decide_eq_true q2] at e2
          cases hp : pathB y1 with
          | false =>
            rw [hp] at HP
            have HFF : Hid (firstL ls = 2) := Lib.hid (by rw [HF.out.1]; unfold firstW; simp [q0, q2, hp])
            clear hp q0 q2
            go_wp2_with fail
            refine (HP.out _).mono ?_
            rintro e w2 ⟨rfl, hb2⟩
            go_wp2_with fail
            go_ret
            exact ⟨by rw [HFF.out]; rfl, by rw [HFF.out]; exact HR1.out.below hb2, ((GR.refl R w).below HB1.out).below hb2⟩
          | true =>
            rw [hp] at HP
            have HFF : Hid (firstL ls = 0 ∧ wordL ls = y1) := Lib.hid ⟨by rw [HF.out.1]; unfold firstW; simp [q0, q2, hp], HF.out.2⟩
            clear hp q0 q2
            go_wp2_with fail
            refine (HP.out _).mono ?_
            rintro e w2 ⟨rfl, hb2⟩
            obtain ⟨-, -, g2', -, -, -⟩ := (HR1.out.below hb2).free
            obtain ⟨-, -, k2', -, -, -⟩ := (HR1.out.below hb2).cells
            have d1' := (hb2.cell (p := ⟨B', o' + 1, none⟩) hBl').trans d1
            have HB2 := Lib.hid hb2
            clear hb2 d0 d2 d1 g2
            go_wp2_with fail
            go_ret
            refine ⟨by rw [HFF.out.1]; rfl, ?_, ?_⟩
            · rw [HFF.out.1, HFF.out.2]; exact (HR1.out.below HB2.out).set2 _
            · exact (((GR.refl R w).below HB1.out).below HB2.out).set 2 _
        · rw [decide_eq_false q2] at e2
          have HFF : Hid (firstL ls = 13) := Lib.hid (by rw [HF.out.1]; unfold firstW; simp [q0, q2])
          clear q0 q2
          go_wp2_with fail
          go_ret
          exact ⟨by rw [HFF.out]; rfl, by rw [HFF.out]; exact HR1.out, (GR.refl R w).below HB1.out⟩
      · rw [decide_eq_false q0] at e0
        have HFF : Hid (firstL ls = 14) := Lib.hid (by rw [HF.out.1]; unfold firstW; simp [q0])
        clear q0
        go_wp2_with fail
        go_ret
        exact ⟨by rw [HFF.out]; rfl, by rw [HFF.out]; exact HR1.out, (GR.refl R w).below HB1.out⟩
    · have HFF : Hid (firstL ls = 4) := Lib.hid (by rw [HF.out.1]; unfold firstW; rw [if_pos h3])
      have t3 : ((ws.length : Int) != 3) = true := by rw [bne_iff_ne]; omega
      clear hhv h3
      go_wp2_with fail
      go_ret
      exact ⟨by rw [HFF.out]; rfl, by rw [HFF.out]; exact HR1.out, (GR.refl R w).below HB1.out⟩
end Go.Proofs.YtfcomhdgpdbnhaaGreatDoor
namespace Go.Proofs.YtfcomhdgpdbnhaaGreatDoor
open Go.RowKit

/-- the library's variables, as a world held them whose blocks all lie below R -/
def Anchor (R : Nat) (w : World) : Prop := ∃ wa, EnvF wa ∧ wa.heap.size = R ∧ Below R wa w
theorem Anchor.env {R : Nat} {w : World} (h : Anchor R w) : EnvF w := by
  obtain ⟨wa, h1, rfl, h3⟩ := h
  exact h1.below h3
theorem Anchor.step {R : Nat} {w w' : World} (h : Anchor R w) (hb : Below R w w') : Anchor R w' := by
  obtain ⟨wa, h1, h2, h3⟩ := h
  exact ⟨wa, h1, h2, h3.trans hb⟩
/-- the slice v reads as the texts xs, and lies below R -/
def HoldsLt (w : World) (R : Nat) (v : Value) (xs : List (List UInt8)) : Prop :=
  ∃ a c, v = .slice a xs.length c ∧ xs.length ≤ c ∧ (xs ≠ [] → ∃ b o, a = some ⟨b, o, none⟩ ∧ b < R ∧ ∀ j (hj : j < xs.length), w.cell? ⟨b, o + j, none⟩ = some (.string (bs xs[j])))
theorem HoldsLt.holds {w : World} {R : Nat} {v : Value} {xs : List (List UInt8)} (h : HoldsLt w R v xs) (hR : R ≤ w.heap.size) : HoldsS w v xs := by
  obtain ⟨a, c, h1, h2, h3⟩ := h
  exact ⟨a, c, h1, h2, fun hn => let ⟨b, o, e1, e2, e3⟩ := h3 hn; ⟨b, o, e1, Nat.lt_of_lt_of_le e2 hR, e3⟩⟩
theorem HoldsLt.step {w w' : World} {R : Nat} {v : Value} {xs : List (List UInt8)} (h : HoldsLt w R v xs) (hb : Below R w w') : HoldsLt w' R v xs := by
  obtain ⟨a, c, h1, h2, h3⟩ := h
  exact ⟨a, c, h1, h2, fun hn => let ⟨b, o, e1, e2, e3⟩ := h3 hn; ⟨b, o, e1, e2, fun j hj => (hb.cell (p := ⟨b, o + j, none⟩) e2).trans (e3 j hj)⟩⟩
theorem HoldsLt.of {w : World} {v : Value} {xs : List (List UInt8)} (h : HoldsS w v xs) : HoldsLt w w.heap.size v xs := h
/-- the first error of some lines that are to be fields; the fields -/
def fldE : List (List UInt8) → Nat
  | [] => 0
  | l :: t => if parseE l ≠ 0 then parseE l else fldE t
def fldL (ls : List (List UInt8)) : List (List UInt8 × List UInt8) := ls.map fun l => (parseN l, parseV l)
theorem fldE_skip (xs : List (List UInt8)) : ∀ k, (∀ j (hj : j < xs.length), j < k → parseE xs[j] = 0) → fldE xs = fldE (xs.drop k) := by
  induction xs with
  | nil => intro k _; simp
  | cons x t ih =>
    intro k h
    cases k with
    | zero => rfl
    | succ k =>
      have h0 := h 0 (by simp) (by omega)
      show (if parseE x ≠ 0 then parseE x else fldE t) = fldE (t.drop k)
      rw [if_neg (fun hh => hh h0)]
      exact ih k (fun j hj hk => h (j + 1) (by simp; omega) (by omega))
theorem fldE_at (xs : List (List UInt8)) (k : Nat) (hk : k < xs.length) (h : ∀ j (hj : j < xs.length), j < k → parseE xs[j] = 0) (hb : parseE xs[k] ≠ 0) : fldE xs = parseE xs[k] := by
  rw [fldE_skip xs k h, List.drop_eq_getElem_cons hk]
  exact if_pos hb
theorem fldE_all (xs : List (List UInt8)) (h : ∀ j (hj : j < xs.length), parseE xs[j] = 0) : fldE xs = 0 := by
  rw [fldE_skip xs xs.length (fun j hj _ => h j hj), List.drop_length]; rfl
theorem fldL_snoc (xs : List (List UInt8)) (k : Nat) (hk : k < xs.length) : fldL (xs.take (k + 1)) = fldL (xs.take k) ++ [(parseN xs[k], parseV xs[k])] := by
  unfold fldL; rw [List.take_succ_eq_append_getElem hk, List.map_append]; rfl
/-- append of one field at a step of a region that draws -/
theorem step_appF {ops : Array Oper} {o : Oper} {a : Act} {K : Act → World → Prop} {Q : Exit → Act → World → Prop} {E : Prop} (W : World) (hgd : o.guard = none) (s x : Operand)
    (ho : o.op = .call { callee := .builtin .append, args := #[s, x], argTypes := #[35, 35] })
    (base : Nat) (v : Value) (fs : List (List UInt8 × List UInt8)) (hs : a.eval s = v) (hown : W.ownsRow base 78 2 v fs.length (fcells fs))
    (B : Nat) (f : List UInt8 × List UInt8) (hB : W.heap[B]? = some (.cells #[.string (bs f.1), .string (bs f.2)] 78 (0, 0))) (hx : a.eval x = .slice (some ⟨B, 0, none⟩) 1 1) (hn : fs.length < 2147483648) (hbase : base ≤ W.heap.size)
    (h : ∀ g cap w', w'.ownsRow base 78 2 (.slice (some ⟨g, 0, none⟩) (fs.length + 1) cap) (fs ++ [f]).length (fcells (fs ++ [f])) → W.grownBy w' v.ownBlock → K (a.put o.dst (.slice (some ⟨g, 0, none⟩) (fs.length + 1) cap)) w') :
    if Region.wanted o (yielded ops a.tmps) = true then Oper.wp Tryz.prog o a W K Q else E := by
  obtain ⟨i0, hi, hz0, hz1, hz2⟩ := info_parts info_field
  refine step_append_lies W hgd s x 35 ho base 78 i0 _ 2 32 Tryz.underlying35 hi hz0 hz1 hz2 rfl (by decide) v fs.length (fcells fs) hs hown ⟨B, 0, none⟩ 1 1 [.string (bs f.1), .string (bs f.2)] hx rfl (World.news_of_block hB) (by simp [Value.oneCell']) (by decide) (by unfold maxLen; omega) (by omega) hbase _ rfl ?_
  intro g cap w' h1 h2 _ _
  refine h g cap w' ?_ h2
  rw [List.length_append, fcells_append]; exact h1
theorem grow_block {w w' : World} {v : Value} {base R : Nat} {e : TypeId} {size n : Nat} {xs : List Value} (hg : w.grownBy w' v.ownBlock) (hown : w.ownsRow base e size v n xs) (hR : R < base) (hRw : R < w.heap.size) : w'.heap[R]? = w.heap[R]? :=
  hg.block R hRw (fun h => by have := (hown.lt R h.symm).1; omega)
/-- behind the append: the block as it was, all below it, too -/
def AfterApp (R : Nat) (W w' : World) (l v p h a b : Value) : Prop := RdB w' R l v p h a b ∧ W.grownBy w' (some R)
theorem step_appR {ops : Array Oper} {o : Oper} {a : Act} {K : Act → World → Prop} {Q : Exit → Act → World → Prop} {E : Prop} {R base : Nat} (w0 : World) (hw0 : w0.heap.size = base) (hR0 : R < base) {l v p h x y : Value} {W2 : World} {fs : List (List UInt8 × List UInt8)} (W : World) (hgd : o.guard = none) (s z : Operand)
    (ho : o.op = .call { callee := .builtin .append, args := #[s, z], argTypes := #[35, 35] })
    (hR2 : RdB W2 R l v p h x y) (hown : W2.ownsRow base 78 2 v fs.length (fcells fs)) (hg0 : w0.grownBy W2 (some R)) (hs : a.eval s = v) (hn : fs.length < 2147483648) (hbW : Below W2.heap.size W2 W)
    (B : Nat) (f : List UInt8 × List UInt8) (hB : W.heap[B]? = some (.cells #[.string (bs f.1), .string (bs f.2)] 78 (0, 0))) (hx : a.eval z = .slice (some ⟨B, 0, none⟩) 1 1)
    (hK : ∀ g cap w', w'.ownsRow base 78 2 (.slice (some ⟨g, 0, none⟩) (fs.length + 1) cap) (fs ++ [f]).length (fcells (fs ++ [f])) → w'.cell? ⟨R, 1, none⟩ = some v → w'.frozen? ⟨R, 1, none⟩ = false → AfterApp R w0 w' l v p h x y → K (a.put o.dst (.slice (some ⟨g, 0, none⟩) (fs.length + 1) cap)) w') :
    if Region.wanted o (yielded ops a.tmps) = true then Oper.wp Tryz.prog o a W K Q else E := by
  have hoW := own_keep hown hbW
  have hlt := hR2.lt
  have hsz := hbW.size
  have hs0 := hg0.size
  refine step_appF W hgd s z ho base v fs hs hoW B f hB hx hn (by omega) (fun g cap w' h1 h2 => ?_)
  have hR3 : RdB w' R l v p h x y := (grow_block h2 hoW hR0 (by omega)).trans (hR2.below hbW)
  have hg1 := hg0.below hbW
  have hb3 : w0.grownBy w' (some R) := ⟨h2.os.trans hg1.os, h2.tape.trans hg1.tape, h2.output.trans hg1.output, Nat.le_trans hg1.size h2.size, fun k hk hne =>
    (h2.block k (Nat.lt_of_lt_of_le hk hg1.size) (fun h => by have := (hoW.lt k h.symm).1; omega)).trans (hg1.block k hk hne)⟩
  exact hK g cap w' h1 hR3.cells.2.1 hR3.free.2.1 ⟨hR3, hb3⟩
theorem own_grown {w w' : World} {R B : Nat} {e : TypeId} {k : Nat} {v : Value} {n : Nat} {xs : List Value} (h : w.ownsRow B e k v n xs) (g : w.grownBy w' (some R)) (hR : R < B) : w'.ownsRow B e k v n xs := by
  refine ⟨h.1, ?_⟩
  rcases h.2 with h0 | ⟨b, cap, cur, e1, e2, e3, e4⟩
  · exact .inl h0
  · exact .inr ⟨b, cap, cur, e1, e2, (g.block b (Array.getElem?_eq_some_iff.1 e3).1 (fun e => by have := Option.some.inj e; omega)).trans e3, e4⟩
def NamedPost (R : Nat) (w : World) (lv p h a b : Value) (ls : List (List UInt8)) (e : Ending) (w' : World) : Prop :=
  e = .returned (.int .i64 (fldE ls.tail : Nat)) ∧ (∃ fv, RdB w' R lv fv p h a b ∧ (fldE ls.tail = 0 → w'.ownsRow w.heap.size 78 2 fv (fldL ls.tail).length (fcells (fldL ls.tail)))) ∧ w.grownBy w' (some R)
set_option maxRecDepth 100000 in
set_option maxHeartbeats 4000000 in
theorem ask_named (R : Nat) (w : World) (lv p h a b : Value) (ls : List (List UInt8)) (hR : RdB w R lv (.slice none 0 0) p h a b) (hl : HoldsLt w R lv ls) (hne : ls ≠ []) (hlen : ls.length ≤ 1000000) (hx : ∀ x ∈ ls, x.length ≤ 1000000) (hA : Anchor R w) :
    Calls Tryz.prog 81 #[.pointer (some ⟨R, 0, none⟩)] w (NamedPost R w lv p h a b ls) := by
  obtain ⟨k0, -, -, -, -, -⟩ := hR.cells
  have hRl := hR.lt
  obtain ⟨av, c, rfl, hc, hh⟩ := hl
  obtain ⟨B, o, rfl, hBl, hcell⟩ := hh hne
  obtain ⟨x0, ts, rfl⟩ : ∃ x ts, ls = x :: ts := by cases ls with
    | nil => exact absurd rfl hne
    | cons x ts => exact ⟨x, ts, rfl⟩
  have HC : Hid (∀ j (hj : j < ts.length), w.cell? ⟨B, o + 1 + j, none⟩ = some (.string (bs ts[j]))) := Lib.hid (fun j hj => by
    have := hcell (j + 1) (by simp; omega)
    rw [show o + 1 + j = o + (j + 1) by omega]; exact this)
  have HX : Hid (∀ x ∈ ts, x.length ≤ 1000000) := Lib.hid (fun x hxx => hx x (List.mem_cons_of_mem _ hxx))
  have HA := Lib.hid hA
  have HR := Lib.hid hR
  have hn1 : ((x0 :: ts).length : Nat) = ts.length + 1 := rfl
  rw [hn1] at hc hlen k0
  have HRL : Hid (RdB w R (.slice (some ⟨B, o, none⟩) (ts.length + 1) c) (.slice none 0 0) p h a b) := HR
  have HT : Hid ((x0 :: ts).tail = ts) := Lib.hid rfl
  rw [hn1]
  generalize (x0 :: ts) = LS at HT ⊢
  clear hcell hh hx hA hR hne hn1 HR
  have hts : ts.length ≤ 1000000 := by omega
  by_cases h1 : c = 1
  · have ht0 : ts = [] := List.length_eq_zero_iff.1 (by omega)
    subst ht0
    subst h1
    have HP : Hid (fldE LS.tail = 0 ∧ fldL LS.tail = []) := Lib.hid (by rw [HT.out]; exact ⟨rfl, rfl⟩)
    clear HT HC HX
    go_enter Tryz.func81, Tryz.ntmps81
    go_wp2_with fail
    refine wp_loop_rounds 1 ?_
    rw [rounds_succ]
    go_wp2_with fail
    go_ret
    exact ⟨by rw [HP.out.1]; rfl, ⟨_, HRL.out, fun _ => by rw [HP.out.2]; exact World.ownsRow_nil _ _ _ _⟩, GR.refl _ _⟩
  · have hc1 : 1 < c := by omega
    go_enter Tryz.func81, Tryz.ntmps81
    go_wp2_with fail
    go_loopg [13] ts.length (fun gk s13 wr => ∃ (k : Nat) (fv : Value), s13 = .int .i64 (k : Int) ∧ k + gk = ts.length ∧ RdB wr R (.slice (some ⟨B, o, none⟩) (ts.length + 1) c) fv p h a b ∧ wr.ownsRow w.heap.size 78 2 fv (fldL (ts.take k)).length (fcells (fldL (ts.take k))) ∧ w.grownBy wr (some R) ∧ Hid (∀ j (hj : j < ts.length), j < k → parseE ts[j] = 0))
    case atStart => exact ⟨0, _, by simp, by omega, HRL.out, by rw [List.take_zero]; exact World.ownsRow_nil _ _ _ _, GR.refl _ _, Lib.hid (fun j hj h => absurd h (Nat.not_lt_zero _))⟩
    case round =>
      obtain ⟨k, fv, rfl, hgk, hRr, hown, hgr, HK⟩ := hrel
      have HGR := Lib.hid hgr
      have hbr := hgr.toBelow (Nat.le_of_lt hRl)
      clear hgr
      have HO := Lib.hid hown
      have HRr := Lib.hid hRr
      clear hown hRr
      by_cases hk : k < ts.length
      · obtain ⟨g', rfl⟩ : ∃ g', gk = g' + 1 := ⟨gk - 1, by omega⟩
        have tk : decide ((k : Int) < (ts.length : Int)) = true := decide_eq_true (by omega)
        have c0 := (hbr.cell (p := ⟨B, o + 1 + k, none⟩) hBl).trans (HC.out k hk)
        obtain ⟨S, hS⟩ : ∃ S, bs ts[k] = S := ⟨_, rfl⟩
        have hSd : S.data.toList = ts[k] := by rw [← hS, bs_data]
        have hSs : S.size ≤ 1000000 := by rw [← hS, bs_size]; exact HX.out _ (List.getElem_mem hk)
        rw [hS] at c0
        have HP := Lib.hid (fun w hE => fields_parse S w hSs hE)
        rw [hSd] at HP
        have HE := Lib.hid (HA.out.step hbr).env
        have hkl : Hid ((fldL (ts.take k)).length < 2147483648) := Lib.hid (by unfold fldL; rw [List.length_map, List.length_take]; omega)
        clear hS hSd
        by_cases hz : parseE ts[k] = 0
        · rw [hz] at HP
          have HK2 : Hid (∀ j (hj : j < ts.length), j < k + 1 → parseE ts[j] = 0) := Lib.hid (fun j hj h => by
            by_cases e : j = k
            · subst e; exact hz
            · exact HK.out j hj (by omega))
          have hstep : Hid (fldL (ts.take (k + 1)) = fldL (ts.take k) ++ [(parseN ts[k], parseV ts[k])]) := Lib.hid (fldL_snoc ts k hk)
          clear hz HK
          go_wp2_with fail
          refine (HP.out _ HE.out).mono ?_
          rintro e w1 ⟨rfl, hb1⟩
          have HR1 := Lib.hid (HRr.out.below hb1)
          have HO1 := Lib.hid (own_keep HO.out hb1)
          have HG1 := Lib.hid (HGR.out.below hb1)
          have hR1l := HR1.out.lt
          clear hb1 hbr c0
          go_wp2_with fail
          have hR2 : RdB (w1.alloc (.cells #[.string (bs (parseN ts[k])), .string (bs (parseV ts[k]))] 78)) R (.slice (some ⟨B, o, none⟩) (ts.length + 1) c) fv p h a b := HR1.out.below ((Below.refl _ _).alloc (Nat.le_refl _) _)
          have hO2 := own_keep HO1.out ((Below.refl w1.heap.size w1).alloc (Nat.le_refl _) (.cells #[.string (bs (parseN ts[k])), .string (bs (parseV ts[k]))] 78))
          have hg2 := HG1.out.below ((Below.refl w1.heap.size w1).alloc (Nat.le_refl _) (.cells #[.string (bs (parseN ts[k])), .string (bs (parseV ts[k]))] 78))
          obtain ⟨j0, j1⟩ := box2 w1 (.string (bs (parseN ts[k]))) (.string (bs (parseV ts[k]))) 78
          have hj : w1.heap.size < (w1.alloc (.cells #[.string (bs (parseN ts[k])), .string (bs (parseV ts[k]))] 78)).heap.size := by simp
          generalize w1.alloc (.cells #[.string (bs (parseN ts[k])), .string (bs (parseV ts[k]))] 78) = W2 at hR2 hO2 hg2 j0 j1 hj ⊢
          have HR2 := Lib.hid hR2
          have HO2 := Lib.hid hO2
          have HG2 := Lib.hid hg2
          obtain ⟨-, k1, -, -, -, -⟩ := hR2.cells
          obtain ⟨-, f1, -, -, -, -⟩ := hR2.free
          have hRl2 := hR2.lt
          clear hR2 hO2 hg2 HR1 HO1 HG1
          go_region_law (refine step_appR w rfl hRl _ rfl _ _ rfl HR2.out HO2.out HG2.out rfl hkl.out ?_ W2.heap.size (parseN ts[k], parseV ts[k]) ?_ rfl ?_; exact ((Below.refl _ _).alloc (Nat.le_refl _) _).drew; exact heap_alloc_new W2 _; intro g cap w3 hown3 hc3 hf3 haf)
          all_goals
            go_wp2_with fail
            go_roundg g'
            case measure => omega
            case rel =>
              refine ⟨k + 1, _, by simp, by omega, haf.1.set1 _, ?_, haf.2.set 1 _, HK2⟩
              rw [hstep.out]; exact ownsRow_setCell_below hown3 (a := ⟨R, 1, none⟩) hRl _
        · have HF : Hid (fldE LS.tail = parseE ts[k] ∧ fldE LS.tail ≠ 0) := Lib.hid (by rw [HT.out, fldE_at ts k hk HK.out hz]; exact ⟨rfl, hz⟩)
          have tz : ((parseE ts[k] : Int) != 0) = true := by rw [bne_iff_ne]; omega
          clear hz HK
          go_wp2_with fail
          refine (HP.out _ HE.out).mono ?_
          rintro e w1 ⟨rfl, hb1⟩
          have HR1 := Lib.hid (HRr.out.below hb1)
          have HG1 := Lib.hid (HGR.out.below hb1)
          have hR1l := HR1.out.lt
          clear hb1 hbr c0
          go_wp2_with fail
          go_ret
          exact ⟨by rw [HF.out.1]; rfl, ⟨_, HR1.out.below ((Below.refl _ _).alloc (Nat.le_refl _) _), fun h => absurd h HF.out.2⟩, HG1.out.below ((Below.refl _ _).alloc (Nat.le_refl _) _)⟩
      · obtain rfl : k = ts.length := by omega
        have tk : decide ((ts.length : Int) < (ts.length : Int)) = false := decide_eq_false (by omega)
        have HP : Hid (fldE LS.tail = 0 ∧ fldL LS.tail = fldL (ts.take ts.length)) := Lib.hid (by rw [HT.out, List.take_length]; exact ⟨fldE_all ts (fun j hj => HK.out j hj hj), rfl⟩)
        clear HT HK
        go_wp2_with fail
        go_ret
        exact ⟨by rw [HP.out.1]; rfl, ⟨_, HRr.out, fun _ => by rw [HP.out.2]; exact HO.out⟩, HGR.out⟩
end Go.Proofs.YtfcomhdgpdbnhaaGreatDoor
namespace Go.Proofs.YtfcomhdgpdbnhaaGreatDoor
open Go.RowKit

def hostK : List UInt8 := [104, 111, 115, 116]
def rangeK : List UInt8 := [114, 97, 110, 103, 101]
def whoE (fs : List (List UInt8 × List UInt8)) : Nat := if getE fs hostK ≠ 0 then getE fs hostK else if hostB (getS fs hostK) = false then 2 else 0
def whatE (fs : List (List UInt8 × List UInt8)) : Nat := if getE fs rangeK ≠ 0 then getE fs rangeK else askedE (getS fs rangeK)
def WhomPost (R : Nat) (w : World) (lv fv p a b : Value) (fs : List (List UInt8 × List UInt8)) (e : Ending) (w' : World) : Prop :=
  e = .returned (.int .i64 (whoE fs : Nat)) ∧ RdB w' R lv fv p (.string (bs (getS fs hostK))) a b ∧ w.grownBy w' (some R)
def WhatPost (R : Nat) (w : World) (lv fv p h : Value) (fs : List (List UInt8 × List UInt8)) (e : Ending) (w' : World) : Prop :=
  e = .returned (.int .i64 (whatE fs : Nat)) ∧ (∃ a b, RdB w' R lv fv p h a b ∧ (whatE fs = 0 → a = .int .i64 (askedA (getS fs rangeK)) ∧ b = .int .i64 (askedB (getS fs rangeK)))) ∧ w.grownBy w' (some R)
theorem get_k (v : Value) (fs : List (List UInt8 × List UInt8)) (n : ByteArray) (k : List UInt8) (hk : n.data.toList = k) (w : World) (hv : HoldsF w v fs) (hlen : fs.length ≤ 1000000) :
    Calls Tryz.prog 16 #[v, .string n] w fun e w' => e = .returned (.tuple #[.string (bs (getS fs k)), .int .i64 (getE fs k)]) ∧ Below w.heap.size w w' := by
  subst hk; exact fields_get v fs n w hv hlen
set_option maxRecDepth 100000 in
set_option maxHeartbeats 2000000 in
theorem ask_whom (R : Nat) (w : World) (lv fv p a b : Value) (h0 : ByteArray) (fs : List (List UInt8 × List UInt8)) (hR : RdB w R lv fv p (.string h0) a b) (hf : HoldsF w fv fs) (hlen : fs.length ≤ 1000000) :
    Calls Tryz.prog 82 #[.pointer (some ⟨R, 0, none⟩)] w (WhomPost R w lv fv p a b fs) := by
  obtain ⟨-, k1, -, -, -, -⟩ := hR.cells
  have HG := Lib.hid (get_k fv fs ⟨#[104, 111, 115, 116]⟩ hostK rfl w hf hlen)
  obtain ⟨H, hH⟩ : ∃ H, bs (getS fs hostK) = H := ⟨_, rfl⟩
  have hHd : H.data.toList = getS fs hostK := by rw [← hH, bs_data]
  have HH := Lib.hid (fun w => asking_host H w)
  rw [hHd] at HH
  rw [hH] at HG
  have HHH := Lib.hid hH
  have HR := Lib.hid hR
  have hRl := hR.lt
  clear hR hf hH hHd
  by_cases hg : getE fs hostK = 0
  · rw [hg] at HG
    cases hb : hostB (getS fs hostK) with
    | false =>
      rw [hb] at HH
      have HE : Hid (whoE fs = 2) := Lib.hid (by unfold whoE; rw [if_neg (fun h => h hg), if_pos hb])
      clear hg hb
      go_enter Tryz.func82, Tryz.ntmps82
      go_wp2_with fail
      refine HG.out.mono ?_
      rintro e w1 ⟨rfl, hb1⟩
      have HR1 := Lib.hid (HR.out.below hb1)
      obtain ⟨-, -, -, k3, -, -⟩ := HR1.out.cells
      obtain ⟨-, -, -, f3, -, -⟩ := HR1.out.free
      have HB1 := Lib.hid hb1
      clear hb1 k1
      go_wp2_with fail
      have HR2 := Lib.hid (HR1.out.set3 (.string H))
      have HB2 := Lib.hid (((GR.refl R w).below HB1.out).set 3 (.string H))
      generalize w1.setCell ⟨R, 3, none⟩ (.string H) = w2 at HR2 HB2 ⊢
      refine (HH.out _).mono ?_
      rintro e w3 ⟨rfl, hb3⟩
      go_wp2_with fail
      go_ret
      exact ⟨by rw [HE.out]; rfl, by rw [HHH.out]; exact HR2.out.below hb3, HB2.out.below hb3⟩
    | true =>
      rw [hb] at HH
      have HE : Hid (whoE fs = 0) := Lib.hid (by unfold whoE; rw [if_neg (fun h => h hg), if_neg (by rw [hb]; decide)])
      clear hg hb
      go_enter Tryz.func82, Tryz.ntmps82
      go_wp2_with fail
      refine HG.out.mono ?_
      rintro e w1 ⟨rfl, hb1⟩
      have HR1 := Lib.hid (HR.out.below hb1)
      obtain ⟨-, -, -, k3, -, -⟩ := HR1.out.cells
      obtain ⟨-, -, -, f3, -, -⟩ := HR1.out.free
      have HB1 := Lib.hid hb1
      clear hb1 k1
      go_wp2_with fail
      have HR2 := Lib.hid (HR1.out.set3 (.string H))
      have HB2 := Lib.hid (((GR.refl R w).below HB1.out).set 3 (.string H))
      generalize w1.setCell ⟨R, 3, none⟩ (.string H) = w2 at HR2 HB2 ⊢
      refine (HH.out _).mono ?_
      rintro e w3 ⟨rfl, hb3⟩
      go_wp2_with fail
      go_ret
      exact ⟨by rw [HE.out]; rfl, by rw [HHH.out]; exact HR2.out.below hb3, HB2.out.below hb3⟩
  · have HE : Hid (whoE fs = getE fs hostK) := Lib.hid (by unfold whoE; rw [if_pos hg])
    have tz : ((getE fs hostK : Int) != 0) = true := by rw [bne_iff_ne]; omega
    generalize getE fs hostK = Z at HG HE tz
    clear hg
    go_enter Tryz.func82, Tryz.ntmps82
    go_wp2_with fail
    refine HG.out.mono ?_
    rintro e w1 ⟨rfl, hb1⟩
    have HR1 := Lib.hid (HR.out.below hb1)
    obtain ⟨-, -, -, k3, -, -⟩ := HR1.out.cells
    obtain ⟨-, -, -, f3, -, -⟩ := HR1.out.free
    have HB1 := Lib.hid hb1
    clear hb1 k1
    go_wp2_with fail
    go_ret
    exact ⟨by rw [HE.out]; rfl, by rw [HHH.out]; exact HR1.out.set3 _, ((GR.refl R w).below HB1.out).set 3 _⟩
set_option maxRecDepth 100000 in
set_option maxHeartbeats 2000000 in
theorem ask_what (R : Nat) (w : World) (lv fv p h : Value) (a0 b0 : Int) (fs : List (List UInt8 × List UInt8)) (hR : RdB w R lv fv p h (.int .i64 a0) (.int .i64 b0)) (hf : HoldsF w fv fs) (hlen : fs.length ≤ 1000000) (hs : (getS fs rangeK).length ≤ 1000000) (hA : Anchor R w) :
    Calls Tryz.prog 83 #[.pointer (some ⟨R, 0, none⟩)] w (WhatPost R w lv fv p h fs) := by
  obtain ⟨-, k1, -, -, -, -⟩ := hR.cells
  have HG := Lib.hid (get_k fv fs ⟨#[114, 97, 110, 103, 101]⟩ rangeK rfl w hf hlen)
  obtain ⟨H, hH⟩ : ∃ H, bs (getS fs rangeK) = H := ⟨_, rfl⟩
  have hHd : H.data.toList = getS fs rangeK := by rw [← hH, bs_data]
  have HH := Lib.hid (fun w hE => ranges_asked H w (by rw [← hH, bs_size]; exact hs) hE)
  rw [hHd] at HH
  rw [hH] at HG
  have HR := Lib.hid hR
  have HE := Lib.hid hA.env
  have hRl := hR.lt
  clear hR hf hH hHd hs hA
  by_cases hg : getE fs rangeK = 0
  · rw [hg] at HG
    have HW : Hid (whatE fs = askedE (getS fs rangeK)) := Lib.hid (by unfold whatE; rw [if_neg (fun h => h hg)])
    clear hg
    go_enter Tryz.func83, Tryz.ntmps83
    go_wp2_with fail
    refine HG.out.mono ?_
    rintro e w1 ⟨rfl, hb1⟩
    have HR1 := Lib.hid (HR.out.below hb1)
    have HB1 := Lib.hid hb1
    have HE1 := Lib.hid (HE.out.below hb1)
    clear hb1 k1
    go_wp2_with fail
    refine (HH.out _ HE1.out).mono ?_
    rintro e w2 ⟨rfl, hb2⟩
    have HR2 := Lib.hid (HR1.out.below hb2)
    obtain ⟨-, -, -, -, k4, k5⟩ := HR2.out.cells
    obtain ⟨-, -, -, -, f4, f5⟩ := HR2.out.free
    have HB2 := Lib.hid (bstep HB1.out hb2)
    clear hb2
    go_wp2_with fail
    go_ret
    exact ⟨by rw [HW.out]; rfl, ⟨_, _, HR2.out.set45 _ _, fun _ => ⟨rfl, rfl⟩⟩, (((GR.refl R w).below HB2.out).set 4 _).set 5 _⟩
  · have HW : Hid (whatE fs = getE fs rangeK ∧ whatE fs ≠ 0) := Lib.hid (by unfold whatE; rw [if_pos hg]; exact ⟨rfl, hg⟩)
    have tz : ((getE fs rangeK : Int) != 0) = true := by rw [bne_iff_ne]; omega
    generalize getE fs rangeK = Z at HG HW tz
    clear hg
    go_enter Tryz.func83, Tryz.ntmps83
    go_wp2_with fail
    refine HG.out.mono ?_
    rintro e w1 ⟨rfl, hb1⟩
    have HR1 := Lib.hid (HR.out.below hb1)
    have HB1 := Lib.hid hb1
    clear hb1 k1
    go_wp2_with fail
    go_ret
    exact ⟨by rw [HW.out.1]; rfl, ⟨_, _, HR1.out, fun h => absurd h HW.out.2⟩, (GR.refl R w).below HB1.out⟩
end Go.Proofs.YtfcomhdgpdbnhaaGreatDoor
