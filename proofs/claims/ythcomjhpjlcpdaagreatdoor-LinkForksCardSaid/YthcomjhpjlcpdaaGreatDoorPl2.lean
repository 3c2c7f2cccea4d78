/- The lines of a head: what lines.Head and the reference's Head return. Lines laid one behind the other read as a head; cut anywhere they are too short (no program in sight). Plain functions for the first line of an answer (no program in sight). Contracts of the library's functions at this translation, laid by the kit's shelf tool; those that the claim uses. What cutting a line at its blanks returns. The number of the table of powers. What the library's variables hold, carried along a call. What the functions of package status and of its reference return. Texts as lists of bytes: joined. A number's digits, as the reference lays them. -/
import Derived.Test.YthcomjhpjlcpdaaGreatDoorPl1
import Derived.Lib.ItoaNum
import Derived.Shelf.Strings.Builder1
import Derived.Shelf.Strings.Builder2
import Derived.Shelf.Strings.Trim
import Derived.Shelf.Small.Utf8
import Derived.Shelf.Small.Strs
import Derived.Shelf.Small.Wraps
import Derived.Shelf.Strings.BuilderF
import Derived.Shelf.Strings.BuilderK
import Derived.Shelf.Strings.BuilderRune
import Derived.Shelf.Strings.Builder2Cap
import Derived.Shelf.Strconv.Atoi
import Derived.Shelf.Strconv.Itoa0
import Derived.Shelf.Strconv.Itoa1
import Derived.Shelf.LaysM
import Derived.Shelf.Strconv.Itoa2
import Derived.Shelf.Strconv.Itoa3
import Derived.Shelf.Strconv.AtoiErrFast
import Derived.Shelf.Strconv.ParseIntEmpty
import Derived.Shelf.Strconv.AtoiFail
import Derived.Shelf.Strconv.Clone
import Derived.Shelf.Strconv.SyntaxError
import Derived.Shelf.LaysC
import Derived.Shelf.Strconv.ToError
import Derived.Shelf.Strconv.Lower
import Derived.Shelf.Strconv.ParseUint10
import Derived.Shelf.Strconv.ParseUint10Empty
import Derived.Shelf.Strconv.ParseUint10Any
import Derived.Shelf.Strconv.ParseInt10
import Derived.Shelf.Strconv.AtoiLong
import Derived.Shelf.Strconv.AtoiInnerAll
import Derived.Shelf.Strconv.RangeError
import Derived.Shelf.Strconv.ToErrorRange
import Derived.Shelf.Strconv.AtoiAll
import Derived.Shelf.Strings.Search1
import Derived.Shelf.Strings.Search2
import Derived.Shelf.Strings.Search3
import Derived.Shelf.Strings.Cut
import Derived.Shelf.Strings.Count
import Derived.Shelf.Strings.Shaped
import Derived.Shelf.GgClosure.StringsIndexFunc
import Derived.Ground.GgwProg
import Derived.Shelf.GgClosure.StringsIndexFuncTop
import Derived.Shelf.Strings.Prefix
import Derived.Shelf.Strings.Split
import Derived.Shelf.Strings.SplitShaped
import Derived.Shelf.Strings.Runes
import Derived.Shelf.Strings.AsciiSet
import Derived.Shelf.Unicode.DecodeSlow
import Derived.Shelf.Unicode.DecodeAny
import Derived.Shelf.Unicode.DecodeLast
import Derived.Shelf.Strings.MapAny
import Derived.Shelf.Strings.FuncGrows
import Derived.Shelf.Strings.BuilderCap
import Derived.Shelf.Strings.MapGrows
import Derived.Test.YthcomjhpjlcpdaaGreatDoorProg
import GoSem.Claims
import Derived.KernelRfl
import Derived.Lib.LaidTab
import Derived.WalkSmall
import Derived.Shelf.Strings.SlTrimAscii
set_option linter.unusedVariables false
set_option linter.unusedSimpArgs false
namespace Go.Proofs.YthcomjhpjlcpdaaGreatDoor
open Go.RowKit

def headR : Nat → ByteArray → Int → List (List UInt8) → List (List UInt8) × Int × Nat
  | 0, _, _, _ => ([], 0, 21)
  | f + 1, s, a, xs => if takeErr s a ≠ 0 then ([], 0, takeErr s a) else if (takeLine s a).toList.isEmpty = true then (xs, takeNext s a, 0)
      else if xs.length = 17 then ([], 0, 21) else headR f s (takeNext s a) (xs ++ [(takeLine s a).data.toList])
/-- the lines of a head, the place behind it, and the error. -/
def headOf (s : ByteArray) : List (List UInt8) × Int × Nat := headR 18 s 0 []

theorem headR_err (f : Nat) (s : ByteArray) (a : Int) (xs : List (List UInt8)) (h : takeErr s a ≠ 0) : headR (f + 1) s a xs = ([], 0, takeErr s a) := by rw [headR, if_pos h]
theorem headR_end (f : Nat) (s : ByteArray) (a : Int) (xs : List (List UInt8)) (h : takeErr s a = 0) (h2 : (takeLine s a).toList.isEmpty = true) : headR (f + 1) s a xs = (xs, takeNext s a, 0) := by
  rw [headR, if_neg (by simp [h]), if_pos h2]
theorem headR_many (f : Nat) (s : ByteArray) (a : Int) (xs : List (List UInt8)) (h : takeErr s a = 0) (h2 : (takeLine s a).toList.isEmpty = false) (h3 : xs.length = 17) : headR (f + 1) s a xs = ([], 0, 21) := by
  rw [headR, if_neg (by simp [h]), if_neg (by simp [h2]), if_pos h3]
theorem headR_more (f : Nat) (s : ByteArray) (a : Int) (xs : List (List UInt8)) (h : takeErr s a = 0) (h2 : (takeLine s a).toList.isEmpty = false) (h3 : xs.length ≠ 17) : headR (f + 1) s a xs = headR f s (takeNext s a) (xs ++ [(takeLine s a).data.toList]) := by
  rw [headR, if_neg (by simp [h]), if_neg (by simp [h2]), if_neg h3]

/-- the answer of a head, as it lies in memory. -/
def HeadPost (s : ByteArray) (w : World) (e : Ending) (w' : World) : Prop :=
  ∃ v, e = .returned (.tuple #[v, .int .i64 (headOf s).2.1, .int .i64 (headOf s).2.2]) ∧ w'.ownsRow w.heap.size 9 1 v (headOf s).1.length (strs (headOf s).1) ∧ Below w.heap.size w w'

def HeadRel (s : ByteArray) (w : World) (v j : Value) (wr : World) : Prop :=
  ∃ (a : Int) (xs : List (List UInt8)), xs.length ≤ 17 ∧ j = .int .i64 a ∧ wr.ownsRow w.heap.size 9 1 v xs.length (strs xs) ∧ Below w.heap.size w wr ∧ headR (18 - xs.length) s a xs = headOf s

theorem head_fin (s : ByteArray) (w w' : World) (v : Value) (n : Int) (e : Nat) (xs : List (List UInt8)) (h : headOf s = (xs, n, e)) (hown : w'.ownsRow w.heap.size 9 1 v xs.length (strs xs)) (hb : Below w.heap.size w w') :
    HeadPost s w (.returned (.tuple #[v, .int .i64 n, .int .i64 e])) w' := by
  unfold HeadPost
  rw [h]
  exact ⟨v, rfl, hown, hb⟩

theorem slice_of_own {w : World} {base n : Nat} {e : TypeId} {size : Nat} {v : Value} {xs : List Value} (h : w.ownsRow base e size v n xs) : ∃ a c, v = .slice a n c := by
  rcases h.2 with ⟨rfl, rfl⟩ | ⟨g, cap, cur, rfl, _⟩
  · exact ⟨_, _, rfl⟩
  · exact ⟨_, _, rfl⟩

def headM (v : Value) : Nat := match v with
  | .slice _ n _ => 18 - n
  | _ => 0

set_option maxRecDepth 100000 in
set_option maxHeartbeats 2000000 in
theorem lines_head (s : ByteArray) (w : World) (hs : s.size ≤ 9223372036854775807) :
    Calls Tryz.prog 37 #[.string s] w (HeadPost s w) := by
  go_enter Tryz.func37, Tryz.ntmps37
  go_wp2_with fail
  go_loopw [2, 5] (fun v j wr => HeadRel s w v j wr) (fun v _ _ => headM v)
  case atStart => exact ⟨0, [], by simp, rfl, World.ownsRow_nil _ _ _ _, Below.refl _ _, rfl⟩
  case round =>
    obtain ⟨a, xs, hx, rfl, hown, hb, hr⟩ := hrel
    obtain ⟨av, cv, rfl⟩ := slice_of_own hown
    obtain ⟨f, hf⟩ : ∃ f, 18 - xs.length = f + 1 := ⟨17 - xs.length, by omega⟩
    rw [hf] at hr
    by_cases he : takeErr s a = 0
    · have he' : ((takeErr s a : Nat) : Int) = 0 := by omega
      by_cases hl : (takeLine s a).toList.isEmpty = true
      · have H := Lib.hid ((headR_end f s a xs he hl).symm.trans hr)
        have Hf := Lib.hid hf
        clear hr hf he
        go_wp2_with (go_at_call 63; refine (lines_take _ _ _ hs).mono ?_; rintro e w' ⟨rfl, rfl⟩)
        go_ret3
        exact head_fin s w _ _ _ 0 xs H.out.symm hown hb
      · have hl' : (takeLine s a).toList.isEmpty = false := by simpa using hl
        clear hl
        by_cases h17 : xs.length = 17
        · have H := Lib.hid ((headR_many f s a xs he hl' h17).symm.trans hr)
          have Hf := Lib.hid hf
          have hd : 16 < xs.length := by omega
          have H17 := Lib.hid h17
          clear hr hf he h17
          go_wp2_with (go_at_call 63; refine (lines_take _ _ _ hs).mono ?_; rintro e w' ⟨rfl, rfl⟩)
          go_ret3
          exact head_fin s w _ _ _ 21 [] H.out.symm (World.ownsRow_nil _ _ _ _) hb
        · have H := Lib.hid ((headR_more f s a xs he hl' h17).symm.trans hr)
          have Hf := Lib.hid hf
          have hd : xs.length < 17 := by omega
          have hd2 : xs.length ≤ 16 := by omega
          clear hr hf he h17
          have He := Lib.hid (bs_self (takeLine s a)).symm
          go_wp2_with (first
            | (go_at_call 63; refine (lines_take _ _ _ hs).mono ?_; rintro e w' ⟨rfl, rfl⟩)
            | (at_builtin; refine append_str _ (by rfl) _ _ (by rfl) w.heap.size _ xs (by rfl) hown (takeLine s a) (takeLine s a).data.toList He.out (by rfl) (by omega) hb.size ?_; intro v' w1 hown1 hg1 hne1))
          have hb1 := below_own hb hg1 hown (Nat.le_refl _) hb.size
          have hlen : (xs ++ [(takeLine s a).data.toList]).length = xs.length + 1 := by simp
          obtain ⟨av', cv', rfl⟩ := slice_of_own hown1
          go_roundw
          case rel => exact ⟨takeNext s a, xs ++ [(takeLine s a).data.toList], by omega, rfl, hown1, hb1, by rw [← H.out, hlen]; congr 1; have := Hf.out; omega⟩
          case measure => simp [headM]; omega
    · have he' : (((takeErr s a : Nat) : Int) != 0) = true := by rw [bne_iff_ne]; omega
      have H := Lib.hid ((headR_err f s a xs he).symm.trans hr)
      have Hf := Lib.hid hf
      clear hr hf he
      go_wp2_with (go_at_call 63; refine (lines_take _ _ _ hs).mono ?_; rintro e w' ⟨rfl, rfl⟩)
      go_ret3
      exact head_fin s w _ _ _ _ [] H.out.symm (World.ownsRow_nil _ _ _ _) hb

set_option maxRecDepth 100000 in
set_option maxHeartbeats 2000000 in
theorem ref_head (s : ByteArray) (w : World) (hs : s.size ≤ 9223372036854775807) :
    Calls Tryz.prog 40 #[.string s] w (HeadPost s w) := by
  go_enter Tryz.func40, Tryz.ntmps40
  go_wp2_with fail
  go_loopw [5, 6] (fun v j wr => HeadRel s w v j wr) (fun v _ _ => headM v)
  case atStart => exact ⟨0, [], by simp, rfl, World.ownsRow_nil _ _ _ _, Below.refl _ _, rfl⟩
  case round =>
    obtain ⟨a, xs, hx, rfl, hown, hb, hr⟩ := hrel
    obtain ⟨av, cv, rfl⟩ := slice_of_own hown
    obtain ⟨f, hf⟩ : ∃ f, 18 - xs.length = f + 1 := ⟨17 - xs.length, by omega⟩
    rw [hf] at hr
    by_cases he : takeErr s a = 0
    · have he' : ((takeErr s a : Nat) : Int) = 0 := by omega
      by_cases hl : (takeLine s a).toList.isEmpty = true
      · have H := Lib.hid ((headR_end f s a xs he hl).symm.trans hr)
        have Hf := Lib.hid hf
        clear hr hf he
        go_wp2_with (go_at_call 69; refine (ref_take _ _ _ hs).mono ?_; rintro e w' ⟨rfl, rfl⟩)
        go_ret3
        exact head_fin s w _ _ _ 0 xs H.out.symm hown hb
      · have hl' : (takeLine s a).toList.isEmpty = false := by simpa using hl
        clear hl
        by_cases h17 : xs.length = 17
        · have H := Lib.hid ((headR_many f s a xs he hl' h17).symm.trans hr)
          have Hf := Lib.hid hf
          have hd : 16 < xs.length := by omega
          have H17 := Lib.hid h17
          clear hr hf he h17
          go_wp2_with (go_at_call 69; refine (ref_take _ _ _ hs).mono ?_; rintro e w' ⟨rfl, rfl⟩)
          go_ret3
          exact head_fin s w _ _ _ 21 [] H.out.symm (World.ownsRow_nil _ _ _ _) hb
        · have H := Lib.hid ((headR_more f s a xs he hl' h17).symm.trans hr)
          have Hf := Lib.hid hf
          have hd : xs.length < 17 := by omega
          have hd2 : xs.length ≤ 16 := by omega
          clear hr hf he h17
          have He := Lib.hid (bs_self (takeLine s a)).symm
          go_wp2_with (first
            | (go_at_call 69; refine (ref_take _ _ _ hs).mono ?_; rintro e w' ⟨rfl, rfl⟩)
            | (at_builtin; refine append_str _ (by rfl) _ _ (by rfl) w.heap.size _ xs (by rfl) hown (takeLine s a) (takeLine s a).data.toList He.out (by rfl) (by omega) hb.size ?_; intro v' w1 hown1 hg1 hne1))
          have hb1 := below_own hb hg1 hown (Nat.le_refl _) hb.size
          have hlen : (xs ++ [(takeLine s a).data.toList]).length = xs.length + 1 := by simp
          obtain ⟨av', cv', rfl⟩ := slice_of_own hown1
          go_roundw
          case rel => exact ⟨takeNext s a, xs ++ [(takeLine s a).data.toList], by omega, rfl, hown1, hb1, by rw [← H.out, hlen]; congr 1; have := Hf.out; omega⟩
          case measure => simp [headM]; omega
    · have he' : (((takeErr s a : Nat) : Int) != 0) = true := by rw [bne_iff_ne]; omega
      have H := Lib.hid ((headR_err f s a xs he).symm.trans hr)
      have Hf := Lib.hid hf
      clear hr hf he
      go_wp2_with (go_at_call 69; refine (ref_take _ _ _ hs).mono ?_; rintro e w' ⟨rfl, rfl⟩)
      go_ret3
      exact head_fin s w _ _ _ _ [] H.out.symm (World.ownsRow_nil _ _ _ _) hb
end Go.Proofs.YthcomjhpjlcpdaaGreatDoor
namespace Go.Proofs.YthcomjhpjlcpdaaGreatDoor
open Go.RowKit

def plainL (x : List UInt8) : Prop := ∀ c ∈ x, plainB c.toNat = true
/-- the lines, each with its end. -/
def body : List (List UInt8) → List UInt8
  | [] => []
  | x :: t => x ++ 13 :: 10 :: body t
theorem body_append (l m : List (List UInt8)) : body (l ++ m) = body l ++ body m := by
  induction l with
  | nil => rfl
  | cons x t ih => simp [body, ih]

theorem plain_not13 : plainB 13 = false := by decide

theorem scan_line (x rest : List UInt8) : ∀ n, plainL x → n + x.length ≤ 256 → scan (x ++ 13 :: 10 :: rest) n = (n + x.length, 0) := by
  induction x with
  | nil => intro n _ _; rw [List.nil_append, scan, if_neg (by simp), if_pos (by simp)]; rfl
  | cons c t ih =>
    intro n hp hl
    have hc := hp c (List.mem_cons_self ..)
    have h13 : c ≠ 13 := fun e => by rw [e] at hc; exact absurd hc (by decide)
    rw [List.cons_append, scan, if_neg (by simp [h13]), if_neg (by simp [h13]), if_neg (by simp [hc]), if_neg (by simp at hl; omega), ih (n + 1) (fun c h => hp c (List.mem_cons_of_mem _ h)) (by simp at hl; omega)]
    simp; omega

/-- a proper beginning of a line with its end is too short. -/
theorem scan_cut (x : List UInt8) : ∀ n k, plainL x → n + x.length ≤ 256 → k < x.length + 2 → (scan ((x ++ [13, 10]).take k) n).2 = 3 := by
  induction x with
  | nil =>
    intro n k _ _ hk
    match k, hk with
    | 0, _ => simp [scan]
    | 1, _ => simp [scan]
  | cons c t ih =>
    intro n k hp hl hk
    cases k with
    | zero => simp [scan]
    | succ k =>
      have hc := hp c (List.mem_cons_self ..)
      have h13 : c ≠ 13 := fun e => by rw [e] at hc; exact absurd hc (by decide)
      rw [List.cons_append, List.take_succ_cons, scan, if_neg (by simp [h13]), if_neg (by simp [h13]), if_neg (by simp [hc]), if_neg (by simp at hl; omega)]
      exact ih (n + 1) k (fun c h => hp c (List.mem_cons_of_mem _ h)) (by simp at hl; omega) (by simp at hk; omega)

theorem take_line (s : ByteArray) (pre x rest : List UInt8) (hs : s.data.toList = pre ++ (x ++ 13 :: 10 :: rest)) (hp : plainL x) (hl : x.length ≤ 256) :
    takeErr s (pre.length : Int) = 0 ∧ takeLine s (pre.length : Int) = bs x ∧ takeNext s (pre.length : Int) = ((pre ++ (x ++ [13, 10])).length : Int) := by
  have hsz : pre.length ≤ s.size := by rw [← size_len, hs]; simp
  have hsc : scanAt s.data.toList pre.length 0 = (x.length, 0) := by
    unfold scanAt
    rw [hs, List.drop_left, scan_line x rest 0 hp (by omega)]; simp
  have he : takeErr s (pre.length : Int) = 0 := by rw [takeErr_in s _ hsz, hsc]
  refine ⟨he, ?_, ?_⟩
  · unfold takeLine
    rw [if_pos he, Int.toNat_natCast, hsc, extract_bs, hs]
    congr 1
    rw [← List.append_assoc, ← List.length_append, List.take_left, List.drop_left]
  · unfold takeNext
    rw [if_pos he, Int.toNat_natCast, hsc]
    simp; omega

theorem take_cut (s : ByteArray) (pre x : List UInt8) (k : Nat) (hs : s.data.toList = pre ++ (x ++ [13, 10]).take k) (hk : k < x.length + 2) (hp : plainL x) (hl : x.length ≤ 256) : takeErr s (pre.length : Int) = 3 := by
  have hsz : pre.length ≤ s.size := by rw [← size_len, hs]; simp
  rw [takeErr_in s _ hsz]
  unfold scanAt
  rw [hs, List.drop_left]
  exact scan_cut x 0 k hp (by omega) hk

theorem isEmpty_bs (x : List UInt8) : (bs x).toList.isEmpty = x.isEmpty := by rw [ByteArray.toList_eq, bs_data]

def goodLine (x : List UInt8) : Prop := x ≠ [] ∧ plainL x ∧ x.length ≤ 256

theorem head_ok (s : ByteArray) (rest : List UInt8) : ∀ (ls : List (List UInt8)) (pre : List UInt8) (xs : List (List UInt8)) (f : Nat), (∀ x ∈ ls, goodLine x) → xs.length + ls.length ≤ 17 → f + xs.length = 18 →
    s.data.toList = pre ++ (body ls ++ 13 :: 10 :: rest) → headR f s (pre.length : Int) xs = (xs ++ ls, ((pre ++ body ls).length : Int) + 2, 0) := by
  intro ls
  induction ls with
  | nil =>
    intro pre xs f _ hle hf hs
    obtain ⟨f, rfl⟩ : ∃ g, f = g + 1 := ⟨f - 1, by simp at hle; omega⟩
    obtain ⟨h1, h2, h3⟩ := take_line s pre [] rest (by simpa [body] using hs) (fun c h => by simp at h) (by simp)
    rw [headR_end f s _ xs h1 (by rw [h2, isEmpty_bs]; rfl), h3]
    simp [body]
  | cons x t ih =>
    intro pre xs f hg hle hf hs
    obtain ⟨hx0, hxp, hxl⟩ := hg x (List.mem_cons_self ..)
    obtain ⟨f, rfl⟩ : ∃ g, f = g + 1 := ⟨f - 1, by simp at hle; omega⟩
    have hs' : s.data.toList = pre ++ (x ++ 13 :: 10 :: (body t ++ 13 :: 10 :: rest)) := by rw [hs]; simp [body]
    obtain ⟨h1, h2, h3⟩ := take_line s pre x _ hs' hxp hxl
    rw [headR_more f s _ xs h1 (by rw [h2, isEmpty_bs]; cases x <;> simp_all) (by simp at hle; omega), h3, h2, bs_data]
    rw [ih (pre ++ (x ++ [13, 10])) (xs ++ [x]) f (fun y hy => hg y (List.mem_cons_of_mem _ hy)) (by simp at hle ⊢; omega) (by simp; omega) (by rw [hs']; simp)]
    simp [body]

theorem head_many (s : ByteArray) (rest : List UInt8) : ∀ (ls : List (List UInt8)) (pre : List UInt8) (xs : List (List UInt8)) (f : Nat), (∀ x ∈ ls, goodLine x) → 17 < xs.length + ls.length → xs.length ≤ 17 → f + xs.length = 18 →
    s.data.toList = pre ++ (body ls ++ 13 :: 10 :: rest) → headR f s (pre.length : Int) xs = ([], 0, 21) := by
  intro ls
  induction ls with
  | nil => intro pre xs f _ hle h2 _ _; simp at hle; omega
  | cons x t ih =>
    intro pre xs f hg hle h17 hf hs
    obtain ⟨hx0, hxp, hxl⟩ := hg x (List.mem_cons_self ..)
    obtain ⟨f, rfl⟩ : ∃ g, f = g + 1 := ⟨f - 1, by omega⟩
    have hs' : s.data.toList = pre ++ (x ++ 13 :: 10 :: (body t ++ 13 :: 10 :: rest)) := by rw [hs]; simp [body]
    obtain ⟨h1, h2, h3⟩ := take_line s pre x _ hs' hxp hxl
    have he : (takeLine s (pre.length : Int)).toList.isEmpty = false := by rw [h2, isEmpty_bs]; cases x <;> simp_all
    by_cases h : xs.length = 17
    · exact headR_many f s _ xs h1 he h
    · rw [headR_more f s _ xs h1 he h, h3, h2, bs_data]
      exact ih (pre ++ (x ++ [13, 10])) (xs ++ [x]) f (fun y hy => hg y (List.mem_cons_of_mem _ hy)) (by simp at hle ⊢; omega) (by simp; omega) (by simp; omega) (by rw [hs']; simp)

theorem head_cut (s : ByteArray) : ∀ (ls : List (List UInt8)) (pre : List UInt8) (xs : List (List UInt8)) (f k : Nat), (∀ x ∈ ls, goodLine x) → xs.length + ls.length ≤ 17 → f + xs.length = 18 →
    k < (body ls).length + 2 → s.data.toList = pre ++ (body ls ++ [13, 10]).take k → headR f s (pre.length : Int) xs = ([], 0, 3) := by
  intro ls
  induction ls with
  | nil =>
    intro pre xs f k _ hle hf hk hs
    obtain ⟨f, rfl⟩ : ∃ g, f = g + 1 := ⟨f - 1, by simp at hle; omega⟩
    have h := take_cut s pre [] k (by simpa [body] using hs) (by simpa [body] using hk) (fun c h => by simp at h) (by simp)
    rw [headR_err f s _ xs (by rw [h]; decide), h]
  | cons x t ih =>
    intro pre xs f k hg hle hf hk hs
    obtain ⟨hx0, hxp, hxl⟩ := hg x (List.mem_cons_self ..)
    obtain ⟨f, rfl⟩ : ∃ g, f = g + 1 := ⟨f - 1, by simp at hle; omega⟩
    have hb : body (x :: t) ++ [13, 10] = (x ++ [13, 10]) ++ (body t ++ [13, 10]) := by simp [body]
    rw [hb] at hs
    by_cases hkx : k < x.length + 2
    · rw [List.take_append_of_le_length (by simp; omega)] at hs
      have h := take_cut s pre x k hs hkx hxp hxl
      rw [headR_err f s _ xs (by rw [h]; decide), h]
    · have hlen : (x ++ [13, 10]).length ≤ k := by simp; omega
      rw [List.take_append, List.take_of_length_le hlen] at hs
      have hs' : s.data.toList = pre ++ (x ++ 13 :: 10 :: (body t ++ [13, 10]).take (k - (x ++ [13, 10]).length)) := by rw [hs]; simp
      obtain ⟨h1, h2, h3⟩ := take_line s pre x _ hs' hxp hxl
      rw [headR_more f s _ xs h1 (by rw [h2, isEmpty_bs]; cases x <;> simp_all) (by simp at hle; omega), h3, h2, bs_data]
      exact ih (pre ++ (x ++ [13, 10])) (xs ++ [x]) f (k - (x ++ [13, 10]).length) (fun y hy => hg y (List.mem_cons_of_mem _ hy)) (by simp at hle ⊢; omega) (by simp; omega) (by simp [body] at hk ⊢; omega) (by rw [hs]; simp)

theorem putErr_good (x : List UInt8) (h : putErr x = 0) : plainL x ∧ x.length ≤ 256 := by
  unfold putErr at h
  split at h
  · cases h
  · rename_i h1
    split at h
    · cases h
    · refine ⟨fun c hc => ?_, by omega⟩
      have h2 : (x.all fun c => plainB c.toNat) = true := by simpa using h1
      exact List.all_eq_true.1 h2 c hc
theorem putLine_bs (x : List UInt8) (h : putErr x = 0) : putLine (bs x) = bs (x ++ [13, 10]) := by
  unfold putLine
  rw [bs_data, if_pos h]
  have : (bs x ++ ⟨#[13, 10]⟩ : ByteArray).data.toList = x ++ [13, 10] := by simp [bs]
  rw [← this, bs_self]
theorem putLine_bad (x : List UInt8) (h : putErr x ≠ 0) : putLine (bs x) = ⟨#[]⟩ := by
  unfold putLine
  rw [bs_data, if_neg h]
end Go.Proofs.YthcomjhpjlcpdaaGreatDoor
namespace Go.Proofs.YthcomjhpjlcpdaaGreatDoor
open Go.RowKit

def reasonOf (code : Int) : ByteArray :=
  if code = 200 then ⟨#[79, 75]⟩ else if code = 206 then ⟨#[80, 97, 114, 116, 105, 97, 108, 32, 67, 111, 110, 116, 101, 110, 116]⟩
  else if code = 400 then ⟨#[66, 97, 100, 32, 82, 101, 113, 117, 101, 115, 116]⟩ else if code = 404 then ⟨#[78, 111, 116, 32, 70, 111, 117, 110, 100]⟩
  else if code = 416 then ⟨#[82, 97, 110, 103, 101, 32, 78, 111, 116, 32, 83, 97, 116, 105, 115, 102, 105, 97, 98, 108, 101]⟩
  else if code = 502 then ⟨#[66, 97, 100, 32, 71, 97, 116, 101, 119, 97, 121]⟩ else ⟨#[79, 116, 104, 101, 114]⟩
def classOf (code : Int) : Int := if code < 100 ∨ 599 < code then 0 else code / 100
def isDigitB (c : UInt8) : Bool := decide (48 ≤ c.toNat) && decide (c.toNat ≤ 57)
def versionL : List UInt8 := [72, 84, 84, 80, 47, 49, 46, 49, 32]
/-- the code of a status line, from what stands behind the version. -/
def codeOf (r : List UInt8) : Int × Nat := match r with
  | a :: b :: c :: t => if t ≠ [] ∧ t.head? ≠ some 32 then (0, 4) else if (isDigitB a && isDigitB b && isDigitB c) = false then (0, 4)
      else if classOf (100 * ((a.toNat : Int) - 48) + 10 * ((b.toNat : Int) - 48) + ((c.toNat : Int) - 48)) = 0 then (0, 4)
      else (100 * ((a.toNat : Int) - 48) + 10 * ((b.toNat : Int) - 48) + ((c.toNat : Int) - 48), 0)
  | _ => (0, 4)
def statusOf (l : List UInt8) : Int × Nat := if putErr l = 4 then (0, 4) else if versionL.isPrefixOf l = false then (0, 13) else codeOf (l.drop 9)
theorem reason_size (code : Int) : (reasonOf code).size ≤ 21 := by
  unfold reasonOf
  repeat' split
  all_goals decide
theorem class_out (code : Int) (h : code < 100 ∨ 599 < code) : classOf code = 0 := if_pos h
theorem class_in (code : Int) (h1 : 100 ≤ code) (h2 : code ≤ 599) : classOf code = code / 100 := if_neg (by omega)
theorem class_pos (code : Int) (h1 : 100 ≤ code) (h2 : code ≤ 599) : 1 ≤ classOf code ∧ classOf code ≤ 5 := by rw [class_in code h1 h2]; omega
theorem class_iff (code : Int) : classOf code = 0 ↔ (code < 100 ∨ 599 < code) := by
  constructor
  · intro h
    rcases Classical.em (code < 100 ∨ 599 < code) with h' | h'
    · exact h'
    · have := class_pos code (by omega) (by omega); omega
  · exact class_out code
/-- the first line of a code, laid. -/
def statusLine (code : Int) : ByteArray := (⟨versionL.toArray⟩ ++ ⟨(Go.Lib.itoa code).toArray⟩ ++ ⟨#[32]⟩) ++ reasonOf code
def printOf (code : Int) : ByteArray := if classOf code = 0 then ⟨#[]⟩ else statusLine code
def printErr (code : Int) : Nat := if classOf code = 0 then 8 else 0
end Go.Proofs.YthcomjhpjlcpdaaGreatDoor
namespace Go.Proofs
open Go.Shelf
def Tryz.lays162_ren : Go.Shelf.Ren := ⟨fun | 162 => 88 | 232 => 112 | 227 => 113 | 234 => 115 | 236 => 117 | 228 => 133 | 271 => 136 | 151 => 135 | 120 => 157 | 197 => 134 | 152 => 156 | 260 => 155 | 137 => 173 | 119 => 174 | 224 => 175 | 225 => 176 | 217 => 184 | 266 => 198 | n => n, fun | 9 => 9 | 4 => 4 | 3 => 3 | 5 => 5 | 117 => 166 | 116 => 165 | 0 => 0 | 124 => 169 | 21 => 21 | 105 => 182 | 46 => 240 | 119 => 242 | 139 => 245 | 138 => 244 | n => n, fun | 3 => 1 | 4 => 2 | n => n⟩
theorem Tryz.lays162 : Go.Proofs.Lays.n162 Tryz.prog Tryz.lays162_ren := {
  mixed := by kernel_rfl
  f119 := Tryz.func174.trans (congrArg some (by kernel_rfl))
  f120 := Tryz.func157.trans (congrArg some (by kernel_rfl))
  f137 := Tryz.func173.trans (congrArg some (by kernel_rfl))
  f151 := Tryz.func135.trans (congrArg some (by kernel_rfl))
  f152 := Tryz.func156.trans (congrArg some (by kernel_rfl))
  f162 := Tryz.func88.trans (congrArg some (by kernel_rfl))
  f197 := Tryz.func134.trans (congrArg some (by kernel_rfl))
  f217 := Tryz.func184.trans (congrArg some (by kernel_rfl))
  f224 := Tryz.func175.trans (congrArg some (by kernel_rfl))
  f225 := Tryz.func176.trans (congrArg some (by kernel_rfl))
  f227 := Tryz.func113.trans (congrArg some (by kernel_rfl))
  f228 := Tryz.func133.trans (congrArg some (by kernel_rfl))
  f232 := Tryz.func112.trans (congrArg some (by kernel_rfl))
  f234 := Tryz.func115.trans (congrArg some (by kernel_rfl))
  f236 := Tryz.func117.trans (congrArg some (by kernel_rfl))
  f260 := Tryz.func155.trans (congrArg some (by kernel_rfl))
  f266 := Tryz.func198.trans (congrArg some (by kernel_rfl))
  f271 := Tryz.func136.trans (congrArg some (by kernel_rfl))
  t0 := Tryz.underlying0
  a0 := Tryz.isAgg0
  z0 := Tryz.sizeOf0
  v0 := Tryz.zeroValue0
  t3 := Tryz.underlying3
  a3 := Tryz.isAgg3
  z3 := Tryz.sizeOf3
  v3 := Tryz.zeroValue3
  t4 := Tryz.underlying4
  a4 := Tryz.isAgg4
  z4 := Tryz.sizeOf4
  v4 := Tryz.zeroValue4
  t5 := Tryz.underlying5
  a5 := Tryz.isAgg5
  z5 := Tryz.sizeOf5
  v5 := Tryz.zeroValue5
  t9 := Tryz.underlying9
  a9 := Tryz.isAgg9
  z9 := Tryz.sizeOf9
  v9 := Tryz.zeroValue9
  t21 := Tryz.underlying21
  a21 := Tryz.isAgg21
  z21 := Tryz.sizeOf21
  v21 := Tryz.zeroValue21
  t46 := Tryz.underlying240
  a46 := Tryz.isAgg240
  z46 := Tryz.sizeOf240
  v46 := Tryz.zeroValue240
  t105 := Tryz.underlying182
  a105 := Tryz.isAgg182
  z105 := Tryz.sizeOf182
  v105 := Tryz.zeroValue182
  t116 := Tryz.underlying165
  a116 := Tryz.isAgg165
  z116 := Tryz.sizeOf165
  t117 := Tryz.underlying166
  a117 := Tryz.isAgg166
  z117 := Tryz.sizeOf166
  v117 := Tryz.zeroValue166
  t119 := Tryz.underlying242
  a119 := Tryz.isAgg242
  z119 := Tryz.sizeOf242
  t124 := Tryz.underlying169
  a124 := Tryz.isAgg169
  z124 := Tryz.sizeOf169
  v124 := Tryz.zeroValue169
  t138 := Tryz.underlying244
  a138 := Tryz.isAgg244
  z138 := Tryz.sizeOf244
  v138 := Tryz.zeroValue244
  t139 := Tryz.underlying245
  a139 := Tryz.isAgg245
  z139 := Tryz.sizeOf245
  v139 := Tryz.zeroValue245
  g3 := by kernel_rfl
  g4 := by kernel_rfl }
def Tryz.lays160_ren : Go.Shelf.Ren := ⟨fun | 160 => 87 | 232 => 112 | 231 => 111 | 227 => 113 | 234 => 115 | 233 => 114 | 236 => 117 | 235 => 116 | 228 => 133 | 271 => 136 | 151 => 135 | 197 => 134 | 120 => 157 | 152 => 156 | 260 => 155 | 137 => 173 | 119 => 174 | 224 => 175 | 225 => 176 | 217 => 184 | 266 => 198 | n => n, fun | 9 => 9 | 4 => 4 | 3 => 3 | 5 => 5 | 117 => 166 | 116 => 165 | 0 => 0 | 124 => 169 | 21 => 21 | 105 => 182 | 46 => 240 | 119 => 242 | 139 => 245 | 138 => 244 | n => n, fun | 3 => 1 | 4 => 2 | n => n⟩
theorem Tryz.lays160 : Go.Proofs.Lays.n160 Tryz.prog Tryz.lays160_ren := {
  mixed := by kernel_rfl
  f119 := Tryz.func174.trans (congrArg some (by kernel_rfl))
  f120 := Tryz.func157.trans (congrArg some (by kernel_rfl))
  f137 := Tryz.func173.trans (congrArg some (by kernel_rfl))
  f151 := Tryz.func135.trans (congrArg some (by kernel_rfl))
  f152 := Tryz.func156.trans (congrArg some (by kernel_rfl))
  f160 := Tryz.func87.trans (congrArg some (by kernel_rfl))
  f197 := Tryz.func134.trans (congrArg some (by kernel_rfl))
  f217 := Tryz.func184.trans (congrArg some (by kernel_rfl))
  f224 := Tryz.func175.trans (congrArg some (by kernel_rfl))
  f225 := Tryz.func176.trans (congrArg some (by kernel_rfl))
  f227 := Tryz.func113.trans (congrArg some (by kernel_rfl))
  f228 := Tryz.func133.trans (congrArg some (by kernel_rfl))
  f231 := Tryz.func111.trans (congrArg some (by kernel_rfl))
  f232 := Tryz.func112.trans (congrArg some (by kernel_rfl))
  f233 := Tryz.func114.trans (congrArg some (by kernel_rfl))
  f234 := Tryz.func115.trans (congrArg some (by kernel_rfl))
  f235 := Tryz.func116.trans (congrArg some (by kernel_rfl))
  f236 := Tryz.func117.trans (congrArg some (by kernel_rfl))
  f260 := Tryz.func155.trans (congrArg some (by kernel_rfl))
  f266 := Tryz.func198.trans (congrArg some (by kernel_rfl))
  f271 := Tryz.func136.trans (congrArg some (by kernel_rfl))
  t0 := Tryz.underlying0
  a0 := Tryz.isAgg0
  z0 := Tryz.sizeOf0
  v0 := Tryz.zeroValue0
  t3 := Tryz.underlying3
  a3 := Tryz.isAgg3
  z3 := Tryz.sizeOf3
  v3 := Tryz.zeroValue3
  t4 := Tryz.underlying4
  a4 := Tryz.isAgg4
  z4 := Tryz.sizeOf4
  v4 := Tryz.zeroValue4
  t5 := Tryz.underlying5
  a5 := Tryz.isAgg5
  z5 := Tryz.sizeOf5
  v5 := Tryz.zeroValue5
  t9 := Tryz.underlying9
  a9 := Tryz.isAgg9
  z9 := Tryz.sizeOf9
  v9 := Tryz.zeroValue9
  t21 := Tryz.underlying21
  a21 := Tryz.isAgg21
  z21 := Tryz.sizeOf21
  v21 := Tryz.zeroValue21
  t46 := Tryz.underlying240
  a46 := Tryz.isAgg240
  z46 := Tryz.sizeOf240
  v46 := Tryz.zeroValue240
  t105 := Tryz.underlying182
  a105 := Tryz.isAgg182
  z105 := Tryz.sizeOf182
  v105 := Tryz.zeroValue182
  t116 := Tryz.underlying165
  a116 := Tryz.isAgg165
  z116 := Tryz.sizeOf165
  t117 := Tryz.underlying166
  a117 := Tryz.isAgg166
  z117 := Tryz.sizeOf166
  v117 := Tryz.zeroValue166
  t119 := Tryz.underlying242
  a119 := Tryz.isAgg242
  z119 := Tryz.sizeOf242
  t124 := Tryz.underlying169
  a124 := Tryz.isAgg169
  z124 := Tryz.sizeOf169
  v124 := Tryz.zeroValue169
  t138 := Tryz.underlying244
  a138 := Tryz.isAgg244
  z138 := Tryz.sizeOf244
  v138 := Tryz.zeroValue244
  t139 := Tryz.underlying245
  a139 := Tryz.isAgg245
  z139 := Tryz.sizeOf245
  v139 := Tryz.zeroValue245
  g3 := by kernel_rfl
  g4 := by kernel_rfl }
def Tryz.lays103_ren : Go.Shelf.Ren := ⟨fun | 103 => 145 | 210 => 162 | 206 => 105 | n => n, fun | 9 => 9 | 4 => 4 | 24 => 198 | 3 => 3 | n => n, fun | n => n⟩
theorem Tryz.lays103 : Go.Proofs.Lays.n103 Tryz.prog Tryz.lays103_ren := {
  mixed := by kernel_rfl
  f103 := Tryz.func145.trans (congrArg some (by kernel_rfl))
  f206 := Tryz.func105.trans (congrArg some (by kernel_rfl))
  f210 := Tryz.func162.trans (congrArg some (by kernel_rfl))
  t3 := Tryz.underlying3
  a3 := Tryz.isAgg3
  z3 := Tryz.sizeOf3
  v3 := Tryz.zeroValue3
  t4 := Tryz.underlying4
  a4 := Tryz.isAgg4
  z4 := Tryz.sizeOf4
  v4 := Tryz.zeroValue4
  t9 := Tryz.underlying9
  a9 := Tryz.isAgg9
  z9 := Tryz.sizeOf9
  v9 := Tryz.zeroValue9
  t24 := Tryz.underlying198
  a24 := Tryz.isAgg198
  z24 := Tryz.sizeOf198
  v24 := Tryz.zeroValue198 }
open Go.RowKit in
theorem Tryz.strings_CutPrefix (s p : ByteArray) (w : World) :
    Calls Tryz.prog 145 #[.string s, .string p] w fun e w' => e = .returned (.tuple #[.string ⟨(Lib.trimPrefix s.data.toList p.data.toList).toArray⟩, .bool (Lib.hasPrefix s.data.toList p.data.toList)]) ∧ w' = w := Any.strings_CutPrefix Tryz.lays103 s p w
def Tryz.lays172_ren : Go.Shelf.Ren := ⟨fun | 172 => 183 | 244 => 196 | 245 => 197 | 247 => 206 | 279 => 207 | 280 => 208 | 281 => 209 | 282 => 210 | 287 => 220 | 316 => 221 | 171 => 81 | 205 => 222 | 321 => 230 | 322 => 231 | 243 => 107 | 246 => 129 | 283 => 151 | 284 => 152 | 285 => 153 | 286 => 154 | 129 => 169 | 317 => 168 | 318 => 170 | 319 => 171 | 320 => 172 | 337 => 192 | 338 => 193 | n => n, fun | 9 => 9 | 3 => 3 | 75 => 191 | 76 => 192 | 4 => 4 | 5 => 5 | 167 => 286 | 37 => 136 | 0 => 0 | 85 => 287 | 2 => 2 | 168 => 289 | 53 => 222 | 175 => 301 | 46 => 240 | 210 => 304 | 127 => 229 | 145 => 311 | 143 => 309 | 21 => 21 | 171 => 221 | 173 => 225 | 212 => 237 | 51 => 205 | 20 => 20 | 213 => 238 | 232 => 284 | 233 => 285 | 80 => 196 | n => n, fun | 15 => 6 | 16 => 7 | 17 => 0 | 18 => 4 | 19 => 5 | n => n⟩
theorem Tryz.lays172 : Go.Proofs.Lays.n172 Tryz.prog Tryz.lays172_ren := {
  mixed := by kernel_rfl
  f129 := Tryz.func169.trans (congrArg some (by kernel_rfl))
  f171 := Tryz.func81.trans (congrArg some (by kernel_rfl))
  f172 := Tryz.func183.trans (congrArg some (by kernel_rfl))
  f205 := Tryz.func222.trans (congrArg some (by kernel_rfl))
  f243 := Tryz.func107.trans (congrArg some (by kernel_rfl))
  f244 := Tryz.func196.trans (congrArg some (by kernel_rfl))
  f245 := Tryz.func197.trans (congrArg some (by kernel_rfl))
  f246 := Tryz.func129.trans (congrArg some (by kernel_rfl))
  f247 := Tryz.func206.trans (congrArg some (by kernel_rfl))
  f279 := Tryz.func207.trans (congrArg some (by kernel_rfl))
  f280 := Tryz.func208.trans (congrArg some (by kernel_rfl))
  f281 := Tryz.func209.trans (congrArg some (by kernel_rfl))
  f282 := Tryz.func210.trans (congrArg some (by kernel_rfl))
  f283 := Tryz.func151.trans (congrArg some (by kernel_rfl))
  f284 := Tryz.func152.trans (congrArg some (by kernel_rfl))
  f285 := Tryz.func153.trans (congrArg some (by kernel_rfl))
  f286 := Tryz.func154.trans (congrArg some (by kernel_rfl))
  f287 := Tryz.func220.trans (congrArg some (by kernel_rfl))
  f316 := Tryz.func221.trans (congrArg some (by kernel_rfl))
  f317 := Tryz.func168.trans (congrArg some (by kernel_rfl))
  f318 := Tryz.func170.trans (congrArg some (by kernel_rfl))
  f319 := Tryz.func171.trans (congrArg some (by kernel_rfl))
  f320 := Tryz.func172.trans (congrArg some (by kernel_rfl))
  f321 := Tryz.func230.trans (congrArg some (by kernel_rfl))
  f322 := Tryz.func231.trans (congrArg some (by kernel_rfl))
  f337 := Tryz.func192.trans (congrArg some (by kernel_rfl))
  f338 := Tryz.func193.trans (congrArg some (by kernel_rfl))
  t0 := Tryz.underlying0
  a0 := Tryz.isAgg0
  z0 := Tryz.sizeOf0
  v0 := Tryz.zeroValue0
  t2 := Tryz.underlying2
  a2 := Tryz.isAgg2
  z2 := Tryz.sizeOf2
  v2 := Tryz.zeroValue2
  t3 := Tryz.underlying3
  a3 := Tryz.isAgg3
  z3 := Tryz.sizeOf3
  v3 := Tryz.zeroValue3
  t4 := Tryz.underlying4
  a4 := Tryz.isAgg4
  z4 := Tryz.sizeOf4
  v4 := Tryz.zeroValue4
  t5 := Tryz.underlying5
  a5 := Tryz.isAgg5
  z5 := Tryz.sizeOf5
  v5 := Tryz.zeroValue5
  t9 := Tryz.underlying9
  a9 := Tryz.isAgg9
  z9 := Tryz.sizeOf9
  v9 := Tryz.zeroValue9
  t20 := Tryz.underlying20
  a20 := Tryz.isAgg20
  z20 := Tryz.sizeOf20
  v20 := Tryz.zeroValue20
  t21 := Tryz.underlying21
  a21 := Tryz.isAgg21
  z21 := Tryz.sizeOf21
  v21 := Tryz.zeroValue21
  t37 := Tryz.underlying136
  a37 := Tryz.isAgg136
  z37 := Tryz.sizeOf136
  v37 := Tryz.zeroValue136
  t46 := Tryz.underlying240
  a46 := Tryz.isAgg240
  z46 := Tryz.sizeOf240
  v46 := Tryz.zeroValue240
  t51 := Tryz.underlying205
  a51 := Tryz.isAgg205
  z51 := Tryz.sizeOf205
  v51 := Tryz.zeroValue205
  t53 := Tryz.underlying222
  a53 := Tryz.isAgg222
  z53 := Tryz.sizeOf222
  v53 := Tryz.zeroValue222
  t75 := Tryz.underlying191
  a75 := Tryz.isAgg191
  z75 := Tryz.sizeOf191
  v75 := Tryz.zeroValue191
  t76 := Tryz.underlying192
  a76 := Tryz.isAgg192
  z76 := Tryz.sizeOf192
  v76 := Tryz.zeroValue192
  t85 := Tryz.underlying287
  a85 := Tryz.isAgg287
  z85 := Tryz.sizeOf287
  v85 := Tryz.zeroValue287
  t127 := Tryz.underlying229
  a127 := Tryz.isAgg229
  z127 := Tryz.sizeOf229
  v127 := Tryz.zeroValue229
  t143 := Tryz.underlying309
  a143 := Tryz.isAgg309
  z143 := Tryz.sizeOf309
  v143 := Tryz.zeroValue309
  t145 := Tryz.underlying311
  a145 := Tryz.isAgg311
  z145 := Tryz.sizeOf311
  v145 := Tryz.zeroValue311
  t167 := Tryz.underlying286
  a167 := Tryz.isAgg286
  z167 := Tryz.sizeOf286
  v167 := Tryz.zeroValue286
  t168 := Tryz.underlying289
  a168 := Tryz.isAgg289
  z168 := Tryz.sizeOf289
  v168 := Tryz.zeroValue289
  t171 := Tryz.underlying221
  a171 := Tryz.isAgg221
  z171 := Tryz.sizeOf221
  v171 := Tryz.zeroValue221
  t173 := Tryz.underlying225
  a173 := Tryz.isAgg225
  z173 := Tryz.sizeOf225
  v173 := Tryz.zeroValue225
  t175 := Tryz.underlying301
  a175 := Tryz.isAgg301
  z175 := Tryz.sizeOf301
  v175 := Tryz.zeroValue301
  t210 := Tryz.underlying304
  a210 := Tryz.isAgg304
  z210 := Tryz.sizeOf304
  v210 := Tryz.zeroValue304
  t212 := Tryz.underlying237
  a212 := Tryz.isAgg237
  z212 := Tryz.sizeOf237
  v212 := Tryz.zeroValue237
  t213 := Tryz.underlying238
  a213 := Tryz.isAgg238
  z213 := Tryz.sizeOf238
  t232 := Tryz.underlying284
  a232 := Tryz.isAgg284
  z232 := Tryz.sizeOf284
  v232 := Tryz.zeroValue284
  t233 := Tryz.underlying285
  a233 := Tryz.isAgg285
  z233 := Tryz.sizeOf285
  v233 := Tryz.zeroValue285
  g15 := by kernel_rfl
  g16 := by kernel_rfl
  g17 := by kernel_rfl
  g18 := by kernel_rfl
  g19 := by kernel_rfl }
open Go.RowKit in
theorem Tryz.strconv_Atoi (s : ByteArray) (n : Int) (hl : s.size ≤ 18) (h : Lib.atoi s.data.toList = some n) (w : World) :
    Calls Tryz.prog 183 #[.string s] w fun e w' => e = .returned (.tuple #[.int .i64 n, .nilIface]) ∧ ∃ t, w' = Lib.bytesWorld w 5 t := Any.strconv_Atoi Tryz.lays172 s n hl h w
def Tryz.laysM171_ren : Go.Shelf.Ren := ⟨fun | 171 => 81 | 243 => 107 | 246 => 129 | 283 => 151 | 284 => 152 | 285 => 153 | 286 => 154 | 129 => 169 | 317 => 168 | 318 => 170 | 319 => 171 | 320 => 172 | 337 => 192 | 338 => 193 | n => n, fun | 3 => 3 | 9 => 9 | 2 => 2 | 4 => 4 | 171 => 221 | 0 => 0 | 53 => 222 | 37 => 136 | 5 => 5 | 173 => 225 | 212 => 237 | 51 => 205 | 20 => 20 | 213 => 238 | 46 => 240 | 232 => 284 | 233 => 285 | n => n, fun | 17 => 0 | 18 => 4 | 19 => 5 | n => n⟩
theorem Tryz.laysM171 : Go.Proofs.LaysM.n171 Tryz.prog Tryz.laysM171_ren := {
  mixed := by kernel_rfl
  f129 := Tryz.func169.trans (congrArg some (by kernel_rfl))
  f171 := Tryz.func81.trans (congrArg some (by kernel_rfl))
  f243 := Tryz.func107.trans (congrArg some (by kernel_rfl))
  f246 := Tryz.func129.trans (congrArg some (by kernel_rfl))
  f283 := Tryz.func151.trans (congrArg some (by kernel_rfl))
  f284 := Tryz.func152.trans (congrArg some (by kernel_rfl))
  f285 := Tryz.func153.trans (congrArg some (by kernel_rfl))
  f286 := Tryz.func154.trans (congrArg some (by kernel_rfl))
  f317 := Tryz.func168.trans (congrArg some (by kernel_rfl))
  f318 := Tryz.func170.trans (congrArg some (by kernel_rfl))
  f319 := Tryz.func171.trans (congrArg some (by kernel_rfl))
  f320 := Tryz.func172.trans (congrArg some (by kernel_rfl))
  f337 := Tryz.func192.trans (congrArg some (by kernel_rfl))
  f338 := Tryz.func193.trans (congrArg some (by kernel_rfl))
  t0 := Tryz.underlying0
  a0 := Tryz.isAgg0
  z0 := Tryz.sizeOf0
  v0 := Tryz.zeroValue0
  t2 := Tryz.underlying2
  a2 := Tryz.isAgg2
  z2 := Tryz.sizeOf2
  v2 := Tryz.zeroValue2
  t3 := Tryz.underlying3
  a3 := Tryz.isAgg3
  z3 := Tryz.sizeOf3
  v3 := Tryz.zeroValue3
  t4 := Tryz.underlying4
  a4 := Tryz.isAgg4
  z4 := Tryz.sizeOf4
  v4 := Tryz.zeroValue4
  t5 := Tryz.underlying5
  a5 := Tryz.isAgg5
  z5 := Tryz.sizeOf5
  v5 := Tryz.zeroValue5
  t9 := Tryz.underlying9
  a9 := Tryz.isAgg9
  z9 := Tryz.sizeOf9
  v9 := Tryz.zeroValue9
  t20 := Tryz.underlying20
  a20 := Tryz.isAgg20
  z20 := Tryz.sizeOf20
  v20 := Tryz.zeroValue20
  t37 := Tryz.underlying136
  a37 := Tryz.isAgg136
  z37 := Tryz.sizeOf136
  v37 := Tryz.zeroValue136
  t46 := Tryz.underlying240
  a46 := Tryz.isAgg240
  z46 := Tryz.sizeOf240
  v46 := Tryz.zeroValue240
  t51 := Tryz.underlying205
  a51 := Tryz.isAgg205
  z51 := Tryz.sizeOf205
  v51 := Tryz.zeroValue205
  t53 := Tryz.underlying222
  a53 := Tryz.isAgg222
  z53 := Tryz.sizeOf222
  v53 := Tryz.zeroValue222
  t171 := Tryz.underlying221
  a171 := Tryz.isAgg221
  z171 := Tryz.sizeOf221
  v171 := Tryz.zeroValue221
  t173 := Tryz.underlying225
  a173 := Tryz.isAgg225
  z173 := Tryz.sizeOf225
  v173 := Tryz.zeroValue225
  t212 := Tryz.underlying237
  a212 := Tryz.isAgg237
  z212 := Tryz.sizeOf237
  v212 := Tryz.zeroValue237
  t213 := Tryz.underlying238
  a213 := Tryz.isAgg238
  z213 := Tryz.sizeOf238
  t232 := Tryz.underlying284
  a232 := Tryz.isAgg284
  z232 := Tryz.sizeOf284
  v232 := Tryz.zeroValue284
  t233 := Tryz.underlying285
  a233 := Tryz.isAgg285
  z233 := Tryz.sizeOf285
  v233 := Tryz.zeroValue285
  g17 := by kernel_rfl
  g18 := by kernel_rfl
  g19 := by kernel_rfl
  i0 := by kernel_rfl
  i2 := by kernel_rfl
  i3 := by kernel_rfl
  i4 := by kernel_rfl
  i5 := by kernel_rfl
  i9 := by kernel_rfl
  i20 := by kernel_rfl
  i37 := by kernel_rfl
  i46 := by kernel_rfl
  i51 := by kernel_rfl
  i53 := by kernel_rfl
  i171 := by kernel_rfl
  i173 := by kernel_rfl
  i212 := by kernel_rfl
  i232 := by kernel_rfl
  i233 := by kernel_rfl
  m17 := by kernel_rfl
  m18 := by kernel_rfl
  m19 := by kernel_rfl }
open Go.RowKit Go.Sort Go.Lib in
theorem Tryz.strconv_Itoa (n : Int) (h0 : -9223372036854775808 ≤ n) (h1 : n ≤ 9223372036854775807) (w : World) (htab : Lib.TabIs Tryz.prog w "internal/strconv.uint64pow10" .u64 Lib.pow10Tab) :
    Calls Tryz.prog 81 #[.int .i64 n] w fun e w' => e = .returned (.string ⟨(Lib.itoa n).toArray⟩) ∧ ∃ k os, w' = grow (w.drewN k) os := Any.strconv_Itoa Tryz.laysM171 n h0 h1 w htab
def Tryz.laysM316_ren : Go.Shelf.Ren := ⟨fun | 316 => 221 | n => n, fun | 9 => 9 | 3 => 3 | 4 => 4 | 37 => 136 | 0 => 0 | 127 => 229 | 5 => 5 | n => n, fun | n => n⟩
theorem Tryz.laysM316 : Go.Proofs.LaysM.n316 Tryz.prog Tryz.laysM316_ren := {
  mixed := by kernel_rfl
  f316 := Tryz.func221.trans (congrArg some (by kernel_rfl))
  t0 := Tryz.underlying0
  a0 := Tryz.isAgg0
  z0 := Tryz.sizeOf0
  v0 := Tryz.zeroValue0
  t3 := Tryz.underlying3
  a3 := Tryz.isAgg3
  z3 := Tryz.sizeOf3
  v3 := Tryz.zeroValue3
  t4 := Tryz.underlying4
  a4 := Tryz.isAgg4
  z4 := Tryz.sizeOf4
  v4 := Tryz.zeroValue4
  t9 := Tryz.underlying9
  a9 := Tryz.isAgg9
  z9 := Tryz.sizeOf9
  v9 := Tryz.zeroValue9
  t37 := Tryz.underlying136
  a37 := Tryz.isAgg136
  z37 := Tryz.sizeOf136
  v37 := Tryz.zeroValue136
  t127 := Tryz.underlying229
  a127 := Tryz.isAgg229
  z127 := Tryz.sizeOf229
  v127 := Tryz.zeroValue229
  t5 := Tryz.underlying5
  a5 := Tryz.isAgg5
  z5 := Tryz.sizeOf5
  v5 := Tryz.zeroValue5
  i0 := by kernel_rfl
  i3 := by kernel_rfl
  i4 := by kernel_rfl
  i5 := by kernel_rfl
  i9 := by kernel_rfl
  i37 := by kernel_rfl
  i127 := by kernel_rfl }
open Go.RowKit in
theorem Tryz.stringslite_Clone (s : ByteArray) (w : World) (hlim : s.size ≤ 281474976710656) :
    Calls Tryz.prog 221 #[.string s] w fun e w' => e = .returned (.string s) ∧ Below w.heap.size w w' := Any.stringslite_Clone Tryz.laysM316 s w hlim
def Tryz.laysC172_ren : Go.Shelf.Ren := ⟨fun | 172 => 183 | 244 => 196 | 245 => 197 | 247 => 206 | 279 => 207 | 280 => 208 | 281 => 209 | 282 => 210 | 287 => 220 | 316 => 221 | 171 => 81 | 205 => 222 | 321 => 230 | 322 => 231 | 243 => 107 | 246 => 129 | 283 => 151 | 284 => 152 | 285 => 153 | 286 => 154 | 129 => 169 | 317 => 168 | 318 => 170 | 319 => 171 | 320 => 172 | 337 => 192 | 338 => 193 | n => n, fun | 9 => 9 | 3 => 3 | 75 => 191 | 76 => 192 | 4 => 4 | 5 => 5 | 167 => 286 | 37 => 136 | 0 => 0 | 85 => 287 | 2 => 2 | 168 => 289 | 53 => 222 | 175 => 301 | 46 => 240 | 210 => 304 | 127 => 229 | 145 => 311 | 143 => 309 | 21 => 21 | 171 => 221 | 173 => 225 | 212 => 237 | 51 => 205 | 20 => 20 | 213 => 238 | 232 => 284 | 233 => 285 | 80 => 196 | n => n, fun | 15 => 6 | 16 => 7 | 17 => 0 | 18 => 4 | 19 => 5 | n => n⟩
theorem Tryz.laysC172 : Go.Proofs.LaysC.n172 Tryz.prog Tryz.laysC172_ren := {
  mixed := by kernel_rfl
  f129 := Tryz.func169.trans (congrArg some (by kernel_rfl))
  f171 := Tryz.func81.trans (congrArg some (by kernel_rfl))
  f172 := Tryz.func183.trans (congrArg some (by kernel_rfl))
  f205 := Tryz.func222.trans (congrArg some (by kernel_rfl))
  f243 := Tryz.func107.trans (congrArg some (by kernel_rfl))
  f244 := Tryz.func196.trans (congrArg some (by kernel_rfl))
  f245 := Tryz.func197.trans (congrArg some (by kernel_rfl))
  f246 := Tryz.func129.trans (congrArg some (by kernel_rfl))
  f247 := Tryz.func206.trans (congrArg some (by kernel_rfl))
  f279 := Tryz.func207.trans (congrArg some (by kernel_rfl))
  f280 := Tryz.func208.trans (congrArg some (by kernel_rfl))
  f281 := Tryz.func209.trans (congrArg some (by kernel_rfl))
  f282 := Tryz.func210.trans (congrArg some (by kernel_rfl))
  f283 := Tryz.func151.trans (congrArg some (by kernel_rfl))
  f284 := Tryz.func152.trans (congrArg some (by kernel_rfl))
  f285 := Tryz.func153.trans (congrArg some (by kernel_rfl))
  f286 := Tryz.func154.trans (congrArg some (by kernel_rfl))
  f287 := Tryz.func220.trans (congrArg some (by kernel_rfl))
  f316 := Tryz.func221.trans (congrArg some (by kernel_rfl))
  f317 := Tryz.func168.trans (congrArg some (by kernel_rfl))
  f318 := Tryz.func170.trans (congrArg some (by kernel_rfl))
  f319 := Tryz.func171.trans (congrArg some (by kernel_rfl))
  f320 := Tryz.func172.trans (congrArg some (by kernel_rfl))
  f321 := Tryz.func230.trans (congrArg some (by kernel_rfl))
  f322 := Tryz.func231.trans (congrArg some (by kernel_rfl))
  f337 := Tryz.func192.trans (congrArg some (by kernel_rfl))
  f338 := Tryz.func193.trans (congrArg some (by kernel_rfl))
  t0 := Tryz.underlying0
  a0 := Tryz.isAgg0
  z0 := Tryz.sizeOf0
  v0 := Tryz.zeroValue0
  t2 := Tryz.underlying2
  a2 := Tryz.isAgg2
  z2 := Tryz.sizeOf2
  v2 := Tryz.zeroValue2
  t3 := Tryz.underlying3
  a3 := Tryz.isAgg3
  z3 := Tryz.sizeOf3
  v3 := Tryz.zeroValue3
  t4 := Tryz.underlying4
  a4 := Tryz.isAgg4
  z4 := Tryz.sizeOf4
  v4 := Tryz.zeroValue4
  t5 := Tryz.underlying5
  a5 := Tryz.isAgg5
  z5 := Tryz.sizeOf5
  v5 := Tryz.zeroValue5
  t9 := Tryz.underlying9
  a9 := Tryz.isAgg9
  z9 := Tryz.sizeOf9
  v9 := Tryz.zeroValue9
  t20 := Tryz.underlying20
  a20 := Tryz.isAgg20
  z20 := Tryz.sizeOf20
  v20 := Tryz.zeroValue20
  t21 := Tryz.underlying21
  a21 := Tryz.isAgg21
  z21 := Tryz.sizeOf21
  v21 := Tryz.zeroValue21
  t37 := Tryz.underlying136
  a37 := Tryz.isAgg136
  z37 := Tryz.sizeOf136
  v37 := Tryz.zeroValue136
  t46 := Tryz.underlying240
  a46 := Tryz.isAgg240
  z46 := Tryz.sizeOf240
  v46 := Tryz.zeroValue240
  t51 := Tryz.underlying205
  a51 := Tryz.isAgg205
  z51 := Tryz.sizeOf205
  v51 := Tryz.zeroValue205
  t53 := Tryz.underlying222
  a53 := Tryz.isAgg222
  z53 := Tryz.sizeOf222
  v53 := Tryz.zeroValue222
  t75 := Tryz.underlying191
  a75 := Tryz.isAgg191
  z75 := Tryz.sizeOf191
  v75 := Tryz.zeroValue191
  t76 := Tryz.underlying192
  a76 := Tryz.isAgg192
  z76 := Tryz.sizeOf192
  v76 := Tryz.zeroValue192
  t85 := Tryz.underlying287
  a85 := Tryz.isAgg287
  z85 := Tryz.sizeOf287
  v85 := Tryz.zeroValue287
  t127 := Tryz.underlying229
  a127 := Tryz.isAgg229
  z127 := Tryz.sizeOf229
  v127 := Tryz.zeroValue229
  t143 := Tryz.underlying309
  a143 := Tryz.isAgg309
  z143 := Tryz.sizeOf309
  v143 := Tryz.zeroValue309
  t145 := Tryz.underlying311
  a145 := Tryz.isAgg311
  z145 := Tryz.sizeOf311
  v145 := Tryz.zeroValue311
  t167 := Tryz.underlying286
  a167 := Tryz.isAgg286
  z167 := Tryz.sizeOf286
  v167 := Tryz.zeroValue286
  t168 := Tryz.underlying289
  a168 := Tryz.isAgg289
  z168 := Tryz.sizeOf289
  v168 := Tryz.zeroValue289
  t171 := Tryz.underlying221
  a171 := Tryz.isAgg221
  z171 := Tryz.sizeOf221
  v171 := Tryz.zeroValue221
  t173 := Tryz.underlying225
  a173 := Tryz.isAgg225
  z173 := Tryz.sizeOf225
  v173 := Tryz.zeroValue225
  t175 := Tryz.underlying301
  a175 := Tryz.isAgg301
  z175 := Tryz.sizeOf301
  v175 := Tryz.zeroValue301
  t210 := Tryz.underlying304
  a210 := Tryz.isAgg304
  z210 := Tryz.sizeOf304
  v210 := Tryz.zeroValue304
  t212 := Tryz.underlying237
  a212 := Tryz.isAgg237
  z212 := Tryz.sizeOf237
  v212 := Tryz.zeroValue237
  t213 := Tryz.underlying238
  a213 := Tryz.isAgg238
  z213 := Tryz.sizeOf238
  t232 := Tryz.underlying284
  a232 := Tryz.isAgg284
  z232 := Tryz.sizeOf284
  v232 := Tryz.zeroValue284
  t233 := Tryz.underlying285
  a233 := Tryz.isAgg285
  z233 := Tryz.sizeOf285
  v233 := Tryz.zeroValue285
  g15 := by kernel_rfl
  g16 := by kernel_rfl
  g17 := by kernel_rfl
  g18 := by kernel_rfl
  g19 := by kernel_rfl
  t80 := Tryz.underlying196
  a80 := Tryz.isAgg196
  z80 := Tryz.sizeOf196
  v80 := Tryz.zeroValue196
  i0 := by kernel_rfl
  i2 := by kernel_rfl
  i3 := by kernel_rfl
  i4 := by kernel_rfl
  i5 := by kernel_rfl
  i9 := by kernel_rfl
  i20 := by kernel_rfl
  i21 := by kernel_rfl
  i37 := by kernel_rfl
  i46 := by kernel_rfl
  i51 := by kernel_rfl
  i53 := by kernel_rfl
  i75 := by kernel_rfl
  i76 := by kernel_rfl
  i80 := by kernel_rfl
  i85 := by kernel_rfl
  i127 := by kernel_rfl
  i143 := by kernel_rfl
  i145 := by kernel_rfl
  i167 := by kernel_rfl
  i168 := by kernel_rfl
  i171 := by kernel_rfl
  i173 := by kernel_rfl
  i175 := by kernel_rfl
  i210 := by kernel_rfl
  i212 := by kernel_rfl
  i232 := by kernel_rfl
  i233 := by kernel_rfl
  m15 := by kernel_rfl
  m16 := by kernel_rfl
  m17 := by kernel_rfl
  m18 := by kernel_rfl
  m19 := by kernel_rfl
  c0 := by kernel_rfl
  c2 := by kernel_rfl
  c3 := by kernel_rfl
  c4 := by kernel_rfl
  c5 := by kernel_rfl
  c9 := by kernel_rfl
  c20 := by kernel_rfl
  c21 := by kernel_rfl
  c37 := by kernel_rfl
  c46 := by kernel_rfl
  c51 := by kernel_rfl
  c53 := by kernel_rfl
  c75 := by kernel_rfl
  c76 := by kernel_rfl
  c80 := by kernel_rfl
  c85 := by kernel_rfl
  c127 := by kernel_rfl
  c143 := by kernel_rfl
  c145 := by kernel_rfl
  c167 := by kernel_rfl
  c168 := by kernel_rfl
  c171 := by kernel_rfl
  c173 := by kernel_rfl
  c175 := by kernel_rfl
  c210 := by kernel_rfl
  c212 := by kernel_rfl
  c213 := by kernel_rfl
  c232 := by kernel_rfl
  c233 := by kernel_rfl }
open Go.RowKit in
theorem Tryz.strconv_Atoi_ok (s : ByteArray) (hmax : s.size ≤ 9223372036854775806) (v : Int) (h : Lib.atoiAll s.data.toList = .ok v) (w : World) :
    Calls Tryz.prog 183 #[.string s] w fun e w' => e = .returned (.tuple #[.int .i64 v, .nilIface]) ∧ (w' = w ∨ ∃ t, w' = Lib.bytesWorld w 5 t) := Any.strconv_Atoi_ok Tryz.laysC172 s hmax v h w
open Go.RowKit in
theorem Tryz.strconv_Atoi_range (s : ByteArray) (hlim : s.size ≤ 281474976710656) (h : Lib.atoiAll s.data.toList = .range) (ev : Value) (w : World) (hv : w.cell? ⟨7, 0, none⟩ = some ev) (hev : ev = .nilIface ∨ ∃ te pe, ev = .iface te pe) :
    Calls Tryz.prog 183 #[.string s] w fun e w' => ∃ N, e = .returned (.tuple #[.int .i64 (Lib.atoiSat s.data.toList), .iface 289 (.pointer (some ⟨N, 0, none⟩))]) ∧ w.heap.size ≤ N ∧ w'.heap[N]? = some (.cells #[.string ⟨#[65, 116, 111, 105]⟩, .string s, ev] 304 (0, 0)) ∧ Below w.heap.size w w' := Any.strconv_Atoi_range Tryz.laysC172 s hlim h ev w hv hev
def Tryz.lays145_ren : Go.Shelf.Ren := ⟨fun | 145 => 123 | 220 => 147 | 219 => 164 | 217 => 184 | 225 => 176 | 224 => 175 | 267 => 185 | 266 => 198 | 314 => 199 | n => n, fun | 9 => 9 | 4 => 4 | 59 => 174 | 3 => 3 | 5 => 5 | 46 => 240 | 146 => 268 | 51 => 205 | n => n, fun | 1 => 3 | n => n⟩
theorem Tryz.lays145 : Go.Proofs.Lays.n145 Tryz.prog Tryz.lays145_ren := {
  mixed := by kernel_rfl
  f145 := Tryz.func123.trans (congrArg some (by kernel_rfl))
  f217 := Tryz.func184.trans (congrArg some (by kernel_rfl))
  f219 := Tryz.func164.trans (congrArg some (by kernel_rfl))
  f220 := Tryz.func147.trans (congrArg some (by kernel_rfl))
  f224 := Tryz.func175.trans (congrArg some (by kernel_rfl))
  f225 := Tryz.func176.trans (congrArg some (by kernel_rfl))
  f266 := Tryz.func198.trans (congrArg some (by kernel_rfl))
  f267 := Tryz.func185.trans (congrArg some (by kernel_rfl))
  f314 := Tryz.func199.trans (congrArg some (by kernel_rfl))
  t3 := Tryz.underlying3
  a3 := Tryz.isAgg3
  z3 := Tryz.sizeOf3
  v3 := Tryz.zeroValue3
  t4 := Tryz.underlying4
  a4 := Tryz.isAgg4
  z4 := Tryz.sizeOf4
  v4 := Tryz.zeroValue4
  t5 := Tryz.underlying5
  a5 := Tryz.isAgg5
  z5 := Tryz.sizeOf5
  v5 := Tryz.zeroValue5
  t9 := Tryz.underlying9
  a9 := Tryz.isAgg9
  z9 := Tryz.sizeOf9
  v9 := Tryz.zeroValue9
  t46 := Tryz.underlying240
  a46 := Tryz.isAgg240
  z46 := Tryz.sizeOf240
  v46 := Tryz.zeroValue240
  t51 := Tryz.underlying205
  a51 := Tryz.isAgg205
  z51 := Tryz.sizeOf205
  v51 := Tryz.zeroValue205
  t59 := Tryz.underlying174
  a59 := Tryz.isAgg174
  z59 := Tryz.sizeOf174
  v59 := Tryz.zeroValue174
  t146 := Tryz.underlying268
  a146 := Tryz.isAgg268
  z146 := Tryz.sizeOf268
  v146 := Tryz.zeroValue268
  g1 := by kernel_rfl }
open Go.RowKit Go.Lib in
theorem Tryz.strings_Cut (s sep : ByteArray) (m : Int) (w : World) (hs : s.size < 4294967281) (hm : w.cell? ⟨3, 0, none⟩ = some (.int .i64 m)) :
    Calls Tryz.prog 123 #[.string s, .string sep] w fun e w' => e = .returned (.tuple #[.string ⟨(Lib.cut s.data.toList sep.data.toList).1.toArray⟩, .string ⟨(Lib.cut s.data.toList sep.data.toList).2.1.toArray⟩, .bool (Lib.cut s.data.toList sep.data.toList).2.2]) ∧ ∃ n, w' = w.drewN n := Any.strings_Cut Tryz.lays145 s sep m w hs hm
def Tryz.lays138_ren : Go.Shelf.Ren := ⟨fun | 138 => 181 | 195 => 194 | 218 => 195 | 143 => 182 | 219 => 164 | 217 => 184 | 225 => 176 | 224 => 175 | 267 => 185 | 266 => 198 | 314 => 199 | n => n, fun | 9 => 9 | 3 => 3 | 4 => 4 | 5 => 5 | 0 => 0 | 46 => 240 | 146 => 268 | 51 => 205 | n => n, fun | 1 => 3 | n => n⟩
theorem Tryz.lays138 : Go.Proofs.Lays.n138 Tryz.prog Tryz.lays138_ren := {
  mixed := by kernel_rfl
  f138 := Tryz.func181.trans (congrArg some (by kernel_rfl))
  f143 := Tryz.func182.trans (congrArg some (by kernel_rfl))
  f195 := Tryz.func194.trans (congrArg some (by kernel_rfl))
  f217 := Tryz.func184.trans (congrArg some (by kernel_rfl))
  f218 := Tryz.func195.trans (congrArg some (by kernel_rfl))
  f219 := Tryz.func164.trans (congrArg some (by kernel_rfl))
  f224 := Tryz.func175.trans (congrArg some (by kernel_rfl))
  f225 := Tryz.func176.trans (congrArg some (by kernel_rfl))
  f266 := Tryz.func198.trans (congrArg some (by kernel_rfl))
  f267 := Tryz.func185.trans (congrArg some (by kernel_rfl))
  f314 := Tryz.func199.trans (congrArg some (by kernel_rfl))
  t0 := Tryz.underlying0
  a0 := Tryz.isAgg0
  z0 := Tryz.sizeOf0
  v0 := Tryz.zeroValue0
  t3 := Tryz.underlying3
  a3 := Tryz.isAgg3
  z3 := Tryz.sizeOf3
  v3 := Tryz.zeroValue3
  t4 := Tryz.underlying4
  a4 := Tryz.isAgg4
  z4 := Tryz.sizeOf4
  v4 := Tryz.zeroValue4
  t5 := Tryz.underlying5
  a5 := Tryz.isAgg5
  z5 := Tryz.sizeOf5
  v5 := Tryz.zeroValue5
  t9 := Tryz.underlying9
  a9 := Tryz.isAgg9
  z9 := Tryz.sizeOf9
  v9 := Tryz.zeroValue9
  t46 := Tryz.underlying240
  a46 := Tryz.isAgg240
  z46 := Tryz.sizeOf240
  v46 := Tryz.zeroValue240
  t51 := Tryz.underlying205
  a51 := Tryz.isAgg205
  z51 := Tryz.sizeOf205
  v51 := Tryz.zeroValue205
  t146 := Tryz.underlying268
  a146 := Tryz.isAgg268
  z146 := Tryz.sizeOf268
  v146 := Tryz.zeroValue268
  g1 := by kernel_rfl }
def Tryz.laysM145_ren : Go.Shelf.Ren := ⟨fun | 145 => 123 | 220 => 147 | 219 => 164 | 217 => 184 | 225 => 176 | 224 => 175 | 267 => 185 | 266 => 198 | 314 => 199 | n => n, fun | 9 => 9 | 4 => 4 | 59 => 174 | 3 => 3 | 5 => 5 | 46 => 240 | 146 => 268 | 51 => 205 | n => n, fun | 1 => 3 | n => n⟩
theorem Tryz.laysM145 : Go.Proofs.LaysM.n145 Tryz.prog Tryz.laysM145_ren := {
  mixed := by kernel_rfl
  f145 := Tryz.func123.trans (congrArg some (by kernel_rfl))
  f217 := Tryz.func184.trans (congrArg some (by kernel_rfl))
  f219 := Tryz.func164.trans (congrArg some (by kernel_rfl))
  f220 := Tryz.func147.trans (congrArg some (by kernel_rfl))
  f224 := Tryz.func175.trans (congrArg some (by kernel_rfl))
  f225 := Tryz.func176.trans (congrArg some (by kernel_rfl))
  f266 := Tryz.func198.trans (congrArg some (by kernel_rfl))
  f267 := Tryz.func185.trans (congrArg some (by kernel_rfl))
  f314 := Tryz.func199.trans (congrArg some (by kernel_rfl))
  t3 := Tryz.underlying3
  a3 := Tryz.isAgg3
  z3 := Tryz.sizeOf3
  v3 := Tryz.zeroValue3
  t4 := Tryz.underlying4
  a4 := Tryz.isAgg4
  z4 := Tryz.sizeOf4
  v4 := Tryz.zeroValue4
  t5 := Tryz.underlying5
  a5 := Tryz.isAgg5
  z5 := Tryz.sizeOf5
  v5 := Tryz.zeroValue5
  t9 := Tryz.underlying9
  a9 := Tryz.isAgg9
  z9 := Tryz.sizeOf9
  v9 := Tryz.zeroValue9
  t46 := Tryz.underlying240
  a46 := Tryz.isAgg240
  z46 := Tryz.sizeOf240
  v46 := Tryz.zeroValue240
  t51 := Tryz.underlying205
  a51 := Tryz.isAgg205
  z51 := Tryz.sizeOf205
  v51 := Tryz.zeroValue205
  t59 := Tryz.underlying174
  a59 := Tryz.isAgg174
  z59 := Tryz.sizeOf174
  v59 := Tryz.zeroValue174
  t146 := Tryz.underlying268
  a146 := Tryz.isAgg268
  z146 := Tryz.sizeOf268
  v146 := Tryz.zeroValue268
  g1 := by kernel_rfl
  i3 := by kernel_rfl
  i4 := by kernel_rfl
  i5 := by kernel_rfl
  i9 := by kernel_rfl
  i46 := by kernel_rfl
  i51 := by kernel_rfl
  i59 := by kernel_rfl
  i146 := by kernel_rfl
  m1 := by kernel_rfl
  s1_3 := fun w h => Go.Proofs.cell_of_shapedOpen_int (zero := #[.int .i64 0]) (t := 3) h (of_decide_eq_true (by kernel_rfl)) (by kernel_rfl) rfl (by kernel_rfl) (by kernel_rfl) Tryz.underlying3 }
open Go.RowKit Go.Lib in
theorem Tryz.strings_Cut_shaped (s sep : ByteArray) (w : World) (h : w.ShapedOpen Tryz.prog) (hs : s.size < 4294967281) :
    Calls Tryz.prog 123 #[.string s, .string sep] w fun e w' => e = .returned (.tuple #[.string ⟨(Lib.cut s.data.toList sep.data.toList).1.toArray⟩, .string ⟨(Lib.cut s.data.toList sep.data.toList).2.1.toArray⟩, .bool (Lib.cut s.data.toList sep.data.toList).2.2]) ∧ ∃ n, w' = w.drewN n := Any.strings_Cut_shaped Tryz.laysM145 s sep w h hs
def Tryz.laysGw15_ren : Go.Shelf.Ren := ⟨fun | 15 => 78 | 20 => 106 | n => n, fun | 9 => 9 | 23 => 138 | 3 => 3 | 4 => 4 | 0 => 0 | 21 => 21 | n => n, fun | n => n⟩
theorem Tryz.laysGw15 : Go.Proofs.LaysGw.n15 Tryz.prog Tryz.laysGw15_ren := {
  mixed := by kernel_rfl
  f15 := Tryz.func78.trans (congrArg some (by kernel_rfl))
  f20 := Tryz.func106.trans (congrArg some (by kernel_rfl))
  t0 := Tryz.underlying0
  a0 := Tryz.isAgg0
  z0 := Tryz.sizeOf0
  v0 := Tryz.zeroValue0
  i0 := by kernel_rfl
  t3 := Tryz.underlying3
  a3 := Tryz.isAgg3
  z3 := Tryz.sizeOf3
  v3 := Tryz.zeroValue3
  i3 := by kernel_rfl
  t4 := Tryz.underlying4
  a4 := Tryz.isAgg4
  z4 := Tryz.sizeOf4
  v4 := Tryz.zeroValue4
  i4 := by kernel_rfl
  t9 := Tryz.underlying9
  a9 := Tryz.isAgg9
  z9 := Tryz.sizeOf9
  v9 := Tryz.zeroValue9
  i9 := by kernel_rfl
  t21 := Tryz.underlying21
  a21 := Tryz.isAgg21
  z21 := Tryz.sizeOf21
  v21 := Tryz.zeroValue21
  i21 := by kernel_rfl
  t23 := Tryz.underlying138
  a23 := Tryz.isAgg138
  z23 := Tryz.sizeOf138
  v23 := Tryz.zeroValue138
  i23 := by kernel_rfl }
def Tryz.lays99_ren : Go.Shelf.Ren := ⟨fun | 99 => 77 | 206 => 105 | n => n, fun | 9 => 9 | 4 => 4 | 3 => 3 | n => n, fun | n => n⟩
theorem Tryz.lays99 : Go.Proofs.Lays.n99 Tryz.prog Tryz.lays99_ren := {
  mixed := by kernel_rfl
  f99 := Tryz.func77.trans (congrArg some (by kernel_rfl))
  f206 := Tryz.func105.trans (congrArg some (by kernel_rfl))
  t3 := Tryz.underlying3
  a3 := Tryz.isAgg3
  z3 := Tryz.sizeOf3
  v3 := Tryz.zeroValue3
  t4 := Tryz.underlying4
  a4 := Tryz.isAgg4
  z4 := Tryz.sizeOf4
  v4 := Tryz.zeroValue4
  t9 := Tryz.underlying9
  a9 := Tryz.isAgg9
  z9 := Tryz.sizeOf9
  v9 := Tryz.zeroValue9 }
open Go.RowKit Go.Lib in
theorem Tryz.strings_HasPrefix (s p : ByteArray) (w : World) :
    Calls Tryz.prog 77 #[.string s, .string p] w fun e w' => e = .returned (.bool (Lib.hasPrefix s.data.toList p.data.toList)) ∧ w' = w := Any.strings_HasPrefix Tryz.lays99 s p w
open Go.RowKit Go.Lib in
theorem Tryz.strings_Count_any (s sep : ByteArray) (m : Int) (w : World) (hs : s.size < 4294967281) (hm : w.cell? ⟨3, 0, none⟩ = some (.int .i64 m)) (h1 : 1 ≤ sep.size) :
    Calls Tryz.prog 181 #[.string s, .string sep] w fun e w' => e = .returned (.int .i64 (Lib.countB s sep)) ∧ w' = w := Any.strings_Count_any Tryz.lays138 s sep m w hs hm h1
def Tryz.lays146_ren : Go.Shelf.Ren := ⟨fun | 146 => 144 | 221 => 161 | 268 => 180 | 138 => 181 | 143 => 182 | 195 => 194 | 197 => 134 | 218 => 195 | 219 => 164 | 260 => 155 | 217 => 184 | 225 => 176 | 224 => 175 | 267 => 185 | 266 => 198 | 314 => 199 | n => n, fun | 9 => 9 | 31 => 25 | 3 => 3 | 4 => 4 | 0 => 0 | 105 => 182 | 21 => 21 | 5 => 5 | 46 => 240 | 119 => 242 | 139 => 245 | 138 => 244 | 146 => 268 | 51 => 205 | n => n, fun | 1 => 3 | 3 => 1 | 4 => 2 | n => n⟩
theorem Tryz.lays146 : Go.Proofs.Lays.n146 Tryz.prog Tryz.lays146_ren := {
  mixed := by kernel_rfl
  f138 := Tryz.func181.trans (congrArg some (by kernel_rfl))
  f143 := Tryz.func182.trans (congrArg some (by kernel_rfl))
  f146 := Tryz.func144.trans (congrArg some (by kernel_rfl))
  f195 := Tryz.func194.trans (congrArg some (by kernel_rfl))
  f197 := Tryz.func134.trans (congrArg some (by kernel_rfl))
  f217 := Tryz.func184.trans (congrArg some (by kernel_rfl))
  f218 := Tryz.func195.trans (congrArg some (by kernel_rfl))
  f219 := Tryz.func164.trans (congrArg some (by kernel_rfl))
  f221 := Tryz.func161.trans (congrArg some (by kernel_rfl))
  f224 := Tryz.func175.trans (congrArg some (by kernel_rfl))
  f225 := Tryz.func176.trans (congrArg some (by kernel_rfl))
  f260 := Tryz.func155.trans (congrArg some (by kernel_rfl))
  f266 := Tryz.func198.trans (congrArg some (by kernel_rfl))
  f267 := Tryz.func185.trans (congrArg some (by kernel_rfl))
  f268 := Tryz.func180.trans (congrArg some (by kernel_rfl))
  f314 := Tryz.func199.trans (congrArg some (by kernel_rfl))
  t0 := Tryz.underlying0
  a0 := Tryz.isAgg0
  z0 := Tryz.sizeOf0
  v0 := Tryz.zeroValue0
  t3 := Tryz.underlying3
  a3 := Tryz.isAgg3
  z3 := Tryz.sizeOf3
  v3 := Tryz.zeroValue3
  t4 := Tryz.underlying4
  a4 := Tryz.isAgg4
  z4 := Tryz.sizeOf4
  v4 := Tryz.zeroValue4
  t5 := Tryz.underlying5
  a5 := Tryz.isAgg5
  z5 := Tryz.sizeOf5
  v5 := Tryz.zeroValue5
  t9 := Tryz.underlying9
  a9 := Tryz.isAgg9
  z9 := Tryz.sizeOf9
  v9 := Tryz.zeroValue9
  t21 := Tryz.underlying21
  a21 := Tryz.isAgg21
  z21 := Tryz.sizeOf21
  v21 := Tryz.zeroValue21
  t31 := Tryz.underlying25
  a31 := Tryz.isAgg25
  z31 := Tryz.sizeOf25
  v31 := Tryz.zeroValue25
  t46 := Tryz.underlying240
  a46 := Tryz.isAgg240
  z46 := Tryz.sizeOf240
  v46 := Tryz.zeroValue240
  t51 := Tryz.underlying205
  a51 := Tryz.isAgg205
  z51 := Tryz.sizeOf205
  v51 := Tryz.zeroValue205
  t105 := Tryz.underlying182
  a105 := Tryz.isAgg182
  z105 := Tryz.sizeOf182
  v105 := Tryz.zeroValue182
  t119 := Tryz.underlying242
  a119 := Tryz.isAgg242
  z119 := Tryz.sizeOf242
  t138 := Tryz.underlying244
  a138 := Tryz.isAgg244
  z138 := Tryz.sizeOf244
  v138 := Tryz.zeroValue244
  t139 := Tryz.underlying245
  a139 := Tryz.isAgg245
  z139 := Tryz.sizeOf245
  v139 := Tryz.zeroValue245
  t146 := Tryz.underlying268
  a146 := Tryz.isAgg268
  z146 := Tryz.sizeOf268
  v146 := Tryz.zeroValue268
  g1 := by kernel_rfl
  g3 := by kernel_rfl
  g4 := by kernel_rfl }
open Go.RowKit Go.Lib in
theorem Tryz.strings_Split (s sep : ByteArray) (m : Int) (w : World) (hs : s.size < 4294967281) (hm : w.cell? ⟨3, 0, none⟩ = some (.int .i64 m)) (h1 : 1 ≤ sep.size) :
    Calls Tryz.prog 144 #[.string s, .string sep] w fun e w' =>
      e = .returned (.slice (some ⟨w.heap.size, 0, none⟩) (Lib.countB s sep + 1) (Lib.countB s sep + 1)) ∧ w' = w.alloc (.cells ((Lib.splitB sep 0 (Lib.countB s sep) s).map Value.string).toArray 9) := Any.strings_Split Tryz.lays146 (by kernel_rfl) s sep m w hs hm h1
def Tryz.laysM146_ren : Go.Shelf.Ren := ⟨fun | 146 => 144 | 221 => 161 | 268 => 180 | 138 => 181 | 143 => 182 | 195 => 194 | 197 => 134 | 218 => 195 | 219 => 164 | 260 => 155 | 217 => 184 | 225 => 176 | 224 => 175 | 267 => 185 | 266 => 198 | 314 => 199 | n => n, fun | 9 => 9 | 31 => 25 | 3 => 3 | 4 => 4 | 0 => 0 | 105 => 182 | 21 => 21 | 5 => 5 | 46 => 240 | 119 => 242 | 139 => 245 | 138 => 244 | 146 => 268 | 51 => 205 | n => n, fun | 1 => 3 | 3 => 1 | 4 => 2 | n => n⟩
theorem Tryz.laysM146 : Go.Proofs.LaysM.n146 Tryz.prog Tryz.laysM146_ren := {
  mixed := by kernel_rfl
  f138 := Tryz.func181.trans (congrArg some (by kernel_rfl))
  f143 := Tryz.func182.trans (congrArg some (by kernel_rfl))
  f146 := Tryz.func144.trans (congrArg some (by kernel_rfl))
  f195 := Tryz.func194.trans (congrArg some (by kernel_rfl))
  f197 := Tryz.func134.trans (congrArg some (by kernel_rfl))
  f217 := Tryz.func184.trans (congrArg some (by kernel_rfl))
  f218 := Tryz.func195.trans (congrArg some (by kernel_rfl))
  f219 := Tryz.func164.trans (congrArg some (by kernel_rfl))
  f221 := Tryz.func161.trans (congrArg some (by kernel_rfl))
  f224 := Tryz.func175.trans (congrArg some (by kernel_rfl))
  f225 := Tryz.func176.trans (congrArg some (by kernel_rfl))
  f260 := Tryz.func155.trans (congrArg some (by kernel_rfl))
  f266 := Tryz.func198.trans (congrArg some (by kernel_rfl))
  f267 := Tryz.func185.trans (congrArg some (by kernel_rfl))
  f268 := Tryz.func180.trans (congrArg some (by kernel_rfl))
  f314 := Tryz.func199.trans (congrArg some (by kernel_rfl))
  t0 := Tryz.underlying0
  a0 := Tryz.isAgg0
  z0 := Tryz.sizeOf0
  v0 := Tryz.zeroValue0
  t3 := Tryz.underlying3
  a3 := Tryz.isAgg3
  z3 := Tryz.sizeOf3
  v3 := Tryz.zeroValue3
  t4 := Tryz.underlying4
  a4 := Tryz.isAgg4
  z4 := Tryz.sizeOf4
  v4 := Tryz.zeroValue4
  t5 := Tryz.underlying5
  a5 := Tryz.isAgg5
  z5 := Tryz.sizeOf5
  v5 := Tryz.zeroValue5
  t9 := Tryz.underlying9
  a9 := Tryz.isAgg9
  z9 := Tryz.sizeOf9
  v9 := Tryz.zeroValue9
  t21 := Tryz.underlying21
  a21 := Tryz.isAgg21
  z21 := Tryz.sizeOf21
  v21 := Tryz.zeroValue21
  t31 := Tryz.underlying25
  a31 := Tryz.isAgg25
  z31 := Tryz.sizeOf25
  v31 := Tryz.zeroValue25
  t46 := Tryz.underlying240
  a46 := Tryz.isAgg240
  z46 := Tryz.sizeOf240
  v46 := Tryz.zeroValue240
  t51 := Tryz.underlying205
  a51 := Tryz.isAgg205
  z51 := Tryz.sizeOf205
  v51 := Tryz.zeroValue205
  t105 := Tryz.underlying182
  a105 := Tryz.isAgg182
  z105 := Tryz.sizeOf182
  v105 := Tryz.zeroValue182
  t119 := Tryz.underlying242
  a119 := Tryz.isAgg242
  z119 := Tryz.sizeOf242
  t138 := Tryz.underlying244
  a138 := Tryz.isAgg244
  z138 := Tryz.sizeOf244
  v138 := Tryz.zeroValue244
  t139 := Tryz.underlying245
  a139 := Tryz.isAgg245
  z139 := Tryz.sizeOf245
  v139 := Tryz.zeroValue245
  t146 := Tryz.underlying268
  a146 := Tryz.isAgg268
  z146 := Tryz.sizeOf268
  v146 := Tryz.zeroValue268
  g1 := by kernel_rfl
  g3 := by kernel_rfl
  g4 := by kernel_rfl
  i0 := by kernel_rfl
  i3 := by kernel_rfl
  i4 := by kernel_rfl
  i5 := by kernel_rfl
  i9 := by kernel_rfl
  i21 := by kernel_rfl
  i31 := by kernel_rfl
  i46 := by kernel_rfl
  i51 := by kernel_rfl
  i105 := by kernel_rfl
  i138 := by kernel_rfl
  i139 := by kernel_rfl
  i146 := by kernel_rfl
  m1 := by kernel_rfl
  s1_3 := fun w h => Go.Proofs.cell_of_shapedOpen_int (zero := #[.int .i64 0]) (t := 3) h (of_decide_eq_true (by kernel_rfl)) (by kernel_rfl) rfl (by kernel_rfl) (by kernel_rfl) Tryz.underlying3
  m3 := by kernel_rfl
  m4 := by kernel_rfl }
def Tryz.lays230_ren : Go.Shelf.Ren := ⟨fun | 230 => 118 | 197 => 134 | 118 => 137 | 165 => 138 | 166 => 139 | 168 => 140 | 270 => 141 | 167 => 142 | 169 => 143 | 260 => 155 | 240 => 158 | 241 => 159 | 242 => 160 | 276 => 177 | 277 => 178 | 278 => 179 | n => n, fun | 107 => 171 | 9 => 9 | 72 => 187 | 0 => 0 | 4 => 4 | 3 => 3 | 21 => 21 | 105 => 182 | 76 => 192 | 5 => 5 | 75 => 191 | 70 => 185 | 20 => 20 | 37 => 136 | 127 => 229 | 119 => 242 | 46 => 240 | 139 => 245 | 138 => 244 | 164 => 247 | 51 => 205 | 80 => 196 | n => n, fun | 3 => 1 | 4 => 2 | n => n⟩
theorem Tryz.lays230 : Go.Proofs.Lays.n230 Tryz.prog Tryz.lays230_ren := {
  mixed := by kernel_rfl
  f118 := Tryz.func137.trans (congrArg some (by kernel_rfl))
  f165 := Tryz.func138.trans (congrArg some (by kernel_rfl))
  f166 := Tryz.func139.trans (congrArg some (by kernel_rfl))
  f167 := Tryz.func142.trans (congrArg some (by kernel_rfl))
  f168 := Tryz.func140.trans (congrArg some (by kernel_rfl))
  f169 := Tryz.func143.trans (congrArg some (by kernel_rfl))
  f197 := Tryz.func134.trans (congrArg some (by kernel_rfl))
  f230 := Tryz.func118.trans (congrArg some (by kernel_rfl))
  f240 := Tryz.func158.trans (congrArg some (by kernel_rfl))
  f241 := Tryz.func159.trans (congrArg some (by kernel_rfl))
  f242 := Tryz.func160.trans (congrArg some (by kernel_rfl))
  f260 := Tryz.func155.trans (congrArg some (by kernel_rfl))
  f270 := Tryz.func141.trans (congrArg some (by kernel_rfl))
  f276 := Tryz.func177.trans (congrArg some (by kernel_rfl))
  f277 := Tryz.func178.trans (congrArg some (by kernel_rfl))
  f278 := Tryz.func179.trans (congrArg some (by kernel_rfl))
  t0 := Tryz.underlying0
  a0 := Tryz.isAgg0
  z0 := Tryz.sizeOf0
  v0 := Tryz.zeroValue0
  t3 := Tryz.underlying3
  a3 := Tryz.isAgg3
  z3 := Tryz.sizeOf3
  v3 := Tryz.zeroValue3
  t4 := Tryz.underlying4
  a4 := Tryz.isAgg4
  z4 := Tryz.sizeOf4
  v4 := Tryz.zeroValue4
  t5 := Tryz.underlying5
  a5 := Tryz.isAgg5
  z5 := Tryz.sizeOf5
  v5 := Tryz.zeroValue5
  t9 := Tryz.underlying9
  a9 := Tryz.isAgg9
  z9 := Tryz.sizeOf9
  v9 := Tryz.zeroValue9
  t20 := Tryz.underlying20
  a20 := Tryz.isAgg20
  z20 := Tryz.sizeOf20
  v20 := Tryz.zeroValue20
  t21 := Tryz.underlying21
  a21 := Tryz.isAgg21
  z21 := Tryz.sizeOf21
  v21 := Tryz.zeroValue21
  t37 := Tryz.underlying136
  a37 := Tryz.isAgg136
  z37 := Tryz.sizeOf136
  v37 := Tryz.zeroValue136
  t46 := Tryz.underlying240
  a46 := Tryz.isAgg240
  z46 := Tryz.sizeOf240
  v46 := Tryz.zeroValue240
  t51 := Tryz.underlying205
  a51 := Tryz.isAgg205
  z51 := Tryz.sizeOf205
  v51 := Tryz.zeroValue205
  t70 := Tryz.underlying185
  a70 := Tryz.isAgg185
  z70 := Tryz.sizeOf185
  v70 := Tryz.zeroValue185
  t72 := Tryz.underlying187
  a72 := Tryz.isAgg187
  z72 := Tryz.sizeOf187
  v72 := Tryz.zeroValue187
  t75 := Tryz.underlying191
  a75 := Tryz.isAgg191
  z75 := Tryz.sizeOf191
  v75 := Tryz.zeroValue191
  t76 := Tryz.underlying192
  a76 := Tryz.isAgg192
  z76 := Tryz.sizeOf192
  v76 := Tryz.zeroValue192
  t105 := Tryz.underlying182
  a105 := Tryz.isAgg182
  z105 := Tryz.sizeOf182
  v105 := Tryz.zeroValue182
  t107 := Tryz.underlying171
  a107 := Tryz.isAgg171
  z107 := Tryz.sizeOf171
  v107 := Tryz.zeroValue171
  t119 := Tryz.underlying242
  a119 := Tryz.isAgg242
  z119 := Tryz.sizeOf242
  t127 := Tryz.underlying229
  a127 := Tryz.isAgg229
  z127 := Tryz.sizeOf229
  v127 := Tryz.zeroValue229
  t138 := Tryz.underlying244
  a138 := Tryz.isAgg244
  z138 := Tryz.sizeOf244
  v138 := Tryz.zeroValue244
  t139 := Tryz.underlying245
  a139 := Tryz.isAgg245
  z139 := Tryz.sizeOf245
  v139 := Tryz.zeroValue245
  t164 := Tryz.underlying247
  a164 := Tryz.isAgg247
  z164 := Tryz.sizeOf247
  v164 := Tryz.zeroValue247
  g3 := by kernel_rfl
  g4 := by kernel_rfl }
theorem Tryz.Builder_Extra_230 : Builder.Extra Tryz.prog Tryz.lays230_ren := {
  sizeBuilder := by kernel_rfl
  liesBuilder := by kernel_rfl
  t5 := Tryz.underlying5
  a5 := Tryz.isAgg5
  z5 := Tryz.sizeOf5
  v5 := Tryz.zeroValue5
  infoByte := by kernel_rfl
  cellsByte := by kernel_rfl
  sizeByte := by kernel_rfl
  neB5 := by decide }
open Go.RowKit Go.Lib in
theorem Tryz.strings_IndexFunc_grows (g : Nat) (lb : Array Value) (eg : ∀ args w, (callFunc g args).run Tryz.prog w = .ok (.enter g args) w) (p : Nat → Bool) (s : ByteArray) (w : World) (hp : PredGrows Tryz.prog g lb p w) :
    Calls Tryz.prog 78 #[.string s, .func (.func g) #[] lb] w fun e w' => e = .returned (.int .i64 (Lib.idxFunc p true s)) ∧ Below w.heap.size w w' := Any.strings_IndexFunc_grows Tryz.laysGw15 g lb eg p s w hp
open Go.RowKit Go.Lib in
theorem Tryz.strings_Map_grows (g : Nat) (lb : Array Value) (eg : ∀ args w, (callFunc g args).run Tryz.prog w = .ok (.enter g args) w) (f : Int → Int) (s : ByteArray) (w : World) (hs : s.size < 35184372088832) (hf : MapGrows Tryz.prog g lb f w) (hnn : ∀ x : Nat, x ≤ 1114111 → -2147483648 ≤ f x ∧ f x ≤ 2147483647) (hT : Lib.Utf8Tabs 1 2 w) :
    Calls Tryz.prog 118 #[.func (.func g) #[] lb, .string s] w fun e w' => e = .returned (.string ⟨(Lib.mapD f s.data.toList).toArray⟩) ∧ Below w.heap.size w w' := Any.strings_Map_grows Tryz.lays230 Tryz.Builder_Extra_230 g lb eg f s w hs hf hnn hT
end Go.Proofs
namespace Go.Proofs.YthcomjhpjlcpdaaGreatDoor
open Go.RowKit

def MaxLenIs (w : World) (m : Int) : Prop := w.cell? ⟨3, 0, none⟩ = some (.int .i64 m)
theorem MaxLenIs.pos {w : World} {m : Int} (h : MaxLenIs w m) : 3 < w.heap.size := World.block_lt_of_cell? _ _ h
theorem MaxLenIs.below {w w' : World} {m : Int} (h : MaxLenIs w m) (hb : Below w.heap.size w w') : MaxLenIs w' m := (hb.cell (p := ⟨3, 0, none⟩) h.pos).trans h

theorem lines_words (s : ByteArray) (m : Int) (w : World) (hs : s.size < 1073741824) (hm : MaxLenIs w m) :
    Calls Tryz.prog 120 #[.string s] w fun e w' => ∃ v, e = .returned v ∧ w'.ownsRow w.heap.size 9 1 v (words s.data.toList).length (strs (words s.data.toList)) ∧ Below w.heap.size w w' := by
  have Hm := Lib.hid hm
  clear hm
  go_enter Tryz.func120, Tryz.ntmps120
  go_wp2_with (go_at_call 144; refine (Tryz.strings_Split s _ m _ (by omega) Hm.out (by decide)).mono ?_; rintro e w' ⟨rfl, rfl⟩)
  go_ret
  refine ⟨_, rfl, ?_, (Below.refl _ _).alloc (Nat.le_refl _) _⟩
  rw [splitB_words, countB_words]
  exact own_alloc w _ _ rfl (by rw [← countB_words]; have := Go.Lib.count_le s.data.toList [32]; have h2 : Go.Lib.countB s ⟨#[32]⟩ ≤ s.size + 1 := by simpa using this
                                unfold maxLen; omega)

/-! what the functions tell of the texts of awake -/
def t1 : ByteArray := ⟨#[97, 32, 98, 13, 10, 99]⟩
theorem aw1 : takeLine t1 0 = ⟨#[97, 32, 98]⟩ := by decide +kernel
theorem aw2 : takeNext t1 0 = 5 := by decide +kernel
theorem aw3 : takeErr t1 0 = 0 := by decide +kernel
theorem aw4 : takeNext t1 5 = 5 := by decide +kernel
theorem aw5 : takeErr t1 5 = 3 := by decide +kernel
theorem aw6 : takeErr ⟨#[97, 10]⟩ 0 = 4 := by decide +kernel
theorem aw7 : putLine ⟨#[120]⟩ = ⟨#[120, 13, 10]⟩ := by decide +kernel
theorem aw8 : putErr [120] = 0 := by decide +kernel
theorem aw9 : headOf ⟨#[97, 13, 10, 98, 13, 10, 13, 10, 99]⟩ = ([[97], [98]], 8, 0) := by decide +kernel
theorem aw10 : words [32, 97] = [[], [97]] := by decide +kernel
end Go.Proofs.YthcomjhpjlcpdaaGreatDoor
namespace Go.Proofs.YthcomjhpjlcpdaaGreatDoor
theorem g_pow10 : Tryz.prog.globalNamed "internal/strconv.uint64pow10" = some 0 := by kernel_rfl
end Go.Proofs.YthcomjhpjlcpdaaGreatDoor
namespace Go.Proofs.YthcomjhpjlcpdaaGreatDoor
open Go.RowKit

/-- the library's variables: MaxLen holds some number, the table of powers its numbers. -/
structure Env (w : World) : Prop where
  m : ∃ m, MaxLenIs w m
  tab : Go.Lib.TabIs Tryz.prog w "internal/strconv.uint64pow10" .u64 Go.Lib.pow10Tab
  big : 0 < w.heap.size

theorem Env.below {w w' : World} (h : Env w) (hb : Below w.heap.size w w') : Env w' :=
  ⟨let ⟨m, hm⟩ := h.m; ⟨m, hm.below hb⟩, var?_below hb g_pow10 h.big h.tab, Nat.lt_of_lt_of_le h.big hb.size⟩
end Go.Proofs.YthcomjhpjlcpdaaGreatDoor
namespace Go.Proofs.YthcomjhpjlcpdaaGreatDoor
open Go.RowKit

set_option maxHeartbeats 1000000 in
theorem status_reason (code : Int) (w : World) :
    Calls Tryz.prog 82 #[.int .i64 code] w fun e w' => e = .returned (.string (reasonOf code)) ∧ w' = w := by
  by_cases h1 : code = 200
  · subst h1; go_enter Tryz.func82, Tryz.ntmps82; go_wp2_with fail; go_ret; exact ⟨ret_str rfl, rfl⟩
  · by_cases h2 : code = 206
    · subst h2; go_enter Tryz.func82, Tryz.ntmps82; go_wp2_with fail; go_ret; exact ⟨ret_str rfl, rfl⟩
    · by_cases h3 : code = 400
      · subst h3; go_enter Tryz.func82, Tryz.ntmps82; go_wp2_with fail; go_ret; exact ⟨ret_str rfl, rfl⟩
      · by_cases h4 : code = 404
        · subst h4; go_enter Tryz.func82, Tryz.ntmps82; go_wp2_with fail; go_ret; exact ⟨ret_str rfl, rfl⟩
        · by_cases h5 : code = 416
          · subst h5; go_enter Tryz.func82, Tryz.ntmps82; go_wp2_with fail; go_ret; exact ⟨ret_str rfl, rfl⟩
          · by_cases h6 : code = 502
            · subst h6; go_enter Tryz.func82, Tryz.ntmps82; go_wp2_with fail; go_ret; exact ⟨ret_str rfl, rfl⟩
            · have H : Hid (reasonOf code = ⟨#[79, 116, 104, 101, 114]⟩) := Lib.hid (by unfold reasonOf; rw [if_neg h1, if_neg h2, if_neg h3, if_neg h4, if_neg h5, if_neg h6])
              have k1 : (code == 200) = false := by rw [beq_eq_false_iff_ne]; exact h1
              have k2 : (code == 206) = false := by rw [beq_eq_false_iff_ne]; exact h2
              have k3 : (code == 400) = false := by rw [beq_eq_false_iff_ne]; exact h3
              have k4 : (code == 404) = false := by rw [beq_eq_false_iff_ne]; exact h4
              have k5 : (code == 416) = false := by rw [beq_eq_false_iff_ne]; exact h5
              have k6 : (code == 502) = false := by rw [beq_eq_false_iff_ne]; exact h6
              clear h1 h2 h3 h4 h5 h6
              go_enter Tryz.func82, Tryz.ntmps82
              go_wp2_with fail
              go_ret
              exact ⟨ret_str H.out.symm, rfl⟩

theorem status_class (code : Int) (w : World) :
    Calls Tryz.prog 80 #[.int .i64 code] w fun e w' => e = .returned (.int .i64 (classOf code)) ∧ w' = w := by
  by_cases h : code < 100
  · have H := Lib.hid (class_out code (.inl h))
    go_enter Tryz.func80, Tryz.ntmps80; go_wp2_with fail; go_ret; exact ⟨ret_int H.out.symm, rfl⟩
  · by_cases h2 : 599 < code
    · have H := Lib.hid (class_out code (.inr h2))
      go_enter Tryz.func80, Tryz.ntmps80; go_wp2_with fail; go_ret; exact ⟨ret_int H.out.symm, rfl⟩
    · have H := Lib.hid (class_in code (by omega) (by omega))
      go_enter Tryz.func80, Tryz.ntmps80; go_wp2_with fail; go_ret; exact ⟨ret_int H.out.symm, rfl⟩
theorem ref_class (code : Int) (w : World) :
    Calls Tryz.prog 70 #[.int .i64 code] w fun e w' => e = .returned (.int .i64 (classOf code)) ∧ w' = w := by
  by_cases h : code < 100
  · have H := Lib.hid (class_out code (.inl h))
    go_enter Tryz.func70, Tryz.ntmps70; go_wp2_with fail; go_ret; exact ⟨ret_int H.out.symm, rfl⟩
  · by_cases h2 : 599 < code
    · have H := Lib.hid (class_out code (.inr h2))
      go_enter Tryz.func70, Tryz.ntmps70; go_wp2_with fail; go_ret; exact ⟨ret_int H.out.symm, rfl⟩
    · have H := Lib.hid (class_in code (by omega) (by omega))
      go_enter Tryz.func70, Tryz.ntmps70; go_wp2_with fail; go_ret; exact ⟨ret_int H.out.symm, rfl⟩

def codesL : List Int := [200, 206, 400, 404, 416, 502]
def reasonsL : List ByteArray := [⟨#[79, 75]⟩, ⟨#[80, 97, 114, 116, 105, 97, 108, 32, 67, 111, 110, 116, 101, 110, 116]⟩, ⟨#[66, 97, 100, 32, 82, 101, 113, 117, 101, 115, 116]⟩, ⟨#[78, 111, 116, 32, 70, 111, 117, 110, 100]⟩,
  ⟨#[82, 97, 110, 103, 101, 32, 78, 111, 116, 32, 83, 97, 116, 105, 115, 102, 105, 97, 98, 108, 101]⟩, ⟨#[66, 97, 100, 32, 71, 97, 116, 101, 119, 97, 121]⟩]
set_option maxRecDepth 100000 in
set_option maxHeartbeats 1000000 in
theorem ref_reason (code : Int) (w : World) :
    Calls Tryz.prog 71 #[.int .i64 code] w fun e w' => e = .returned (.string (reasonOf code)) ∧ Below w.heap.size w w' := by
  go_enter Tryz.func71, Tryz.ntmps71
  go_wp2_with fail
  go_loop [5] (fun j => ∃ k : Nat, k ≤ 6 ∧ j = .int .i64 k ∧ Hid (∀ j, j < k → codesL.getD j 0 ≠ code)) (fun j => 6 - (intOf j).toNat)
  case atStart => exact ⟨0, by omega, rfl, Lib.hid (fun j hj => by omega)⟩
  case round =>
    obtain ⟨k, hk, rfl, Hno⟩ := hrel
    have hb : Below w.heap.size w ((w.alloc (.cells #[.int .i64 200, .int .i64 206, .int .i64 400, .int .i64 404, .int .i64 416, .int .i64 502] 3)).alloc (.cells #[.string ⟨#[79, 75]⟩, .string ⟨#[80, 97, 114, 116, 105, 97, 108, 32, 67, 111, 110, 116, 101, 110, 116]⟩, .string ⟨#[66, 97, 100, 32, 82, 101, 113, 117, 101, 115, 116]⟩, .string ⟨#[78, 111, 116, 32, 70, 111, 117, 110, 100]⟩, .string ⟨#[82, 97, 110, 103, 101, 32, 78, 111, 116, 32, 83, 97, 116, 105, 115, 102, 105, 97, 98, 108, 101]⟩, .string ⟨#[66, 97, 100, 32, 71, 97, 116, 101, 119, 97, 121]⟩] 9)) := ((Below.refl _ _).alloc (Nat.le_refl _) _).alloc (by simp) _
    rcases (show k = 0 ∨ k = 1 ∨ k = 2 ∨ k = 3 ∨ k = 4 ∨ k = 5 ∨ k = 6 by omega) with rfl | rfl | rfl | rfl | rfl | rfl | rfl
    · by_cases h : code = 200
      · subst h
        go_wp2_with fail
        go_ret
        exact ⟨ret_str rfl, hb⟩
      · have h1 : ((200 : Int) == code) = false := by rw [beq_eq_false_iff_ne]; exact fun e => h e.symm
        have Hn : Hid (∀ j, j < 1 → codesL.getD j 0 ≠ code) := Lib.hid (fun j hj => by
          by_cases e : j = 0
          · subst e; exact fun e => h e.symm
          · exact Hno.out j (by omega))
        clear h Hno
        go_wp2_with fail
        go_round
        case rel => exact ⟨1, by omega, rfl, Hn⟩
        case measure => simp [intOf]
    · by_cases h : code = 206
      · subst h
        go_wp2_with fail
        go_ret
        exact ⟨ret_str rfl, hb⟩
      · have h1 : ((206 : Int) == code) = false := by rw [beq_eq_false_iff_ne]; exact fun e => h e.symm
        have Hn : Hid (∀ j, j < 2 → codesL.getD j 0 ≠ code) := Lib.hid (fun j hj => by
          by_cases e : j = 1
          · subst e; exact fun e => h e.symm
          · exact Hno.out j (by omega))
        clear h Hno
        go_wp2_with fail
        go_round
        case rel => exact ⟨2, by omega, rfl, Hn⟩
        case measure => simp [intOf]
    · by_cases h : code = 400
      · subst h
        go_wp2_with fail
        go_ret
        exact ⟨ret_str rfl, hb⟩
      · have h1 : ((400 : Int) == code) = false := by rw [beq_eq_false_iff_ne]; exact fun e => h e.symm
        have Hn : Hid (∀ j, j < 3 → codesL.getD j 0 ≠ code) := Lib.hid (fun j hj => by
          by_cases e : j = 2
          · subst e; exact fun e => h e.symm
          · exact Hno.out j (by omega))
        clear h Hno
        go_wp2_with fail
        go_round
        case rel => exact ⟨3, by omega, rfl, Hn⟩
        case measure => simp [intOf]
    · by_cases h : code = 404
      · subst h
        go_wp2_with fail
        go_ret
        exact ⟨ret_str rfl, hb⟩
      · have h1 : ((404 : Int) == code) = false := by rw [beq_eq_false_iff_ne]; exact fun e => h e.symm
        have Hn : Hid (∀ j, j < 4 → codesL.getD j 0 ≠ code) := Lib.hid (fun j hj => by
          by_cases e : j = 3
          · subst e; exact fun e => h e.symm
          · exact Hno.out j (by omega))
        clear h Hno
        go_wp2_with fail
        go_round
        case rel => exact ⟨4, by omega, rfl, Hn⟩
        case measure => simp [intOf]
    · by_cases h : code = 416
      · subst h
        go_wp2_with fail
        go_ret
        exact ⟨ret_str rfl, hb⟩
      · have h1 : ((416 : Int) == code) = false := by rw [beq_eq_false_iff_ne]; exact fun e => h e.symm
        have Hn : Hid (∀ j, j < 5 → codesL.getD j 0 ≠ code) := Lib.hid (fun j hj => by
          by_cases e : j = 4
          · subst e; exact fun e => h e.symm
          · exact Hno.out j (by omega))
        clear h Hno
        go_wp2_with fail
        go_round
        case rel => exact ⟨5, by omega, rfl, Hn⟩
        case measure => simp [intOf]
    · by_cases h : code = 502
      · subst h
        go_wp2_with fail
        go_ret
        exact ⟨ret_str rfl, hb⟩
      · have h1 : ((502 : Int) == code) = false := by rw [beq_eq_false_iff_ne]; exact fun e => h e.symm
        have Hn : Hid (∀ j, j < 6 → codesL.getD j 0 ≠ code) := Lib.hid (fun j hj => by
          by_cases e : j = 5
          · subst e; exact fun e => h e.symm
          · exact Hno.out j (by omega))
        clear h Hno
        go_wp2_with fail
        go_round
        case rel => exact ⟨6, by omega, rfl, Hn⟩
        case measure => simp [intOf]
    · have H : Hid (reasonOf code = ⟨#[79, 116, 104, 101, 114]⟩) := Lib.hid (by
        have n0 := Hno.out 0 (by decide)
        have n1 := Hno.out 1 (by decide)
        have n2 := Hno.out 2 (by decide)
        have n3 := Hno.out 3 (by decide)
        have n4 := Hno.out 4 (by decide)
        have n5 := Hno.out 5 (by decide)
        simp only [codesL, List.getD_cons_zero, List.getD_cons_succ] at n0 n1 n2 n3 n4 n5
        unfold reasonOf
        rw [if_neg n0.symm, if_neg n1.symm, if_neg n2.symm, if_neg n3.symm, if_neg n4.symm, if_neg n5.symm])
      clear Hno
      go_wp2_with fail
      go_ret
      exact ⟨ret_str H.out.symm, hb⟩
end Go.Proofs.YthcomjhpjlcpdaaGreatDoor
namespace Go.Proofs.YthcomjhpjlcpdaaGreatDoor
open Go.RowKit
theorem bs_cat (a b : List UInt8) : bs a ++ bs b = bs (a ++ b) := by
  have : (bs a ++ bs b).data.toList = a ++ b := by simp [bs]
  rw [← this, bs_self]
theorem data_cat (a b : ByteArray) : (a ++ b).data.toList = a.data.toList ++ b.data.toList := by simp
end Go.Proofs.YthcomjhpjlcpdaaGreatDoor
namespace Go.Proofs.YthcomjhpjlcpdaaGreatDoor
open Go.RowKit

theorem decDigits_len (n : Nat) (h : n < 18446744073709551616) : (Go.Lib.decDigits n).length ≤ 20 := by
  rw [Go.Lib.decDigits_length]
  have h1 := Go.Lib.numDigits_eq n
  rcases Nat.eq_zero_or_pos n with h0 | h0
  · subst h0; rw [Go.Lib.nDigits_small (by decide)]; decide
  · obtain ⟨h2, h3⟩ := h1 h0 h
    rw [← h2]; split <;> omega
theorem itoa_len (n : Int) (h0 : -9223372036854775808 ≤ n) (h1 : n ≤ 9223372036854775807) : (Go.Lib.itoa n).length ≤ 21 := by
  unfold Go.Lib.itoa
  split
  · have := decDigits_len n.natAbs (by omega); simp; omega
  · have := decDigits_len n.toNat (by omega); omega
theorem digit_slice (n : Nat) (h : n < 10) : (ByteArray.mk #[48, 49, 50, 51, 52, 53, 54, 55, 56, 57]).extract n (n + 1) = bs (Go.Lib.decDigits n) := by
  rw [extract_bs, Go.Lib.decDigits_one h]
  congr 1
  have : ∀ k : Fin 10, (((ByteArray.mk #[48, 49, 50, 51, 52, 53, 54, 55, 56, 57]).data.toList.take (k.val + 1)).drop k.val) = [UInt8.ofNat (48 + k.val)] := by decide +kernel
  exact this ⟨n, h⟩
theorem dec_split (n : Nat) (h : ¬ n < 10) : bs (Go.Lib.decDigits (n / 10)) ++ bs (Go.Lib.decDigits (n % 10)) = bs (Go.Lib.decDigits n) := by
  rw [bs_cat, Go.Lib.decDigits_one (show n % 10 < 10 by omega)]
  conv => rhs; rw [Go.Lib.decDigits, dif_neg h]
theorem ref_digits (k : Nat) : ∀ (n : Nat) (w : World), n ≤ k → n ≤ 9223372036854775807 →
    Calls Tryz.prog 64 #[.int .i64 n] w fun e w' => e = .returned (.string (bs (Go.Lib.decDigits n))) ∧ w' = w := by
  induction k using Nat.strongRecOn with
  | _ k ih =>
    intro n w hk hn
    by_cases h : n < 10
    · have hd := digit_slice n h
      have Hd := Lib.hid hd
      clear hd
      go_enter Tryz.func64, Tryz.ntmps64
      go_wp2_with fail
      go_ret
      exact ⟨ret_str Hd.out, rfl⟩
    · have Hs := Lib.hid (dec_split n h)
      have l1 := decDigits_len (n / 10) (by omega)
      have l2 := decDigits_len (n % 10) (by omega)
      obtain ⟨A, hA⟩ : ∃ A, A = bs (Go.Lib.decDigits (n / 10)) := ⟨_, rfl⟩
      obtain ⟨B, hB⟩ : ∃ B, B = bs (Go.Lib.decDigits (n % 10)) := ⟨_, rfl⟩
      have hAB : A.size + B.size ≤ 9223372036854775807 := by rw [hA, hB, bs_size, bs_size]; omega
      have HA := Lib.hid hA
      have HB := Lib.hid hB
      have h10 : 10 ≤ n := by omega
      have i1 := ih (n / 10) (by omega) (n / 10) w (Nat.le_refl _) (by omega)
      have i2 := ih (n % 10) (by omega) (n % 10) w (Nat.le_refl _) (by omega)
      rw [← hA] at i1
      rw [← hB] at i2
      have I1 := Lib.hid i1
      have I2 := Lib.hid i2
      clear hA hB i1 i2 h l1 l2
      go_enter Tryz.func64, Tryz.ntmps64
      go_wp2_with fail
      rw [show ((n : Int) / 10) = ((n / 10 : Nat) : Int) by omega]
      refine I1.out.mono ?_
      rintro e w' ⟨rfl, rfl⟩
      go_wp2_with fail
      rw [show ((n : Int) % 10) = ((n % 10 : Nat) : Int) by omega]
      refine I2.out.mono ?_
      rintro e w' ⟨rfl, rfl⟩
      go_wp2_with fail
      go_ret
      refine ⟨ret_str ?_, rfl⟩
      rw [HA.out, HB.out, Hs.out]
theorem itoa_nonneg (n : Int) (h : 0 ≤ n) : Go.Lib.itoa n = Go.Lib.decDigits n.toNat := by
  unfold Go.Lib.itoa; rw [if_neg (by omega)]
end Go.Proofs.YthcomjhpjlcpdaaGreatDoor
