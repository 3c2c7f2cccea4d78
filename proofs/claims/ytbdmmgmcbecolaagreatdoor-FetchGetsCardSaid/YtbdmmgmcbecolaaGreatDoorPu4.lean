/- What Parse of package fields returns. Plain words on faults: what comes of an answer's bytes (no program in sight). (*strings.byteStringReplacer).Replace where two bytes become nothing. (*strings.byteStringReplacer).Replace: the walk. fault.Clean, and the document's Clean, tell a text without ends of lines. Plain laws: trimming blanks and tabs byte by byte; what a field is printed as (no program in sight). Plain laws: a printed field is parsed as it was; a parsed one is printed again (no program in sight). What name, plain, small and gap of the reference of fields return. What Parse of the reference of fields returns. -/
import Derived.Test.YtbdmmgmcbecolaaGreatDoorPu3
import Derived.Shelf.Strings.SlTrimAscii
import Derived.Shelf.Unicode.DecodeSlow
import Derived.Lib.LaidTab
import Derived.Lib.ItoaNum
import Derived.WalkSmall
import Derived.Laws.ResultCell
import Derived.Laws.Rows
import Derived.Laws.NewBlocks
import Derived.Lib.SlBytesRow
import Derived.Lib.SmallJoins
import Derived.Laws.IdiomStrings
set_option linter.unusedVariables false
set_option linter.unusedSimpArgs false
namespace Go.Proofs.YtbdmmgmcbecolaaGreatDoor
open Go.RowKit

theorem c_cut (s : ByteArray) (w : World) (hs : s.size ≤ 1000000) (hE : EnvW w) (A V : ByteArray) (B : Bool)
    (h : Go.Lib.cut s.data.toList [58] = (A.data.toList, V.data.toList, B)) :
    Calls Tryz.prog 77 #[.string s, .string ⟨#[58]⟩] w fun e w' => e = .returned (.tuple #[.string A, .string V, .bool B]) ∧ Below w.heap.size w w' := by
  obtain ⟨m, hm⟩ := hE.m
  have hc := Tryz.strings_Cut s ⟨#[58]⟩ m w (by omega) hm
  refine hc.mono ?_
  rintro e w' ⟨rfl, n, rfl⟩
  refine ⟨?_, (fun n => by induction n with | zero => exact Below.refl _ _ | succ n ih => exact ih.drew : ∀ n, Below w.heap.size w (w.drewN n)) n⟩
  have h2 : Go.Lib.cut s.data.toList (ByteArray.mk #[58]).data.toList = (A.data.toList, V.data.toList, B) := h
  rw [h2]
theorem c_mapSmall (s : ByteArray) (w : World) (hs : s.size ≤ 1000000) (hE : EnvW w) (hasc : ∀ c ∈ s.data.toList, c.toNat < 128) :
    Calls Tryz.prog 144 #[.func (.func 145) #[] #[], .string s] w fun e w' => e = .returned (.string (bs (s.data.toList.map smallB))) ∧ Below w.heap.size w w' := by
  have h := Tryz.strings_Map_grows 145 #[] (enters_of Tryz.func145 (by kernel_rfl) rfl) (fun x => (smallN x.toNat : Nat)) s w (by omega)
    (fun W x hx _ => (fields_small x W hx).mono fun e w' ⟨he, hw⟩ => ⟨he, hw ▸ Below.refl _ _⟩)
    (fun x hx => by unfold smallN; rw [Int.toNat_natCast]; split <;> constructor <;> omega) hE.tabs
  rw [mapD_small s.data.toList _ (fun x hx => by rw [Int.toNat_natCast]) hasc] at h
  exact h
theorem c_trim (s : ByteArray) (w : World) (hs : s.size ≤ 1000000) :
    Calls Tryz.prog 147 #[.string s, .string ⟨#[32, 9]⟩] w fun e w' => e = .returned (.string (bs (Go.Lib.trimS s.data.toList gapL))) ∧ Below w.heap.size w w' :=
  Any.strings_Trim_laid Tryz.lays160 (by kernel_rfl) s ⟨#[32, 9]⟩ w (by omega) (by decide) (Go.Proofs.ascii_of_all (by decide))

/-- a block of two texts -/
structure Two (w : World) (b : Nat) (x y : Value) : Prop where
  c0 : w.cell? ⟨b, 0, none⟩ = some x
  c1 : w.cell? ⟨b, 1, none⟩ = some y
  f0 : w.frozen? ⟨b, 0, none⟩ = false
  f1 : w.frozen? ⟨b, 1, none⟩ = false
theorem two_of {w : World} {b : Nat} {x y : Value} {t : TypeId} (h : w.heap[b]? = some (.cells #[x, y] t (0, 0))) : Two w b x y :=
  ⟨by unfold World.cell?; rw [h]; rfl, by unfold World.cell?; rw [h]; rfl, by unfold World.frozen?; rw [h]; rfl, by unfold World.frozen?; rw [h]; rfl⟩
theorem two_box {w w1 : World} {x y : Value} {t : TypeId} (hb : Below (w.alloc (.cells #[x, y] t)).heap.size (w.alloc (.cells #[x, y] t)) w1) : w1.heap[w.heap.size]? = some (.cells #[x, y] t (0, 0)) :=
  (hb.block _ (by simp)).trans (heap_alloc_new w _)

/-- a result that lies in a block of two texts, and a number -/
theorem ret_field {fn : Func} {R : Ending → World → Prop} {a : Act} {w : World} {b : Nat} {x y E : Value} {p u : Tmp} {ty : TypeId} (hres : fn.results = #[.cell p ty, .tmp u])
    (hload : (loadVar ty ⟨b, 0, none⟩).run Tryz.prog w = .ok (.agg #[x, y]) w)
    (hp : a.tmps.getD p undef = .pointer (some ⟨b, 0, none⟩)) (hE : a.tmps.getD u undef = E) (hdef : a.defers = [])
    (hR : R (.returned (.tuple #[.agg #[x, y], E])) w) : bodyPost Tryz.prog fn R .ret a w := by
  refine bodyPost_ret_by (v := .tuple #[.agg #[x, y], E]) ?_ hdef hR
  rw [results_cell_tmp hres, hp, hE]
  simp [asAddr, hload, Result.andThen]
theorem load_own (w : World) (b : Nat) (t : TypeId) (x y : Value) (h : w.heap[b]? = some (.cells #[x, y] t (0, 0))) : (loadVar 161 ⟨b, 0, none⟩).run Tryz.prog w = .ok (.agg #[x, y]) w :=
  run_loadVar_row w b t 161 #[x, y] (0, 0) _ h Tryz.underlying161 rfl (by kernel_rfl)
theorem load_ref (w : World) (b : Nat) (t : TypeId) (x y : Value) (h : w.heap[b]? = some (.cells #[x, y] t (0, 0))) : (loadVar 139 ⟨b, 0, none⟩).run Tryz.prog w = .ok (.agg #[x, y]) w :=
  run_loadVar_row w b t 139 #[x, y] (0, 0) _ h Tryz.underlying139 rfl (by kernel_rfl)
theorem two_set {w : World} {b : Nat} {x y : Value} {t : TypeId} (h : w.heap[b]? = some (.cells #[x, y] t (0, 0))) (x' y' : Value) :
    ((w.setCell ⟨b, 0, none⟩ x').setCell ⟨b, 1, none⟩ y').heap[b]? = some (.cells #[x', y'] t (0, 0)) := by
  simp [World.setCell, Array.getElem?_modify, h]
theorem two_below {B : Nat} {w0 w : World} (h : Below B w0 w) (b : Nat) (hB : B ≤ b) (x' y' : Value) : Below B w0 ((w.setCell ⟨b, 0, none⟩ x').setCell ⟨b, 1, none⟩ y') :=
  (h.setCell (p := ⟨b, 0, none⟩) hB _).setCell (p := ⟨b, 1, none⟩) hB _

set_option maxRecDepth 100000 in
set_option maxHeartbeats 1000000 in
theorem fields_parseW (s : ByteArray) (w : World) (hs : s.size ≤ 1000000) (hE : EnvW w) :
    Calls Tryz.prog 107 #[.string s] w fun e w' => e = .returned (.tuple #[.agg #[.string (bs (parseN s.data.toList)), .string (bs (parseV s.data.toList))], .int .i64 (parseE s.data.toList)]) ∧ Below w.heap.size w w' := by
  have HE := Lib.hid hE
  clear hE
  by_cases hcol : (ahead s.data.toList).length < s.data.toList.length
  · have hcut := cut58 s.data.toList
    rw [if_pos hcol] at hcut
    obtain ⟨A, hA⟩ : ∃ A, A = bs (ahead s.data.toList) := ⟨_, rfl⟩
    obtain ⟨V, hV⟩ : ∃ V, V = bs (s.data.toList.drop ((ahead s.data.toList).length + 1)) := ⟨_, rfl⟩
    have HC := Lib.hid (fun w hE => c_cut s w hs hE A V true (by rw [hcut, hA, hV, bs_data, bs_data]))
    have hsl := size_len s
    have hAl : A.size ≤ 1000000 := by rw [hA, bs_size]; have := ahead_le s.data.toList; omega
    have hVl : V.size ≤ 1000000 := by rw [hV, bs_size, List.length_drop]; omega
    cases hpl : plainAll s.data.toList with
    | false =>
      have HP : Hid (parseN s.data.toList = [] ∧ parseV s.data.toList = [] ∧ parseE s.data.toList = 4) := Lib.hid (by
        have : parseOk s.data.toList = false := by unfold parseOk; rw [hpl]; rfl
        unfold parseN parseV parseE; rw [this]; exact ⟨rfl, rfl, rfl⟩)
      have hfp := fun w => fields_plain s w (by omega)
      rw [show (s.data.toList.all (fun c => plainB c.toNat)) = false from hpl] at hfp
      have HFP := Lib.hid hfp
      clear hcol hcut hpl hfp hsl hA hV hAl hVl
      go_enter Tryz.func107, Tryz.ntmps107
      go_wp2_with fail
      refine (HC.out _ (HE.out.below ((Below.refl _ _).alloc (Nat.le_refl _) _))).mono ?_
      rintro e w1 ⟨rfl, hb1⟩
      obtain ⟨k0, k1, f0, f1⟩ := two_of (two_box hb1)
      go_wp2_with (go_at_call 143; refine (HFP.out _).mono ?_; rintro e w' ⟨rfl, rfl⟩)
      refine ret_field (b := w.heap.size) (x := .string ⟨#[]⟩) (y := .string ⟨#[]⟩) rfl (load_own _ _ _ _ _ (two_set (two_box hb1) _ _)) rfl rfl rfl ?_
      refine ⟨?_, two_below (((Below.refl _ _).alloc (Nat.le_refl _) _).trans (hb1.mono (by simp))) _ (Nat.le_refl _) _ _⟩
      rw [HP.out.1, HP.out.2.1, HP.out.2.2]; rfl
    | true =>
      have hfp := fun w => fields_plain s w (by omega)
      rw [show (s.data.toList.all (fun c => plainB c.toNat)) = true from hpl] at hfp
      have HFP := Lib.hid hfp
      have hasc : ∀ c ∈ A.data.toList, c.toNat < 128 := by
        rw [hA, bs_data]; intro c hc; exact plainAll_lt _ hpl c (ahead_sub _ c hc)
      have hms := fun w hE => c_mapSmall A w hAl hE hasc
      rw [show A.data.toList.map smallB = parseName s.data.toList by rw [hA, bs_data]; rfl] at hms
      have HMS := Lib.hid hms
      have HFN := Lib.hid (fun w => fields_name (bs (parseName s.data.toList)) w)
      have HT := Lib.hid (fun w => c_trim V w hVl)
      have hvv : bs (Go.Lib.trimS V.data.toList gapL) = bs (parseVal s.data.toList) := by rw [hV, bs_data]; rfl
      rw [hvv] at HT
      rw [bs_data] at HFN
      cases hnm : nameL (parseName s.data.toList) with
      | false =>
        have HP : Hid (parseN s.data.toList = [] ∧ parseV s.data.toList = [] ∧ parseE s.data.toList = 4) := Lib.hid (by
          have : parseOk s.data.toList = false := by unfold parseOk; rw [hnm, Bool.and_false]
          unfold parseN parseV parseE; rw [this]; exact ⟨rfl, rfl, rfl⟩)
        rw [hnm] at HFN
        obtain ⟨N, hN⟩ : ∃ N, N = bs (parseName s.data.toList) := ⟨_, rfl⟩
        rw [← hN] at HMS HFN
        clear hcol hcut hpl hfp hsl hA hV hAl hVl hasc hms hvv hnm hN HT
        go_enter Tryz.func107, Tryz.ntmps107
        go_wp2_with fail
        refine (HC.out _ (HE.out.below ((Below.refl _ _).alloc (Nat.le_refl _) _))).mono ?_
        rintro e w1 ⟨rfl, hb1⟩
        have HE1 := Lib.hid ((HE.out.below ((Below.refl _ _).alloc (Nat.le_refl _) _)).below hb1)
        go_wp2_with (go_at_call 143; refine (HFP.out _).mono ?_; rintro e w' ⟨rfl, rfl⟩)
        refine (HMS.out _ HE1.out).mono ?_
        rintro e w2 ⟨rfl, hb2⟩
        go_wp2_with fail
        refine (HFN.out _).mono ?_
        rintro e w3 ⟨rfl, hb3⟩
        have hb13 := bstep hb1 (bstep hb2 hb3)
        clear hb1 hb2 hb3
        obtain ⟨k0, k1, f0, f1⟩ := two_of (two_box hb13)
        go_wp2_with fail
        refine ret_field (b := w.heap.size) (x := .string ⟨#[]⟩) (y := .string ⟨#[]⟩) rfl (load_own _ _ _ _ _ (two_set (two_box hb13) _ _)) rfl rfl rfl ?_
        refine ⟨?_, two_below (((Below.refl _ _).alloc (Nat.le_refl _) _).trans (hb13.mono (by simp))) _ (Nat.le_refl _) _ _⟩
        rw [HP.out.1, HP.out.2.1, HP.out.2.2]; rfl
      | true =>
        have HP : Hid (parseN s.data.toList = parseName s.data.toList ∧ parseV s.data.toList = parseVal s.data.toList ∧ parseE s.data.toList = 0) := Lib.hid (by
          have : parseOk s.data.toList = true := by unfold parseOk; rw [hnm, hpl, decide_eq_true hcol]; rfl
          unfold parseN parseV parseE; rw [this]; exact ⟨rfl, rfl, rfl⟩)
        rw [hnm] at HFN
        obtain ⟨N, hN⟩ : ∃ N, N = bs (parseName s.data.toList) := ⟨_, rfl⟩
        obtain ⟨T, hT⟩ : ∃ T, T = bs (parseVal s.data.toList) := ⟨_, rfl⟩
        rw [← hN] at HMS HFN
        rw [← hT] at HT
        have HNT := Lib.hid (And.intro hN hT)
        clear hcol hcut hpl hfp hsl hA hV hAl hVl hasc hms hvv hnm hN hT
        go_enter Tryz.func107, Tryz.ntmps107
        go_wp2_with fail
        refine (HC.out _ (HE.out.below ((Below.refl _ _).alloc (Nat.le_refl _) _))).mono ?_
        rintro e w1 ⟨rfl, hb1⟩
        have HE1 := Lib.hid ((HE.out.below ((Below.refl _ _).alloc (Nat.le_refl _) _)).below hb1)
        go_wp2_with (go_at_call 143; refine (HFP.out _).mono ?_; rintro e w' ⟨rfl, rfl⟩)
        refine (HMS.out _ HE1.out).mono ?_
        rintro e w2 ⟨rfl, hb2⟩
        go_wp2_with fail
        refine (HFN.out _).mono ?_
        rintro e w3 ⟨rfl, hb3⟩
        go_wp2_with fail
        refine (HT.out _).mono ?_
        rintro e w4 ⟨rfl, hb4⟩
        have hb13 := bstep hb1 (bstep hb2 (bstep hb3 hb4))
        clear hb1 hb2 hb3 hb4
        obtain ⟨k0, k1, f0, f1⟩ := two_of (two_box hb13)
        go_wp2_with fail
        refine ret_field (b := w.heap.size) (x := .string N) (y := .string T) rfl (load_own _ _ _ _ _ (two_set (two_box hb13) _ _)) rfl rfl rfl ?_
        refine ⟨?_, two_below (((Below.refl _ _).alloc (Nat.le_refl _) _).trans (hb13.mono (by simp))) _ (Nat.le_refl _) _ _⟩
        rw [HP.out.1, HP.out.2.1, HP.out.2.2, ← HNT.out.1, ← HNT.out.2]; rfl
  · have hcut := cut58 s.data.toList
    rw [if_neg hcol] at hcut
    have HC := Lib.hid (fun w hE => c_cut s w hs hE s ⟨#[]⟩ false hcut)
    have HP : Hid (parseN s.data.toList = [] ∧ parseV s.data.toList = [] ∧ parseE s.data.toList = 4) := Lib.hid (by
      have : parseOk s.data.toList = false := by unfold parseOk; rw [decide_eq_false hcol, Bool.and_false, Bool.false_and]
      unfold parseN parseV parseE; rw [this]; exact ⟨rfl, rfl, rfl⟩)
    clear hcol hcut
    go_enter Tryz.func107, Tryz.ntmps107
    go_wp2_with fail
    refine (HC.out _ (HE.out.below ((Below.refl _ _).alloc (Nat.le_refl _) _))).mono ?_
    rintro e w1 ⟨rfl, hb1⟩
    obtain ⟨k0, k1, f0, f1⟩ := two_of (two_box hb1)
    go_wp2_with fail
    refine ret_field (b := w.heap.size) (x := .string ⟨#[]⟩) (y := .string ⟨#[]⟩) rfl (load_own _ _ _ _ _ (two_set (two_box hb1) _ _)) rfl rfl rfl ?_
    refine ⟨?_, two_below (((Below.refl _ _).alloc (Nat.le_refl _) _).trans (hb1.mono (by simp))) _ (Nat.le_refl _) _ _⟩
    rw [HP.out.1, HP.out.2.1, HP.out.2.2]; rfl
theorem fields_parse (s : ByteArray) (w : World) (hs : s.size ≤ 1000000) (hE : EnvF w) :
    Calls Tryz.prog 107 #[.string s] w fun e w' => e = .returned (.tuple #[.agg #[.string (bs (parseN s.data.toList)), .string (bs (parseV s.data.toList))], .int .i64 (parseE s.data.toList)]) ∧ Below w.heap.size w w' := fields_parseW s w hs hE.weak
end Go.Proofs.YtbdmmgmcbecolaaGreatDoor
namespace Go.Proofs.YtbdmmgmcbecolaaGreatDoor
open Go.RowKit
/-- a text without ends of lines -/
def cleanL (l : List UInt8) : List UInt8 := l.filter fun b => b != 13 && b != 10
theorem cleanL_len (l : List UInt8) : (cleanL l).length ≤ l.length := List.length_filter_le _ _
/-- where line k begins -/
def atF (s : ByteArray) : Nat → Int
  | 0 => 0
  | k + 1 => takeNext s (atF s k)
/-- s with another text in line k -/
def putF (s : ByteArray) (k : Nat) (t : List UInt8) : List UInt8 := s.data.toList.take (atF s k).toNat ++ t ++ s.data.toList.drop ((atF s k).toNat + (takeLine s (atF s k)).size)
theorem scan_le : ∀ (l : List UInt8) (n : Nat), (scan l n).2 = 0 → n ≤ (scan l n).1 ∧ (scan l n).1 + 2 ≤ l.length + n := by
  intro l
  induction l with
  | nil => intro n h; exact absurd (show (3 : Nat) = 0 from h) (by decide)
  | cons x l ih =>
    intro n h
    rw [scan] at h ⊢
    by_cases h1 : x = 13 ∧ l = []
    · rw [if_pos h1] at h; exact absurd (show (3 : Nat) = 0 from h) (by decide)
    rw [if_neg h1] at h ⊢
    by_cases h2 : x = 13 ∧ l.head? = some 10
    · rw [if_pos h2]
      cases l with
      | nil => exact absurd ⟨h2.1, rfl⟩ h1
      | cons y t => simp only [List.length_cons]; omega
    rw [if_neg h2] at h ⊢
    by_cases h3 : plainB x.toNat = false
    · rw [if_pos h3] at h; exact absurd (show (4 : Nat) = 0 from h) (by decide)
    rw [if_neg h3] at h ⊢
    by_cases h4 : n = 256
    · rw [if_pos h4] at h; exact absurd (show (5 : Nat) = 0 from h) (by decide)
    rw [if_neg h4] at h ⊢
    have := ih (n + 1) h
    rw [List.length_cons]; omega
theorem take_in (s : ByteArray) (a : Nat) (ha : a ≤ s.size) : ∃ b : Nat, takeNext s (a : Int) = (b : Int) ∧ b ≤ s.size ∧ a + (takeLine s (a : Int)).size ≤ s.size := by
  unfold takeNext takeLine
  by_cases h : takeErr s (a : Int) = 0
  · rw [if_pos h, if_pos h]
    rw [takeErr_in s a ha] at h
    have h1 := scan_le (s.data.toList.drop a) 0 h
    rw [List.length_drop, size_len] at h1
    have h2 : (scanAt s.data.toList a 0).1 + 2 ≤ s.size - a := by unfold scanAt; omega
    refine ⟨a + (scanAt s.data.toList a 0).1 + 2, by rw [Int.toNat_natCast]; omega, by omega, ?_⟩
    rw [Int.toNat_natCast, ByteArray.size_extract]
    omega
  · rw [if_neg h, if_neg h]
    exact ⟨a, rfl, ha, ha⟩
theorem atF_in (s : ByteArray) : ∀ k, ∃ b : Nat, atF s k = (b : Int) ∧ b ≤ s.size
  | 0 => ⟨0, rfl, Nat.zero_le _⟩
  | k + 1 => by
    obtain ⟨a, h1, h2⟩ := atF_in s k
    obtain ⟨b, h3, h4, -⟩ := take_in s a h2
    exact ⟨b, by rw [atF, h1]; exact h3, h4⟩
/-- the first line but the first that tells a range -/
def placeF (c : List UInt8) : List (List UInt8) → Nat → Option Nat
  | [], _ => none
  | x :: xs, i => if 0 < i ∧ parseE x = 0 ∧ parseN x = c then some i else placeF c xs (i + 1)
def crangeN : List UInt8 := [99, 111, 110, 116, 101, 110, 116, 45, 114, 97, 110, 103, 101]
def crangeF : List UInt8 := [67, 111, 110, 116, 101, 110, 116, 45, 82, 97, 110, 103, 101, 58, 32]
/-- what comes of s -/
def applyF (k n : Int) (t : List UInt8) (s : ByteArray) : List UInt8 :=
  if k = 1 then []
  else if k = 2 then s.data.toList.take (max 0 (min n (s.size : Int))).toNat
  else if (headOf s).2.2 ≠ 0 ∨ (headOf s).1 = [] then s.data.toList
  else if k = 3 then (if printErr n ≠ 0 then s.data.toList else putF s 0 (printOf n).data.toList)
  else if k = 5 then (if (headOf s).1.length < 2 then s.data.toList else putF s 1 (cleanL t))
  else if k = 4 then (match placeF crangeN (headOf s).1 0 with | none => s.data.toList | some i => putF s i (crangeF ++ cleanL t))
  else s.data.toList
end Go.Proofs.YtbdmmgmcbecolaaGreatDoor
namespace Go.Proofs.YtbdmmgmcbecolaaGreatDoor
open Go.RowKit
def badB (b : UInt8) : Bool := b == 10 || b == 13
def badN (l : List UInt8) : Nat := l.countP badB
theorem clean_bad (l : List UInt8) : (cleanL l).length + badN l = l.length := by
  induction l with
  | nil => rfl
  | cons c t ih =>
    unfold cleanL badN at ih ⊢
    rw [List.filter_cons, List.countP_cons]
    by_cases h : c = 10
    · subst h; simp [badB] at ih ⊢; omega
    · by_cases h2 : c = 13
      · subst h2; simp [badB] at ih ⊢; omega
      · simp [badB, h, h2] at ih ⊢; omega
theorem bad_two (l : List UInt8) : badN l = l.count 10 + l.count 13 := by
  induction l with
  | nil => rfl
  | cons c t ih =>
    unfold badN at ih ⊢
    rw [List.countP_cons, List.count_cons, List.count_cons, ih]
    by_cases h : c = 10
    · subst h; simp [badB]; omega
    · by_cases h2 : c = 13
      · subst h2; simp [badB]; omega
      · simp [badB, h, h2]
theorem clean_none (l : List UInt8) (h : badN l = 0) : cleanL l = l := by
  have h2 := clean_bad l
  have := List.filter_sublist (l := l) (p := fun b => b != 13 && b != 10)
  exact List.Sublist.eq_of_length this (by show (cleanL l).length = l.length; omega)
theorem clean_step (l : List UInt8) (k : Nat) (h : k < l.length) : cleanL (l.take (k + 1)) = cleanL (l.take k) ++ (if badB l[k] = true then [] else [l[k]]) := by
  unfold cleanL
  rw [List.take_succ_eq_append_getElem h, List.filter_append]
  congr 1
  by_cases h1 : l[k] = 10
  · rw [h1]; rfl
  · by_cases h2 : l[k] = 13
    · rw [h2]; rfl
    · simp [badB, h1, h2]
theorem bad_step (l : List UInt8) (k : Nat) (h : k < l.length) : badN (l.take (k + 1)) = badN (l.take k) + (if badB l[k] = true then 1 else 0) := by
  unfold badN
  rw [List.take_succ_eq_append_getElem h, List.countP_append]
  congr 1
  by_cases h1 : badB l[k] = true
  · rw [if_pos h1]; simp [h1]
  · rw [if_neg h1]; simp [h1]
theorem clean_take_le (l : List UInt8) (k : Nat) : (cleanL (l.take k)).length ≤ (cleanL l).length :=
  ((List.take_sublist k l).filter _).length_le
theorem copy_none (d : Option Addr) (n c : Nat) (x : Addr) (cx : Nat) (ty : TypeId) (w : World) : (Builtin.copy_ #[192, 192] ty #[.slice d n c, .slice (some x) 0 cx]).run Tryz.prog w = .ok (.int .i64 0) w := by
  have hz : ∀ w, (Go.sizeOf 5).run Tryz.prog w = .ok 1 w := fun w => by simp
  cases d <;> simp [Builtin.copy_, run_underlying Tryz.underlying192, Builtin.lenOf, Builtin.firstCells, hz, storeCells, loadCells, goInt, loadCellsFrom]
theorem neq_nil (w : World) (a : Option Addr) (l c : Nat) : (binOp .neq 192 (.slice a l c) (.slice none 0 0)).run Tryz.prog w = .ok (.bool (!a.isNone)) w := run_neq_slice_nil w _ _ a l c Tryz.underlying192
end Go.Proofs.YtbdmmgmcbecolaaGreatDoor
namespace Go.Proofs.YtbdmmgmcbecolaaGreatDoor
open Go.RowKit
def twoC (s : ByteArray) (k : Nat) : Nat := if k = 0 then 0 else if k = 1 then s.data.toList.count 10 else s.data.toList.count 10 + s.data.toList.count 13
theorem twoC_end (s : ByteArray) : twoC s 2 = badN s.data.toList := (bad_two _).symm
theorem bs_clean (s : ByteArray) (h : badN s.data.toList = 0) : s = bs (cleanL s.data.toList) := by rw [clean_none _ h, bs_self]
theorem bad_cell {b : UInt8} (h : badB b = true) {x y : Addr} {cx cy : Nat} {v : Value} : ∃ x' cx', bsF (.slice (some x) 0 cx) (.slice (some y) 0 cy) v b.toNat = .slice (some x') 0 cx' := by
  unfold badB at h
  rw [Bool.or_eq_true, beq_iff_eq, beq_iff_eq] at h
  rcases h with rfl | rfl
  · exact ⟨x, cx, rfl⟩
  · exact ⟨y, cy, rfl⟩
theorem good_cell {b : UInt8} (h : ¬ badB b = true) {x y v : Value} : bsF x y v b.toNat = .slice none 0 0 := by
  unfold badB at h
  rw [Bool.or_eq_true, beq_iff_eq, beq_iff_eq] at h
  have h1 : b.toNat ≠ 10 := fun e => h (.inl (UInt8.toNat_inj.1 e))
  have h2 : b.toNat ≠ 13 := fun e => h (.inr (UInt8.toNat_inj.1 e))
  have h3 := UInt8.toNat_lt b
  unfold bsF
  rw [if_neg (by omega), if_neg h1, if_neg h2]
theorem make_bytes (N : Nat) (h : N ≤ 1000000) (w : World) : (Instr.makeSlice 192 (.int .i64 (N : Int)) (.int .i64 (N : Int))).run Tryz.prog w = .ok (.slice (some ⟨w.heap.size, 0, none⟩) N N) (w.alloc (.cells (madeCells #[.int .u8 0] N) 5)) := by
  obtain ⟨i0, hi, hz0, hz1, hz2⟩ := info_parts (show (Tryz.prog.info? 5).map (fun i => (i.zero, i.size, i.bytes)) = some (some (.int .u8 0), 1, 1) by kernel_rfl)
  have := run_make (P := Tryz.prog) w 192 5 i0 _ Tryz.underlying192 hi hz0 .i64 .i64 N N (by omega) (by omega) (by rw [hz2]; omega) (by omega)
  rw [this, hz1, Int.toNat_natCast, Nat.mul_one]
  rfl
theorem conv_row {w : World} {B N : Nat} {l : List UInt8} (h : w.rowIs B 5 N (Lib.Lz.bytes l)) (hl : N = l.length) : (convert 192 9 (.slice (some ⟨B, 0, none⟩) N N)).run Tryz.prog w = .ok (.string (bs l)) w := by
  subst hl
  refine run_convert_bytes_back (P := Tryz.prog) w 192 9 5 ⟨B, 0, none⟩ l.length l Tryz.underlying192 Tryz.underlying5 Tryz.underlying9 (fun j hj => ?_)
  have e : (⟨B, 0, none⟩ : Addr).add j = ⟨B, j, none⟩ := by unfold Addr.add; split <;> simp_all
  rw [e, World.rowIs.cell h hj]
  unfold Lib.Lz.bytes
  rw [List.getElem?_eq_getElem hj]
  rfl
structure BSt (w0 w : World) (G : Nat) (x y : Value) (H c : Nat) : Prop where
  reps : BsR w G x y (.slice (some ⟨H, 0, none⟩) 2 c)
  h0 : w.cell? ⟨H, 0, none⟩ = some (.string ⟨#[10]⟩)
  h1 : w.cell? ⟨H, 1, none⟩ = some (.string ⟨#[13]⟩)
  bel : Below w0.heap.size w0 w
theorem BSt.drewN {w0 w : World} {G : Nat} {x y : Value} {H c : Nat} (h : BSt w0 w G x y H c) (n : Nat) : BSt w0 (w.drewN n) G x y H c where
  reps := World.rowIs.of_block h.reps rfl
  h0 := h.h0
  h1 := h.h1
  bel := ⟨h.bel.os, h.bel.tape, h.bel.output, h.bel.size, h.bel.block⟩
theorem BSt.cells {w0 w : World} {G : Nat} {x y : Value} {H c : Nat} (h : BSt w0 w G x y H c) : w.cell? ⟨G, 256, none⟩ = some (.slice (some ⟨H, 0, none⟩) 2 c) ∧ w.cell? ⟨G, 10, none⟩ = some x ∧ w.cell? ⟨G, 13, none⟩ = some y ∧ w.cell? ⟨H, 0, none⟩ = some (.string ⟨#[10]⟩) ∧ w.cell? ⟨H, 1, none⟩ = some (.string ⟨#[13]⟩) :=
  ⟨World.rowIs.cell h.reps (i := 256) (by decide), World.rowIs.cell h.reps (i := 10) (by decide), World.rowIs.cell h.reps (i := 13) (by decide), h.h0, h.h1⟩
theorem row_push {w : World} {B N J : Nat} {l : List UInt8} {b : UInt8} (h : w.rowIs B 5 N (Lib.Lz.bytes l)) (hJ : l.length = J) : (w.setCell ⟨B, J, none⟩ (.int .u8 (b.toNat : Int))).rowIs B 5 N (Lib.Lz.bytes (l ++ [b])) := by
  subst hJ
  refine World.rowIs.congr (World.rowIs.set h l.length _) (fun i _ => ?_)
  unfold Lib.Lz.bytes
  by_cases e : i = l.length
  · subst e
    rw [if_pos rfl, List.getElem?_append_right (Nat.le_refl _)]
    simp
  · rw [if_neg e]
    rcases Nat.lt_or_ge i l.length with h1 | h1
    · rw [List.getElem?_append_left h1]
    · rw [List.getElem?_eq_none h1, List.getElem?_eq_none (by simp; omega)]
set_option maxRecDepth 100000 in
set_option maxHeartbeats 4000000 in
theorem bsr_replace (s : ByteArray) (G H c : Nat) (x y : Addr) (cx cy : Nat) (w0 : World) (hB : BsR w0 G (.slice (some x) 0 cx) (.slice (some y) 0 cy) (.slice (some ⟨H, 0, none⟩) 2 c))
    (k0 : w0.cell? ⟨H, 0, none⟩ = some (.string ⟨#[10]⟩)) (k1 : w0.cell? ⟨H, 1, none⟩ = some (.string ⟨#[13]⟩)) (hs : s.size ≤ 1000000) :
    Calls Tryz.prog 323 #[.pointer (some ⟨G, 0, none⟩), .string s] w0 fun e w' => e = .returned (.string (bs (cleanL s.data.toList))) ∧ Below w0.heap.size w0 w' := by
  have g2 : w0.cell? ⟨G, 256, none⟩ = some (.slice (some ⟨H, 0, none⟩) 2 c) := World.rowIs.cell hB (i := 256) (by decide)
  have HCn := Lib.hid (fun c W => Any.strings_Count_one Tryz.lays138 s c W)
  have HS0 : Hid (BSt w0 w0 G (.slice (some x) 0 cx) (.slice (some y) 0 cy) H c) := Lib.hid ⟨hB, k0, k1, Below.refl _ _⟩
  have hbad := clean_bad s.data.toList
  rw [size_len] at hbad
  obtain ⟨N, hN⟩ : ∃ N, (cleanL s.data.toList).length = N := ⟨_, rfl⟩
  have HN := Lib.hid hN.symm
  rw [hN] at hbad
  have hNm : N ≤ 1000000 := by omega
  have HNm := Lib.hid hNm
  have HBAD := Lib.hid hbad
  have hmk := make_bytes N hNm
  have hneq := neq_nil
  have hcp := copy_none
  clear hN hB hbad hNm k0 k1
  by_cases hlong : (16 : Int) ≤ (s.size : Int)
  · go_enter Tryz.func323, Tryz.ntmps323
    go_wp2_with fail
    go_loopg [5, 6, 32] 2 (fun gk s5 s6 s32 wr => ∃ k : Nat, k + gk = 2 ∧ s5 = .int .i64 ((s.size : Int) - (twoC s k : Int)) ∧ s6 = .bool (decide (twoC s k ≠ 0)) ∧ s32 = .int .i64 (k : Int) ∧ BSt w0 wr G (.slice (some x) 0 cx) (.slice (some y) 0 cy) H c)
    case atStart => exact ⟨0, by omega, by simp [twoC], by simp [twoC], rfl, HS0.out⟩
    case round =>
      obtain ⟨k, hgk, rfl, rfl, rfl, hw⟩ := hrel
      generalize wr = w at hw ⊢
      have HS := Lib.hid hw
      clear hw g2
      cases gk with
      | zero =>
        obtain rfl : k = 2 := by omega
        rw [twoC_end]
        by_cases hT : badN s.data.toList = 0
        · have HT := Lib.hid hT
          rw [hT]
          clear hT
          go_wp2_with fail
          go_ret
          exact ⟨ret_str (bs_clean s HT.out), HS.out.bel⟩
        · have hTd : decide (badN s.data.toList ≠ 0) = true := decide_eq_true hT
          have hsub : (s.size : Int) - (badN s.data.toList : Int) = (N : Int) := by have := HBAD.out; omega
          rw [hTd, hsub]
          clear hTd hsub hT
          go_wp2_with fail
          have hrow := World.rowIs_made w (.int .u8 0) N 5
          have hbel : Below w.heap.size w (w.alloc (.cells (madeCells #[.int .u8 0] N) 5)) := (Below.refl _ _).alloc (Nat.le_refl _) _
          generalize w.alloc (.cells (madeCells #[.int .u8 0] N) 5) = W0 at hrow hbel ⊢
          clear hmk
          go_loopg [13, 14] s.size (fun gk s13 s14 wr => ∃ k : Nat, k + gk = s.size ∧ s13 = .int .i64 ((cleanL (s.data.toList.take k)).length : Int) ∧ s14 = .int .i64 (k : Int) ∧ wr.rowIs w.heap.size 5 N (Lib.Lz.bytes (cleanL (s.data.toList.take k))) ∧ Below w.heap.size w wr)
          case atStart => exact ⟨0, by omega, rfl, rfl, hrow, hbel⟩
          case round =>
            obtain ⟨k, hgk, rfl, rfl, hr, hb⟩ := hrel
            cases gk with
            | zero =>
              obtain rfl : k = s.size := by omega
              have hconv := conv_row hr (by rw [HN.out, List.take_of_length_le (by rw [size_len]; exact Nat.le_refl _)])
              rw [List.take_of_length_le (by rw [size_len]; exact Nat.le_refl _)] at hconv
              have HBl := Lib.hid hb
              clear hr hb hrow hbel HN
              go_wp2_with fail
              go_ret
              exact ⟨rfl, bstep HS.out.bel HBl.out⟩
            | succ gm =>
              have hk : k < s.size := by omega
              have hkl : k < s.data.toList.length := by rw [size_len]; exact hk
              have hki : (k : Int) < (s.size : Int) := by omega
              have hst := clean_step s.data.toList k hkl
              have hle := clean_take_le s.data.toList (k + 1)
              have hGr : BsR wr G (.slice (some x) 0 cx) (.slice (some y) 0 cy) (.slice (some ⟨H, 0, none⟩) 2 c) := World.rowIs.of_block HS.out.reps (hb.block G (World.rowIs.lt HS.out.reps))
              obtain ⟨b, hbx⟩ : ∃ b : UInt8, s[k]'hk = b := ⟨_, rfl⟩
              have hbl : s.data.toList[k] = b := by rw [← hbx]; rfl
              rw [hbl] at hst
              have hb256 : (b.toNat : Int) < 256 := by have := UInt8.toNat_lt b; omega
              have hcell : wr.cell? ⟨G, b.toNat, none⟩ = some (bsF (.slice (some x) 0 cx) (.slice (some y) 0 cy) (.slice (some ⟨H, 0, none⟩) 2 c) b.toNat) := World.rowIs.cell hGr (i := b.toNat) (by omega)
              have hwk : IntKind.i64.wrap ((k : Int) + 1) = (k : Int) + 1 := by rw [IntKind.wrap_i64]; omega
              by_cases hbad : badB b = true
              · rw [if_pos hbad, List.append_nil] at hst
                have HST := Lib.hid hst
                have hj : (cleanL (s.data.toList.take k)).length ≤ N := by rw [hst] at hle; rw [HN.out]; exact hle
                obtain ⟨x', cx', hv⟩ : ∃ x' cx', bsF (.slice (some x) 0 cx) (.slice (some y) 0 cy) (.slice (some ⟨H, 0, none⟩) 2 c) b.toNat = .slice (some x') 0 cx' := bad_cell hbad
                rw [hv] at hcell
                have HR := Lib.hid (And.intro hr hb)
                obtain ⟨J, hJ⟩ : ∃ J, (cleanL (s.data.toList.take k)).length = J := ⟨_, rfl⟩
                have HJ := Lib.hid hJ
                rw [hJ] at hj ⊢
                have hji : (J : Int) ≤ (N : Int) := by omega
                have hwj : IntKind.i64.wrap (J : Int) = (J : Int) := by rw [IntKind.wrap_i64]; have := HNm.out; omega
                clear hst hle hGr hbl hv hr hb hJ hrow hbel hbad
                by_cases hJN : N = J
                · subst hJN
                  clear hj hji
                  go_wp2_with fail
                  go_region
                  go_wp2_with fail
                  go_roundg gm
                  case measure => omega
                  case rel => exact ⟨k + 1, by omega, by rw [HST.out, HJ.out], rfl, by rw [HST.out]; exact HR.out.1, HR.out.2.drew⟩
                · go_wp2_with fail
                  go_region
                  go_wp2_with fail
                  go_roundg gm
                  case measure => omega
                  case rel => exact ⟨k + 1, by omega, by rw [HST.out, HJ.out], rfl, by rw [HST.out]; exact HR.out.1, HR.out.2.drew⟩
              · rw [if_neg hbad] at hst
                have HST := Lib.hid hst
                rw [good_cell hbad] at hcell
                obtain ⟨J, hJ⟩ : ∃ J, (cleanL (s.data.toList.take k)).length = J := ⟨_, rfl⟩
                have HJ := Lib.hid hJ
                have hj : J < N := by rw [hst, List.length_append, hJ] at hle; rw [HN.out]; simp only [List.length_cons, List.length_nil] at hle; omega
                have HR := Lib.hid (And.intro hr hb)
                rw [hJ]
                have hji : (J : Int) < (N : Int) := by omega
                have hwj : IntKind.i64.wrap ((J : Int) + 1) = (J : Int) + 1 := by rw [IntKind.wrap_i64]; have := HNm.out; omega
                have hst := World.rowIs.cell hr hj
                have hfz := World.rowIs.frozen hr J
                clear hst hle hGr hbl hr hb hJ hrow hbel hbad
                have hst := World.rowIs.cell HR.out.1 hj
                go_wp2_with fail
                go_roundg gm
                case measure => omega
                case rel => exact ⟨k + 1, by omega, by rw [HST.out, List.length_append, HJ.out]; rfl, rfl, by rw [HST.out]; exact row_push HR.out.1 HJ.out, HR.out.2.setCell (p := ⟨w.heap.size, J, none⟩) (Nat.le_refl _) _⟩
      | succ gm =>
        have hk2 : k = 0 ∨ k = 1 := by omega
        have hcn : s.data.toList.count 10 + s.data.toList.count 13 ≤ s.size := by rw [← bad_two]; have := HBAD.out; omega
        have hc1 := HCn.out 10 w
        have hc2 := HCn.out 13 w
        unfold Lib.countByte at hc1 hc2
        have HT1 : Hid (twoC s 0 = 0 ∧ twoC s 1 = s.data.toList.count 10 ∧ twoC s 2 = s.data.toList.count 10 + s.data.toList.count 13) := Lib.hid ⟨rfl, rfl, rfl⟩
        have w1 : IntKind.i64.wrap (0 - 1) = -1 := by rw [IntKind.wrap_i64]; omega
        have hb10 : ((⟨#[10]⟩ : ByteArray)[0]'(by decide)).toNat = 10 := rfl
        have hb13 : ((⟨#[13]⟩ : ByteArray)[0]'(by decide)).toNat = 13 := rfl
        generalize s.data.toList.count 10 = A at hcn hc1 HT1
        generalize s.data.toList.count 13 = B at hcn hc2 HT1
        have HC1 := Lib.hid hc1
        have HC2 := Lib.hid hc2
        clear hmk hcp hc1 hc2
        obtain ⟨g2, g10, g13, k0, k1⟩ := HS.out.cells
        rcases hk2 with rfl | rfl
        · rw [HT1.out.1]
          by_cases hA : A = 0
          · subst hA
            go_wp2_with (go_at_call 238; refine HC1.out.mono ?_; rintro e w' ⟨rfl, rfl⟩)
            go_roundg gm
            case measure => omega
            case rel => exact ⟨1, by omega, by rw [HT1.out.2.1]; simp, by rw [HT1.out.2.1]; rfl, rfl, HS.out⟩
          · have e1 : ((A : Int) != 0) = true := by rw [bne_iff_ne]; omega
            have e2 : decide (A ≠ 0) = true := decide_eq_true hA
            have w2 : IntKind.i64.wrap ((A : Int) * -1) = - (A : Int) := by rw [IntKind.wrap_i64]; omega
            have w3 : IntKind.i64.wrap ((s.size : Int) + - (A : Int)) = (s.size : Int) - (A : Int) := by rw [IntKind.wrap_i64]; omega
            go_wp2_with (go_at_call 238; refine HC1.out.mono ?_; rintro e w' ⟨rfl, rfl⟩)
            go_quiet (fail)
            go_wp2_with fail
            go_roundg gm
            case measure => omega
            case rel => exact ⟨1, by omega, by rw [HT1.out.2.1], by rw [HT1.out.2.1, e2], rfl, HS.out.drewN _⟩
        · rw [HT1.out.2.1]
          by_cases hB : B = 0
          · subst hB
            go_wp2_with (go_at_call 238; refine HC2.out.mono ?_; rintro e w' ⟨rfl, rfl⟩)
            go_roundg gm
            case measure => omega
            case rel => exact ⟨2, by omega, by rw [HT1.out.2.2]; rfl, by rw [HT1.out.2.2]; simp, rfl, HS.out⟩
          · have e1 : ((B : Int) != 0) = true := by rw [bne_iff_ne]; omega
            have e2 : decide (A + B ≠ 0) = true := decide_eq_true (by omega)
            have w2 : IntKind.i64.wrap ((B : Int) * -1) = - (B : Int) := by rw [IntKind.wrap_i64]; omega
            have w3 : IntKind.i64.wrap ((s.size : Int) - (A : Int) + - (B : Int)) = (s.size : Int) - ((A + B : Nat) : Int) := by rw [IntKind.wrap_i64]; omega
            go_wp2_with (go_at_call 238; refine HC2.out.mono ?_; rintro e w' ⟨rfl, rfl⟩)
            go_quiet (fail)
            go_wp2_with fail
            go_roundg gm
            case measure => omega
            case rel => exact ⟨2, by omega, by rw [HT1.out.2.2, Int.natCast_add], by rw [HT1.out.2.2, e2], rfl, HS.out.drewN _⟩
  · go_enter Tryz.func323, Tryz.ntmps323
    go_wp2_with fail
    go_loopg [5, 6, 10] s.size (fun gk s5 s6 s10 wr => ∃ k : Nat, k + gk = s.size ∧ s5 = .int .i64 ((s.size : Int) - (badN (s.data.toList.take k) : Int)) ∧ s6 = .bool (decide (badN (s.data.toList.take k) ≠ 0)) ∧ s10 = .int .i64 (k : Int) ∧ BSt w0 wr G (.slice (some x) 0 cx) (.slice (some y) 0 cy) H c)
    case atStart => exact ⟨0, by omega, by simp [badN], by simp [badN], rfl, HS0.out⟩
    case round =>
      obtain ⟨k, hgk, rfl, rfl, rfl, hw⟩ := hrel
      generalize wr = w at hw ⊢
      have HS := Lib.hid hw
      clear hw g2
      cases gk with
      | zero =>
        obtain rfl : k = s.size := by omega
        rw [List.take_of_length_le (by rw [size_len]; exact Nat.le_refl _)]
        by_cases hT : badN s.data.toList = 0
        · have HT := Lib.hid hT
          rw [hT]
          clear hT
          go_wp2_with fail
          go_ret
          exact ⟨ret_str (bs_clean s HT.out), HS.out.bel⟩
        · have hTd : decide (badN s.data.toList ≠ 0) = true := decide_eq_true hT
          have hsub : (s.size : Int) - (badN s.data.toList : Int) = (N : Int) := by have := HBAD.out; omega
          rw [hTd, hsub]
          clear hTd hsub hT
          go_wp2_with fail
          have hrow := World.rowIs_made w (.int .u8 0) N 5
          have hbel : Below w.heap.size w (w.alloc (.cells (madeCells #[.int .u8 0] N) 5)) := (Below.refl _ _).alloc (Nat.le_refl _) _
          generalize w.alloc (.cells (madeCells #[.int .u8 0] N) 5) = W0 at hrow hbel ⊢
          clear hmk
          go_loopg [13, 14] s.size (fun gk s13 s14 wr => ∃ k : Nat, k + gk = s.size ∧ s13 = .int .i64 ((cleanL (s.data.toList.take k)).length : Int) ∧ s14 = .int .i64 (k : Int) ∧ wr.rowIs w.heap.size 5 N (Lib.Lz.bytes (cleanL (s.data.toList.take k))) ∧ Below w.heap.size w wr)
          case atStart => exact ⟨0, by omega, rfl, rfl, hrow, hbel⟩
          case round =>
            obtain ⟨k, hgk, rfl, rfl, hr, hb⟩ := hrel
            cases gk with
            | zero =>
              obtain rfl : k = s.size := by omega
              have hconv := conv_row hr (by rw [HN.out, List.take_of_length_le (by rw [size_len]; exact Nat.le_refl _)])
              rw [List.take_of_length_le (by rw [size_len]; exact Nat.le_refl _)] at hconv
              have HBl := Lib.hid hb
              clear hr hb hrow hbel HN
              go_wp2_with fail
              go_ret
              exact ⟨rfl, bstep HS.out.bel HBl.out⟩
            | succ gm =>
              have hk : k < s.size := by omega
              have hkl : k < s.data.toList.length := by rw [size_len]; exact hk
              have hki : (k : Int) < (s.size : Int) := by omega
              have hst := clean_step s.data.toList k hkl
              have hle := clean_take_le s.data.toList (k + 1)
              have hGr : BsR wr G (.slice (some x) 0 cx) (.slice (some y) 0 cy) (.slice (some ⟨H, 0, none⟩) 2 c) := World.rowIs.of_block HS.out.reps (hb.block G (World.rowIs.lt HS.out.reps))
              obtain ⟨b, hbx⟩ : ∃ b : UInt8, s[k]'hk = b := ⟨_, rfl⟩
              have hbl : s.data.toList[k] = b := by rw [← hbx]; rfl
              rw [hbl] at hst
              have hb256 : (b.toNat : Int) < 256 := by have := UInt8.toNat_lt b; omega
              have hcell : wr.cell? ⟨G, b.toNat, none⟩ = some (bsF (.slice (some x) 0 cx) (.slice (some y) 0 cy) (.slice (some ⟨H, 0, none⟩) 2 c) b.toNat) := World.rowIs.cell hGr (i := b.toNat) (by omega)
              have hwk : IntKind.i64.wrap ((k : Int) + 1) = (k : Int) + 1 := by rw [IntKind.wrap_i64]; omega
              by_cases hbad : badB b = true
              · rw [if_pos hbad, List.append_nil] at hst
                have HST := Lib.hid hst
                have hj : (cleanL (s.data.toList.take k)).length ≤ N := by rw [hst] at hle; rw [HN.out]; exact hle
                obtain ⟨x', cx', hv⟩ : ∃ x' cx', bsF (.slice (some x) 0 cx) (.slice (some y) 0 cy) (.slice (some ⟨H, 0, none⟩) 2 c) b.toNat = .slice (some x') 0 cx' := bad_cell hbad
                rw [hv] at hcell
                have HR := Lib.hid (And.intro hr hb)
                obtain ⟨J, hJ⟩ : ∃ J, (cleanL (s.data.toList.take k)).length = J := ⟨_, rfl⟩
                have HJ := Lib.hid hJ
                rw [hJ] at hj ⊢
                have hji : (J : Int) ≤ (N : Int) := by omega
                have hwj : IntKind.i64.wrap (J : Int) = (J : Int) := by rw [IntKind.wrap_i64]; have := HNm.out; omega
                clear hst hle hGr hbl hv hr hb hJ hrow hbel hbad
                by_cases hJN : N = J
                · subst hJN
                  clear hj hji
                  go_wp2_with fail
                  go_region
                  go_wp2_with fail
                  go_roundg gm
                  case measure => omega
                  case rel => exact ⟨k + 1, by omega, by rw [HST.out, HJ.out], rfl, by rw [HST.out]; exact HR.out.1, HR.out.2.drew⟩
                · go_wp2_with fail
                  go_region
                  go_wp2_with fail
                  go_roundg gm
                  case measure => omega
                  case rel => exact ⟨k + 1, by omega, by rw [HST.out, HJ.out], rfl, by rw [HST.out]; exact HR.out.1, HR.out.2.drew⟩
              · rw [if_neg hbad] at hst
                have HST := Lib.hid hst
                rw [good_cell hbad] at hcell
                obtain ⟨J, hJ⟩ : ∃ J, (cleanL (s.data.toList.take k)).length = J := ⟨_, rfl⟩
                have HJ := Lib.hid hJ
                have hj : J < N := by rw [hst, List.length_append, hJ] at hle; rw [HN.out]; simp only [List.length_cons, List.length_nil] at hle; omega
                have HR := Lib.hid (And.intro hr hb)
                rw [hJ]
                have hji : (J : Int) < (N : Int) := by omega
                have hwj : IntKind.i64.wrap ((J : Int) + 1) = (J : Int) + 1 := by rw [IntKind.wrap_i64]; have := HNm.out; omega
                have hst := World.rowIs.cell hr hj
                have hfz := World.rowIs.frozen hr J
                clear hst hle hGr hbl hr hb hJ hrow hbel hbad
                have hst := World.rowIs.cell HR.out.1 hj
                go_wp2_with fail
                go_roundg gm
                case measure => omega
                case rel => exact ⟨k + 1, by omega, by rw [HST.out, List.length_append, HJ.out]; rfl, rfl, by rw [HST.out]; exact row_push HR.out.1 HJ.out, HR.out.2.setCell (p := ⟨w.heap.size, J, none⟩) (Nat.le_refl _) _⟩
      | succ gm =>
        have hk : k < s.size := by omega
        have hkl : k < s.data.toList.length := by rw [size_len]; exact hk
        have hki : (k : Int) < (s.size : Int) := by omega
        have hst := bad_step s.data.toList k hkl
        have hble : badN (s.data.toList.take k) ≤ k := Nat.le_trans List.countP_le_length (List.length_take_le k _)
        obtain ⟨b, hbx⟩ : ∃ b : UInt8, s[k]'hk = b := ⟨_, rfl⟩
        have hbl : s.data.toList[k] = b := by rw [← hbx]; rfl
        rw [hbl] at hst
        have hb256 : (b.toNat : Int) < 256 := by have := UInt8.toNat_lt b; omega
        have hcell : w.cell? ⟨G, b.toNat, none⟩ = some (bsF (.slice (some x) 0 cx) (.slice (some y) 0 cy) (.slice (some ⟨H, 0, none⟩) 2 c) b.toNat) := World.rowIs.cell HS.out.reps (i := b.toNat) (by omega)
        have hwk : IntKind.i64.wrap ((k : Int) + 1) = (k : Int) + 1 := by rw [IntKind.wrap_i64]; omega
        have w1 : IntKind.i64.wrap (0 - 1) = -1 := by rw [IntKind.wrap_i64]; omega
        have HST := Lib.hid hst
        obtain ⟨A, hA⟩ : ∃ A, badN (s.data.toList.take k) = A := ⟨_, rfl⟩
        have HA := Lib.hid hA
        rw [hA] at hble
        rw [hA]
        have w3 : IntKind.i64.wrap ((s.size : Int) - (A : Int) + -1) = (s.size : Int) - (A : Int) + -1 := by rw [IntKind.wrap_i64]; omega
        clear hst hbl hmk hcp hA
        by_cases hbad : badB b = true
        · obtain ⟨x', cx', hv⟩ : ∃ x' cx', bsF (.slice (some x) 0 cx) (.slice (some y) 0 cy) (.slice (some ⟨H, 0, none⟩) 2 c) b.toNat = .slice (some x') 0 cx' := bad_cell hbad
          rw [hv] at hcell
          have HN1 : Hid (badN (s.data.toList.take (k + 1)) = A + 1) := Lib.hid (by rw [HST.out, HA.out, if_pos hbad])
          clear hv hbad hble
          go_wp2_with fail
          go_roundg gm
          case measure => omega
          case rel => exact ⟨k + 1, by omega, by rw [HN1.out]; congr 1; omega, by rw [HN1.out]; simp, rfl, HS.out⟩
        · rw [good_cell hbad] at hcell
          have HN1 : Hid (badN (s.data.toList.take (k + 1)) = A) := Lib.hid (by rw [HST.out, HA.out, if_neg hbad, Nat.add_zero])
          clear hbad hble
          go_wp2_with fail
          go_roundg gm
          case measure => omega
          case rel => exact ⟨k + 1, by omega, by rw [HN1.out], by rw [HN1.out], rfl, HS.out⟩
end Go.Proofs.YtbdmmgmcbecolaaGreatDoor
namespace Go.Proofs.YtbdmmgmcbecolaaGreatDoor
open Go.RowKit
theorem meth_replace (v : Value) (w : World) : (Go.method 528 356 v "Replace").run Tryz.prog w = .ok (323, v) w := by kernel_rfl
set_option maxRecDepth 100000 in
set_option maxHeartbeats 2000000 in
theorem repl_replace (s : ByteArray) (b g c : Nat) (w : World) (hR : Rp w b 0 0 .nilIface (.slice (some ⟨g, 0, none⟩) 4 c)) (B : Nat) (hgb : g < b) (hO : w.ownsRow B 9 1 (.slice (some ⟨g, 0, none⟩) 4 c) 4 newsV) (hs : s.size ≤ 1000000) :
    Calls Tryz.prog 196 #[.pointer (some ⟨b, 0, none⟩), .string s] w fun e w' => e = .returned (.string (bs (cleanL s.data.toList))) ∧ Below b w w' := by
  have HD := Lib.hid (once_do b g c w hR B hgb hO)
  have hmf : ∀ (fn : Fn) (first cap : Array Value) (w : World), (Instr.makeFunc fn first cap).run Tryz.prog w = .ok (.func fn first cap) w := fun _ _ _ _ => rfl
  clear hR hO
  go_enter Tryz.func196, Tryz.ntmps196
  have hm := meth_replace
  go_wp2_with (first
    | (go_at_call 212; refine HD.out.mono ?_; rintro e w1 ⟨rfl, ⟨G, x, cx, y, cy, H, ch, hr, hbG, hbs, k0, k1, hHb⟩, hb1⟩; obtain ⟨-, -, q3, -⟩ := hr.cells; have HX := Lib.hid (bsr_replace s G H ch x y cx cy w1 hbs k0 k1 hs); have HB1 := Lib.hid hb1; have HLT := Lib.hid hr.lt; clear hr hbs k0 k1 hb1)
    | (go_at_call 323; refine HX.out.mono ?_; rintro e w2 ⟨rfl, hb2⟩; have HB2 := Lib.hid hb2; clear hb2))
  go_ret
  exact ⟨rfl, HB1.out.trans (HB2.out.mono (Nat.le_of_lt HLT.out))⟩
set_option maxRecDepth 100000 in
set_option maxHeartbeats 2000000 in
theorem fault_clean (s : ByteArray) (w : World) (hs : s.size ≤ 1000000) :
    Calls Tryz.prog 165 #[.string s] w fun e w' => e = .returned (.string (bs (cleanL s.data.toList))) ∧ Below w.heap.size w w' := by
  have HN := Lib.hid (new_replacer w)
  go_enter Tryz.func165, Tryz.ntmps165
  go_wp2_with (first
    | (go_at_call 195; refine HN.out.mono ?_; rintro e w1 ⟨b, g, c, rfl, hgb, hbl, hr, ho, hb1⟩; have HX := Lib.hid (repl_replace s b g c w1 hr w.heap.size hgb ho hs); have HB1 := Lib.hid hb1; clear hr ho hb1)
    | (go_at_call 196; refine HX.out.mono ?_; rintro e w2 ⟨rfl, hb2⟩; have HB2 := Lib.hid hb2; clear hb2))
  go_ret
  exact ⟨rfl, HB1.out.trans (HB2.out.mono hbl)⟩
end Go.Proofs.YtbdmmgmcbecolaaGreatDoor
namespace Go.Proofs.YtbdmmgmcbecolaaGreatDoor
open Go.RowKit

theorem gapL_contains (c : UInt8) : gapL.contains c = gapB c := by
  unfold gapL gapB
  simp only [List.contains, List.elem]
  cases (c == 32) <;> cases (c == 9) <;> rfl
theorem trimS_cons (g : UInt8) (X : List UInt8) (h : gapB g = true) : Go.Lib.trimS (g :: X) gapL = Go.Lib.trimS X gapL := by
  have hg : gapL.contains g = true := (gapL_contains g).trans h
  unfold Go.Lib.trimS Go.Lib.trimRightS Go.Lib.trimLeftS
  rw [List.reverse_cons, List.dropWhile_append]
  split
  · rename_i he
    rw [List.isEmpty_iff] at he
    rw [he, List.dropWhile_cons_of_pos hg]; rfl
  · rw [List.reverse_append]
    show List.dropWhile _ (g :: _) = _
    rw [List.dropWhile_cons_of_pos hg]; rfl
theorem trimS_snoc (X : List UInt8) (g : UInt8) (h : gapB g = true) : Go.Lib.trimS (X ++ [g]) gapL = Go.Lib.trimS X gapL := by
  have hg : gapL.contains g = true := (gapL_contains g).trans h
  unfold Go.Lib.trimS Go.Lib.trimRightS
  rw [List.reverse_append]
  show Go.Lib.trimLeftS (List.dropWhile _ (g :: _)).reverse _ = _
  rw [List.dropWhile_cons_of_pos hg]; rfl
theorem trimS_le (X : List UInt8) : (Go.Lib.trimS X gapL).length ≤ X.length := by
  unfold Go.Lib.trimS Go.Lib.trimRightS Go.Lib.trimLeftS
  refine Nat.le_trans (List.dropWhile_suffix _).length_le ?_
  rw [List.length_reverse]
  refine Nat.le_trans (List.dropWhile_suffix _).length_le ?_
  rw [List.length_reverse]; exact Nat.le_refl _
def headGap (X : List UInt8) : Bool := match X with | [] => false | c :: _ => gapB c
def noGap (X : List UInt8) : Bool := !headGap X && !headGap X.reverse
theorem trimS_done (X : List UInt8) (h1 : headGap X = false) (h2 : headGap X.reverse = false) : Go.Lib.trimS X gapL = X := by
  have key : ∀ Y : List UInt8, headGap Y = false → Y.dropWhile (gapL.contains ·) = Y := by
    intro Y h
    cases Y with
    | nil => rfl
    | cons c t => exact List.dropWhile_cons_of_neg (by rw [gapL_contains]; show ¬ gapB c = true; rw [show gapB c = false from h]; decide)
  unfold Go.Lib.trimS Go.Lib.trimRightS Go.Lib.trimLeftS
  rw [key _ h2, List.reverse_reverse, key _ h1]
theorem trimS_iff (X : List UInt8) : Go.Lib.trimS X gapL = X ↔ noGap X = true := by
  unfold noGap
  constructor
  · intro h
    have a : headGap X = false := by
      cases X with
      | nil => rfl
      | cons c t =>
        rw [Bool.eq_false_iff]
        intro hc
        have := trimS_le t
        rw [← trimS_cons c t hc, h] at this
        simp at this
        omega
    have b : headGap X.reverse = false := by
      cases hr : X.reverse with
      | nil => rfl
      | cons c t =>
        rw [Bool.eq_false_iff]
        intro hc
        have e : X = t.reverse ++ [c] := by rw [← List.reverse_reverse X, hr, List.reverse_cons]
        have := trimS_le t.reverse
        rw [← trimS_snoc t.reverse c hc, ← e, h, e] at this
        simp at this
        omega
    rw [a, b]; rfl
  · intro h
    simp only [Bool.and_eq_true, Bool.not_eq_true'] at h
    exact trimS_done X h.1 h.2

/-- what stands behind a name's colon -/
def tailV (v : List UInt8) : List UInt8 := if v.isEmpty then [] else 32 :: v
def printL (n v : List UInt8) : List UInt8 := titL true n ++ 58 :: tailV v
def printOk (n v : List UInt8) : Bool := nameL n && plainAll v && noGap v
def fieldE (n v : List UInt8) : Nat := if printOk n v = true then (if 256 < (printL n v).length then 5 else 0) else 4
def fieldS (n v : List UInt8) : List UInt8 := if fieldE n v = 0 then printL n v else []

theorem titL_append (b : Bool) (x y : List UInt8) : titL b (x ++ y) = titL b x ++ titL (match x.getLast? with | none => b | some c => stB c) y := by
  induction x generalizing b with
  | nil => rfl
  | cons c t ih =>
    show UInt8.ofNat _ :: titL (stB c) (t ++ y) = (UInt8.ofNat _ :: titL (stB c) t) ++ _
    rw [ih, List.cons_append, List.getLast?_cons]
    congr 2
    cases t.getLast? <;> rfl
theorem titL_len (b : Bool) (l : List UInt8) : (titL b l).length = l.length := by
  induction l generalizing b with
  | nil => rfl
  | cons c t ih => simp [titL, ih]
/-- trimming the end of a printed name, colon, blank and value: the blank goes just where there is no value -/
theorem trimR_print (t v : List UInt8) (h : noGap v = true) : Go.Lib.trimRightS (t ++ [58, 32] ++ v) gapL = t ++ 58 :: tailV v := by
  unfold Go.Lib.trimRightS tailV
  cases hv : v with
  | nil =>
    simp only [List.isEmpty_nil, if_true]
    have e : (t ++ [58, 32] ++ []).reverse = 32 :: 58 :: t.reverse := by simp
    rw [e, List.dropWhile_cons_of_pos (by decide), List.dropWhile_cons_of_neg (by decide)]
    simp
  | cons a r =>
    rw [← hv]
    have hb : headGap v.reverse = false := by
      unfold noGap at h; simp only [Bool.and_eq_true, Bool.not_eq_true'] at h; exact h.2
    have e : (t ++ [58, 32] ++ v).reverse = v.reverse ++ (32 :: 58 :: t.reverse) := by simp
    rw [e]
    cases hr : v.reverse with
    | nil => rw [List.reverse_eq_nil_iff.1 hr] at hv; exact absurd hv (by simp)
    | cons c u =>
      rw [hr] at hb
      rw [List.cons_append, List.dropWhile_cons_of_neg (by rw [gapL_contains]; rw [show gapB c = false from hb]; decide), ← List.cons_append, ← hr, List.reverse_append]
      simp [hv]
end Go.Proofs.YtbdmmgmcbecolaaGreatDoor
namespace Go.Proofs.YtbdmmgmcbecolaaGreatDoor
open Go.RowKit

theorem namedN_bd (n : Nat) (h : namedN n = true) : (97 ≤ n ∧ n ≤ 122) ∨ (48 ≤ n ∧ n ≤ 57) ∨ n = 45 := by
  rcases named_cases n with ⟨a, b, _⟩ | ⟨a, b, _⟩ | ⟨a, _⟩ | ⟨_, _, c⟩ | ⟨_, _, c⟩ | ⟨_, c⟩
  · exact .inl ⟨a, b⟩
  · exact .inr (.inl ⟨a, b⟩)
  · exact .inr (.inr a)
  · rw [c] at h; exact absurd h (by decide)
  · rw [c] at h; exact absurd h (by decide)
  · rw [c] at h; exact absurd h (by decide)
theorem letN_iff (n : Nat) : letN n = true ↔ 97 ≤ n ∧ n ≤ 122 := by
  unfold letN; simp
theorem titN_named (b : Bool) (n : Nat) (h : namedN n = true) : titN b n = n ∨ (97 ≤ n ∧ n ≤ 122 ∧ titN b n = n - 32) := by
  unfold titN
  split
  · rename_i hb
    simp only [Bool.and_eq_true] at hb
    have := (letN_iff n).1 hb.2
    exact .inr ⟨this.1, this.2, rfl⟩
  · exact .inl rfl
theorem tit_byte (b : Bool) (c : UInt8) (h : namedN c.toNat = true) : (UInt8.ofNat (titN b c.toNat)).toNat = titN b c.toNat := by
  rw [UInt8.toNat_ofNat']
  have := namedN_bd _ h
  rcases titN_named b _ h with e | ⟨_, _, e⟩ <;> rw [e] <;> omega
theorem plainB_of (n : Nat) (h1 : 32 ≤ n) (h2 : n ≤ 126) : plainB n = true := by
  unfold plainB; rw [decide_eq_true h1, decide_eq_true h2]; simp
theorem tit_plain (b : Bool) (c : UInt8) (h : namedN c.toNat = true) : plainB (UInt8.ofNat (titN b c.toNat)).toNat = true ∧ UInt8.ofNat (titN b c.toNat) ≠ 58 := by
  rw [tit_byte b c h]
  have hb := namedN_bd _ h
  rcases titN_named b _ h with e | ⟨a1, a2, e⟩
  · refine ⟨by rw [e]; exact plainB_of _ (by omega) (by omega), fun he => ?_⟩
    have := congrArg UInt8.toNat he
    rw [tit_byte b c h, e] at this
    have : (58 : UInt8).toNat = 58 := rfl
    omega
  · refine ⟨by rw [e]; exact plainB_of _ (by omega) (by omega), fun he => ?_⟩
    have := congrArg UInt8.toNat he
    rw [tit_byte b c h, e] at this
    have : (58 : UInt8).toNat = 58 := rfl
    omega
theorem titL_plain (b : Bool) (l : List UInt8) (h : ∀ c ∈ l, namedN c.toNat = true) : plainAll (titL b l) = true ∧ ∀ c ∈ titL b l, c ≠ 58 := by
  induction l generalizing b with
  | nil => exact ⟨rfl, fun c hc => by simp [titL] at hc⟩
  | cons c t ih =>
    have h1 := tit_plain b c (h c (List.mem_cons_self ..))
    have h2 := ih (stB c) (fun d hd => h d (List.mem_cons_of_mem _ hd))
    constructor
    · show plainAll (_ :: _) = true
      unfold plainAll at h2 ⊢
      rw [List.all_cons, h1.1, h2.1]; rfl
    · intro d hd
      change d ∈ UInt8.ofNat (titN b c.toNat) :: titL (stB c) t at hd
      rcases List.mem_cons.1 hd with rfl | hd
      · exact h1.2
      · exact h2.2 d hd
theorem nameL_all (n : List UInt8) (h : nameL n = true) : (∀ c ∈ n, namedN c.toNat = true) ∧ n ≠ [] ∧ n.length ≤ 32 := by
  unfold nameL at h
  simp only [Bool.and_eq_true, Bool.not_eq_true', decide_eq_true_eq, List.all_eq_true] at h
  exact ⟨h.2, fun e => by rw [e] at h; exact absurd h.1.1 (by decide), h.1.2⟩
theorem printOk_and (n v : List UInt8) (h : printOk n v = true) : nameL n = true ∧ plainAll v = true ∧ noGap v = true := by
  unfold printOk at h; simp only [Bool.and_eq_true] at h; exact ⟨h.1.1, h.1.2, h.2⟩
theorem fieldE_zero (n v : List UInt8) (h : fieldE n v = 0) : printOk n v = true ∧ (printL n v).length ≤ 256 := by
  unfold fieldE at h
  split at h
  · split at h
    · exact absurd h (by decide)
    · exact ⟨by assumption, by omega⟩
  · exact absurd h (by decide)
theorem tailV_plain (v : List UInt8) (h : plainAll v = true) : plainAll (tailV v) = true := by
  unfold tailV; split
  · rfl
  · unfold plainAll at h ⊢; rw [List.all_cons, h]; rfl
theorem print_put (n v : List UInt8) (h : fieldE n v = 0) : putErr (printL n v) = 0 := by
  obtain ⟨hk, hl⟩ := fieldE_zero n v h
  obtain ⟨h1, h2, h3⟩ := printOk_and n v hk
  obtain ⟨ha, hne, hlen⟩ := nameL_all n h1
  obtain ⟨p1, p2⟩ := titL_plain true n ha
  have hp : plainAll (printL n v) = true := by
    have ht := tailV_plain v h2
    unfold printL
    unfold plainAll at p1 ht ⊢
    rw [List.all_append, p1, List.all_cons, ht]; rfl
  unfold putErr
  unfold plainAll at hp
  rw [hp, if_neg (by decide), if_neg (by omega)]
end Go.Proofs.YtbdmmgmcbecolaaGreatDoor
namespace Go.Proofs.YtbdmmgmcbecolaaGreatDoor
open Go.RowKit
theorem ref_small (c : Nat) (w : World) (hc : c < 256) : Calls Tryz.prog 115 #[.int .u8 (c : Int)] w fun e w' => e = .returned (.int .u8 (smallN c : Nat)) ∧ w' = w := by
  by_cases h1 : c < 65
  · have H : Hid (smallN c = c) := Lib.hid (if_neg (by omega))
    have t : decide ((c : Int) ≥ 65) = false := by simp; omega
    go_enter Tryz.func115, Tryz.ntmps115
    go_wp2_with fail
    go_ret
    exact ⟨by rw [H.out]; rfl, rfl⟩
  · by_cases h2 : 90 < c
    · have H : Hid (smallN c = c) := Lib.hid (if_neg (by omega))
      have t : decide ((c : Int) ≤ 90) = false := by simp; omega
      go_enter Tryz.func115, Tryz.ntmps115
      go_wp2_with fail
      go_ret
      exact ⟨by rw [H.out]; rfl, rfl⟩
    · have H : Hid (smallN c = c + 32) := Lib.hid (if_pos (by omega))
      have t : decide ((c : Int) ≤ 90) = true := by simp; omega
      have h3 : 65 ≤ c := by omega
      go_enter Tryz.func115, Tryz.ntmps115
      go_wp2_with fail
      go_ret
      refine ⟨ret_int ?_, rfl⟩
      rw [H.out]; omega

theorem ref_gap (c : UInt8) (w : World) : Calls Tryz.prog 117 #[.int .u8 (c.toNat : Int)] w fun e w' => e = .returned (.bool (gapB c)) ∧ w' = w := by
  by_cases h1 : c = 32
  · subst h1
    go_enter Tryz.func117, Tryz.ntmps117
    go_wp2_with fail
    go_ret
    exact ⟨rfl, rfl⟩
  · have t1 : ((c.toNat : Int) == 32) = false := by
      rw [beq_eq_false_iff_ne]; intro e; exact h1 (UInt8.toNat_inj.1 (by show _ = 32; omega))
    have H : Hid (gapB c = (c == 9)) := Lib.hid (by unfold gapB; rw [beq_eq_false_iff_ne.2 h1, Bool.false_or])
    by_cases h2 : c = 9
    · subst h2
      go_enter Tryz.func117, Tryz.ntmps117
      go_wp2_with fail
      go_ret
      exact ⟨rfl, rfl⟩
    · have t2 : ((c.toNat : Int) == 9) = false := by
        rw [beq_eq_false_iff_ne]; intro e; exact h2 (UInt8.toNat_inj.1 (by show _ = 9; omega))
      have H2 : Hid (gapB c = false) := Lib.hid (H.out.trans (beq_eq_false_iff_ne.2 h2))
      clear H h1 h2
      go_enter Tryz.func117, Tryz.ntmps117
      go_wp2_with fail
      go_ret
      exact ⟨ret_bool H2.out.symm, rfl⟩


set_option maxHeartbeats 1000000 in
theorem ref_fplain (s : ByteArray) (w : World) (hs : s.size ≤ 9223372036854775807) :
    Calls Tryz.prog 114 #[.string s] w fun e w' => e = .returned (.bool (s.data.toList.all (fun c => plainB c.toNat))) ∧ w' = w := by
  obtain ⟨B, hB⟩ : ∃ B, B = s.data.toList.all (fun c => plainB c.toNat) := ⟨_, rfl⟩
  rw [← hB]
  have HB := Lib.hid hB
  clear hB
  go_enter Tryz.func114, Tryz.ntmps114
  go_wp2_with fail
  go_loop [3] (fun j => ∃ k : Nat, k ≤ s.size ∧ j = .int .i64 k ∧ Hid (∀ j, j < k → ∀ hj : j < s.size, plainB (s[j]'hj).toNat = true)) (fun j => s.size - (intOf j).toNat)
  case atStart => exact ⟨0, by omega, rfl, Lib.hid (fun j hj => by omega)⟩
  case round =>
    obtain ⟨k, hk, rfl, Hall⟩ := hrel
    by_cases hlt : k < s.size
    · have hcb : s[k].toNat < 256 := s[k].toNat_lt
      have HP := Lib.hid (fun w => ref_plain s[k].toNat w hcb)
      by_cases hpl : plainB s[k].toNat = false
      · have H := Lib.hid (HB.out.trans <| all_at (fun c => plainB c.toNat) s k hlt hpl)
        rw [hpl] at HP
        clear hpl Hall
        go_wp2_with fail
        refine (HP.out _).mono ?_
        rintro e w' ⟨rfl, rfl⟩
        go_wp2_with fail
        go_ret
        exact ⟨ret_bool H.out.symm, rfl⟩
      · have hpl' : plainB s[k].toNat = true := by simpa using hpl
        have H := Lib.hid (upto_step (fun c => plainB c.toNat) s k Hall.out hlt hpl')
        rw [hpl'] at HP
        clear hpl hpl' Hall
        go_wp2_with fail
        refine (HP.out _).mono ?_
        rintro e w' ⟨rfl, rfl⟩
        go_wp2_with fail
        go_round
        case rel => exact ⟨k + 1, by omega, by go_num, H⟩
        case measure => simp [intOf]; omega
    · have H := Lib.hid (HB.out.trans <| all_of (fun c => plainB c.toNat) s (fun j hj => Hall.out j (by omega) hj))
      clear Hall
      go_wp2_with fail
      go_ret
      exact ⟨ret_bool H.out.symm, rfl⟩

set_option maxHeartbeats 2000000 in
theorem ref_name (s : ByteArray) (w : World) (hs : s.size ≤ 9223372036854775807) :
    Calls Tryz.prog 116 #[.string s] w fun e w' => e = .returned (.bool (nameL s.data.toList)) ∧ w' = w := by
  obtain ⟨B, hB⟩ : ∃ B, B = nameL s.data.toList := ⟨_, rfl⟩
  rw [← hB]
  have HB := Lib.hid hB
  clear hB
  go_enter Tryz.func116, Tryz.ntmps116
  go_wp2_with fail
  go_loop [3] (fun j => ∃ k : Nat, k ≤ s.size ∧ j = .int .i64 k ∧ Hid (∀ j, j < k → ∀ hj : j < s.size, namedN (s[j]'hj).toNat = true)) (fun j => s.size - (intOf j).toNat)
  case atStart => exact ⟨0, by omega, rfl, Lib.hid (fun j hj => by omega)⟩
  case round =>
    obtain ⟨k, hk, rfl, Hall⟩ := hrel
    by_cases hlt : k < s.size
    · have hN : ∀ hq : namedN s[k].toNat = true, Hid (∀ j, j < k + 1 → ∀ hj : j < s.size, namedN (s[j]'hj).toNat = true) := fun hq => Lib.hid (upto_step (fun c => namedN c.toNat) s k Hall.out hlt hq)
      have hF : ∀ hq : namedN s[k].toNat = false, Hid (B = false) := fun hq => Lib.hid (HB.out.trans (nameL_not _ (all_at (fun c => namedN c.toNat) s k hlt hq)))
      have hcase := named_cases s[k].toNat
      clear Hall HB
      rcases hcase with ⟨c1, c2, hq⟩ | ⟨c1, c2, hq⟩ | ⟨c1, hq⟩ | ⟨c1, c2, hq⟩ | ⟨c1, c2, hq⟩ | ⟨c1, hq⟩
      · have H := hN hq
        have t1 : decide ((s[k].toNat : Int) > 122) = false := by simp; omega
        have t2 : decide ((s[k].toNat : Int) < 97) = false := by simp; omega
        clear hN hF hq
        go_wp2_with fail
        go_round
        case rel => exact ⟨k + 1, by omega, by go_num, H⟩
        case measure => simp [intOf]; omega
      · have H := hN hq
        have t1 : decide ((s[k].toNat : Int) < 97) = true := by simp; omega
        have t2 : decide ((s[k].toNat : Int) < 48) = false := by simp; omega
        have t3 : decide ((s[k].toNat : Int) > 57) = false := by simp; omega
        clear hN hF hq
        go_wp2_with fail
        go_round
        case rel => exact ⟨k + 1, by omega, by go_num, H⟩
        case measure => simp [intOf]; omega
      · have H := hN hq
        have t1 : decide ((s[k].toNat : Int) < 97) = true := by simp; omega
        have t2 : decide ((s[k].toNat : Int) < 48) = true := by simp; omega
        have t3 : ((s[k].toNat : Int) != 45) = false := by rw [c1]; rfl
        clear hN hF hq
        go_wp2_with fail
        go_round
        case rel => exact ⟨k + 1, by omega, by go_num, H⟩
        case measure => simp [intOf]; omega
      · have H := hF hq
        have t1 : decide ((s[k].toNat : Int) < 97) = true := by simp; omega
        have t2 : decide ((s[k].toNat : Int) < 48) = true := by simp; omega
        have t3 : ((s[k].toNat : Int) != 45) = true := by rw [bne_iff_ne]; omega
        clear hN hF hq
        go_wp2_with fail
        go_ret
        exact ⟨ret_bool H.out.symm, rfl⟩
      · have H := hF hq
        have t1 : decide ((s[k].toNat : Int) < 97) = true := by simp; omega
        have t2 : decide ((s[k].toNat : Int) < 48) = false := by simp; omega
        have t3 : ((s[k].toNat : Int) != 45) = true := by rw [bne_iff_ne]; omega
        have t4 : decide ((s[k].toNat : Int) > 57) = true := by simp; omega
        clear hN hF hq
        go_wp2_with fail
        go_ret
        exact ⟨ret_bool H.out.symm, rfl⟩
      · have H := hF hq
        have t1 : decide ((s[k].toNat : Int) < 97) = false := by simp; omega
        have t2 : decide ((s[k].toNat : Int) < 48) = false := by simp; omega
        have t3 : ((s[k].toNat : Int) != 45) = true := by rw [bne_iff_ne]; omega
        have t4 : decide ((s[k].toNat : Int) > 57) = true := by simp; omega
        have t5 : decide ((s[k].toNat : Int) > 122) = true := by simp; omega
        clear hN hF hq
        go_wp2_with fail
        go_ret
        exact ⟨ret_bool H.out.symm, rfl⟩
    · have h := HB.out.trans (nameL_len s (all_of (fun c => namedN c.toNat) s (fun j hj => Hall.out j (by omega) hj)))
      by_cases h1 : s.size = 0
      · have H : Hid (B = false) := Lib.hid (by rw [h, decide_eq_false (by omega)]; rfl)
        clear h Hall HB
        go_wp2_with fail
        go_ret
        exact ⟨ret_bool H.out.symm, rfl⟩
      · by_cases h2 : s.size ≤ 32
        · have H : Hid (B = true) := Lib.hid (by rw [h, decide_eq_true (show 1 ≤ s.size by omega), decide_eq_true h2]; rfl)
          have t1 : decide ((s.size : Int) ≤ 32) = true := by simp; omega
          have t2 : 1 ≤ s.size := by omega
          clear h Hall HB
          go_wp2_with fail
          go_ret
          exact ⟨ret_bool H.out.symm, rfl⟩
        · have H : Hid (B = false) := Lib.hid (by rw [h, decide_eq_false h2, Bool.and_false])
          have t1 : decide ((s.size : Int) ≤ 32) = false := by simp; omega
          have t2 : 1 ≤ s.size := by omega
          clear h Hall HB
          go_wp2_with fail
          go_ret
          exact ⟨ret_bool H.out.symm, rfl⟩
end Go.Proofs.YtbdmmgmcbecolaaGreatDoor
namespace Go.Proofs.YtbdmmgmcbecolaaGreatDoor
open Go.RowKit

def strN (v : Value) : Nat := match v with | .string s => s.size | _ => 0
theorem conv_one (W : World) (c : UInt8) : (convert 192 9 (.slice (some ⟨W.heap.size, 0, none⟩) 1 1)).run Tryz.prog (W.alloc (.cells #[.int .u8 (c.toNat : Int)] 5)) = .ok (.string ⟨#[c]⟩) (W.alloc (.cells #[.int .u8 (c.toNat : Int)] 5)) :=
  run_convert_bytes_back (P := Tryz.prog) (W.alloc (.cells #[.int .u8 (c.toNat : Int)] 5)) 192 9 5 ⟨W.heap.size, 0, none⟩ 1 [c] Tryz.underlying192 Tryz.underlying5 Tryz.underlying9 (fun j hj => by
    obtain rfl : j = 0 := by simp at hj; exact hj
    exact cell_one_new W (.int .u8 (c.toNat : Int)) 5 0 _ rfl)
theorem ref_smallB (c : UInt8) (w : World) : Calls Tryz.prog 115 #[.int .u8 (c.toNat : Int)] w fun e w' => e = .returned (.int .u8 ((smallB c).toNat : Int)) ∧ w' = w := by
  have h := ref_small c.toNat w c.toNat_lt
  have e : (smallB c).toNat = smallN c.toNat := by
    unfold smallB; rw [UInt8.toNat_ofNat']
    have := c.toNat_lt
    unfold smallN; split <;> omega
  rw [e]; exact h
theorem ahead_upto (s : ByteArray) (k : Nat) (hk : k ≤ s.size) (h : ∀ j, j < k → ∀ hj : j < s.size, s[j]'hj ≠ 58) (h2 : ∀ hk : k < s.size, s[k]'hk = 58) : (ahead s.data.toList).length = k := by
  have hsl := size_len s
  have e : s.data.toList = s.data.toList.take k ++ s.data.toList.drop k := (List.take_append_drop k _).symm
  have h1 : ∀ c ∈ s.data.toList.take k, (c != 58) = true := by
    intro c hc
    obtain ⟨j, hj, rfl⟩ := List.getElem_of_mem hc
    rw [List.length_take] at hj
    rw [List.getElem_take]
    have := h j (by omega) (by omega)
    rw [bne_iff_ne]; exact this
  unfold ahead
  rw [e, List.takeWhile_append_of_pos h1]
  by_cases hlt : k < s.size
  · rw [List.drop_eq_getElem_cons (by omega), List.takeWhile_cons_of_neg (by have := h2 hlt; rw [bne_iff_ne]; intro hn; exact hn this), List.append_nil, List.length_take]; omega
  · rw [List.drop_eq_nil_of_le (by omega)]; simp; omega
theorem bs_snoc (l : List UInt8) (c : UInt8) : bs l ++ ⟨#[c]⟩ = bs (l ++ [c]) := bs_cat l [c]
theorem map_take_succ (l : List UInt8) (i : Nat) (h : i < l.length) (f : UInt8 → UInt8) : (l.take (i + 1)).map f = (l.take i).map f ++ [f l[i]] := by
  rw [List.take_succ_eq_append_getElem h, List.map_append]; rfl
theorem drop_one (V : ByteArray) (h : 0 < V.size) : V.data.toList = V[0] :: (V.extract 1 V.size).data.toList := by
  rw [extract_bs, bs_data, show V.data.toList.take V.size = V.data.toList from List.take_of_length_le (by rw [size_len]; exact Nat.le_refl _)]
  have := List.drop_eq_getElem_cons (l := V.data.toList) (i := 0) (by rw [size_len]; exact h)
  rw [List.drop_zero] at this
  exact this
theorem drop_last (V : ByteArray) (m : Nat) (h : V.size = m + 1) : V.data.toList = (V.extract 0 m).data.toList ++ [V[m]] := by
  rw [extract_bs, bs_data, List.drop_zero]
  have := List.take_succ_eq_append_getElem (l := V.data.toList) (i := m) (by rw [size_len]; omega)
  rw [List.take_of_length_le (by rw [size_len]; omega)] at this
  exact this

theorem headGap_pos (V : ByteArray) (h : headGap V.data.toList = true) : ∃ h : 0 < V.size, gapB V[0] = true := by
  have hpos : 0 < V.size := by
    rcases Nat.eq_zero_or_pos V.size with h0 | h0
    · have : V.data.toList = [] := List.length_eq_zero_iff.1 (by rw [size_len]; exact h0)
      rw [this] at h; exact absurd h (by decide)
    · exact h0
  rw [drop_one V hpos] at h
  exact ⟨hpos, h⟩
theorem headGap_neg (V : ByteArray) (h : headGap V.data.toList = false) (hpos : 0 < V.size) : gapB V[0] = false := by
  rw [drop_one V hpos] at h; exact h
theorem lastGap_pos (V : ByteArray) (h : headGap V.data.toList.reverse = true) : ∃ m, V.size = m + 1 ∧ ∃ hl : m < V.size, gapB V[m] = true := by
  have hpos : 0 < V.size := by
    rcases Nat.eq_zero_or_pos V.size with h0 | h0
    · have : V.data.toList = [] := List.length_eq_zero_iff.1 (by rw [size_len]; exact h0)
      rw [this] at h; exact absurd h (by decide)
    · exact h0
  obtain ⟨m, hm⟩ : ∃ m, V.size = m + 1 := ⟨V.size - 1, by omega⟩
  refine ⟨m, hm, by omega, ?_⟩
  rw [drop_last V m hm, List.reverse_append] at h
  exact h
theorem lastGap_neg (V : ByteArray) (h : headGap V.data.toList.reverse = false) (m : Nat) (hm : V.size = m + 1) (hl : m < V.size) : gapB V[m] = false := by
  rw [drop_last V m hm, List.reverse_append] at h
  exact h
theorem last_step (U : ByteArray) (m : Nat) (hm : U.size = m + 1) (hl : m < U.size) (hg : gapB U[m] = true) (h1 : headGap U.data.toList = false) (T : List UInt8) (hT : Go.Lib.trimS U.data.toList gapL = T) :
    Go.Lib.trimS (U.extract 0 m).data.toList gapL = T ∧ headGap (U.extract 0 m).data.toList = false := by
  have e := drop_last U m hm
  constructor
  · rw [← hT, e, trimS_snoc _ _ hg]
  · rw [e] at h1
    cases hx : (U.extract 0 m).data.toList with
    | nil => rfl
    | cons a t => rw [hx] at h1; exact h1

set_option maxRecDepth 100000 in
set_option maxHeartbeats 4000000 in
theorem ref_fparse (s : ByteArray) (w : World) (hs : s.size ≤ 1000000) :
    Calls Tryz.prog 86 #[.string s] w fun e w' => e = .returned (.tuple #[.agg #[.string (bs (parseN s.data.toList)), .string (bs (parseV s.data.toList))], .int .i64 (parseE s.data.toList)]) ∧ Below w.heap.size w w' := by
  obtain ⟨l, hl⟩ : ∃ l, l = s.data.toList := ⟨_, rfl⟩
  have hsl : l.length = s.size := by rw [hl]; exact size_len s
  have HPl := Lib.hid (fun w => ref_fplain s w (by omega))
  rw [← hl] at HPl ⊢
  have HL := Lib.hid hl
  clear hl
  have H4 : Hid (parseOk l = false → parseN l = [] ∧ parseV l = [] ∧ parseE l = 4) := Lib.hid (fun h => by unfold parseN parseV parseE; rw [h]; exact ⟨rfl, rfl, rfl⟩)
  go_enter Tryz.func86, Tryz.ntmps86
  go_wp2_with fail
  go_loop [4] (fun j => ∃ k : Nat, k ≤ s.size ∧ j = .int .i64 k ∧ Hid (∀ j, j < k → ∀ hj : j < s.size, s[j]'hj ≠ 58)) (fun j => s.size - (intOf j).toNat)
  case atStart => exact ⟨0, by omega, rfl, Lib.hid (fun j hj => by omega)⟩
  case round =>
    obtain ⟨k, hk, rfl, Hall⟩ := hrel
    by_cases hlt : k < s.size
    · by_cases h58 : s[k] = 58
      · have ha : Hid ((ahead l).length = k) := Lib.hid (by rw [HL.out]; exact ahead_upto s k hk Hall.out (fun _ => h58))
        have t1 : ((s[k].toNat : Int) != 58) = false := by rw [h58]; rfl
        have t2 : ((k : Int) == (s.size : Int)) = false := by rw [beq_eq_false_iff_ne]; omega
        clear Hall
        cases hpl : (l.all (fun c => plainB c.toNat)) with
        | false =>
          have HP := Lib.hid (H4.out (by unfold parseOk plainAll; rw [hpl]; rfl))
          rw [hpl] at HPl
          clear hpl h58
          go_wp2_with (go_at_call 114; refine (HPl.out _).mono ?_; rintro e w' ⟨rfl, rfl⟩)
          refine ret_field (b := w.heap.size) (x := .string ⟨#[]⟩) (y := .string ⟨#[]⟩) rfl (load_ref _ _ _ _ _ (heap_alloc_new w _)) rfl rfl rfl ?_
          refine ⟨?_, (Below.refl _ _).alloc (Nat.le_refl _) _⟩
          rw [HP.out.1, HP.out.2.1, HP.out.2.2]; rfl
        | true =>
          rw [hpl] at HPl
          have HpA : Hid (plainAll l = true) := Lib.hid hpl
          clear hpl h58
          go_wp2_with (go_at_call 114; refine (HPl.out _).mono ?_; rintro e w' ⟨rfl, rfl⟩)
          have HN : Hid ((l.take k).map smallB = parseName l) := Lib.hid (by unfold parseName; rw [← ahead_take l, ha.out])
          have HFN := Lib.hid (fun w => ref_name (bs (parseName l)) w (by rw [← HN.out, bs_size, List.length_map, List.length_take]; omega))
          rw [bs_data] at HFN
          go_loopw [5, 6] (fun n j wr => ∃ i : Nat, i ≤ k ∧ j = .int .i64 i ∧ n = .string (bs ((l.take i).map smallB)) ∧ Below (w.alloc (.cells #[.string ⟨#[]⟩, .string ⟨#[]⟩] 139)).heap.size (w.alloc (.cells #[.string ⟨#[]⟩, .string ⟨#[]⟩] 139)) wr) (fun _ j _ => k - (intOf j).toNat)
          case atStart => exact ⟨0, by omega, rfl, rfl, Below.refl _ _⟩
          case round =>
            obtain ⟨i, hi, rfl, rfl, hb⟩ := hrel
            by_cases hik : i < k
            · have hil : i < s.size := by omega
              have hst : Hid (bs ((l.take i).map smallB) ++ ⟨#[smallB s[i]]⟩ = bs ((l.take (i + 1)).map smallB)) := Lib.hid (by
                have e : l[i]'(by omega) = s[i] := by have := HL.out; subst this; rfl
                rw [bs_snoc, map_take_succ l i (by omega), e])
              have hsz : (bs ((l.take i).map smallB)).size + 1 ≤ 9223372036854775807 := by rw [bs_size, List.length_map, List.length_take]; omega
              have hcv := conv_one wr (smallB s[i])
              have hone : (ByteArray.mk #[smallB s[i]]).size = 1 := rfl
              obtain ⟨X, hX⟩ : ∃ X, X = bs ((l.take i).map smallB) := ⟨_, rfl⟩
              rw [← hX] at hst hsz ⊢
              clear hX
              go_wp2_with (go_at_call 115; refine (ref_smallB _ _).mono ?_; rintro e w' ⟨rfl, rfl⟩)
              go_roundw
              case rel => exact ⟨i + 1, by omega, by go_num, by rw [hst.out], hb.trans (((Below.refl _ _).alloc (Nat.le_refl _) _).mono hb.size)⟩
              case measure => simp [intOf]; omega
            · obtain rfl : i = k := by omega
              have hbox := two_box hb
              obtain ⟨k0, k1, f0, f1⟩ := two_of hbox
              obtain ⟨N, hN⟩ : ∃ N, N = bs (parseName l) := ⟨_, rfl⟩
              rw [HN.out, ← hN]
              rw [← hN] at HFN
              have HNN := Lib.hid hN
              clear hN hik
              cases hnm : nameL (parseName l) with
              | false =>
                rw [hnm] at HFN
                have HP := Lib.hid (H4.out (by unfold parseOk; rw [hnm, Bool.and_false]))
                clear hnm
                go_wp2_with (go_at_call 116; refine (HFN.out _).mono ?_; rintro e w' ⟨rfl, rfl⟩)
                refine ret_field (b := w.heap.size) (x := .string ⟨#[]⟩) (y := .string ⟨#[]⟩) rfl (load_ref _ _ _ _ _ (two_set hbox _ _)) rfl rfl rfl ?_
                refine ⟨?_, two_below (((Below.refl _ _).alloc (Nat.le_refl _) _).trans (hb.mono (by simp))) _ (Nat.le_refl _) _ _⟩
                rw [HP.out.1, HP.out.2.1, HP.out.2.2]; rfl
              | true =>
                rw [hnm] at HFN
                have HP : Hid (parseN l = parseName l ∧ parseV l = parseVal l ∧ parseE l = 0) := Lib.hid (by
                  have : parseOk l = true := by unfold parseOk; rw [hnm, HpA.out, decide_eq_true (by rw [ha.out]; omega)]; rfl
                  unfold parseN parseV parseE; rw [this]; exact ⟨rfl, rfl, rfl⟩)
                have hV0 : Hid (Go.Lib.trimS (s.extract (i + 1) s.size).data.toList gapL = parseVal l) := Lib.hid (by
                  unfold parseVal
                  rw [extract_bs, bs_data, ← HL.out, List.take_of_length_le (by omega), ha.out])
                have hV1 : (s.extract (i + 1) s.size).size ≤ s.size := by rw [ByteArray.size_extract]; omega
                clear hnm
                go_wp2_with (go_at_call 116; refine (HFN.out _).mono ?_; rintro e w' ⟨rfl, rfl⟩)
                go_loop [7] (fun v => ∃ V : ByteArray, v = .string V ∧ V.size ≤ s.size ∧ Hid (Go.Lib.trimS V.data.toList gapL = parseVal l)) (fun v => strN v)
                case atStart => exact ⟨_, rfl, hV1, hV0⟩
                case round =>
                  obtain ⟨V, rfl, hVs, HV⟩ := hrel
                  by_cases hcont : headGap V.data.toList = true
                  · obtain ⟨hpos, hg⟩ := headGap_pos V hcont
                    have Hn : Hid (Go.Lib.trimS (V.extract 1 V.size).data.toList gapL = parseVal l) := Lib.hid (by
                      rw [← HV.out, drop_one V hpos, trimS_cons _ _ hg])
                    have hG := fun w => ref_gap V[0] w
                    rw [hg] at hG
                    have HG := Lib.hid hG
                    clear hG hg hcont hV0 hV1
                    go_wp2_with (go_at_call 117; refine (HG.out _).mono ?_; rintro e w' ⟨rfl, rfl⟩)
                    go_round
                    case rel => exact ⟨_, rfl, by rw [ByteArray.size_extract]; omega, Hn⟩
                    case measure => simp [strN]; omega
                  · have HG0 : Hid (headGap V.data.toList = false) := Lib.hid (by simpa using hcont)
                    clear hcont hV0 hV1
                    have hgn := fun h : 0 < V.size => headGap_neg V HG0.out h
                    by_cases hpos : 0 < V.size
                    case' pos =>
                      have hG := fun w => ref_gap V[0] w
                      rw [hgn hpos] at hG
                      have HG := Lib.hid hG
                      clear hG hgn
                      go_wp2_with (go_at_call 117; refine (HG.out _).mono ?_; rintro e w' ⟨rfl, rfl⟩)
                    case' neg =>
                      have t0 : decide ((V.size : Int) > 0) = false := decide_eq_false (by omega)
                      have HG := True.intro
                      clear hgn
                      go_wp2_with fail
                    all_goals
                      clear HG
                      go_loop [7] (fun v => ∃ V : ByteArray, v = .string V ∧ V.size ≤ s.size ∧ Hid (Go.Lib.trimS V.data.toList gapL = parseVal l) ∧ Hid (headGap V.data.toList = false)) (fun v => strN v)
                      case atStart => exact ⟨_, rfl, hVs, HV, HG0⟩
                      case round =>
                        clear HG0 HV hVs
                        obtain ⟨U, rfl, hUs, HU, HG1⟩ := hrel
                        by_cases hcont : headGap U.data.toList.reverse = true
                        · obtain ⟨m, hm, hlt2, hg⟩ := lastGap_pos U hcont
                          have Hn : Hid (Go.Lib.trimS (U.extract 0 m).data.toList gapL = parseVal l ∧ headGap (U.extract 0 m).data.toList = false) := Lib.hid (last_step U m hm hlt2 hg HG1.out (parseVal l) HU.out)
                          have hG := fun w => ref_gap U[m] w
                          rw [hg] at hG
                          have HG := Lib.hid hG
                          have hmi : ((U.size : Int) - 1) = (m : Int) := by omega
                          have hpos : 0 < U.size := by omega
                          have HM := Lib.hid hm
                          clear hG hg hcont hm
                          go_wp2_with (go_at_call 117; refine (HG.out _).mono ?_; rintro e w' ⟨rfl, rfl⟩)
                          go_round
                          case rel => exact ⟨_, rfl, by rw [ByteArray.size_extract]; omega, Lib.hid Hn.out.1, Lib.hid Hn.out.2⟩
                          case measure => simp [strN]; omega
                        · have HF : Hid (bs (parseVal l) = U) := Lib.hid (by rw [← HU.out, trimS_done _ HG1.out (by simpa using hcont), bs_self])
                          have hgn := lastGap_neg U (by simpa using hcont)
                          clear hcont
                          by_cases hpos : 0 < U.size
                          case' pos =>
                            obtain ⟨m, hm⟩ : ∃ m, U.size = m + 1 := ⟨U.size - 1, by omega⟩
                            have hlt2 : m < U.size := by omega
                            have hG := fun w => ref_gap U[m] w
                            rw [hgn m hm hlt2] at hG
                            have HG := Lib.hid hG
                            have hmi : ((U.size : Int) - 1) = (m : Int) := by omega
                            have HM := Lib.hid hm
                            clear hG hgn hm
                            go_wp2_with (go_at_call 117; refine (HG.out _).mono ?_; rintro e w' ⟨rfl, rfl⟩)
                          case' neg =>
                            have t0 : decide ((U.size : Int) > 0) = false := decide_eq_false (by omega)
                            clear hgn
                            go_wp2_with fail
                          all_goals
                            refine ret_field (b := w.heap.size) (x := .string N) (y := .string U) rfl (load_ref _ _ _ _ _ (two_set hbox _ _)) rfl rfl rfl ?_
                            refine ⟨?_, two_below (((Below.refl _ _).alloc (Nat.le_refl _) _).trans (hb.mono (by simp))) _ (Nat.le_refl _) _ _⟩
                            rw [HP.out.1, HP.out.2.1, HP.out.2.2, HF.out, ← HNN.out]; rfl
      · have t1 : ((s[k].toNat : Int) != 58) = true := by
          rw [bne_iff_ne]; intro e; exact h58 (UInt8.toNat_inj.1 (by show _ = 58; omega))
        have H : Hid (∀ j, j < k + 1 → ∀ hj : j < s.size, s[j]'hj ≠ 58) := Lib.hid (fun j hj hjs => by
          by_cases e : j = k
          · subst e; exact h58
          · exact Hall.out j (by omega) hjs)
        clear Hall h58
        go_wp2_with fail
        go_round
        case rel => exact ⟨k + 1, by omega, by go_num, H⟩
        case measure => simp [intOf]; omega
    · have ha : (ahead l).length = k := by rw [HL.out]; exact ahead_upto s k hk Hall.out (fun h => absurd h hlt)
      have hks : k = s.size := by omega
      have HP := Lib.hid (H4.out (by unfold parseOk; rw [decide_eq_false (by omega), Bool.and_false, Bool.false_and]))
      clear ha Hall
      subst hks
      generalize hpb : (l.all (fun c => plainB c.toNat)) = pb at HPl
      clear hpb
      cases pb
      all_goals
        go_wp2_with (go_at_call 114; refine (HPl.out _).mono ?_; rintro e w' ⟨rfl, rfl⟩)
        refine ret_field (b := w.heap.size) (x := .string ⟨#[]⟩) (y := .string ⟨#[]⟩) rfl (load_ref _ _ _ _ _ (heap_alloc_new w _)) rfl rfl rfl ?_
        refine ⟨?_, (Below.refl _ _).alloc (Nat.le_refl _) _⟩
        rw [HP.out.1, HP.out.2.1, HP.out.2.2]; rfl
end Go.Proofs.YtbdmmgmcbecolaaGreatDoor
