/- What Parse of package fields returns. -/
import Derived.Test.YtgaojfebmcmpaaaGreatDoorFieldsPlain2
import Derived.Test.YtgaojfebmcmpaaaGreatDoorEnvF
import Derived.Shelf.Strings.SlTrimAscii
import Derived.Shelf.Unicode.DecodeSlow
import Derived.Lib.LaidTab
import Derived.Lib.ItoaNum
import Derived.WalkSmall
import Derived.Laws.ResultCell
import Derived.Laws.Rows
import Derived.Laws.NewBlocks
namespace Go.Proofs.YtgaojfebmcmpaaaGreatDoor
open Go.RowKit

theorem c_cut (s : ByteArray) (w : World) (hs : s.size ≤ 1000000) (hE : EnvF w) (A V : ByteArray) (B : Bool)
    (h : Go.Lib.cut s.data.toList [58] = (A.data.toList, V.data.toList, B)) :
    Calls Tryz.prog 96 #[.string s, .string ⟨#[58]⟩] w fun e w' => e = .returned (.tuple #[.string A, .string V, .bool B]) ∧ Below w.heap.size w w' := by
  obtain ⟨m, hm⟩ := hE.m
  have hc := Tryz.strings_Cut s ⟨#[58]⟩ m w (by omega) hm
  refine hc.mono ?_
  rintro e w' ⟨rfl, n, rfl⟩
  refine ⟨?_, (fun n => by induction n with | zero => exact Below.refl _ _ | succ n ih => exact ih.drew : ∀ n, Below w.heap.size w (w.drewN n)) n⟩
  have h2 : Go.Lib.cut s.data.toList (ByteArray.mk #[58]).data.toList = (A.data.toList, V.data.toList, B) := h
  rw [h2]
theorem c_mapSmall (s : ByteArray) (w : World) (hs : s.size ≤ 1000000) (hE : EnvF w) (hasc : ∀ c ∈ s.data.toList, c.toNat < 128) :
    Calls Tryz.prog 164 #[.func (.func 165) #[] #[], .string s] w fun e w' => e = .returned (.string (bs (s.data.toList.map smallB))) ∧ Below w.heap.size w w' := by
  have h := Tryz.strings_Map_grows 165 #[] (enters_of Tryz.func165 (by kernel_rfl) rfl) (fun x => (smallN x.toNat : Nat)) s w (by omega)
    (fun W x hx _ => (fields_small x W hx).mono fun e w' ⟨he, hw⟩ => ⟨he, hw ▸ Below.refl _ _⟩)
    (fun x hx => by unfold smallN; rw [Int.toNat_natCast]; split <;> constructor <;> omega) hE.tabs
  rw [mapD_small s.data.toList _ (fun x hx => by rw [Int.toNat_natCast]) hasc] at h
  exact h
theorem c_trim (s : ByteArray) (w : World) (hs : s.size ≤ 1000000) :
    Calls Tryz.prog 132 #[.string s, .string ⟨#[32, 9]⟩] w fun e w' => e = .returned (.string (bs (Go.Lib.trimS s.data.toList gapL))) ∧ Below w.heap.size w w' :=
  Any.strings_Trim_laid Tryz.lays160 (by kernel_rfl) s ⟨#[32, 9]⟩ w (by omega) (by decide) (Go.Proofs.ascii_of_all (by decide))

/-- a block of two texts -/
structure Two (w : World) (b : Nat) (x y : Value) : Prop where
  c0 : w.cell? ⟨b, 0, none⟩ = some x
  c1 : w.cell? ⟨b, 1, none⟩ = some y
  f0 : w.frozen? ⟨b, 0, none⟩ = false
  f1 : w.frozen? ⟨b, 1, none⟩ = false
theorem two_of {w : World} {b : Nat} {x y : Value} {t : TypeId} (h : w.heap[b]? = some (.cells #[x, y] t (0, 0))) : Two w b x y :=
  ⟨by unfold World.cell?; rw [h]; rfl, by unfold World.cell?; rw [h]; rfl, by unfold World.frozen?; rw [h]; rfl, by unfold World.frozen?; rw [h]; rfl⟩
theorem two_box {w w1 : World} {x y : Value} {t : TypeId} (hb : Below (w.alloc (.cells #[x, y] t)).heap.size (w.alloc (.cells #[x, y] t)) w1) : w1.heap[w.heap.size]? = some (.cells #[x, y] t (0, 0)) :=
  (hb.block _ (by simp)).trans (heap_alloc_new w _)

/-- a result that lies in a block of two texts, and a number -/
theorem ret_field {fn : Func} {R : Ending → World → Prop} {a : Act} {w : World} {b : Nat} {x y E : Value} {p u : Tmp} {ty : TypeId} (hres : fn.results = #[.cell p ty, .tmp u])
    (hload : (loadVar ty ⟨b, 0, none⟩).run Tryz.prog w = .ok (.agg #[x, y]) w)
    (hp : a.tmps.getD p undef = .pointer (some ⟨b, 0, none⟩)) (hE : a.tmps.getD u undef = E) (hdef : a.defers = [])
    (hR : R (.returned (.tuple #[.agg #[x, y], E])) w) : bodyPost Tryz.prog fn R .ret a w := by
  refine bodyPost_ret_by (v := .tuple #[.agg #[x, y], E]) ?_ hdef hR
  rw [results_cell_tmp hres, hp, hE]
  simp [asAddr, hload, Result.andThen]
theorem load_own (w : World) (b : Nat) (t : TypeId) (x y : Value) (h : w.heap[b]? = some (.cells #[x, y] t (0, 0))) : (loadVar 123 ⟨b, 0, none⟩).run Tryz.prog w = .ok (.agg #[x, y]) w :=
  run_loadVar_row w b t 123 #[x, y] (0, 0) _ h Tryz.underlying123 rfl (by kernel_rfl)
theorem load_ref (w : World) (b : Nat) (t : TypeId) (x y : Value) (h : w.heap[b]? = some (.cells #[x, y] t (0, 0))) : (loadVar 130 ⟨b, 0, none⟩).run Tryz.prog w = .ok (.agg #[x, y]) w :=
  run_loadVar_row w b t 130 #[x, y] (0, 0) _ h Tryz.underlying130 rfl (by kernel_rfl)
theorem two_set {w : World} {b : Nat} {x y : Value} {t : TypeId} (h : w.heap[b]? = some (.cells #[x, y] t (0, 0))) (x' y' : Value) :
    ((w.setCell ⟨b, 0, none⟩ x').setCell ⟨b, 1, none⟩ y').heap[b]? = some (.cells #[x', y'] t (0, 0)) := by
  simp [World.setCell, Array.getElem?_modify, h]
theorem two_below {B : Nat} {w0 w : World} (h : Below B w0 w) (b : Nat) (hB : B ≤ b) (x' y' : Value) : Below B w0 ((w.setCell ⟨b, 0, none⟩ x').setCell ⟨b, 1, none⟩ y') :=
  (h.setCell (p := ⟨b, 0, none⟩) hB _).setCell (p := ⟨b, 1, none⟩) hB _

set_option maxRecDepth 100000 in
set_option maxHeartbeats 1000000 in
theorem fields_parse (s : ByteArray) (w : World) (hs : s.size ≤ 1000000) (hE : EnvF w) :
    Calls Tryz.prog 117 #[.string s] w fun e w' => e = .returned (.tuple #[.agg #[.string (bs (parseN s.data.toList)), .string (bs (parseV s.data.toList))], .int .i64 (parseE s.data.toList)]) ∧ Below w.heap.size w w' := by
  have HE := Lib.hid hE
  clear hE
  by_cases hcol : (ahead s.data.toList).length < s.data.toList.length
  · have hcut := cut58 s.data.toList
    rw [if_pos hcol] at hcut
    obtain ⟨A, hA⟩ : ∃ A, A = bs (ahead s.data.toList) := ⟨_, rfl⟩
    obtain ⟨V, hV⟩ : ∃ V, V = bs (s.data.toList.drop ((ahead s.data.toList).length + 1)) := ⟨_, rfl⟩
    have HC := Lib.hid (fun w hE => c_cut s w hs hE A V true (by rw [hcut, hA, hV, bs_data, bs_data]))
    have hsl := size_len s
    have hAl : A.size ≤ 1000000 := by rw [hA, bs_size]; have := ahead_le s.data.toList; omega
    have hVl : V.size ≤ 1000000 := by rw [hV, bs_size, List.length_drop]; omega
    cases hpl : plainAll s.data.toList with
    | false =>
      have HP : Hid (parseN s.data.toList = [] ∧ parseV s.data.toList = [] ∧ parseE s.data.toList = 4) := Lib.hid (by
        have : parseOk s.data.toList = false := by unfold parseOk; rw [hpl]; rfl
        unfold parseN parseV parseE; rw [this]; exact ⟨rfl, rfl, rfl⟩)
      have hfp := fun w => fields_plain s w (by omega)
      rw [show (s.data.toList.all (fun c => plainB c.toNat)) = false from hpl] at hfp
      have HFP := Lib.hid hfp
      clear hcol hcut hpl hfp hsl hA hV hAl hVl
      go_enter Tryz.func117, Tryz.ntmps117
      go_wp2_with fail
      refine (HC.out _ (HE.out.below ((Below.refl _ _).alloc (Nat.le_refl _) _))).mono ?_
      rintro e w1 ⟨rfl, hb1⟩
      obtain ⟨k0, k1, f0, f1⟩ := two_of (two_box hb1)
      go_wp2_with (go_at_call 131; refine (HFP.out _).mono ?_; rintro e w' ⟨rfl, rfl⟩)
      refine ret_field (b := w.heap.size) (x := .string ⟨#[]⟩) (y := .string ⟨#[]⟩) rfl (load_own _ _ _ _ _ (two_set (two_box hb1) _ _)) rfl rfl rfl ?_
      refine ⟨?_, two_below (((Below.refl _ _).alloc (Nat.le_refl _) _).trans (hb1.mono (by simp))) _ (Nat.le_refl _) _ _⟩
      rw [HP.out.1, HP.out.2.1, HP.out.2.2]; rfl
    | true =>
      have hfp := fun w => fields_plain s w (by omega)
      rw [show (s.data.toList.all (fun c => plainB c.toNat)) = true from hpl] at hfp
      have HFP := Lib.hid hfp
      have hasc : ∀ c ∈ A.data.toList, c.toNat < 128 := by
        rw [hA, bs_data]; intro c hc; exact plainAll_lt _ hpl c (ahead_sub _ c hc)
      have hms := fun w hE => c_mapSmall A w hAl hE hasc
      rw [show A.data.toList.map smallB = parseName s.data.toList by rw [hA, bs_data]; rfl] at hms
      have HMS := Lib.hid hms
      have HFN := Lib.hid (fun w => fields_name (bs (parseName s.data.toList)) w)
      have HT := Lib.hid (fun w => c_trim V w hVl)
      have hvv : bs (Go.Lib.trimS V.data.toList gapL) = bs (parseVal s.data.toList) := by rw [hV, bs_data]; rfl
      rw [hvv] at HT
      rw [bs_data] at HFN
      cases hnm : nameL (parseName s.data.toList) with
      | false =>
        have HP : Hid (parseN s.data.toList = [] ∧ parseV s.data.toList = [] ∧ parseE s.data.toList = 4) := Lib.hid (by
          have : parseOk s.data.toList = false := by unfold parseOk; rw [hnm, Bool.and_false]
          unfold parseN parseV parseE; rw [this]; exact ⟨rfl, rfl, rfl⟩)
        rw [hnm] at HFN
        obtain ⟨N, hN⟩ : ∃ N, N = bs (parseName s.data.toList) := ⟨_, rfl⟩
        rw [← hN] at HMS HFN
        clear hcol hcut hpl hfp hsl hA hV hAl hVl hasc hms hvv hnm hN HT
        go_enter Tryz.func117, Tryz.ntmps117
        go_wp2_with fail
        refine (HC.out _ (HE.out.below ((Below.refl _ _).alloc (Nat.le_refl _) _))).mono ?_
        rintro e w1 ⟨rfl, hb1⟩
        have HE1 := Lib.hid ((HE.out.below ((Below.refl _ _).alloc (Nat.le_refl _) _)).below hb1)
        go_wp2_with (go_at_call 131; refine (HFP.out _).mono ?_; rintro e w' ⟨rfl, rfl⟩)
        refine (HMS.out _ HE1.out).mono ?_
        rintro e w2 ⟨rfl, hb2⟩
        go_wp2_with fail
        refine (HFN.out _).mono ?_
        rintro e w3 ⟨rfl, hb3⟩
        have hb13 := bstep hb1 (bstep hb2 hb3)
        clear hb1 hb2 hb3
        obtain ⟨k0, k1, f0, f1⟩ := two_of (two_box hb13)
        go_wp2_with fail
        refine ret_field (b := w.heap.size) (x := .string ⟨#[]⟩) (y := .string ⟨#[]⟩) rfl (load_own _ _ _ _ _ (two_set (two_box hb13) _ _)) rfl rfl rfl ?_
        refine ⟨?_, two_below (((Below.refl _ _).alloc (Nat.le_refl _) _).trans (hb13.mono (by simp))) _ (Nat.le_refl _) _ _⟩
        rw [HP.out.1, HP.out.2.1, HP.out.2.2]; rfl
      | true =>
        have HP : Hid (parseN s.data.toList = parseName s.data.toList ∧ parseV s.data.toList = parseVal s.data.toList ∧ parseE s.data.toList = 0) := Lib.hid (by
          have : parseOk s.data.toList = true := by unfold parseOk; rw [hnm, hpl, decide_eq_true hcol]; rfl
          unfold parseN parseV parseE; rw [this]; exact ⟨rfl, rfl, rfl⟩)
        rw [hnm] at HFN
        obtain ⟨N, hN⟩ : ∃ N, N = bs (parseName s.data.toList) := ⟨_, rfl⟩
        obtain ⟨T, hT⟩ : ∃ T, T = bs (parseVal s.data.toList) := ⟨_, rfl⟩
        rw [← hN] at HMS HFN
        rw [← hT] at HT
        have HNT := Lib.hid (And.intro hN hT)
        clear hcol hcut hpl hfp hsl hA hV hAl hVl hasc hms hvv hnm hN hT
        go_enter Tryz.func117, Tryz.ntmps117
        go_wp2_with fail
        refine (HC.out _ (HE.out.below ((Below.refl _ _).alloc (Nat.le_refl _) _))).mono ?_
        rintro e w1 ⟨rfl, hb1⟩
        have HE1 := Lib.hid ((HE.out.below ((Below.refl _ _).alloc (Nat.le_refl _) _)).below hb1)
        go_wp2_with (go_at_call 131; refine (HFP.out _).mono ?_; rintro e w' ⟨rfl, rfl⟩)
        refine (HMS.out _ HE1.out).mono ?_
        rintro e w2 ⟨rfl, hb2⟩
        go_wp2_with fail
        refine (HFN.out _).mono ?_
        rintro e w3 ⟨rfl, hb3⟩
        go_wp2_with fail
        refine (HT.out _).mono ?_
        rintro e w4 ⟨rfl, hb4⟩
        have hb13 := bstep hb1 (bstep hb2 (bstep hb3 hb4))
        clear hb1 hb2 hb3 hb4
        obtain ⟨k0, k1, f0, f1⟩ := two_of (two_box hb13)
        go_wp2_with fail
        refine ret_field (b := w.heap.size) (x := .string N) (y := .string T) rfl (load_own _ _ _ _ _ (two_set (two_box hb13) _ _)) rfl rfl rfl ?_
        refine ⟨?_, two_below (((Below.refl _ _).alloc (Nat.le_refl _) _).trans (hb13.mono (by simp))) _ (Nat.le_refl _) _ _⟩
        rw [HP.out.1, HP.out.2.1, HP.out.2.2, ← HNT.out.1, ← HNT.out.2]; rfl
  · have hcut := cut58 s.data.toList
    rw [if_neg hcol] at hcut
    have HC := Lib.hid (fun w hE => c_cut s w hs hE s ⟨#[]⟩ false hcut)
    have HP : Hid (parseN s.data.toList = [] ∧ parseV s.data.toList = [] ∧ parseE s.data.toList = 4) := Lib.hid (by
      have : parseOk s.data.toList = false := by unfold parseOk; rw [decide_eq_false hcol, Bool.and_false, Bool.false_and]
      unfold parseN parseV parseE; rw [this]; exact ⟨rfl, rfl, rfl⟩)
    clear hcol hcut
    go_enter Tryz.func117, Tryz.ntmps117
    go_wp2_with fail
    refine (HC.out _ (HE.out.below ((Below.refl _ _).alloc (Nat.le_refl _) _))).mono ?_
    rintro e w1 ⟨rfl, hb1⟩
    obtain ⟨k0, k1, f0, f1⟩ := two_of (two_box hb1)
    go_wp2_with fail
    refine ret_field (b := w.heap.size) (x := .string ⟨#[]⟩) (y := .string ⟨#[]⟩) rfl (load_own _ _ _ _ _ (two_set (two_box hb1) _ _)) rfl rfl rfl ?_
    refine ⟨?_, two_below (((Below.refl _ _).alloc (Nat.le_refl _) _).trans (hb1.mono (by simp))) _ (Nat.le_refl _) _ _⟩
    rw [HP.out.1, HP.out.2.1, HP.out.2.2]; rfl
end Go.Proofs.YtgaojfebmcmpaaaGreatDoor
