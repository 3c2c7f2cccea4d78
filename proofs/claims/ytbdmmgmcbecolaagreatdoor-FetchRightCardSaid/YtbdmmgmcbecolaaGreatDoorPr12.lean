/- The small example of the laws of layer 30: the walk. What the listed variables give. What the listed variables of the rows of layer 30 give, the type of errors among them; a world that meets them. What an argument that is an array of two slices of the document's faults reads as. An argument that is a case of a client and its link, opened. Cases of a client and its link: Over, Own. The document's client: Check; a case's client that may be; one that may not. The document's client of a case: Given. What the document's Get fetches. The law FetchRight. The law function FetchRight, as the row's proof takes it. -/
import Derived.Test.YtbdmmgmcbecolaaGreatDoorPr11
import Derived.Test.YtbdmmgmcbecolaaGreatDoorRows
import Derived.OpenShut
import Derived.MakeChecks
import Derived.Stop.LaidErr
import Derived.PinnedBridge
import Derived.Lib.LaidU8T
import Derived.Lib.SmallJoins
import Derived.LaidHandle
import Derived.Lay
import Derived.WideShapes
import Derived.ChangeSame
import Derived.ChangeArms
set_option linter.unusedVariables false
set_option linter.unusedSimpArgs false
namespace Go.Proofs.YtbdmmgmcbecolaaGreatDoor
open Go.RowKit
theorem aw30_get1 {w0 w : World} {Cb P : Nat} {rv lv : Value} (H Pt F : ByteArray) (hH : H = ⟨#[104]⟩) (hP : Pt = ⟨#[47, 102]⟩) (hF : F = ⟨#[97, 98, 99]⟩) (hE : EnvT w0) (k : FC w0 w Cb P H Pt 3 1 H Pt F l30 [] 0 0 0 rv lv) :
    Calls Tryz.prog 10 #[.pointer (some ⟨Cb, 0, none⟩), .agg #[.int .i64 1, .int .i64 2]] w fun e w' => e = .returned (.tuple #[.string ⟨#[]⟩, .int .i64 23]) ∧ ∃ log n rv' lv', log = logK H Pt F l30 [aS30, aS30] ∧ n = harmsK log ∧ FC w0 w' Cb P H Pt 3 1 H Pt F (l30.drop 2) log n 2 16 rv' lv' := by
  subst hH hP hF
  refine (get_good w0 w Cb P ⟨#[104]⟩ ⟨#[47, 102]⟩ 3 1 ⟨#[104]⟩ ⟨#[47, 102]⟩ ⟨#[97, 98, 99]⟩ l30 [] aS30 1 2 0 rv lv hE k (by decide) (by decide) l30_ok (by decide) (by decide) aw30_e.2.2.1 aw30_e.1 rfl).mono ?_
  rintro e w' ⟨rfl, rv', lv', k', -, -⟩
  obtain ⟨r1, r2, r3, r4⟩ := run_none (errN ⟨#[104]⟩ ⟨#[47, 102]⟩ ⟨#[97, 98, 99]⟩ l30 aS30 0 1 2 3) 1 (bodN ⟨#[104]⟩ ⟨#[47, 102]⟩ ⟨#[97, 98, 99]⟩ l30 aS30 0 1 2 3) (by
    intro j hj
    rcases (show j = 0 ∨ j = 1 by omega) with rfl | rfl
    · rw [aw30_1.1]; decide
    · rw [aw30_1.2]; decide)
  have h1 : runA (errN ⟨#[104]⟩ ⟨#[47, 102]⟩ ⟨#[97, 98, 99]⟩ l30 aS30 ([] : List ByteArray).length 1 2 3) 1 = 2 := r1
  have h2 : runL (errN ⟨#[104]⟩ ⟨#[47, 102]⟩ ⟨#[97, 98, 99]⟩ l30 aS30 ([] : List ByteArray).length 1 2 3) 1 = 16 := by rw [← aw30_1.2]; exact r2
  have h3 : runE (errN ⟨#[104]⟩ ⟨#[47, 102]⟩ ⟨#[97, 98, 99]⟩ l30 aS30 ([] : List ByteArray).length 1 2 3) 1 = 23 := r3
  have h4 : runB (errN ⟨#[104]⟩ ⟨#[47, 102]⟩ ⟨#[97, 98, 99]⟩ l30 aS30 ([] : List ByteArray).length 1 2 3) 1 (bodN ⟨#[104]⟩ ⟨#[47, 102]⟩ ⟨#[97, 98, 99]⟩ l30 aS30 ([] : List ByteArray).length 1 2 3) = [] := r4
  rw [h1, h2] at k'
  rw [h3, h4]
  exact ⟨rfl, _, _, rv', lv', rfl, rfl, k'⟩
theorem aw30_get2 {w0 w : World} {Cb P : Nat} {rv lv : Value} {log : List Evt} {n : Nat} (H Pt F : ByteArray) (hH : H = ⟨#[104]⟩) (hP : Pt = ⟨#[47, 102]⟩) (hF : F = ⟨#[97, 98, 99]⟩) (hE : EnvT w0) (hlog : log = logK H Pt F l30 [aS30, aS30]) (hn : n = harmsK log) (k : FC w0 w Cb P H Pt 3 1 H Pt F (l30.drop 2) log n 2 16 rv lv) :
    Calls Tryz.prog 10 #[.pointer (some ⟨Cb, 0, none⟩), .agg #[.int .i64 1, .int .i64 2]] w fun e w' => e = .returned (.tuple #[.string ⟨#[98, 99]⟩, .int .i64 0]) ∧ ∃ rest log n rv' lv', FC w0 w' Cb P H Pt 3 1 H Pt F rest log n 4 0 rv' lv' := by
  subst hH hP hF hn hlog
  refine (get_good w0 w Cb P ⟨#[104]⟩ ⟨#[47, 102]⟩ 3 1 ⟨#[104]⟩ ⟨#[47, 102]⟩ ⟨#[97, 98, 99]⟩ l30 [aS30, aS30] aS30 1 2 16 rv lv hE k (by decide) (by decide) l30_ok (by decide) (by decide) aw30_e.2.2.1 aw30_e.1 rfl).mono ?_
  rintro e w' ⟨rfl, rv', lv', k', -, -⟩
  obtain ⟨r1, r2, r3, r4⟩ := run_some (errN ⟨#[104]⟩ ⟨#[47, 102]⟩ ⟨#[97, 98, 99]⟩ l30 aS30 2 1 2 3) 1 1 (bodN ⟨#[104]⟩ ⟨#[47, 102]⟩ ⟨#[97, 98, 99]⟩ l30 aS30 2 1 2 3) (by decide) (by
    intro j hj
    obtain rfl : j = 0 := by omega
    rw [aw30_2.1]; decide) aw30_2.2.1
  rw [aw30_2.2.2] at r4
  have h1 : runA (errN ⟨#[104]⟩ ⟨#[47, 102]⟩ ⟨#[97, 98, 99]⟩ l30 aS30 [aS30, aS30].length 1 2 3) 1 = 2 := r1
  have h2 : runL (errN ⟨#[104]⟩ ⟨#[47, 102]⟩ ⟨#[97, 98, 99]⟩ l30 aS30 [aS30, aS30].length 1 2 3) 1 = 0 := r2
  have h3 : runE (errN ⟨#[104]⟩ ⟨#[47, 102]⟩ ⟨#[97, 98, 99]⟩ l30 aS30 [aS30, aS30].length 1 2 3) 1 = 0 := r3
  have h4 : runB (errN ⟨#[104]⟩ ⟨#[47, 102]⟩ ⟨#[97, 98, 99]⟩ l30 aS30 [aS30, aS30].length 1 2 3) 1 (bodN ⟨#[104]⟩ ⟨#[47, 102]⟩ ⟨#[97, 98, 99]⟩ l30 aS30 [aS30, aS30].length 1 2 3) = [98, 99] := r4
  rw [h1, h2] at k'
  rw [h3, h4]
  exact ⟨rfl, _, _, _, rv', lv', k'⟩
set_option maxRecDepth 100000 in
set_option maxHeartbeats 4000000 in
theorem awake30 (w : World) (hE : EnvT w) : Calls Tryz.prog 7 #[] w fun e w' => e = .returned (.bool true) ∧ Below w.heap.size w w' := by
  have HE := Lib.hid hE
  have hB0 : Below w.heap.size w (w.alloc (.cells #[.int .u8 1, .int .i64 0, .string ⟨#[]⟩, .int .u8 1, .int .i64 0, .string ⟨#[]⟩, .int .u8 2, .int .i64 5, .string ⟨#[]⟩] 65)) := (Below.refl _ _).alloc (Nat.le_refl _) _
  have HB0 := Lib.hid hB0
  have HN := Lib.hid (link_new ⟨#[104]⟩ ⟨#[47, 102]⟩ ⟨#[97, 98, 99]⟩ (.slice (some ⟨w.heap.size, 0, none⟩) 3 3) l30 (w.alloc (.cells #[.int .u8 1, .int .i64 0, .string ⟨#[]⟩, .int .u8 1, .int .i64 0, .string ⟨#[]⟩, .int .u8 2, .int .i64 5, .string ⟨#[]⟩] 65)) aw30_e.1 (holds_three (heap_alloc_new w _)) (by decide))
  have HJ := Lib.hid (fun w hE => fetch_Judge ⟨#[]⟩ 0 0 1 w (by decide) hE)
  have hj : JdgV ⟨#[]⟩ 0 0 1 = .tuple #[.string ⟨#[]⟩, .int .i64 16] := by rw [jdgV_bad _ _ _ _ (by rw [aw30_j]; decide), aw30_j]; rfl
  rw [hj] at HJ
  clear hE hB0 hj
  go_enter Tryz.func7, Tryz.ntmps7
  go_wp2_with fail
  refine HN.out.mono ?_
  rintro e w1 hnew
  obtain ⟨P, rv, rfl, hP, hk1, hb1⟩ := KL.new HB0.out hnew
  have HK1 := Lib.hid hk1
  clear hnew hP hk1 hb1 HN
  go_wp2_with fail
  refine (fetch_new w P ⟨#[104]⟩ ⟨#[47, 102]⟩ 3 1 _ _ _ _ _ _ _ _ _ HK1.out aw30_e.2.1).mono ?_
  rintro e w2 ⟨Cb, rfl, hk2, -, -⟩
  have HK2 := Lib.hid hk2
  clear hk2 HK1
  go_wp2_with fail
  refine (aw30_get1 _ _ _ (by rfl) (by rfl) (by rfl) HE.out HK2.out).mono ?_
  rintro e w3 ⟨rfl, log, n, rv3, lv3, hlog, hn, hk3⟩
  have HK3 := Lib.hid hk3
  have HL3 := Lib.hid (And.intro hlog hn)
  clear hk3 hlog hn HK2
  go_wp2_with fail
  refine (aw30_get2 _ _ _ (by rfl) (by rfl) (by rfl) HE.out HL3.out.1 HL3.out.2 HK3.out).mono ?_
  rintro e w4 ⟨rfl, rest4, log4, n4, rv4, lv4, hk4⟩
  have HK4 := Lib.hid hk4
  clear hk4 HK3 HL3
  go_wp2_with fail
  refine (get_bad HK4.out 1 3 (by rw [aw30_e.2.2.2]; decide)).mono ?_
  rintro e w5 ⟨rfl, hb5⟩
  rw [aw30_e.2.2.2]
  have HK5 := Lib.hid (HK4.out.step hb5)
  clear hb5 HK4
  go_wp2_with fail
  refine (fetch_new_nil _ _ _ _ _).mono ?_
  rintro e w' ⟨rfl, hww⟩
  obtain rfl := hww.symm
  clear hww
  go_wp2_with fail
  refine (HJ.out _ (HE.out.below HK5.out.k.bel)).mono ?_
  rintro e w6 ⟨rfl, hb6⟩
  have HK6 := Lib.hid (HK5.out.step hb6)
  clear hb6 HK5
  go_wp2_with fail
  refine HK6.out.asked.mono ?_
  rintro e w' ⟨rfl, hww⟩
  obtain rfl := hww.symm
  clear hww
  go_wp2_with fail
  refine HK6.out.lasts.mono ?_
  rintro e w' ⟨rfl, hww⟩
  obtain rfl := hww.symm
  clear hww
  go_wp2_with fail
  refine HK6.out.total.mono ?_
  rintro e w' ⟨rfl, hww⟩
  obtain rfl := hww.symm
  clear hww
  go_wp2_with fail
  go_ret
  exact ⟨rfl, HK6.out.k.bel⟩
end Go.Proofs.YtbdmmgmcbecolaaGreatDoor
namespace Go.Proofs.YtbdmmgmcbecolaaGreatDoor
open Go.RowKit

def renU : Go.Shelf.Ren := ⟨fun n => n, fun | 5 => 5 | 119 => 321 | 138 => 323 | 139 => 324 | n => n, fun | 3 => 4 | 4 => 5 | n => n⟩
theorem u8t : U8Types Tryz.prog renU := ⟨Tryz.underlying5, Tryz.underlying321, Tryz.underlying323, Tryz.underlying324⟩
theorem u8x : U8Extra Tryz.prog renU := ⟨by kernel_rfl, by kernel_rfl, by kernel_rfl, by kernel_rfl, by kernel_rfl, by kernel_rfl, by kernel_rfl⟩
theorem accept_data : (Rows.laid_unicode_utf8_acceptRanges : DataW Unit) = Go.Lib.acceptData := by kernel_rfl
theorem maxLen_cell {W : World} (h : W.ShapedOpen Tryz.prog) : ∃ m, W.cell? ⟨1, 0, none⟩ = some (.int .i64 m) := Tryz.laysM145.s1_3 W h
theorem lt_of_cell {W : World} {g : Nat} {v : Value} (h : W.cell? ⟨g, 0, none⟩ = some v) : g < W.heap.size := World.block_lt_of_cell? _ _ h
theorem err_star : "*" ++ "errors.errorString" = "*errors.errorString" := by decide
theorem err_row (u : TypeId) (h : Tryz.prog.typeName? 3 u = some "*errors.errorString") : u = 334 :=
  typeName_ptr_named (nm := "errors.errorString") (by rw [err_star]; kernel_rfl) (by kernel_rfl) (by decide) u (by rw [err_star]; exact h)
theorem env_of {W : World} {rest : List (String × DataW Unit)} (h : laidMet Tryz.prog (("math/bits.deBruijn32tab", Rows.laid_math_bits_deBruijn32tab) :: ("math/bits.deBruijn64tab", Rows.laid_math_bits_deBruijn64tab) :: ("internal/strconv.uint64pow10", Rows.laid_internal_strconv_uint64pow10) :: ("unicode/utf8.acceptRanges", Rows.laid_unicode_utf8_acceptRanges) :: ("strconv.ErrRange", Rows.laid_strconv_ErrRange) :: rest) W)
    (hf : ("unicode/utf8.first", Rows.laid_unicode_utf8_first) ∈ rest) (hsh : W.ShapedOpen Tryz.prog) : EnvF W := by
  have ht : Go.Lib.TabIs Tryz.prog W "internal/strconv.uint64pow10" .u64 Go.Lib.pow10Tab :=
    Go.Lib.tabIs_of_head (n := 20) (t := 338) (e := 315) g_pow10 (by kernel_rfl) (by kernel_rfl) (by kernel_rfl) (by kernel_rfl) (by kernel_rfl) h.tail.tail
  have h3 : Go.Lib.VarReads Tryz.prog W "unicode/utf8.first" Go.Lib.firstData := by
    have := Go.Lib.laidMet.reads h (n := "unicode/utf8.first") (d := Rows.laid_unicode_utf8_first) (by simp [hf])
    rwa [show (Rows.laid_unicode_utf8_first : DataW Unit) = Go.Lib.firstData from Pinned.utf8First_eq] at this
  have h4 : Go.Lib.VarReads Tryz.prog W "unicode/utf8.acceptRanges" Go.Lib.acceptData := by
    have := Go.Lib.laidMet.reads h (n := "unicode/utf8.acceptRanges") (d := Rows.laid_unicode_utf8_acceptRanges) (by simp)
    rwa [accept_data] at this
  obtain ⟨a0, s0, hv0, _, _, _⟩ := laid_sentinel h.tail.tail.tail.tail (g := 3) (ti := 70) (tp := 334) (te := 336) (ts := 9) (by kernel_rfl) (by kernel_rfl) Tryz.underlying70 err_row Tryz.underlying334 Tryz.underlying336 rfl rfl Tryz.underlying9 (by kernel_rfl) (by kernel_rfl)
  obtain ⟨m, hm⟩ := maxLen_cell hsh
  have hr : W.cell? ⟨3, 0, none⟩ = some (.iface 334 (.pointer (some a0))) := World.var?_cell (show Tryz.prog.globalNamed "strconv.ErrRange" = some 3 by kernel_rfl) hv0 0
  refine ⟨⟨m, hm⟩, lt_of_cell hm, utf8Tabs_of_readsT u8t u8x h3 h4, ht, ?_, ⟨_, _, hr⟩, lt_of_cell hr⟩
  rcases Nat.lt_or_ge 6 W.heap.size with hlt | hge
  · exact hlt
  · unfold Go.Lib.TabIs World.var? at ht
    rw [g_pow10] at ht
    simp [Array.getElem?_eq_none hge] at ht
end Go.Proofs.YtbdmmgmcbecolaaGreatDoor
namespace Go.Proofs.YtbdmmgmcbecolaaGreatDoor
open Go.RowKit
def lp30 : List (String × DataW Unit) := [("math/bits.deBruijn32tab", Rows.laid_math_bits_deBruijn32tab), ("math/bits.deBruijn64tab", Rows.laid_math_bits_deBruijn64tab), ("internal/strconv.uint64pow10", Rows.laid_internal_strconv_uint64pow10), ("unicode/utf8.acceptRanges", Rows.laid_unicode_utf8_acceptRanges), ("strconv.ErrRange", Rows.laid_strconv_ErrRange), ("strconv.ErrSyntax", Rows.laid_strconv_ErrSyntax), ("unicode/utf8.first", Rows.laid_unicode_utf8_first)]
def lh30 : List (String × DataW Unit) := [("math/bits.deBruijn32tab", Rows.laid_math_bits_deBruijn32tab), ("math/bits.deBruijn64tab", Rows.laid_math_bits_deBruijn64tab), ("internal/strconv.uint64pow10", Rows.laid_internal_strconv_uint64pow10), ("unicode/utf8.acceptRanges", Rows.laid_unicode_utf8_acceptRanges), ("errors.errorType", Rows.laid_errors_errorType), ("strconv.ErrRange", Rows.laid_strconv_ErrRange), ("strconv.ErrSyntax", Rows.laid_strconv_ErrSyntax), ("unicode/utf8.first", Rows.laid_unicode_utf8_first)]
theorem h30_et : Tryz.prog.globalNamed "errors.errorType" = some 0 := by kernel_rfl
theorem h30_rt : (Tryz.prog.cutTypes.find? (·.1 == "internal/reflectlite.rtype")).map (·.2) = some 171 := by kernel_rfl
theorem h30_one : ((List.range Tryz.prog.types.size).filter fun t => Tryz.prog.rowNamed t [101, 114, 114, 111, 114]) = [70] := by kernel_rfl
theorem h30_handle : typeHandle Tryz.prog 70 = .pointer (some ⟨9, 70, none⟩) := by kernel_rfl
theorem env30 {W : World} (h : laidMetH Tryz.prog lh30 W) (hsh : W.ShapedOpen Tryz.prog) : EnvT W := by
  have h' : laidMet Tryz.prog lp30 W ∧ handlesMet Tryz.prog [("errors.errorType", Rows.laid_errors_errorType)] W := h
  have hf : EnvF W := env_of h'.1 (by simp) hsh
  have hc : W.cell? ⟨0, 0, none⟩ = some (.iface 171 (.agg #[.pointer (some ⟨9, 70, none⟩)])) := by
    obtain ⟨name, u, ty, e1, e2, e3, e4, e5⟩ := h'.2 _ (List.mem_singleton.2 rfl)
    have en : name = [101, 114, 114, 111, 114] := (Option.some.inj e1).symm
    subst en
    obtain rfl := Option.some.inj (h30_rt.symm.trans e2)
    have hm : ty ∈ (List.range Tryz.prog.types.size).filter fun t => Tryz.prog.rowNamed t [101, 114, 114, 111, 114] := List.mem_filter.2 ⟨List.mem_range.2 e3, e4⟩
    rw [h30_one] at hm
    obtain rfl := List.mem_singleton.1 hm
    rw [h30_handle] at e5
    simpa using World.var?_cell h30_et e5 0
  exact ⟨hf, hc, lt_of_cell hc⟩
/-- a world that meets the list -/
noncomputable def base30 (os : Os) : World :=
  let w0 := World.holding Tryz.prog os ⟨#[], #[], []⟩
  { w0 with heap := w0.heap.modify 0 fun
      | .cells _ t frozen => .cells #[.iface 171 (.agg #[.pointer (some ⟨9, 70, none⟩)])] t frozen
      | o => o }
noncomputable def wit30 (os : Os) : World := (base30 os).layVars Tryz.prog lp30
theorem wit30_os (os : Os) : (wit30 os).os = os := by
  unfold wit30
  rw [World.layVars_os]
  rfl
theorem wit30_met (os : Os) (args : Array Value) : laidMetH Tryz.prog lh30 ((wit30 os).forCall (fun _ _ => 0) ⟨#[], args, []⟩).memory := by
  have e1 : (lp30.filter fun x => (lp30.map (·.1)).contains x.1) = lp30 := List.filter_eq_self.2 fun x hx => List.contains_iff_mem.2 (List.mem_map.2 ⟨x, hx, rfl⟩)
  have e2 : (lp30.filter fun x => !(lp30.map (·.1)).contains x.1) = [] := List.filter_eq_nil_iff.2 fun x hx => by rw [List.contains_iff_mem.2 (List.mem_map.2 ⟨x, hx, rfl⟩)]; simp
  have h : laidMet Tryz.prog lp30 (wit30 os) := laidMet_layVars (w0 := base30 os) (lp30.map (·.1)) [] (by rw [e1]; rfl) (by rw [e1]; kernel_rfl) (by rw [e1]; kernel_rfl) (by rw [e2]; exact LaidIn.none)
  refine laidMetH_of_parts ?_ (by kernel_rfl)
  exact h.of_heap (by simp [World.memory, World.forCall, Input.heap])
end Go.Proofs.YtbdmmgmcbecolaaGreatDoor
namespace Go.Proofs.YtbdmmgmcbecolaaGreatDoor
open Go.RowKit
theorem faultsCell {H : Type} {enc : TypeId × Value → H} {W : World} {n : Nat} {c : Value} {x : DataW H × List MemPlace} (h : DataW.trod enc Tryz.prog W 0 (fun _ => true) true n 39 [c] = some x) : ∃ l, FaultsArg W c l := by
  rcases Go.Deep.open_slice Tryz.underlying39 h with ⟨hcs, _⟩ | ⟨a, len, cap, m, q, D, Pl, hcs, _⟩
  · injection hcs with h1 _
    subst h1
    exact faultsArg_of (d := x.1) (p := x.2) ⟨n, h⟩
  · injection hcs with h1 _
    subst h1
    exact faultsArg_of (d := x.1) (p := x.2) ⟨n, h⟩
end Go.Proofs.YtbdmmgmcbecolaaGreatDoor
namespace Go.Proofs.YtbdmmgmcbecolaaGreatDoor
open Go.RowKit
theorem len_8 {α : Type} {l : List α} (h : l.length = 8) : ∃ a b c d e f g i, l = [a, b, c, d, e, f, g, i] := by
  match l, h with
  | [a, b, c, d, e, f, g, i], _ => exact ⟨a, b, c, d, e, f, g, i, rfl⟩
theorem len_6 {α : Type} {l : List α} (h : l.length = 6) : ∃ a b c d e f, l = [a, b, c, d, e, f] := by
  match l, h with
  | [a, b, c, d, e, f], _ => exact ⟨a, b, c, d, e, f, rfl⟩
/-- what a case holds: a slice of faults, texts and numbers within their types -/
def CaseOk (W : World) (h p f : ByteArray) (v : Value) (l : List Flt) (hh hp : ByteArray) (t r : Int) : Prop :=
  FaultsArg W v l ∧ (h.size ≤ maxLen ∧ p.size ≤ maxLen ∧ f.size ≤ maxLen ∧ hh.size ≤ maxLen ∧ hp.size ≤ maxLen) ∧ (Lit.int .i64 t).wf = true ∧ (Lit.int .i64 r).wf = true
set_option maxRecDepth 100000 in
theorem case_open {H : Type} {enc : TypeId × Value → H} {W : World} {r : Reach} {b0 : Nat} {v : Value} {d : DataW H} {p : List MemPlace} (hv : Value.okWide Tryz.prog W r b0 41 v) (h : DataW.Trod enc Tryz.prog W 0 (fun _ => true) true 41 v d p) :
    ∃ (a0 a1 a2 : ByteArray) (a3 : Value) (a4 a5 : ByteArray) (a6 a7 : Int), v = .agg #[.string a0, .string a1, .string a2, a3, .string a4, .string a5, .int .i64 a6, .int .i64 a7] ∧ ∃ l, CaseOk W a0 a1 a2 a3 l a4 a5 a6 a7 := by
  obtain ⟨cs, rfl, hsz⟩ := Go.WideShapes.okWide_struct Tryz.underlying41 hv
  have hs2 : cs.toList.length = 8 := by rw [Array.length_toList]; exact hsz.trans (show Tryz.prog.cellsOf 41 = 8 by kernel_rfl)
  obtain ⟨c0, c1, c2, c3, c4, c5, c6, c7, hc⟩ := len_8 hs2
  obtain rfl : cs = #[c0, c1, c2, c3, c4, c5, c6, c7] := by rw [← Array.toList_inj, hc]
  obtain ⟨fuel, hf⟩ := h
  obtain ⟨xs, k, _, _, _, hxl, hg⟩ := DataW.trod_struct Tryz.underlying41 hf
  have hxl2 : xs.length = 6 := hxl
  obtain ⟨z0, z1, z2, z3, z4, z5, rfl⟩ := len_6 hxl2
  have hSs : Tryz.prog.cellsOf 9 = 1 := by kernel_rfl
  have hSi : Tryz.prog.cellsOf 3 = 1 := by kernel_rfl
  have hSf : Tryz.prog.cellsOf 39 = 1 := by kernel_rfl
  have hSo : Tryz.prog.cellsOf 38 = 3 := by kernel_rfl
  have g0 : DataW.trod enc Tryz.prog W 0 (fun _ => true) true k 38 (([c0, c1, c2, c3, c4, c5, c6, c7].drop 0).take (Tryz.prog.cellsOf 38)) = some z0 := hg 0 _ rfl
  have g1 : DataW.trod enc Tryz.prog W 0 (fun _ => true) true k 39 (([c0, c1, c2, c3, c4, c5, c6, c7].drop 3).take (Tryz.prog.cellsOf 39)) = some z1 := hg 1 _ rfl
  have g2 : DataW.trod enc Tryz.prog W 0 (fun _ => true) true k 9 (([c0, c1, c2, c3, c4, c5, c6, c7].drop 4).take (Tryz.prog.cellsOf 9)) = some z2 := hg 2 _ rfl
  have g3 : DataW.trod enc Tryz.prog W 0 (fun _ => true) true k 9 (([c0, c1, c2, c3, c4, c5, c6, c7].drop 5).take (Tryz.prog.cellsOf 9)) = some z3 := hg 3 _ rfl
  have g4 : DataW.trod enc Tryz.prog W 0 (fun _ => true) true k 3 (([c0, c1, c2, c3, c4, c5, c6, c7].drop 6).take (Tryz.prog.cellsOf 3)) = some z4 := hg 4 _ rfl
  have g5 : DataW.trod enc Tryz.prog W 0 (fun _ => true) true k 3 (([c0, c1, c2, c3, c4, c5, c6, c7].drop 7).take (Tryz.prog.cellsOf 3)) = some z5 := hg 5 _ rfl
  rw [hSo] at g0
  rw [hSf] at g1
  rw [hSs] at g2 g3
  rw [hSi] at g4 g5
  simp at g0 g1 g2 g3 g4 g5
  obtain ⟨ys, m, _, _, _, hyl, hq⟩ := DataW.trod_struct Tryz.underlying38 g0
  have hyl2 : ys.length = 3 := hyl
  obtain ⟨y0, y1, y2, rfl⟩ := len_3 hyl2
  have q0 : DataW.trod enc Tryz.prog W 0 (fun _ => true) true m 9 (([c0, c1, c2].drop 0).take (Tryz.prog.cellsOf 9)) = some y0 := hq 0 _ rfl
  have q1 : DataW.trod enc Tryz.prog W 0 (fun _ => true) true m 9 (([c0, c1, c2].drop 1).take (Tryz.prog.cellsOf 9)) = some y1 := hq 1 _ rfl
  have q2 : DataW.trod enc Tryz.prog W 0 (fun _ => true) true m 9 (([c0, c1, c2].drop 2).take (Tryz.prog.cellsOf 9)) = some y2 := hq 2 _ rfl
  rw [hSs] at q0 q1 q2
  simp at q0 q1 q2
  obtain ⟨a0, e0, b0'⟩ := str_cell q0
  obtain ⟨a1, e1, b1⟩ := str_cell q1
  obtain ⟨a2, e2, b2⟩ := str_cell q2
  obtain ⟨l, hl⟩ := faultsCell g1
  obtain ⟨a4, e4, b4⟩ := str_cell g2
  obtain ⟨a5, e5, b5⟩ := str_cell g3
  obtain ⟨a6, e6, b6⟩ := int_cell g4
  obtain ⟨a7, e7, b7⟩ := int_cell g5
  simp at e0 e1 e2 e4 e5 e6 e7
  subst e0 e1 e2 e4 e5 e6 e7
  exact ⟨a0, a1, a2, c3, a4, a5, a6, a7, rfl, l, hl, ⟨b0', b1, b2, b4, b5⟩, b6, b7⟩
end Go.Proofs.YtbdmmgmcbecolaaGreatDoor
namespace Go.Proofs.YtbdmmgmcbecolaaGreatDoor
open Go.RowKit
theorem eight_facts {w : World} {b : Nat} {x0 x1 x2 x3 x4 x5 x6 x7 : Value} {t : TypeId} (k : w.heap[b]? = some (.cells #[x0, x1, x2, x3, x4, x5, x6, x7] t (0, 0))) :
    (w.cell? ⟨b, 0, none⟩ = some x0 ∧ w.cell? ⟨b, 1, none⟩ = some x1 ∧ w.cell? ⟨b, 2, none⟩ = some x2 ∧ w.cell? ⟨b, 3, none⟩ = some x3 ∧ w.cell? ⟨b, 4, none⟩ = some x4 ∧ w.cell? ⟨b, 5, none⟩ = some x5 ∧ w.cell? ⟨b, 6, none⟩ = some x6 ∧ w.cell? ⟨b, 7, none⟩ = some x7) ∧ w.frozen? ⟨b, 4, none⟩ = false ∧ w.frozen? ⟨b, 5, none⟩ = false ∧ w.frozen? ⟨b, 6, none⟩ = false := by
  refine ⟨⟨?_, ?_, ?_, ?_, ?_, ?_, ?_, ?_⟩, ?_, ?_, ?_⟩
  all_goals first
    | (unfold World.cell?; rw [k]; rfl)
    | (unfold World.frozen?; rw [k]; rfl)
def overX (h p f : ByteArray) (l : List Flt) (hh hp : ByteArray) (file : Int) (N : Nat) : Bool := overO h.data.toList p.data.toList f.data.toList file || overC l N || decide (300 < hh.size) || decide (300 < hp.size)
theorem below_c8 (w : World) (c : Array Value) (t : TypeId) : Below w.heap.size w (w.alloc (.cells c t)) := (Below.refl _ _).alloc (Nat.le_refl _) _
set_option maxRecDepth 100000 in
set_option maxHeartbeats 4000000 in
theorem case_over (h p f : ByteArray) (v : Value) (l : List Flt) (hh hp : ByteArray) (t r : Int) (file : Int) (N : Nat) (w : World) (hN : N ≤ 100000) (hv : HoldsC w v l) (hl : l.length ≤ maxLen) :
    Calls Tryz.prog 15 #[.agg #[.string h, .string p, .string f, v, .string hh, .string hp, .int .i64 t, .int .i64 r], .int .i64 file, .int .i64 (N : Int)] w fun e w' => e = .returned (.bool (overX h p f l hh hp file N)) ∧ Below w.heap.size w w' := by
  have HOv := Lib.hid (fun w => ref_oover h p f file w)
  have HB0 := Lib.hid (below_c8 w #[.string h, .string p, .string f, v, .string hh, .string hp, .int .i64 t, .int .i64 r] 41)
  have HOf := Lib.hid (fun W (hW : Below w.heap.size w W) => over28s v l N W hN (hv.below hW) hl)
  have HX0 := Lib.hid (heap_alloc_new w (.cells #[.string h, .string p, .string f, v, .string hh, .string hp, .int .i64 t, .int .i64 r] 41))
  obtain ⟨a, c, hvv, -⟩ := hv.len
  subst hvv
  obtain ⟨q0, q1, q2⟩ := (eight_facts HX0.out).1
  have HXl : Hid (w.heap.size < (w.alloc (.cells #[.string h, .string p, .string f, .slice a l.length c, .string hh, .string hp, .int .i64 t, .int .i64 r] 41)).heap.size) := Lib.hid (by simp)
  clear hv hl
  unfold overX
  cases h1 : overO h.data.toList p.data.toList f.data.toList file with
  | true =>
    rw [h1] at HOv
    clear h1
    go_enter Tryz.func15, Tryz.ntmps15
    go_wp2_with fail
    refine (HOv.out _).mono ?_
    rintro e w1 ⟨rfl, hb1⟩
    have HB1 := Lib.hid (bstep HB0.out hb1)
    have hx1 := (hb1.block _ HXl.out).trans HX0.out
    obtain ⟨⟨-, -, -, y3, y4, y5, -, -⟩, -⟩ := eight_facts hx1
    clear hb1 hx1
    go_wp2_with fail
    go_ret
    exact ⟨rfl, HB1.out⟩
  | false =>
  rw [h1] at HOv
  cases h2 : overC l N with
  | true =>
    rw [h2] at HOf
    clear h1 h2
    go_enter Tryz.func15, Tryz.ntmps15
    go_wp2_with fail
    refine (HOv.out _).mono ?_
    rintro e w1 ⟨rfl, hb1⟩
    have HB1 := Lib.hid (bstep HB0.out hb1)
    have hx1 := (hb1.block _ HXl.out).trans HX0.out
    obtain ⟨⟨-, -, -, y3, y4, y5, -, -⟩, -⟩ := eight_facts hx1
    clear hb1 hx1
    go_wp2_with fail
    refine (HOf.out _ HB1.out).mono ?_
    rintro e w2 ⟨rfl, hww⟩
    obtain rfl := hww.symm
    clear hww
    go_wp2_with fail
    go_ret
    exact ⟨rfl, HB1.out⟩
  | false =>
  rw [h2] at HOf
  by_cases h3 : (300 : Int) < (hh.size : Int)
  · have t3 : decide ((hh.size : Int) > 300) = true := decide_eq_true h3
    have HA : Hid ((false || false || decide (300 < hh.size) || decide (300 < hp.size)) = true) := Lib.hid (by rw [decide_eq_true (show 300 < hh.size by omega)]; rfl)
    clear h1 h2 h3
    go_enter Tryz.func15, Tryz.ntmps15
    go_wp2_with fail
    refine (HOv.out _).mono ?_
    rintro e w1 ⟨rfl, hb1⟩
    have HB1 := Lib.hid (bstep HB0.out hb1)
    have hx1 := (hb1.block _ HXl.out).trans HX0.out
    obtain ⟨⟨-, -, -, y3, y4, y5, -, -⟩, -⟩ := eight_facts hx1
    clear hb1 hx1
    go_wp2_with fail
    refine (HOf.out _ HB1.out).mono ?_
    rintro e w2 ⟨rfl, hww⟩
    obtain rfl := hww.symm
    clear hww
    go_wp2_with fail
    go_ret
    exact ⟨by rw [HA.out] <;> rfl, HB1.out⟩
  have t3 : decide ((hh.size : Int) > 300) = false := decide_eq_false h3
  obtain ⟨B, hB⟩ : ∃ B, decide ((hp.size : Int) > 300) = B := ⟨_, rfl⟩
  have HA : Hid ((false || false || decide (300 < hh.size) || decide (300 < hp.size)) = B) := Lib.hid (by
    rw [← hB, decide_eq_false (show ¬ 300 < hh.size by omega)]
    show decide (300 < hp.size) = decide ((hp.size : Int) > 300)
    exact decide_eq_decide.2 (by omega))
  clear h1 h2 h3
  go_enter Tryz.func15, Tryz.ntmps15
  go_wp2_with fail
  refine (HOv.out _).mono ?_
  rintro e w1 ⟨rfl, hb1⟩
  have HB1 := Lib.hid (bstep HB0.out hb1)
  have hx1 := (hb1.block _ HXl.out).trans HX0.out
  obtain ⟨⟨-, -, -, y3, y4, y5, -, -⟩, -⟩ := eight_facts hx1
  clear hb1 hx1
  go_wp2_with fail
  refine (HOf.out _ HB1.out).mono ?_
  rintro e w2 ⟨rfl, hww⟩
  obtain rfl := hww.symm
  clear hww
  go_wp2_with fail
  go_ret
  exact ⟨by rw [HA.out] <;> rfl, HB1.out⟩
theorem overX_ok {h p f : ByteArray} {l : List Flt} {hh hp : ByteArray} {file : Int} {N : Nat} (hx : overX h p f l hh hp file N = false) : overO h.data.toList p.data.toList f.data.toList file = false ∧ overC l N = false ∧ hh.size ≤ 300 ∧ hp.size ≤ 300 := by
  unfold overX at hx
  simp only [Bool.or_eq_false_iff, decide_eq_false_iff_not] at hx
  exact ⟨hx.1.1.1, hx.1.1.2, by omega, by omega⟩
set_option maxRecDepth 100000 in
set_option maxHeartbeats 4000000 in
theorem case_own_no (h p f : ByteArray) (v : Value) (l : List Flt) (hh hp : ByteArray) (t r : Int) (w : World) (hv : HoldsC w v l) (hl : l.length ≤ 100) (hO : orgE h.data.toList p.data.toList ≠ 0) :
    Calls Tryz.prog 16 #[.agg #[.string h, .string p, .string f, v, .string hh, .string hp, .int .i64 t, .int .i64 r]] w fun e w' => e = .returned (.tuple #[.pointer none, .pointer none, .int .i64 2]) ∧ Below w.heap.size w w' := by
  have HB0 := Lib.hid (below_c8 w #[.string h, .string p, .string f, v, .string hh, .string hp, .int .i64 t, .int .i64 r] 41)
  have HX0 := Lib.hid (heap_alloc_new w (.cells #[.string h, .string p, .string f, v, .string hh, .string hp, .int .i64 t, .int .i64 r] 41))
  have HFS := Lib.hid (fun W (hW : Below w.heap.size w W) => law29_faults v l W (hv.below hW) (by omega))
  have HNb := Lib.hid (fun v W => link_new_bad h p f v W hO)
  clear hv hl hO
  go_enter Tryz.func16, Tryz.ntmps16
  go_wp2_with fail
  generalize w.alloc (.cells #[.string h, .string p, .string f, v, .string hh, .string hp, .int .i64 t, .int .i64 r] 41) = W0 at HB0 HX0 ⊢
  generalize w.heap.size = X at HX0 ⊢
  have HS : Hid (∀ W, Below W0.heap.size W0 W → W.cell? ⟨X, 0, none⟩ = some (.string h) ∧ W.cell? ⟨X, 1, none⟩ = some (.string p) ∧ W.cell? ⟨X, 2, none⟩ = some (.string f) ∧ W.cell? ⟨X, 3, none⟩ = some v) := Lib.hid (fun W hW => by
    obtain ⟨⟨q0, q1, q2, q3, -⟩, -⟩ := eight_facts ((hW.block X (Array.getElem?_eq_some_iff.1 HX0.out).1).trans HX0.out)
    exact ⟨q0, q1, q2, q3⟩)
  have HDr : Hid (Below W0.heap.size W0 W0.drew) := Lib.hid (Below.refl _ _).drew
  go_region_held3 (fun w' => w'.cell? ⟨X, 0, none⟩ = some (.string h) ∧ w'.cell? ⟨X, 1, none⟩ = some (.string p) ∧ w'.cell? ⟨X, 2, none⟩ = some (.string f) ∧ w'.cell? ⟨X, 3, none⟩ = some v) (first | exact HS.out _ HDr.out | exact HS.out _ HX1.out | exact HS.out _ HX2.out)
    (first
      | (go_at_call 37; refine (HFS.out _ (bstep HB0.out HDr.out)).mono ?_; rintro e wa ⟨a1, c1, rfl, -, hba⟩; have HX1 : Hid (Below W0.heap.size W0 wa) := Lib.hid (bstep HDr.out hba); clear hba)
      | (go_at_call 24; refine (HNb.out _ _).mono ?_; rintro e wb ⟨rfl, hbb⟩; have HX2 : Hid (Below W0.heap.size W0 wb) := Lib.hid (bstep HX1.out hbb); clear hbb))
  all_goals
    go_wp2_with fail
    go_ret3
    exact ⟨rfl, bstep HB0.out HX2.out⟩
end Go.Proofs.YtbdmmgmcbecolaaGreatDoor
namespace Go.Proofs.YtbdmmgmcbecolaaGreatDoor
open Go.RowKit
abbrev cliC (h p f : ByteArray) (x3 x4 : Value) (n : Int) (hh hp : ByteArray) (t r a m : Int) : Array Value := #[.string h, .string p, .string f, x3, x4, .int .i64 n, .string hh, .string hp, .int .i64 t, .int .i64 r, .int .i64 a, .int .i64 m]
theorem twelve_facts {w : World} {b : Nat} {x0 x1 x2 x3 x4 x5 x6 x7 x8 x9 xa xb : Value} {t : TypeId} (k : w.heap[b]? = some (.cells #[x0, x1, x2, x3, x4, x5, x6, x7, x8, x9, xa, xb] t (0, 0))) :
    (w.cell? ⟨b, 0, none⟩ = some x0 ∧ w.cell? ⟨b, 1, none⟩ = some x1 ∧ w.cell? ⟨b, 2, none⟩ = some x2 ∧ w.cell? ⟨b, 3, none⟩ = some x3 ∧ w.cell? ⟨b, 4, none⟩ = some x4 ∧ w.cell? ⟨b, 5, none⟩ = some x5) ∧ w.cell? ⟨b, 6, none⟩ = some x6 ∧ w.cell? ⟨b, 7, none⟩ = some x7 ∧ w.cell? ⟨b, 8, none⟩ = some x8 ∧ w.cell? ⟨b, 9, none⟩ = some x9 ∧ w.cell? ⟨b, 10, none⟩ = some xa ∧ w.cell? ⟨b, 11, none⟩ = some xb := by
  refine ⟨⟨?_, ?_, ?_, ?_, ?_, ?_⟩, ?_, ?_, ?_, ?_, ?_, ?_⟩
  all_goals (unfold World.cell?; rw [k]; rfl)
set_option maxRecDepth 100000 in
set_option maxHeartbeats 4000000 in
theorem case_own_bad (h p f : ByteArray) (v : Value) (l : List Flt) (hh hp : ByteArray) (t r : Int) (w : World) (hv : HoldsC w v l) (hl : l.length ≤ 100) (hO : orgE h.data.toList p.data.toList = 0) (hc : cliE hh.data.toList hp.data.toList t r ≠ 0) :
    Calls Tryz.prog 16 #[.agg #[.string h, .string p, .string f, v, .string hh, .string hp, .int .i64 t, .int .i64 r]] w fun e w' => (∃ P : Nat, e = .returned (.tuple #[.pointer none, .pointer (some ⟨P, 0, none⟩), .int .i64 2])) ∧ Below w.heap.size w w' := by
  have HB0 := Lib.hid (below_c8 w #[.string h, .string p, .string f, v, .string hh, .string hp, .int .i64 t, .int .i64 r] 41)
  have HX0 := Lib.hid (heap_alloc_new w (.cells #[.string h, .string p, .string f, v, .string hh, .string hp, .int .i64 t, .int .i64 r] 41))
  have HFS := Lib.hid (fun W (hW : Below w.heap.size w W) => law29_faults v l W (hv.below hW) (by omega))
  have HNk := Lib.hid (fun W v hv => link_new h p f v l W hO hv (by omega))
  have HFb := Lib.hid (fun P w => fetch_new_bad P hh hp t r w hc)
  clear hv hl hO hc
  go_enter Tryz.func16, Tryz.ntmps16
  go_wp2_with fail
  generalize w.alloc (.cells #[.string h, .string p, .string f, v, .string hh, .string hp, .int .i64 t, .int .i64 r] 41) = W0 at HB0 HX0 ⊢
  generalize w.heap.size = X at HX0 ⊢
  have HS : Hid (∀ W, Below W0.heap.size W0 W → (W.cell? ⟨X, 0, none⟩ = some (.string h) ∧ W.cell? ⟨X, 1, none⟩ = some (.string p) ∧ W.cell? ⟨X, 2, none⟩ = some (.string f) ∧ W.cell? ⟨X, 3, none⟩ = some v) ∧ W.cell? ⟨X, 4, none⟩ = some (.string hh) ∧ W.cell? ⟨X, 5, none⟩ = some (.string hp) ∧ W.cell? ⟨X, 6, none⟩ = some (.int .i64 t) ∧ W.cell? ⟨X, 7, none⟩ = some (.int .i64 r)) := Lib.hid (fun W hW => by
    obtain ⟨⟨q0, q1, q2, q3, q4, q5, q6, q7⟩, -⟩ := eight_facts ((hW.block X (Array.getElem?_eq_some_iff.1 HX0.out).1).trans HX0.out)
    exact ⟨⟨q0, q1, q2, q3⟩, q4, q5, q6, q7⟩)
  have HDr : Hid (Below W0.heap.size W0 W0.drew) := Lib.hid (Below.refl _ _).drew
  go_region_held3 (fun w' => w'.cell? ⟨X, 0, none⟩ = some (.string h) ∧ w'.cell? ⟨X, 1, none⟩ = some (.string p) ∧ w'.cell? ⟨X, 2, none⟩ = some (.string f) ∧ w'.cell? ⟨X, 3, none⟩ = some v) (first | exact (HS.out _ HDr.out).1 | exact (HS.out _ HX1.out).1 | exact (HS.out _ HX2.out).1)
    (first
      | (go_at_call 37; refine (HFS.out _ (bstep HB0.out HDr.out)).mono ?_; rintro e wa ⟨a1, c1, rfl, ho1, hba⟩; have HX1 : Hid (Below W0.heap.size W0 wa) := Lib.hid (bstep HDr.out hba); have HO1 := Lib.hid (HoldsC.of_own ho1); clear hba ho1)
      | (go_at_call 24; refine (HNk.out _ _ HO1.out).mono ?_; rintro e wb hnew; obtain ⟨P, rv, rfl, hPlo, hk1, hbb⟩ := KL.new HX1.out hnew; have HX2 : Hid (Below W0.heap.size W0 wb) := Lib.hid (bstep HX1.out hbb); clear hbb hnew hk1 hPlo))
  all_goals
    obtain ⟨-, q4, q5, q6, q7⟩ := HS.out _ HX2.out
    go_wp2_with fail
    refine (HFb.out _ _).mono ?_
    rintro e wc ⟨rfl, hbc⟩
    go_wp2_with fail
    go_ret3
    exact ⟨⟨P, rfl⟩, bstep HB0.out (bstep HX2.out hbc)⟩
set_option maxRecDepth 100000 in
set_option maxHeartbeats 4000000 in
theorem case_own (h p f : ByteArray) (v : Value) (l : List Flt) (hh hp : ByteArray) (t r : Int) (w0 w : World) (hb : Below w0.heap.size w0 w) (hv : HoldsC w v l) (hl : l.length ≤ 100) (hO : orgE h.data.toList p.data.toList = 0) (hc : cliE hh.data.toList hp.data.toList t r = 0) :
    Calls Tryz.prog 16 #[.agg #[.string h, .string p, .string f, v, .string hh, .string hp, .int .i64 t, .int .i64 r]] w fun e w' => ∃ Cb P rv, e = .returned (.tuple #[.pointer (some ⟨Cb, 0, none⟩), .pointer (some ⟨P, 0, none⟩), .int .i64 0]) ∧ FC w0 w' Cb P hh hp t r h p f l [] 0 0 0 rv (.slice none 0 0) ∧ Below w.heap.size w w' := by
  have HB0 := Lib.hid (below_c8 w #[.string h, .string p, .string f, v, .string hh, .string hp, .int .i64 t, .int .i64 r] 41)
  have HX0 := Lib.hid (heap_alloc_new w (.cells #[.string h, .string p, .string f, v, .string hh, .string hp, .int .i64 t, .int .i64 r] 41))
  have HFS := Lib.hid (fun W (hW : Below w.heap.size w W) => law29_faults v l W (hv.below hW) (by omega))
  have HNk := Lib.hid (fun W v hv => link_new h p f v l W hO hv (by omega))
  have HFn := Lib.hid (fun P rv lv w k => fetch_new w0 P hh hp t r h p f l [] 0 rv lv w k hc)
  have HB := Lib.hid hb
  clear hv hl hO hc hb
  go_enter Tryz.func16, Tryz.ntmps16
  go_wp2_with fail
  generalize w.alloc (.cells #[.string h, .string p, .string f, v, .string hh, .string hp, .int .i64 t, .int .i64 r] 41) = W0 at HB0 HX0 ⊢
  generalize w.heap.size = X at HX0 ⊢
  have HS : Hid (∀ W, Below W0.heap.size W0 W → (W.cell? ⟨X, 0, none⟩ = some (.string h) ∧ W.cell? ⟨X, 1, none⟩ = some (.string p) ∧ W.cell? ⟨X, 2, none⟩ = some (.string f) ∧ W.cell? ⟨X, 3, none⟩ = some v) ∧ W.cell? ⟨X, 4, none⟩ = some (.string hh) ∧ W.cell? ⟨X, 5, none⟩ = some (.string hp) ∧ W.cell? ⟨X, 6, none⟩ = some (.int .i64 t) ∧ W.cell? ⟨X, 7, none⟩ = some (.int .i64 r)) := Lib.hid (fun W hW => by
    obtain ⟨⟨q0, q1, q2, q3, q4, q5, q6, q7⟩, -⟩ := eight_facts ((hW.block X (Array.getElem?_eq_some_iff.1 HX0.out).1).trans HX0.out)
    exact ⟨⟨q0, q1, q2, q3⟩, q4, q5, q6, q7⟩)
  have HDr : Hid (Below W0.heap.size W0 W0.drew) := Lib.hid (Below.refl _ _).drew
  go_region_held3 (fun w' => w'.cell? ⟨X, 0, none⟩ = some (.string h) ∧ w'.cell? ⟨X, 1, none⟩ = some (.string p) ∧ w'.cell? ⟨X, 2, none⟩ = some (.string f) ∧ w'.cell? ⟨X, 3, none⟩ = some v) (first | exact (HS.out _ HDr.out).1 | exact (HS.out _ HX1.out).1 | exact (HS.out _ HX2.out).1)
    (first
      | (go_at_call 37; refine (HFS.out _ (bstep HB0.out HDr.out)).mono ?_; rintro e wa ⟨a1, c1, rfl, ho1, hba⟩; have HX1 : Hid (Below W0.heap.size W0 wa) := Lib.hid (bstep HDr.out hba); have HO1 := Lib.hid (HoldsC.of_own ho1); clear hba ho1)
      | (go_at_call 24; refine (HNk.out _ _ HO1.out).mono ?_; rintro e wb hnew; obtain ⟨P, rv, rfl, hPlo, hk1, hbb⟩ := KL.new (bstep HB.out (bstep HB0.out HX1.out)) hnew; have HK1 := Lib.hid hk1; have HX2 : Hid (Below W0.heap.size W0 wb) := Lib.hid (bstep HX1.out hbb); clear hbb hnew hk1 hPlo))
  all_goals
    obtain ⟨-, q4, q5, q6, q7⟩ := HS.out _ HX2.out
    go_wp2_with fail
    refine (HFn.out _ _ _ _ HK1.out).mono ?_
    rintro e wc ⟨Cb, rfl, hf, hbc, hlo⟩
    have HF := Lib.hid hf
    have HX3 := Lib.hid (bstep HX2.out hbc)
    clear hf hbc hlo q4 q5 q6 q7
    go_wp2_with fail
    go_ret3
    exact ⟨Cb, P, rv, rfl, HF.out, bstep HB0.out HX3.out⟩
end Go.Proofs.YtbdmmgmcbecolaaGreatDoor
namespace Go.Proofs.YtbdmmgmcbecolaaGreatDoor
open Go.RowKit
abbrev set12 (w : World) (b : Nat) (y0 y1 y2 y3 y4 y5 y6 y7 y8 y9 ya yb : Value) : World := (((((((((((w.setCell ⟨b, 0, none⟩ y0).setCell ⟨b, 1, none⟩ y1).setCell ⟨b, 2, none⟩ y2).setCell ⟨b, 3, none⟩ y3).setCell ⟨b, 4, none⟩ y4).setCell ⟨b, 5, none⟩ y5).setCell ⟨b, 6, none⟩ y6).setCell ⟨b, 7, none⟩ y7).setCell ⟨b, 8, none⟩ y8).setCell ⟨b, 9, none⟩ y9).setCell ⟨b, 10, none⟩ ya).setCell ⟨b, 11, none⟩ yb
theorem twelve_touch (w : World) (b : Nat) (y0 y1 y2 y3 y4 y5 y6 y7 y8 y9 ya yb : Value) : Touch (fun g => g = b) w (set12 w b y0 y1 y2 y3 y4 y5 y6 y7 y8 y9 ya yb) :=
  touch_set _ (touch_set _ (touch_set _ (touch_set _ (touch_set _ (touch_set _ (touch_set _ (touch_set _ (touch_set _ (touch_set _ (touch_set _ (touch_set _ (Touch.refl _ _) (.inl rfl)) (.inl rfl)) (.inl rfl)) (.inl rfl)) (.inl rfl)) (.inl rfl)) (.inl rfl)) (.inl rfl)) (.inl rfl)) (.inl rfl)) (.inl rfl)) (.inl rfl)
/-- the blocks of Given -/
def gvW (w : World) (h p f : ByteArray) (v : Value) (hh hp : ByteArray) (t r : Int) : World :=
  ((w.alloc (.cells #[.string h, .string p, .string f, v, .string hh, .string hp, .int .i64 t, .int .i64 r] 41)).alloc (.cells (cliC ⟨#[]⟩ ⟨#[]⟩ ⟨#[]⟩ (.slice none 0 0) (.slice none 0 0) 0 ⟨#[]⟩ ⟨#[]⟩ 0 0 0 0) 52)).alloc (.cells (cliC h p f v (.slice none 0 0) 0 hh hp t r 0 0) 52)
structure GV (w W : World) (h p f : ByteArray) (v : Value) (hh hp : ByteArray) (t r : Int) : Prop where
  x : W.heap[w.heap.size]? = some (.cells #[.string h, .string p, .string f, v, .string hh, .string hp, .int .i64 t, .int .i64 r] 41 (0, 0))
  z : W.heap[w.heap.size + 1]? = some (.cells (cliC ⟨#[]⟩ ⟨#[]⟩ ⟨#[]⟩ (.slice none 0 0) (.slice none 0 0) 0 ⟨#[]⟩ ⟨#[]⟩ 0 0 0 0) 52 (0, 0))
  d : W.heap[w.heap.size + 1 + 1]? = some (.cells (cliC h p f v (.slice none 0 0) 0 hh hp t r 0 0) 52 (0, 0))
  b : Below w.heap.size w W
  s : w.heap.size + 3 ≤ W.heap.size
theorem GV.start (w : World) (h p f : ByteArray) (v : Value) (hh hp : ByteArray) (t r : Int) : GV w (gvW w h p f v hh hp t r) h p f v hh hp t r := by
  unfold gvW
  have hb : Below w.heap.size w (w.alloc (.cells #[.string h, .string p, .string f, v, .string hh, .string hp, .int .i64 t, .int .i64 r] 41)) := below_c8 _ _ _
  have e1 : (w.alloc (.cells #[.string h, .string p, .string f, v, .string hh, .string hp, .int .i64 t, .int .i64 r] 41)).heap.size = w.heap.size + 1 := by simp
  generalize hW1 : w.alloc (.cells #[.string h, .string p, .string f, v, .string hh, .string hp, .int .i64 t, .int .i64 r] 41) = W1 at hb e1
  have x1 : W1.heap[w.heap.size]? = some (.cells #[.string h, .string p, .string f, v, .string hh, .string hp, .int .i64 t, .int .i64 r] 41 (0, 0)) := by rw [← hW1]; exact heap_alloc_new w _
  have hb2 : Below W1.heap.size W1 (W1.alloc (.cells (cliC ⟨#[]⟩ ⟨#[]⟩ ⟨#[]⟩ (.slice none 0 0) (.slice none 0 0) 0 ⟨#[]⟩ ⟨#[]⟩ 0 0 0 0) 52)) := below_c8 _ _ _
  have z1 := heap_alloc_new W1 (.cells (cliC ⟨#[]⟩ ⟨#[]⟩ ⟨#[]⟩ (.slice none 0 0) (.slice none 0 0) 0 ⟨#[]⟩ ⟨#[]⟩ 0 0 0 0) 52)
  have e2 : (W1.alloc (.cells (cliC ⟨#[]⟩ ⟨#[]⟩ ⟨#[]⟩ (.slice none 0 0) (.slice none 0 0) 0 ⟨#[]⟩ ⟨#[]⟩ 0 0 0 0) 52)).heap.size = W1.heap.size + 1 := by simp
  generalize W1.alloc (.cells (cliC ⟨#[]⟩ ⟨#[]⟩ ⟨#[]⟩ (.slice none 0 0) (.slice none 0 0) 0 ⟨#[]⟩ ⟨#[]⟩ 0 0 0 0) 52) = W2 at hb2 z1 e2
  have hb3 : Below W2.heap.size W2 (W2.alloc (.cells (cliC h p f v (.slice none 0 0) 0 hh hp t r 0 0) 52)) := below_c8 _ _ _
  have d1 := heap_alloc_new W2 (.cells (cliC h p f v (.slice none 0 0) 0 hh hp t r 0 0) 52)
  have e3 : (W2.alloc (.cells (cliC h p f v (.slice none 0 0) 0 hh hp t r 0 0) 52)).heap.size = W2.heap.size + 1 := by simp
  have hb23 := bstep hb2 hb3
  refine ⟨(hb23.block _ (by omega)).trans x1, ?_, ?_, bstep hb hb23, by omega⟩
  · rw [← e1]; exact (hb3.block _ (by omega)).trans z1
  · rw [← e1, ← e2]; exact d1
theorem GV.below {w W W' : World} {h p f : ByteArray} {v : Value} {hh hp : ByteArray} {t r : Int} (k : GV w W h p f v hh hp t r) (hb : Below W.heap.size W W') : GV w W' h p f v hh hp t r :=
  have := k.s
  ⟨(hb.block _ (by omega)).trans k.x, (hb.block _ (by omega)).trans k.z, (hb.block _ (by omega)).trans k.d, bstep k.b hb, Nat.le_trans k.s hb.size⟩
/-- what the region reads -/
abbrev gvS (w : World) (h p f : ByteArray) (v : Value) (hh hp : ByteArray) (t r : Int) (W : World) : Prop :=
  (W.cell? ⟨w.heap.size, 0, none⟩ = some (.string h) ∧ W.cell? ⟨w.heap.size, 1, none⟩ = some (.string p) ∧ W.cell? ⟨w.heap.size, 2, none⟩ = some (.string f)) ∧
  ((W.cell? ⟨w.heap.size + 1 + 1, 0, none⟩ = some (.string h) ∧ W.cell? ⟨w.heap.size + 1 + 1, 1, none⟩ = some (.string p) ∧ W.cell? ⟨w.heap.size + 1 + 1, 2, none⟩ = some (.string f) ∧ W.cell? ⟨w.heap.size + 1 + 1, 3, none⟩ = some v ∧ W.cell? ⟨w.heap.size + 1 + 1, 4, none⟩ = some (.slice none 0 0) ∧ W.cell? ⟨w.heap.size + 1 + 1, 5, none⟩ = some (.int .i64 0)) ∧
    W.cell? ⟨w.heap.size + 1 + 1, 6, none⟩ = some (.string hh) ∧ W.cell? ⟨w.heap.size + 1 + 1, 7, none⟩ = some (.string hp) ∧ W.cell? ⟨w.heap.size + 1 + 1, 8, none⟩ = some (.int .i64 t) ∧ W.cell? ⟨w.heap.size + 1 + 1, 9, none⟩ = some (.int .i64 r) ∧ W.cell? ⟨w.heap.size + 1 + 1, 10, none⟩ = some (.int .i64 0) ∧ W.cell? ⟨w.heap.size + 1 + 1, 11, none⟩ = some (.int .i64 0))
theorem GV.S {w W : World} {h p f : ByteArray} {v : Value} {hh hp : ByteArray} {t r : Int} (k : GV w W h p f v hh hp t r) : gvS w h p f v hh hp t r W := by
  obtain ⟨⟨q0, q1, q2, -⟩, -⟩ := eight_facts k.x
  exact ⟨⟨q0, q1, q2⟩, twelve_facts k.d⟩
theorem GV.S' {w W : World} {h p f : ByteArray} {v : Value} {hh hp : ByteArray} {t r : Int} (k : GV w W h p f v hh hp t r) (y0 y1 y2 y3 y4 y5 y6 y7 y8 y9 ya yb : Value) : gvS w h p f v hh hp t r (set12 W (w.heap.size + 1) y0 y1 y2 y3 y4 y5 y6 y7 y8 y9 ya yb) := by
  have ht := twelve_touch W (w.heap.size + 1) y0 y1 y2 y3 y4 y5 y6 y7 y8 y9 ya yb
  have hs := k.s
  obtain ⟨⟨q0, q1, q2, -⟩, -⟩ := eight_facts ((ht.block w.heap.size (by omega) (show ¬ w.heap.size = w.heap.size + 1 by omega)).trans k.x)
  exact ⟨⟨q0, q1, q2⟩, twelve_facts ((ht.block (w.heap.size + 1 + 1) (by omega) (show ¬ w.heap.size + 1 + 1 = w.heap.size + 1 by omega)).trans k.d)⟩
end Go.Proofs.YtbdmmgmcbecolaaGreatDoor
namespace Go.Proofs.YtbdmmgmcbecolaaGreatDoor
open Go.RowKit
/-- the blocks of the document's Get -/
def rgW (w : World) (C : Array Value) (a b : Int) : World :=
  ((w.alloc (.cells C 52)).alloc (.cells #[.int .i64 a, .int .i64 b] 23)).alloc (.cells (cliC ⟨#[]⟩ ⟨#[]⟩ ⟨#[]⟩ (.slice none 0 0) (.slice none 0 0) 0 ⟨#[]⟩ ⟨#[]⟩ 0 0 0 0) 52)
structure RG (w W : World) (C : Array Value) (a b : Int) : Prop where
  c : W.heap[w.heap.size]? = some (.cells C 52 (0, 0))
  x : W.heap[w.heap.size + 1]? = some (.cells #[.int .i64 a, .int .i64 b] 23 (0, 0))
  z : W.heap[w.heap.size + 1 + 1]? = some (.cells (cliC ⟨#[]⟩ ⟨#[]⟩ ⟨#[]⟩ (.slice none 0 0) (.slice none 0 0) 0 ⟨#[]⟩ ⟨#[]⟩ 0 0 0 0) 52 (0, 0))
  b : Below w.heap.size w W
  s : w.heap.size + 3 ≤ W.heap.size
theorem RG.start (w : World) (C : Array Value) (a b : Int) : RG w (rgW w C a b) C a b := by
  unfold rgW
  have hb : Below w.heap.size w (w.alloc (.cells C 52)) := below_c8 _ _ _
  have e1 : (w.alloc (.cells C 52)).heap.size = w.heap.size + 1 := by simp
  have x1 := heap_alloc_new w (.cells C 52)
  generalize w.alloc (.cells C 52) = W1 at hb e1 x1
  have hb2 : Below W1.heap.size W1 (W1.alloc (.cells #[.int .i64 a, .int .i64 b] 23)) := below_c8 _ _ _
  have z1 := heap_alloc_new W1 (.cells #[.int .i64 a, .int .i64 b] 23)
  have e2 : (W1.alloc (.cells #[.int .i64 a, .int .i64 b] 23)).heap.size = W1.heap.size + 1 := by simp
  generalize W1.alloc (.cells #[.int .i64 a, .int .i64 b] 23) = W2 at hb2 z1 e2
  have hb3 : Below W2.heap.size W2 (W2.alloc (.cells (cliC ⟨#[]⟩ ⟨#[]⟩ ⟨#[]⟩ (.slice none 0 0) (.slice none 0 0) 0 ⟨#[]⟩ ⟨#[]⟩ 0 0 0 0) 52)) := below_c8 _ _ _
  have d1 := heap_alloc_new W2 (.cells (cliC ⟨#[]⟩ ⟨#[]⟩ ⟨#[]⟩ (.slice none 0 0) (.slice none 0 0) 0 ⟨#[]⟩ ⟨#[]⟩ 0 0 0 0) 52)
  have e3 : (W2.alloc (.cells (cliC ⟨#[]⟩ ⟨#[]⟩ ⟨#[]⟩ (.slice none 0 0) (.slice none 0 0) 0 ⟨#[]⟩ ⟨#[]⟩ 0 0 0 0) 52)).heap.size = W2.heap.size + 1 := by simp
  have hb23 := bstep hb2 hb3
  refine ⟨(hb23.block _ (by omega)).trans x1, ?_, ?_, bstep hb hb23, by omega⟩
  · rw [← e1]; exact (hb3.block _ (by omega)).trans z1
  · rw [← e1, ← e2]; exact d1
theorem RG.below {w W W' : World} {C : Array Value} {a b : Int} (k : RG w W C a b) (hb : Below W.heap.size W W') : RG w W' C a b :=
  have := k.s
  ⟨(hb.block _ (by omega)).trans k.c, (hb.block _ (by omega)).trans k.x, (hb.block _ (by omega)).trans k.z, bstep k.b hb, Nat.le_trans k.s hb.size⟩
theorem RG.xs {w W : World} {C : Array Value} {a b : Int} (k : RG w W C a b) : W.cell? ⟨w.heap.size + 1, 0, none⟩ = some (.int .i64 a) ∧ W.cell? ⟨w.heap.size + 1, 1, none⟩ = some (.int .i64 b) :=
  ⟨by unfold World.cell?; rw [k.x]; rfl, by unfold World.cell?; rw [k.x]; rfl⟩
end Go.Proofs.YtbdmmgmcbecolaaGreatDoor
namespace Go.Proofs.YtbdmmgmcbecolaaGreatDoor
open Go.RowKit
/-- a client's retries, as a number -/
theorem cli_nat {hh hp : List UInt8} {t r : Int} (h : cliE hh hp t r = 0) : ∃ R : Nat, r = (R : Int) ∧ R ≤ 8 := by
  obtain ⟨-, -, -, h1, h2⟩ := cli_ok _ _ _ _ h
  exact ⟨r.toNat, by omega, by omega⟩
set_option maxRecDepth 100000 in
set_option maxHeartbeats 8000000 in
theorem fetchRight_walk (h p f : ByteArray) (v : Value) (hh hp : ByteArray) (t r : Int) (u : Value) (l : List Flt) (rs : List (Int × Int)) (w : World) (hE : EnvT w) (hv : CaseOk w h p f v l hh hp t r) (hu : RangesArg w u rs) :
    Calls Tryz.prog 5 #[.agg #[.string h, .string p, .string f, v, .string hh, .string hp, .int .i64 t, .int .i64 r], u] w fun e w' => e = .returned (.bool true) ∧ Below w.heap.size w w' := by
  have hb0 : Below w.heap.size w (w.alloc (.cells #[.string h, .string p, .string f, v, .string h, .string p, .int .i64 (f.size : Int), .int .i64 r] 41)) := below_c8 _ _ _
  have hx0 := heap_alloc_new w (.cells #[.string h, .string p, .string f, v, .string h, .string p, .int .i64 (f.size : Int), .int .i64 r] 41)
  have HX0 := Lib.hid hx0
  have HB0 := Lib.hid hb0
  have HXl : Hid (w.heap.size < (w.alloc (.cells #[.string h, .string p, .string f, v, .string h, .string p, .int .i64 (f.size : Int), .int .i64 r] 41)).heap.size) := Lib.hid (by simp)
  have HEw := Lib.hid hE
  obtain ⟨⟨hv1, hv2, hv3⟩, ⟨hm1, hm2, hm3, -, -⟩, -, -⟩ := hv
  have HOv := Lib.hid (fun W (hW : Below w.heap.size w W) => case_over h p f v l h p (f.size : Int) r 500 60 W (by decide) (hv1.below hW) hv3)
  have HV1 := Lib.hid (fun W (hW : Below w.heap.size w W) => hv1.below hW)
  have HWF := Lib.hid hv2
  obtain ⟨va, vc, hvv, -⟩ := hv1.len
  subst hvv
  obtain ⟨⟨ua, uc, hvv, huc, hux⟩, hwu, hull⟩ := hu
  subst hvv
  unfold maxLen at hull
  have HWu := Lib.hid hwu
  have HCell : Hid (rs ≠ [] → ∃ b o, ua = some ⟨b, o, none⟩ ∧ ∀ k (hk : k < rs.length) W, Below w.heap.size w W → W.cell? ⟨b, o + k * 2, none⟩ = some (.int .i64 rs[k].1) ∧ W.cell? ⟨b, o + k * 2 + 1, none⟩ = some (.int .i64 rs[k].2)) := Lib.hid (fun hn => by
    obtain ⟨b, o, e1, e2, e3⟩ := hux hn
    exact ⟨b, o, e1, fun k hk W hW => ⟨(hW.cell (p := ⟨b, o + k * 2, none⟩) e2).trans (e3 k hk).1, (hW.cell (p := ⟨b, o + k * 2 + 1, none⟩) e2).trans (e3 k hk).2⟩⟩)
  unfold maxLen at hm3
  clear hE hux hv1 hv2 hv3 hm1 hm2 hb0 hx0 hwu
  go_enter Tryz.func5, Tryz.ntmps5
  go_wp2_with fail
  refine (HOv.out _ HB0.out).mono ?_
  rintro e w1 ⟨rfl, hb1⟩
  have HB1 := Lib.hid (bstep HB0.out hb1)
  have HE1 := Lib.hid (HEw.out.below HB1.out)
  have HX1 := Lib.hid ((hb1.block _ HXl.out).trans HX0.out)
  clear hb1 HX0 HB0 HEw HXl HOv
  cases h1 : overX h p f l h p 500 60 with
  | true =>
    clear h1
    go_wp2_with fail
    refine (awake30 _ HE1.out).mono ?_
    rintro e w2 ⟨rfl, hb2⟩
    go_wp2_with fail
    go_ret
    exact ⟨rfl, bstep HB1.out hb2⟩
  | false =>
  by_cases h2 : (12 : Int) < (rs.length : Int)
  · have t1 : decide ((rs.length : Int) > 12) = true := decide_eq_true h2
    clear h1 h2
    go_wp2_with fail
    refine (awake30 _ HE1.out).mono ?_
    rintro e w2 ⟨rfl, hb2⟩
    go_wp2_with fail
    go_ret
    exact ⟨rfl, bstep HB1.out hb2⟩
  have t1 : decide ((rs.length : Int) > 12) = false := decide_eq_false h2
  obtain ⟨o1, o2, -, -⟩ := overX_ok h1
  obtain ⟨b1, b2, b3⟩ := overO_false h p f 500 o1
  obtain ⟨n0, m0⟩ := overC_ok o2
  have HFO := Lib.hid (flts_ok HWF.out m0)
  have HN : Hid (f.size ≤ 500 ∧ l.length ≤ 60 ∧ rs.length ≤ 12) := Lib.hid (by omega)
  obtain ⟨⟨q0, q1, q2, q3, q4, q5, q6, q7⟩, -⟩ := eight_facts HX1.out
  have HVw := Lib.hid (HV1.out _ HB1.out)
  clear h1 h2 o1 o2 b1 b2 b3 n0 m0 HWF HV1
  by_cases hO1 : orgE h.data.toList p.data.toList ≠ 0
  · have HOw := Lib.hid (case_own_no h p f (.slice va l.length vc) l h p (f.size : Int) r w1 HVw.out (by have := HN.out; omega) hO1)
    clear hO1
    go_wp2_with fail
    refine HOw.out.mono ?_
    rintro e w2 ⟨rfl, hb2⟩
    have HB2 := Lib.hid (bstep HB1.out hb2)
    have HE2 := Lib.hid (HE1.out.below hb2)
    clear hb2
    go_wp2_with fail
    refine (awake30 _ HE2.out).mono ?_
    rintro e w3 ⟨rfl, hb3⟩
    go_wp2_with fail
    go_ret
    exact ⟨rfl, bstep HB2.out hb3⟩
  have hO := Decidable.not_not.1 hO1
  clear hO1
  by_cases hc1 : cliE h.data.toList p.data.toList (f.size : Int) r ≠ 0
  · have HOw := Lib.hid (case_own_bad h p f (.slice va l.length vc) l h p (f.size : Int) r w1 HVw.out (by have := HN.out; omega) hO hc1)
    clear hO hc1
    go_wp2_with fail
    refine HOw.out.mono ?_
    rintro e w2 ⟨⟨P, rfl⟩, hb2⟩
    have HB2 := Lib.hid (bstep HB1.out hb2)
    have HE2 := Lib.hid (HE1.out.below hb2)
    clear hb2
    go_wp2_with fail
    refine (awake30 _ HE2.out).mono ?_
    rintro e w3 ⟨rfl, hb3⟩
    go_wp2_with fail
    go_ret
    exact ⟨rfl, bstep HB2.out hb3⟩
  have hc := Decidable.not_not.1 hc1
  clear hc1
  have HOw := Lib.hid (case_own h p f (.slice va l.length vc) l h p (f.size : Int) r w1 w1 (Below.refl _ _) HVw.out (by have := HN.out; omega) hO hc)
  obtain ⟨R, rfl, hR⟩ := cli_nat hc
  have HRO := Lib.hid (And.intro hR hO)
  clear hO hc hR
  go_wp2_with fail
  refine HOw.out.mono ?_
  rintro e w2 ⟨Cb, P, rv0, rfl, hf2, hb2⟩
  have HF0 := Lib.hid hf2
  clear hf2 hb2 HOw q0 q1 q2 q3 q4 q5 q6 q7
  go_wp2_with fail
  go_loopw [8] (fun i wr => ∃ k : Nat, k ≤ rs.length ∧ i = .int .i64 k ∧ ∃ (qs : List ByteArray) (last : Nat) (rv lv : Value), qs.length ≤ 9 * k ∧ Hid (FC w1 wr Cb P h p (f.size : Int) (R : Int) h p f (l.drop qs.length) (logK h p f l qs) (harmsK (logK h p f l qs)) qs.length last rv lv)) (fun i _ => rs.length - (intOf i).toNat)
  case atStart => exact ⟨0, Nat.zero_le _, rfl, [], 0, rv0, _, Nat.zero_le _, HF0⟩
  case round =>
    obtain ⟨k, hk, rfl, qs, last, rv, lv, hq9, HFr⟩ := hrel
    clear HF0
    by_cases hlt : k < rs.length
    · obtain ⟨cb, co, rfl, hcell⟩ := HCell.out (fun e => by rw [e] at hlt; exact absurd hlt (Nat.not_lt_zero _))
      obtain ⟨a, ha⟩ : ∃ a, rs[k].1 = a := ⟨_, rfl⟩
      obtain ⟨b, hb⟩ : ∃ b, rs[k].2 = b := ⟨_, rfl⟩
      have HCk : Hid (∀ W, Below w1.heap.size w1 W → W.cell? ⟨cb, co + k * 2, none⟩ = some (.int .i64 a) ∧ W.cell? ⟨cb, co + k * 2 + 1, none⟩ = some (.int .i64 b) ∧ W.cell? ⟨w.heap.size, 2, none⟩ = some (.string f) ∧ W.cell? ⟨w.heap.size, 7, none⟩ = some (.int .i64 (R : Int))) := Lib.hid (fun W hW => by
        have h1 := hcell k hlt W (bstep HB1.out hW)
        rw [ha, hb] at h1
        obtain ⟨⟨-, -, q2, -, -, -, -, q7⟩, -⟩ := eight_facts ((hW.block _ (Array.getElem?_eq_some_iff.1 HX1.out).1).trans HX1.out)
        exact ⟨h1.1, h1.2, q2, q7⟩)
      clear hcell ha hb
      obtain ⟨q0, q1, q2, q3⟩ := HCk.out _ HFr.out.k.bel
      by_cases hg : getErr a b (f.size : Int) ≠ 0
      · have HGb := Lib.hid (get_bad HFr.out a b hg)
        obtain ⟨E, hE⟩ : ∃ E, getErr a b (f.size : Int) = E := ⟨_, rfl⟩
        have hE2 : E = 8 ∨ E = 5 := by
          rw [← hE]
          unfold getErr at hg ⊢
          split
          · exact .inl rfl
          · split
            · exact .inr rfl
            · rename_i h1 h2; rw [if_neg h1, if_neg h2] at hg; exact absurd rfl hg
        rw [hE] at HGb
        have te0 : ((E : Int) == 0) = false := by rw [beq_eq_false_iff_ne]; omega
        have te1 : ((E : Int) == 23) = false := by rw [beq_eq_false_iff_ne]; omega
        have tw0 : IntKind.i64.wrap ((qs.length : Int) - (qs.length : Int)) = 0 := by rw [Int.sub_self]; decide
        have tw2 : IntKind.i64.wrap ((k : Int) + 1) = (k : Int) + 1 := by rw [IntKind.wrap_i64]; have := HN.out; omega
        clear hg hE hE2
        go_wp2_with fail
        refine HFr.out.asked.mono ?_
        rintro e w' ⟨rfl, hww⟩
        obtain rfl := hww.symm
        clear hww
        go_wp2_with fail
        refine (link_harms HFr.out.k.a).mono ?_
        rintro e w' ⟨rfl, hww⟩
        obtain rfl := hww.symm
        clear hww
        go_wp2_with fail
        refine HGb.out.mono ?_
        rintro e wg ⟨rfl, hbg⟩
        have HFg := Lib.hid (HFr.out.step hbg)
        clear hbg q0 q1 q2 q3
        go_wp2_with fail
        refine HFg.out.asked.mono ?_
        rintro e w' ⟨rfl, hww⟩
        obtain rfl := hww.symm
        clear hww
        go_wp2_with fail
        refine (link_harms HFg.out.k.a).mono ?_
        rintro e w' ⟨rfl, hww⟩
        obtain rfl := hww.symm
        clear hww
        go_wp2_with fail
        go_roundw
        case rel => exact ⟨k + 1, by omega, by go_num, qs, last, rv, lv, by omega, HFg⟩
        case measure => simp [intOf]; omega
      · have hg0 := Decidable.not_not.1 hg
        obtain ⟨g1, g2, g3⟩ := getErr_ok a b _ hg0
        obtain ⟨r1, r2, r3⟩ := rErr_ok a b g1
        obtain ⟨n1, n2, n3⟩ := HN.out
        have haE : aErr p.data.toList h.data.toList a b = 0 := by
          have hO := HRO.out.2
          unfold orgE at hO
          unfold aErr
          split at hO
          · exact absurd hO (by decide)
          · rename_i hq; rw [if_neg hq]; exact g1
        obtain ⟨S, hS⟩ : ∃ S, bs (aPrint p.data.toList h.data.toList a b) = S := ⟨_, rfl⟩
        have hSd : S.data.toList = reqL p.data.toList h.data.toList a b := by
          rw [← hS, bs_data]
          unfold aPrint
          rw [if_pos haE]
        have hR := HRO.out.1
        have hgood := get_good w1 wr Cb P h p (f.size : Int) R h p f l qs S a b last rv lv HE1.out HFr.out hR (by omega) HFO.out (by omega) (by omega) hg0 HRO.out.2 hS
        unfold GetPost at hgood
        have hrun := run_right h p f l qs S a b R haE g2 (by omega) hSd
        have hA9 := runA_le (errN h p f l S qs.length a b (f.size : Int)) R
        obtain ⟨A, hA⟩ : ∃ A, runA (errN h p f l S qs.length a b (f.size : Int)) R = A := ⟨_, rfl⟩
        obtain ⟨L, hL⟩ : ∃ L, runL (errN h p f l S qs.length a b (f.size : Int)) R = L := ⟨_, rfl⟩
        have hm1 := hmN_le h p f l qs S A
        have hm0 := hmN_le h p f l qs S 0
        rw [lgN_zero] at hm0
        rw [hA] at hrun hA9
        rw [hA, hL] at hgood
        obtain ⟨H1, hH1⟩ : ∃ H, harmsK (logK h p f l qs) = H := ⟨_, rfl⟩
        obtain ⟨H2, hH2⟩ : ∃ H, harmsK (lgN h p f l qs S A) = H := ⟨_, rfl⟩
        obtain ⟨G2, hG2⟩ : ∃ G, lgN h p f l qs S A = G := ⟨_, rfl⟩
        obtain ⟨N2, hN2⟩ : ∃ N, qs.length + A = N := ⟨_, rfl⟩
        rw [hH1] at hrun hm0
        rw [hH2] at hrun hm1
        rw [hH2, hG2, hN2] at hgood
        have HFr : Hid (FC w1 wr Cb P h p (f.size : Int) (R : Int) h p f (l.drop qs.length) (logK h p f l qs) H1 qs.length last rv lv) := Lib.hid (by rw [← hH1]; exact HFr.out)
        have HAb : Hid (A ≤ 9) := Lib.hid (by omega)
        have HNn : Hid (qs.length + A = N2 ∧ lgN h p f l qs S A = logK h p f l (qs ++ List.replicate A S) ∧ lgN h p f l qs S A = G2) := Lib.hid ⟨hN2, rfl, hG2⟩
        have HH2 : Hid (harmsK G2 = H2) := Lib.hid (by rw [← hG2]; exact hH2)
        have tw2 : IntKind.i64.wrap ((k : Int) + 1) = (k : Int) + 1 := by rw [IntKind.wrap_i64]; omega
        have twa : IntKind.i64.wrap ((N2 : Int) - (qs.length : Int)) = (A : Int) := by rw [IntKind.wrap_i64]; omega
        rcases hrun with ⟨e1, e2, e3⟩ | ⟨e1, e2, e3, e4⟩
        · have hex : bs (runB (errN h p f l S qs.length a b (f.size : Int)) R (bodN h p f l S qs.length a b (f.size : Int))) = f.extract a.toNat (b + 1).toNat := by rw [extract_bs, e2]
          rw [hex, e1] at hgood
          have HGd := Lib.hid hgood
          obtain ⟨D, hD⟩ : ∃ D : Int, (H2 : Int) - (H1 : Int) = D := ⟨_, rfl⟩
          have twh : IntKind.i64.wrap ((H2 : Int) - (H1 : Int)) = D := by rw [IntKind.wrap_i64]; omega
          have d1 : decide ((A : Int) < 1) = false := decide_eq_false (by omega)
          have tw1 : IntKind.i64.wrap ((A : Int) - 1) = (A : Int) - 1 := by rw [IntKind.wrap_i64]; omega
          have d2 : decide (D < (A : Int) - 1) = false := decide_eq_false (by omega)
          have da : decide (a < 0) = false := decide_eq_false (by omega)
          have db : decide (b ≥ (f.size : Int)) = false := decide_eq_false (by omega)
          have dab : decide (a > b) = false := decide_eq_false (by omega)
          have twb : IntKind.i64.wrap (b + 1) = b + 1 := by rw [IntKind.wrap_i64]; omega
          have s1 : (0 : Int) ≤ a := by omega
          have s2 : a ≤ b + 1 := by omega
          have s3 : b + 1 ≤ (f.size : Int) := by omega
          clear hg hg0 g1 g2 g3 r1 r2 r3 n1 n2 n3 haE hSd hS hR hgood hA9 hA hL hm1 hm0 hH1 hH2 hG2 hN2 e1 e2 e3 hex hD
          go_wp2_with fail
          refine HFr.out.asked.mono ?_
          rintro e w' ⟨rfl, hww⟩
          obtain rfl := hww.symm
          clear hww
          go_wp2_with fail
          refine (link_harms HFr.out.k.a).mono ?_
          rintro e w' ⟨rfl, hww⟩
          obtain rfl := hww.symm
          clear hww
          go_wp2_with fail
          refine HGd.out.mono ?_
          rintro e wg ⟨rfl, rv2, lv2, hf9, -, -⟩
          have HFg := Lib.hid hf9
          clear hf9 q0 q1 q2 q3
          obtain ⟨q0, q1, q2, q3⟩ := HCk.out _ HFg.out.k.bel
          go_wp2_with fail
          refine HFg.out.asked.mono ?_
          rintro e w' ⟨rfl, hww⟩
          obtain rfl := hww.symm
          clear hww
          go_wp2_with fail
          refine (link_harms HFg.out.k.a).mono ?_
          rintro e w' ⟨rfl, hww⟩
          obtain rfl := hww.symm
          clear hww
          go_wp2_with fail
          go_quiet (fail)
          go_wp2_with fail
          go_roundw
          case rel =>
            refine ⟨k + 1, by omega, by go_num, qs ++ List.replicate A S, L, rv2, lv2, by rw [List.length_append, List.length_replicate]; have := HAb.out; omega, ?_⟩
            rw [List.length_append, List.length_replicate, HNn.out.1, ← HNn.out.2.1, HNn.out.2.2, HH2.out]
            exact Lib.hid (HFg.out.step ⟨rfl, rfl, rfl, Nat.le_refl _, fun _ _ => rfl⟩)
          case measure => simp [intOf]; omega
        · have hex : bs (runB (errN h p f l S qs.length a b (f.size : Int)) R (bodN h p f l S qs.length a b (f.size : Int))) = ⟨#[]⟩ := by rw [e2]; rfl
          rw [hex, e1] at hgood
          have HGd := Lib.hid hgood
          have twh : IntKind.i64.wrap ((H2 : Int) - (H1 : Int)) = (A : Int) := by rw [IntKind.wrap_i64]; omega
          have twr : IntKind.i64.wrap ((R : Int) + 1) = (R : Int) + 1 := by rw [IntKind.wrap_i64]; omega
          have d1 : ((A : Int) != (R : Int) + 1) = false := by rw [bne_eq_false_iff_eq]; omega
          have d2 : ((A : Int) != (A : Int)) = false := by rw [bne_eq_false_iff_eq]
          clear hg hg0 g1 g2 g3 r1 r2 r3 n1 n2 n3 haE hSd hS hR hgood hA9 hA hL hm1 hm0 hH1 hH2 hG2 hN2 e1 e2 e3 e4 hex
          go_wp2_with fail
          refine HFr.out.asked.mono ?_
          rintro e w' ⟨rfl, hww⟩
          obtain rfl := hww.symm
          clear hww
          go_wp2_with fail
          refine (link_harms HFr.out.k.a).mono ?_
          rintro e w' ⟨rfl, hww⟩
          obtain rfl := hww.symm
          clear hww
          go_wp2_with fail
          refine HGd.out.mono ?_
          rintro e wg ⟨rfl, rv2, lv2, hf9, -, -⟩
          have HFg := Lib.hid hf9
          clear hf9 q0 q1 q2 q3
          obtain ⟨q0, q1, q2, q3⟩ := HCk.out _ HFg.out.k.bel
          go_wp2_with fail
          refine HFg.out.asked.mono ?_
          rintro e w' ⟨rfl, hww⟩
          obtain rfl := hww.symm
          clear hww
          go_wp2_with fail
          refine (link_harms HFg.out.k.a).mono ?_
          rintro e w' ⟨rfl, hww⟩
          obtain rfl := hww.symm
          clear hww
          go_wp2_with fail
          go_roundw
          case rel =>
            refine ⟨k + 1, by omega, by go_num, qs ++ List.replicate A S, L, rv2, lv2, by rw [List.length_append, List.length_replicate]; have := HAb.out; omega, ?_⟩
            rw [List.length_append, List.length_replicate, HNn.out.1, ← HNn.out.2.1, HNn.out.2.2, HH2.out]
            exact HFg
          case measure => simp [intOf]; omega
    · obtain rfl : k = rs.length := by omega
      go_wp2_with fail
      refine (awake30 _ (HE1.out.below HFr.out.k.bel)).mono ?_
      rintro e w3 ⟨rfl, hb3⟩
      go_wp2_with fail
      go_ret
      exact ⟨rfl, bstep HB1.out (bstep HFr.out.k.bel hb3)⟩
end Go.Proofs.YtbdmmgmcbecolaaGreatDoor
namespace Go.Proofs.YtbdmmgmcbecolaaGreatDoor
open Go.RowKit
theorem fetchRight_go (h p f : ByteArray) (v : Value) (hh hp : ByteArray) (t r : Int) (u : Value) (rs : List (Int × Int)) (W : World) (hc : ∃ l, CaseOk W h p f v l hh hp t r) (hu : RangesArg W u rs) (hL : laidMetH Tryz.prog Rows.fetchRightRow.laid W) (hsh : W.ShapedOpen Tryz.prog) :
    Calls Tryz.prog 5 #[.agg #[.string h, .string p, .string f, v, .string hh, .string hp, .int .i64 t, .int .i64 r], u] W fun e W' => e = .returned (.bool true) ∧ Below W.heap.size W W' := by
  obtain ⟨l, hc⟩ := hc
  exact fetchRight_walk h p f v hh hp t r u l rs W (env30 hL hsh) hc hu
end Go.Proofs.YtbdmmgmcbecolaaGreatDoor
