/- The small example of the laws of layer 29: the walk. The law LinkNobody. What the listed variables give. The law function LinkNobody, as the row's proof takes it. -/
import Derived.Test.YthcomjhpjlcpdaaGreatDoorPl13
import Derived.Deep.RegionHeld3
import Derived.Test.YthcomjhpjlcpdaaGreatDoorRows
import Derived.OpenShut
import Derived.MakeChecks
import Derived.Stop.LaidErr
import Derived.PinnedBridge
import Derived.Lib.LaidU8T
import Derived.Lib.SmallJoins
import Derived.ChangeSame
import Derived.ChangeArms
import Derived.WideShapes
set_option linter.unusedVariables false
namespace Go.Proofs.YthcomjhpjlcpdaaGreatDoor
open Go.RowKit
def x29 : Flt := (1, 0, ⟨#[]⟩)
theorem x29_ok : FltOk x29 := ⟨by decide, by decide, by decide, by decide⟩
theorem holds_one {w : World} {B : Nat} {x : Flt} (h : w.heap[B]? = some (.cells #[.int .u8 x.1, .int .i64 x.2.1, .string x.2.2] 53 (0, 0))) : HoldsC w (.slice (some ⟨B, 0, none⟩) 1 1) [x] := by
  obtain ⟨x0, x1, x2, -, -, -⟩ := three_facts h
  refine ⟨_, 1, rfl, Nat.le_refl _, fun _ => ⟨B, 0, rfl, (Array.getElem?_eq_some_iff.1 h).1, fun j hj => ?_⟩⟩
  obtain rfl : j = 0 := by simp at hj; omega
  exact ⟨x0, x1, x2⟩
theorem aw29_ask1 {w0 w : World} {P : Nat} {rv : Value} (X : ByteArray) (hX : X = ⟨#[120]⟩) (hE : EnvF w0) (k : KL w0 w P ⟨#[104]⟩ ⟨#[47]⟩ ⟨#[]⟩ [x29] [] 0 rv (.slice none 0 0)) :
    Calls Tryz.prog 16 #[.pointer (some ⟨P, 0, none⟩), .string X] w fun e w' => e = .returned (.string ⟨#[]⟩) ∧ ∃ rv' lv', KL w0 w' P ⟨#[104]⟩ ⟨#[47]⟩ ⟨#[]⟩ [] [((1 : Int), (0 : Int), true)] 1 rv' lv' := by
  subst hX
  refine (k.ask hE ⟨#[120]⟩ (by decide) (by decide) x29_ok (by decide) (by decide) (by decide)).mono ?_
  rintro e w' ⟨rfl, rv', lv', k', -, -⟩
  rw [show ([x29] : List Flt).headD noF = (1, 0, ⟨#[]⟩) from rfl] at k' ⊢
  unfold evK at k'
  rw [aw29_1, aw29_2] at k'
  rw [aw29_1]
  exact ⟨rfl, rv', lv', k'⟩
theorem aw29_ask2 {w0 w : World} {P : Nat} {rv lv : Value} (X S : ByteArray) (hX : X = ⟨#[120]⟩) (hS : wholeK ⟨#[104]⟩ ⟨#[47]⟩ ⟨#[]⟩ ⟨#[120]⟩ = S) (hE : EnvF w0) (k : KL w0 w P ⟨#[104]⟩ ⟨#[47]⟩ ⟨#[]⟩ [] [((1 : Int), (0 : Int), true)] 1 rv lv) :
    Calls Tryz.prog 16 #[.pointer (some ⟨P, 0, none⟩), .string X] w fun e w' => e = .returned (.string S) ∧ ∃ rv' lv', KL w0 w' P ⟨#[104]⟩ ⟨#[47]⟩ ⟨#[]⟩ [] [((1 : Int), (0 : Int), true), ((1 : Int), (S.size : Int), false)] 1 rv' lv' := by
  subst hX
  refine (k.ask hE ⟨#[120]⟩ (by decide) (by decide) noF_ok (by decide) (by decide) (by decide)).mono ?_
  rintro e w' ⟨rfl, rv', lv', k', -, -⟩
  rw [show ([] : List Flt).headD noF = noF from rfl] at k' ⊢
  unfold evK at k'
  rw [got_none, hurt_none, hS] at k'
  rw [got_none, hS]
  exact ⟨rfl, rv', lv', k'⟩
set_option maxRecDepth 100000 in
set_option maxHeartbeats 4000000 in
theorem awake29 (w : World) (hE : EnvF w) : Calls Tryz.prog 11 #[] w fun e w' => e = .returned (.bool true) ∧ Below w.heap.size w w' := by
  have HE := Lib.hid hE
  have hB0 : Below w.heap.size w (w.alloc (.cells #[.int .u8 1, .int .i64 0, .string ⟨#[]⟩] 53)) := (Below.refl _ _).alloc (Nat.le_refl _) _
  have HB0 := Lib.hid hB0
  have HN := Lib.hid (link_new ⟨#[104]⟩ ⟨#[47]⟩ ⟨#[]⟩ (.slice (some ⟨w.heap.size, 0, none⟩) 1 1) [x29] (w.alloc (.cells #[.int .u8 1, .int .i64 0, .string ⟨#[]⟩] 53)) (show orgE [104] [47] = 0 from aw29_e) (holds_one (x := x29) (heap_alloc_new w _)) (by decide))
  have HZ := Lib.hid (fun w => link_new_bad ⟨#[]⟩ ⟨#[]⟩ ⟨#[]⟩ (.slice none 0 0) w (show orgE [] [] ≠ 0 by decide))
  have hW := aw29_w
  obtain ⟨S, hS⟩ : ∃ S, wholeK ⟨#[104]⟩ ⟨#[47]⟩ ⟨#[]⟩ ⟨#[120]⟩ = S := ⟨_, rfl⟩
  rw [hS] at hW
  have HSS := Lib.hid hS
  obtain ⟨q1, q2⟩ := size_ne hW
  have e1 := eq_levt 1 0 true
  have e2 := eq_levt 1 (S.size : Int) false
  have hgd := guard_levt
  clear hE hB0 hW hS
  go_enter Tryz.func11, Tryz.ntmps11
  go_wp2_with fail
  refine HN.out.mono ?_
  rintro e w1 hnew
  obtain ⟨P, rv, rfl, hP, hk1, hb1⟩ := KL.new HB0.out hnew
  have HK1 := Lib.hid hk1
  clear hnew hP hk1 hb1 HN
  go_wp2_with fail
  refine (aw29_ask1 _ (by rfl) HE.out HK1.out).mono ?_
  rintro e w2 ⟨rfl, rv2, lv2, hk2⟩
  have HK2 := Lib.hid hk2
  clear hk2 HK1
  go_wp2_with fail
  refine (aw29_ask2 _ S (by rfl) HSS.out HE.out HK2.out).mono ?_
  rintro e w3 ⟨rfl, rv3, lv3, hk3⟩
  have HK3 := Lib.hid hk3
  clear hk3 HK2
  go_wp2_with fail
  refine (link_log HK3.out.a (by simp)).mono ?_
  rintro e w4 ⟨a4, c4, rfl, ho4, hb4⟩
  have HK4 := Lib.hid (HK3.out.step hb4)
  have HO4 := Lib.hid ho4
  clear ho4 hb4 HK3
  go_wp2_with fail
  refine (HZ.out _).mono ?_
  rintro e w5 ⟨rfl, hb5⟩
  have HK5 := Lib.hid (HK4.out.step hb5)
  have ho5 := own_of_block HO4.out (fun g hg => hb5.block g (HO4.out.lt g hg).2)
  obtain ⟨g, c, hv, -, -, z0, z1, z2⟩ := own_cells3 ho5 0 (by simp)
  injection hv with e1' e2' e3'
  subst e1' e3'
  obtain ⟨g', c', hv, -, -, z3, z4, z5⟩ := own_cells3 ho5 1 (by simp)
  injection hv with e1' e2' e3'
  injection e1' with e1'
  injection e1' with e1'
  subst e1'
  clear hb5 HO4 HK4 ho5 HZ e2' e3'
  go_wp2_with fail
  refine (link_left HK5.out.a).mono ?_
  rintro e w' ⟨rfl, hww⟩
  obtain rfl := hww.symm
  clear hww
  go_wp2_with fail
  refine (link_harms HK5.out.a).mono ?_
  rintro e w' ⟨rfl, hww⟩
  obtain rfl := hww.symm
  clear hww
  go_wp2_with fail
  go_ret
  exact ⟨rfl, HK5.out.bel⟩
end Go.Proofs.YthcomjhpjlcpdaaGreatDoor
namespace Go.Proofs.YthcomjhpjlcpdaaGreatDoor
open Go.RowKit
theorem ask_zero {w0 w : World} {P : Nat} (s : ByteArray) (k : KL w0 w P ⟨#[]⟩ ⟨#[]⟩ ⟨#[]⟩ [] [] 0 (.slice none 0 0) (.slice none 0 0)) (hE : EnvF w0) (hs : s.size ≤ 1000) :
    Calls Tryz.prog 16 #[.pointer (some ⟨P, 0, none⟩), .string s] w fun e w' => e = .returned (.string ⟨#[]⟩) ∧ ∃ ev rv lv, KL w0 w' P ⟨#[]⟩ ⟨#[]⟩ ⟨#[]⟩ [] [ev] 0 rv lv := by
  have h1 : wholeK ⟨#[]⟩ ⟨#[]⟩ ⟨#[]⟩ s = ⟨#[]⟩ := by unfold wholeK orgS; rw [if_neg (by decide)]; rfl
  refine (k.ask hE s (by omega) (by decide) noF_ok (by decide) (by decide) (by decide)).mono ?_
  rintro e w' ⟨rfl, rv, lv, k', -, -⟩
  rw [show ([] : List Flt).headD noF = noF from rfl, hurt_none] at k'
  exact ⟨by rw [show ([] : List Flt).headD noF = noF from rfl, got_none, h1], _, rv, lv, k'⟩
set_option maxRecDepth 100000 in
set_option maxHeartbeats 4000000 in
theorem linkNobody_walk (s : ByteArray) (w : World) (hE : EnvF w) :
    Calls Tryz.prog 7 #[.string s] w fun e w' => e = .returned (.bool true) ∧ Below w.heap.size w w' := by
  have HE := Lib.hid hE
  by_cases hs : (300 : Int) < (s.size : Int)
  · have t0 : decide ((s.size : Int) > 300) = true := decide_eq_true hs
    clear hE hs
    go_enter Tryz.func7, Tryz.ntmps7
    go_wp2_with fail
    refine (awake29 _ HE.out).mono ?_
    rintro e w2 ⟨rfl, hb2⟩
    go_wp2_with fail
    go_ret
    exact ⟨rfl, hb2⟩
  have t0 : decide ((s.size : Int) > 300) = false := decide_eq_false hs
  have hb : Below w.heap.size w (w.alloc (.cells #[.string ⟨#[]⟩, .string ⟨#[]⟩, .string ⟨#[]⟩, .slice none 0 0, .slice none 0 0, .int .i64 0] 63)) := (Below.refl _ _).alloc (Nat.le_refl _) _
  have HK : Hid (KL w (w.alloc (.cells #[.string ⟨#[]⟩, .string ⟨#[]⟩, .string ⟨#[]⟩, .slice none 0 0, .slice none 0 0, .int .i64 0] 63)) w.heap.size ⟨#[]⟩ ⟨#[]⟩ ⟨#[]⟩ [] [] 0 (.slice none 0 0) (.slice none 0 0)) := Lib.hid ⟨⟨heap_alloc_new w _, HoldsC.empty _ _ _, (fun b h => absurd (show (none : Option Nat) = some b from h) (by simp)), World.ownsRow_nil _ _ _ _⟩, Nat.le_refl _, hb⟩
  have HS : Hid (s.size ≤ 1000) := Lib.hid (by omega)
  clear hE hs hb
  go_enter Tryz.func7, Tryz.ntmps7
  go_wp2_with fail
  generalize (w.alloc (.cells #[.string ⟨#[]⟩, .string ⟨#[]⟩, .string ⟨#[]⟩, .slice none 0 0, .slice none 0 0, .int .i64 0] 63)) = W at HK ⊢
  refine (link_ask_nil s W).mono ?_
  rintro e w' ⟨rfl, hww⟩
  obtain rfl := hww.symm
  clear hww
  go_wp2_with fail
  refine (link_left_nil W).mono ?_
  rintro e w' ⟨rfl, hww⟩
  obtain rfl := hww.symm
  clear hww
  go_wp2_with fail
  refine (link_log_nil W).mono ?_
  rintro e w' ⟨rfl, hww⟩
  obtain rfl := hww.symm
  clear hww
  go_wp2_with fail
  refine (link_harms_nil W).mono ?_
  rintro e w' ⟨rfl, hww⟩
  obtain rfl := hww.symm
  clear hww
  go_wp2_with fail
  refine (link_fork_nil W).mono ?_
  rintro e w' ⟨rfl, hww⟩
  obtain rfl := hww.symm
  clear hww
  go_wp2_with fail
  refine (ask_zero s HK.out HE.out HS.out).mono ?_
  rintro e w1 ⟨rfl, ev, rv, lv, hk1⟩
  have HK1 := Lib.hid hk1
  clear hk1
  go_wp2_with fail
  refine (link_harms HK1.out.a).mono ?_
  rintro e w' ⟨rfl, hww⟩
  obtain rfl := hww.symm
  clear hww
  go_wp2_with fail
  refine (link_log HK1.out.a (by simp)).mono ?_
  rintro e w2 ⟨a, c, rfl, -, hb2⟩
  have HB2 := Lib.hid (bstep HK1.out.bel hb2)
  clear hb2
  go_wp2_with fail
  refine (awake29 _ (HE.out.below HB2.out)).mono ?_
  rintro e w3 ⟨rfl, hb3⟩
  go_wp2_with fail
  go_ret
  exact ⟨rfl, bstep HB2.out hb3⟩
end Go.Proofs.YthcomjhpjlcpdaaGreatDoor
namespace Go.Proofs.YthcomjhpjlcpdaaGreatDoor
open Go.RowKit

def renU : Go.Shelf.Ren := ⟨fun n => n, fun | 5 => 5 | 119 => 242 | 138 => 244 | 139 => 245 | n => n, fun | 3 => 1 | 4 => 2 | n => n⟩
theorem u8t : U8Types Tryz.prog renU := ⟨Tryz.underlying5, Tryz.underlying242, Tryz.underlying244, Tryz.underlying245⟩
theorem u8x : U8Extra Tryz.prog renU := ⟨by kernel_rfl, by kernel_rfl, by kernel_rfl, by kernel_rfl, by kernel_rfl, by kernel_rfl, by kernel_rfl⟩
theorem accept_data : (Rows.laid_unicode_utf8_acceptRanges : DataW Unit) = Go.Lib.acceptData := by kernel_rfl
theorem pow10_data : (Rows.laid_internal_strconv_uint64pow10 : DataW Unit) = Go.Lib.tabData .u64 Go.Lib.pow10Tab := rfl
theorem maxLen_cell {W : World} (h : W.ShapedOpen Tryz.prog) : ∃ m, W.cell? ⟨3, 0, none⟩ = some (.int .i64 m) := Tryz.laysM145.s1_3 W h
theorem lt_of_cell {W : World} {g : Nat} {v : Value} (h : W.cell? ⟨g, 0, none⟩ = some v) : g < W.heap.size := World.block_lt_of_cell? _ _ h
theorem err_star : "*" ++ "errors.errorString" = "*errors.errorString" := by decide
theorem err_row (u : TypeId) (h : Tryz.prog.typeName? 3 u = some "*errors.errorString") : u = 309 :=
  typeName_ptr_named (nm := "errors.errorString") (by rw [err_star]; kernel_rfl) (by kernel_rfl) (by decide) u (by rw [err_star]; exact h)
theorem env_of {W : World} {rest : List (String × DataW Unit)} (h : laidMet Tryz.prog (("math/bits.deBruijn32tab", Rows.laid_math_bits_deBruijn32tab) :: ("math/bits.deBruijn64tab", Rows.laid_math_bits_deBruijn64tab) :: ("internal/strconv.uint64pow10", Rows.laid_internal_strconv_uint64pow10) :: ("unicode/utf8.acceptRanges", Rows.laid_unicode_utf8_acceptRanges) :: ("strconv.ErrRange", Rows.laid_strconv_ErrRange) :: rest) W)
    (hf : ("unicode/utf8.first", Rows.laid_unicode_utf8_first) ∈ rest) (hsh : W.ShapedOpen Tryz.prog) : EnvF W := by
  have ht : Go.Lib.TabIs Tryz.prog W "internal/strconv.uint64pow10" .u64 Go.Lib.pow10Tab :=
    Go.Lib.tabIs_of_head (n := 20) (t := 237) (e := 222) g_pow10 (by kernel_rfl) (by kernel_rfl) (by kernel_rfl) (by kernel_rfl) (by kernel_rfl) h.tail.tail
  have h3 : Go.Lib.VarReads Tryz.prog W "unicode/utf8.first" Go.Lib.firstData := by
    have := Go.Lib.laidMet.reads h (n := "unicode/utf8.first") (d := Rows.laid_unicode_utf8_first) (by simp [hf])
    rwa [show (Rows.laid_unicode_utf8_first : DataW Unit) = Go.Lib.firstData from Pinned.utf8First_eq] at this
  have h4 : Go.Lib.VarReads Tryz.prog W "unicode/utf8.acceptRanges" Go.Lib.acceptData := by
    have := Go.Lib.laidMet.reads h (n := "unicode/utf8.acceptRanges") (d := Rows.laid_unicode_utf8_acceptRanges) (by simp)
    rwa [accept_data] at this
  obtain ⟨a0, s0, hv0, _, _, _⟩ := laid_sentinel h.tail.tail.tail.tail (g := 7) (ti := 191) (tp := 309) (te := 311) (ts := 9) (by kernel_rfl) (by kernel_rfl) Tryz.underlying191 err_row Tryz.underlying309 Tryz.underlying311 rfl rfl Tryz.underlying9 (by kernel_rfl) (by kernel_rfl)
  obtain ⟨m, hm⟩ := maxLen_cell hsh
  have hr : W.cell? ⟨7, 0, none⟩ = some (.iface 309 (.pointer (some a0))) := World.var?_cell (show Tryz.prog.globalNamed "strconv.ErrRange" = some 7 by kernel_rfl) hv0 0
  refine ⟨⟨m, hm⟩, lt_of_cell hm, utf8Tabs_of_readsT u8t u8x h3 h4, ht, ?_, ⟨_, _, hr⟩, lt_of_cell hr⟩
  rcases Nat.lt_or_ge 0 W.heap.size with hlt | hge
  · exact hlt
  · unfold Go.Lib.TabIs World.var? at ht
    rw [g_pow10] at ht
    simp [Array.getElem?_eq_none hge] at ht
end Go.Proofs.YthcomjhpjlcpdaaGreatDoor
namespace Go.Proofs.YthcomjhpjlcpdaaGreatDoor
open Go.RowKit
theorem linkNobody_go (s : ByteArray) (_ : s.size ≤ maxLen) (W : World) (hL : laidMetH Tryz.prog Rows.linkNobodyRow.laid W) (hsh : W.ShapedOpen Tryz.prog) :
    Calls Tryz.prog 7 #[.string s] W fun e W' => e = .returned (.bool true) ∧ Below W.heap.size W W' := by
  rw [MakeChecks.laidMetH_plain _ _ _ (by kernel_rfl)] at hL
  exact linkNobody_walk s W (env_of hL (by simp) hsh)
end Go.Proofs.YthcomjhpjlcpdaaGreatDoor
