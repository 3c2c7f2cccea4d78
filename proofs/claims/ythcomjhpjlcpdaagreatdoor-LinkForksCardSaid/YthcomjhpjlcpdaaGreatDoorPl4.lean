/- (*strings.byteStringReplacer).Replace: the walk. fault.Clean, and the document's Clean, tell a text without ends of lines. Plain laws: trimming blanks and tabs byte by byte; what a field is printed as (no program in sight). Plain laws: a printed field is parsed as it was; a parsed one is printed again (no program in sight). What name, plain, small and gap of the reference of fields return. What Parse of the reference of fields returns. fault.put and the document's line and Clean. -/
import Derived.Test.YthcomjhpjlcpdaaGreatDoorPl3
import Derived.Lib.SmallJoins
import Derived.Laws.IdiomStrings
set_option linter.unusedVariables false
set_option linter.unusedSimpArgs false
namespace Go.Proofs.YthcomjhpjlcpdaaGreatDoor
open Go.RowKit
def twoC (s : ByteArray) (k : Nat) : Nat := if k = 0 then 0 else if k = 1 then s.data.toList.count 10 else s.data.toList.count 10 + s.data.toList.count 13
theorem twoC_end (s : ByteArray) : twoC s 2 = badN s.data.toList := (bad_two _).symm
theorem bs_clean (s : ByteArray) (h : badN s.data.toList = 0) : s = bs (cleanL s.data.toList) := by rw [clean_none _ h, bs_self]
theorem bad_cell {b : UInt8} (h : badB b = true) {x y : Addr} {cx cy : Nat} {v : Value} : ∃ x' cx', bsF (.slice (some x) 0 cx) (.slice (some y) 0 cy) v b.toNat = .slice (some x') 0 cx' := by
  unfold badB at h
  rw [Bool.or_eq_true, beq_iff_eq, beq_iff_eq] at h
  rcases h with rfl | rfl
  · exact ⟨x, cx, rfl⟩
  · exact ⟨y, cy, rfl⟩
theorem good_cell {b : UInt8} (h : ¬ badB b = true) {x y v : Value} : bsF x y v b.toNat = .slice none 0 0 := by
  unfold badB at h
  rw [Bool.or_eq_true, beq_iff_eq, beq_iff_eq] at h
  have h1 : b.toNat ≠ 10 := fun e => h (.inl (UInt8.toNat_inj.1 e))
  have h2 : b.toNat ≠ 13 := fun e => h (.inr (UInt8.toNat_inj.1 e))
  have h3 := UInt8.toNat_lt b
  unfold bsF
  rw [if_neg (by omega), if_neg h1, if_neg h2]
theorem make_bytes (N : Nat) (h : N ≤ 1000000) (w : World) : (Instr.makeSlice 136 (.int .i64 (N : Int)) (.int .i64 (N : Int))).run Tryz.prog w = .ok (.slice (some ⟨w.heap.size, 0, none⟩) N N) (w.alloc (.cells (madeCells #[.int .u8 0] N) 5)) := by
  obtain ⟨i0, hi, hz0, hz1, hz2⟩ := info_parts (show (Tryz.prog.info? 5).map (fun i => (i.zero, i.size, i.bytes)) = some (some (.int .u8 0), 1, 1) by kernel_rfl)
  have := run_make (P := Tryz.prog) w 136 5 i0 _ Tryz.underlying136 hi hz0 .i64 .i64 N N (by omega) (by omega) (by rw [hz2]; omega) (by omega)
  rw [this, hz1, Int.toNat_natCast, Nat.mul_one]
  rfl
theorem conv_row {w : World} {B N : Nat} {l : List UInt8} (h : w.rowIs B 5 N (Lib.Lz.bytes l)) (hl : N = l.length) : (convert 136 9 (.slice (some ⟨B, 0, none⟩) N N)).run Tryz.prog w = .ok (.string (bs l)) w := by
  subst hl
  refine run_convert_bytes_back (P := Tryz.prog) w 136 9 5 ⟨B, 0, none⟩ l.length l Tryz.underlying136 Tryz.underlying5 Tryz.underlying9 (fun j hj => ?_)
  have e : (⟨B, 0, none⟩ : Addr).add j = ⟨B, j, none⟩ := by unfold Addr.add; split <;> simp_all
  rw [e, World.rowIs.cell h hj]
  unfold Lib.Lz.bytes
  rw [List.getElem?_eq_getElem hj]
  rfl
structure BSt (w0 w : World) (G : Nat) (x y : Value) (H c : Nat) : Prop where
  reps : BsR w G x y (.slice (some ⟨H, 0, none⟩) 2 c)
  h0 : w.cell? ⟨H, 0, none⟩ = some (.string ⟨#[10]⟩)
  h1 : w.cell? ⟨H, 1, none⟩ = some (.string ⟨#[13]⟩)
  bel : Below w0.heap.size w0 w
theorem BSt.drewN {w0 w : World} {G : Nat} {x y : Value} {H c : Nat} (h : BSt w0 w G x y H c) (n : Nat) : BSt w0 (w.drewN n) G x y H c where
  reps := World.rowIs.of_block h.reps rfl
  h0 := h.h0
  h1 := h.h1
  bel := ⟨h.bel.os, h.bel.tape, h.bel.output, h.bel.size, h.bel.block⟩
theorem BSt.cells {w0 w : World} {G : Nat} {x y : Value} {H c : Nat} (h : BSt w0 w G x y H c) : w.cell? ⟨G, 256, none⟩ = some (.slice (some ⟨H, 0, none⟩) 2 c) ∧ w.cell? ⟨G, 10, none⟩ = some x ∧ w.cell? ⟨G, 13, none⟩ = some y ∧ w.cell? ⟨H, 0, none⟩ = some (.string ⟨#[10]⟩) ∧ w.cell? ⟨H, 1, none⟩ = some (.string ⟨#[13]⟩) :=
  ⟨World.rowIs.cell h.reps (i := 256) (by decide), World.rowIs.cell h.reps (i := 10) (by decide), World.rowIs.cell h.reps (i := 13) (by decide), h.h0, h.h1⟩
theorem row_push {w : World} {B N J : Nat} {l : List UInt8} {b : UInt8} (h : w.rowIs B 5 N (Lib.Lz.bytes l)) (hJ : l.length = J) : (w.setCell ⟨B, J, none⟩ (.int .u8 (b.toNat : Int))).rowIs B 5 N (Lib.Lz.bytes (l ++ [b])) := by
  subst hJ
  refine World.rowIs.congr (World.rowIs.set h l.length _) (fun i _ => ?_)
  unfold Lib.Lz.bytes
  by_cases e : i = l.length
  · subst e
    rw [if_pos rfl, List.getElem?_append_right (Nat.le_refl _)]
    simp
  · rw [if_neg e]
    rcases Nat.lt_or_ge i l.length with h1 | h1
    · rw [List.getElem?_append_left h1]
    · rw [List.getElem?_eq_none h1, List.getElem?_eq_none (by simp; omega)]
set_option maxRecDepth 100000 in
set_option maxHeartbeats 4000000 in
theorem bsr_replace (s : ByteArray) (G H c : Nat) (x y : Addr) (cx cy : Nat) (w0 : World) (hB : BsR w0 G (.slice (some x) 0 cx) (.slice (some y) 0 cy) (.slice (some ⟨H, 0, none⟩) 2 c))
    (k0 : w0.cell? ⟨H, 0, none⟩ = some (.string ⟨#[10]⟩)) (k1 : w0.cell? ⟨H, 1, none⟩ = some (.string ⟨#[13]⟩)) (hs : s.size ≤ 1000000) :
    Calls Tryz.prog 263 #[.pointer (some ⟨G, 0, none⟩), .string s] w0 fun e w' => e = .returned (.string (bs (cleanL s.data.toList))) ∧ Below w0.heap.size w0 w' := by
  have g2 : w0.cell? ⟨G, 256, none⟩ = some (.slice (some ⟨H, 0, none⟩) 2 c) := World.rowIs.cell hB (i := 256) (by decide)
  have HCn := Lib.hid (fun c W => Any.strings_Count_one Tryz.lays138 s c W)
  have HS0 : Hid (BSt w0 w0 G (.slice (some x) 0 cx) (.slice (some y) 0 cy) H c) := Lib.hid ⟨hB, k0, k1, Below.refl _ _⟩
  have hbad := clean_bad s.data.toList
  rw [size_len] at hbad
  obtain ⟨N, hN⟩ : ∃ N, (cleanL s.data.toList).length = N := ⟨_, rfl⟩
  have HN := Lib.hid hN.symm
  rw [hN] at hbad
  have hNm : N ≤ 1000000 := by omega
  have HNm := Lib.hid hNm
  have HBAD := Lib.hid hbad
  have hmk := make_bytes N hNm
  have hneq := neq_nil
  have hcp := copy_none
  clear hN hB hbad hNm k0 k1
  by_cases hlong : (16 : Int) ≤ (s.size : Int)
  · go_enter Tryz.func263, Tryz.ntmps263
    go_wp2_with fail
    go_loopg [5, 6, 32] 2 (fun gk s5 s6 s32 wr => ∃ k : Nat, k + gk = 2 ∧ s5 = .int .i64 ((s.size : Int) - (twoC s k : Int)) ∧ s6 = .bool (decide (twoC s k ≠ 0)) ∧ s32 = .int .i64 (k : Int) ∧ BSt w0 wr G (.slice (some x) 0 cx) (.slice (some y) 0 cy) H c)
    case atStart => exact ⟨0, by omega, by simp [twoC], by simp [twoC], rfl, HS0.out⟩
    case round =>
      obtain ⟨k, hgk, rfl, rfl, rfl, hw⟩ := hrel
      generalize wr = w at hw ⊢
      have HS := Lib.hid hw
      clear hw g2
      cases gk with
      | zero =>
        obtain rfl : k = 2 := by omega
        rw [twoC_end]
        by_cases hT : badN s.data.toList = 0
        · have HT := Lib.hid hT
          rw [hT]
          clear hT
          go_wp2_with fail
          go_ret
          exact ⟨ret_str (bs_clean s HT.out), HS.out.bel⟩
        · have hTd : decide (badN s.data.toList ≠ 0) = true := decide_eq_true hT
          have hsub : (s.size : Int) - (badN s.data.toList : Int) = (N : Int) := by have := HBAD.out; omega
          rw [hTd, hsub]
          clear hTd hsub hT
          go_wp2_with fail
          have hrow := World.rowIs_made w (.int .u8 0) N 5
          have hbel : Below w.heap.size w (w.alloc (.cells (madeCells #[.int .u8 0] N) 5)) := (Below.refl _ _).alloc (Nat.le_refl _) _
          generalize w.alloc (.cells (madeCells #[.int .u8 0] N) 5) = W0 at hrow hbel ⊢
          clear hmk
          go_loopg [13, 14] s.size (fun gk s13 s14 wr => ∃ k : Nat, k + gk = s.size ∧ s13 = .int .i64 ((cleanL (s.data.toList.take k)).length : Int) ∧ s14 = .int .i64 (k : Int) ∧ wr.rowIs w.heap.size 5 N (Lib.Lz.bytes (cleanL (s.data.toList.take k))) ∧ Below w.heap.size w wr)
          case atStart => exact ⟨0, by omega, rfl, rfl, hrow, hbel⟩
          case round =>
            obtain ⟨k, hgk, rfl, rfl, hr, hb⟩ := hrel
            cases gk with
            | zero =>
              obtain rfl : k = s.size := by omega
              have hconv := conv_row hr (by rw [HN.out, List.take_of_length_le (by rw [size_len]; exact Nat.le_refl _)])
              rw [List.take_of_length_le (by rw [size_len]; exact Nat.le_refl _)] at hconv
              have HBl := Lib.hid hb
              clear hr hb hrow hbel HN
              go_wp2_with fail
              go_ret
              exact ⟨rfl, bstep HS.out.bel HBl.out⟩
            | succ gm =>
              have hk : k < s.size := by omega
              have hkl : k < s.data.toList.length := by rw [size_len]; exact hk
              have hki : (k : Int) < (s.size : Int) := by omega
              have hst := clean_step s.data.toList k hkl
              have hle := clean_take_le s.data.toList (k + 1)
              have hGr : BsR wr G (.slice (some x) 0 cx) (.slice (some y) 0 cy) (.slice (some ⟨H, 0, none⟩) 2 c) := World.rowIs.of_block HS.out.reps (hb.block G (World.rowIs.lt HS.out.reps))
              obtain ⟨b, hbx⟩ : ∃ b : UInt8, s[k]'hk = b := ⟨_, rfl⟩
              have hbl : s.data.toList[k] = b := by rw [← hbx]; rfl
              rw [hbl] at hst
              have hb256 : (b.toNat : Int) < 256 := by have := UInt8.toNat_lt b; omega
              have hcell : wr.cell? ⟨G, b.toNat, none⟩ = some (bsF (.slice (some x) 0 cx) (.slice (some y) 0 cy) (.slice (some ⟨H, 0, none⟩) 2 c) b.toNat) := World.rowIs.cell hGr (i := b.toNat) (by omega)
              have hwk : IntKind.i64.wrap ((k : Int) + 1) = (k : Int) + 1 := by rw [IntKind.wrap_i64]; omega
              by_cases hbad : badB b = true
              · rw [if_pos hbad, List.append_nil] at hst
                have HST := Lib.hid hst
                have hj : (cleanL (s.data.toList.take k)).length ≤ N := by rw [hst] at hle; rw [HN.out]; exact hle
                obtain ⟨x', cx', hv⟩ : ∃ x' cx', bsF (.slice (some x) 0 cx) (.slice (some y) 0 cy) (.slice (some ⟨H, 0, none⟩) 2 c) b.toNat = .slice (some x') 0 cx' := bad_cell hbad
                rw [hv] at hcell
                have HR := Lib.hid (And.intro hr hb)
                obtain ⟨J, hJ⟩ : ∃ J, (cleanL (s.data.toList.take k)).length = J := ⟨_, rfl⟩
                have HJ := Lib.hid hJ
                rw [hJ] at hj ⊢
                have hji : (J : Int) ≤ (N : Int) := by omega
                have hwj : IntKind.i64.wrap (J : Int) = (J : Int) := by rw [IntKind.wrap_i64]; have := HNm.out; omega
                clear hst hle hGr hbl hv hr hb hJ hrow hbel hbad
                by_cases hJN : N = J
                · subst hJN
                  clear hj hji
                  go_wp2_with fail
                  go_region
                  go_wp2_with fail
                  go_roundg gm
                  case measure => omega
                  case rel => exact ⟨k + 1, by omega, by rw [HST.out, HJ.out], rfl, by rw [HST.out]; exact HR.out.1, HR.out.2.drew⟩
                · go_wp2_with fail
                  go_region
                  go_wp2_with fail
                  go_roundg gm
                  case measure => omega
                  case rel => exact ⟨k + 1, by omega, by rw [HST.out, HJ.out], rfl, by rw [HST.out]; exact HR.out.1, HR.out.2.drew⟩
              · rw [if_neg hbad] at hst
                have HST := Lib.hid hst
                rw [good_cell hbad] at hcell
                obtain ⟨J, hJ⟩ : ∃ J, (cleanL (s.data.toList.take k)).length = J := ⟨_, rfl⟩
                have HJ := Lib.hid hJ
                have hj : J < N := by rw [hst, List.length_append, hJ] at hle; rw [HN.out]; simp only [List.length_cons, List.length_nil] at hle; omega
                have HR := Lib.hid (And.intro hr hb)
                rw [hJ]
                have hji : (J : Int) < (N : Int) := by omega
                have hwj : IntKind.i64.wrap ((J : Int) + 1) = (J : Int) + 1 := by rw [IntKind.wrap_i64]; have := HNm.out; omega
                have hst := World.rowIs.cell hr hj
                have hfz := World.rowIs.frozen hr J
                clear hst hle hGr hbl hr hb hJ hrow hbel hbad
                have hst := World.rowIs.cell HR.out.1 hj
                go_wp2_with fail
                go_roundg gm
                case measure => omega
                case rel => exact ⟨k + 1, by omega, by rw [HST.out, List.length_append, HJ.out]; rfl, rfl, by rw [HST.out]; exact row_push HR.out.1 HJ.out, HR.out.2.setCell (p := ⟨w.heap.size, J, none⟩) (Nat.le_refl _) _⟩
      | succ gm =>
        have hk2 : k = 0 ∨ k = 1 := by omega
        have hcn : s.data.toList.count 10 + s.data.toList.count 13 ≤ s.size := by rw [← bad_two]; have := HBAD.out; omega
        have hc1 := HCn.out 10 w
        have hc2 := HCn.out 13 w
        unfold Lib.countByte at hc1 hc2
        have HT1 : Hid (twoC s 0 = 0 ∧ twoC s 1 = s.data.toList.count 10 ∧ twoC s 2 = s.data.toList.count 10 + s.data.toList.count 13) := Lib.hid ⟨rfl, rfl, rfl⟩
        have w1 : IntKind.i64.wrap (0 - 1) = -1 := by rw [IntKind.wrap_i64]; omega
        have hb10 : ((⟨#[10]⟩ : ByteArray)[0]'(by decide)).toNat = 10 := rfl
        have hb13 : ((⟨#[13]⟩ : ByteArray)[0]'(by decide)).toNat = 13 := rfl
        generalize s.data.toList.count 10 = A at hcn hc1 HT1
        generalize s.data.toList.count 13 = B at hcn hc2 HT1
        have HC1 := Lib.hid hc1
        have HC2 := Lib.hid hc2
        clear hmk hcp hc1 hc2
        obtain ⟨g2, g10, g13, k0, k1⟩ := HS.out.cells
        rcases hk2 with rfl | rfl
        · rw [HT1.out.1]
          by_cases hA : A = 0
          · subst hA
            go_wp2_with (go_at_call 181; refine HC1.out.mono ?_; rintro e w' ⟨rfl, rfl⟩)
            go_roundg gm
            case measure => omega
            case rel => exact ⟨1, by omega, by rw [HT1.out.2.1]; simp, by rw [HT1.out.2.1]; rfl, rfl, HS.out⟩
          · have e1 : ((A : Int) != 0) = true := by rw [bne_iff_ne]; omega
            have e2 : decide (A ≠ 0) = true := decide_eq_true hA
            have w2 : IntKind.i64.wrap ((A : Int) * -1) = - (A : Int) := by rw [IntKind.wrap_i64]; omega
            have w3 : IntKind.i64.wrap ((s.size : Int) + - (A : Int)) = (s.size : Int) - (A : Int) := by rw [IntKind.wrap_i64]; omega
            go_wp2_with (go_at_call 181; refine HC1.out.mono ?_; rintro e w' ⟨rfl, rfl⟩)
            go_quiet (fail)
            go_wp2_with fail
            go_roundg gm
            case measure => omega
            case rel => exact ⟨1, by omega, by rw [HT1.out.2.1], by rw [HT1.out.2.1, e2], rfl, HS.out.drewN _⟩
        · rw [HT1.out.2.1]
          by_cases hB : B = 0
          · subst hB
            go_wp2_with (go_at_call 181; refine HC2.out.mono ?_; rintro e w' ⟨rfl, rfl⟩)
            go_roundg gm
            case measure => omega
            case rel => exact ⟨2, by omega, by rw [HT1.out.2.2]; rfl, by rw [HT1.out.2.2]; simp, rfl, HS.out⟩
          · have e1 : ((B : Int) != 0) = true := by rw [bne_iff_ne]; omega
            have e2 : decide (A + B ≠ 0) = true := decide_eq_true (by omega)
            have w2 : IntKind.i64.wrap ((B : Int) * -1) = - (B : Int) := by rw [IntKind.wrap_i64]; omega
            have w3 : IntKind.i64.wrap ((s.size : Int) - (A : Int) + - (B : Int)) = (s.size : Int) - ((A + B : Nat) : Int) := by rw [IntKind.wrap_i64]; omega
            go_wp2_with (go_at_call 181; refine HC2.out.mono ?_; rintro e w' ⟨rfl, rfl⟩)
            go_quiet (fail)
            go_wp2_with fail
            go_roundg gm
            case measure => omega
            case rel => exact ⟨2, by omega, by rw [HT1.out.2.2, Int.natCast_add], by rw [HT1.out.2.2, e2], rfl, HS.out.drewN _⟩
  · go_enter Tryz.func263, Tryz.ntmps263
    go_wp2_with fail
    go_loopg [5, 6, 10] s.size (fun gk s5 s6 s10 wr => ∃ k : Nat, k + gk = s.size ∧ s5 = .int .i64 ((s.size : Int) - (badN (s.data.toList.take k) : Int)) ∧ s6 = .bool (decide (badN (s.data.toList.take k) ≠ 0)) ∧ s10 = .int .i64 (k : Int) ∧ BSt w0 wr G (.slice (some x) 0 cx) (.slice (some y) 0 cy) H c)
    case atStart => exact ⟨0, by omega, by simp [badN], by simp [badN], rfl, HS0.out⟩
    case round =>
      obtain ⟨k, hgk, rfl, rfl, rfl, hw⟩ := hrel
      generalize wr = w at hw ⊢
      have HS := Lib.hid hw
      clear hw g2
      cases gk with
      | zero =>
        obtain rfl : k = s.size := by omega
        rw [List.take_of_length_le (by rw [size_len]; exact Nat.le_refl _)]
        by_cases hT : badN s.data.toList = 0
        · have HT := Lib.hid hT
          rw [hT]
          clear hT
          go_wp2_with fail
          go_ret
          exact ⟨ret_str (bs_clean s HT.out), HS.out.bel⟩
        · have hTd : decide (badN s.data.toList ≠ 0) = true := decide_eq_true hT
          have hsub : (s.size : Int) - (badN s.data.toList : Int) = (N : Int) := by have := HBAD.out; omega
          rw [hTd, hsub]
          clear hTd hsub hT
          go_wp2_with fail
          have hrow := World.rowIs_made w (.int .u8 0) N 5
          have hbel : Below w.heap.size w (w.alloc (.cells (madeCells #[.int .u8 0] N) 5)) := (Below.refl _ _).alloc (Nat.le_refl _) _
          generalize w.alloc (.cells (madeCells #[.int .u8 0] N) 5) = W0 at hrow hbel ⊢
          clear hmk
          go_loopg [13, 14] s.size (fun gk s13 s14 wr => ∃ k : Nat, k + gk = s.size ∧ s13 = .int .i64 ((cleanL (s.data.toList.take k)).length : Int) ∧ s14 = .int .i64 (k : Int) ∧ wr.rowIs w.heap.size 5 N (Lib.Lz.bytes (cleanL (s.data.toList.take k))) ∧ Below w.heap.size w wr)
          case atStart => exact ⟨0, by omega, rfl, rfl, hrow, hbel⟩
          case round =>
            obtain ⟨k, hgk, rfl, rfl, hr, hb⟩ := hrel
            cases gk with
            | zero =>
              obtain rfl : k = s.size := by omega
              have hconv := conv_row hr (by rw [HN.out, List.take_of_length_le (by rw [size_len]; exact Nat.le_refl _)])
              rw [List.take_of_length_le (by rw [size_len]; exact Nat.le_refl _)] at hconv
              have HBl := Lib.hid hb
              clear hr hb hrow hbel HN
              go_wp2_with fail
              go_ret
              exact ⟨rfl, bstep HS.out.bel HBl.out⟩
            | succ gm =>
              have hk : k < s.size := by omega
              have hkl : k < s.data.toList.length := by rw [size_len]; exact hk
              have hki : (k : Int) < (s.size : Int) := by omega
              have hst := clean_step s.data.toList k hkl
              have hle := clean_take_le s.data.toList (k + 1)
              have hGr : BsR wr G (.slice (some x) 0 cx) (.slice (some y) 0 cy) (.slice (some ⟨H, 0, none⟩) 2 c) := World.rowIs.of_block HS.out.reps (hb.block G (World.rowIs.lt HS.out.reps))
              obtain ⟨b, hbx⟩ : ∃ b : UInt8, s[k]'hk = b := ⟨_, rfl⟩
              have hbl : s.data.toList[k] = b := by rw [← hbx]; rfl
              rw [hbl] at hst
              have hb256 : (b.toNat : Int) < 256 := by have := UInt8.toNat_lt b; omega
              have hcell : wr.cell? ⟨G, b.toNat, none⟩ = some (bsF (.slice (some x) 0 cx) (.slice (some y) 0 cy) (.slice (some ⟨H, 0, none⟩) 2 c) b.toNat) := World.rowIs.cell hGr (i := b.toNat) (by omega)
              have hwk : IntKind.i64.wrap ((k : Int) + 1) = (k : Int) + 1 := by rw [IntKind.wrap_i64]; omega
              by_cases hbad : badB b = true
              · rw [if_pos hbad, List.append_nil] at hst
                have HST := Lib.hid hst
                have hj : (cleanL (s.data.toList.take k)).length ≤ N := by rw [hst] at hle; rw [HN.out]; exact hle
                obtain ⟨x', cx', hv⟩ : ∃ x' cx', bsF (.slice (some x) 0 cx) (.slice (some y) 0 cy) (.slice (some ⟨H, 0, none⟩) 2 c) b.toNat = .slice (some x') 0 cx' := bad_cell hbad
                rw [hv] at hcell
                have HR := Lib.hid (And.intro hr hb)
                obtain ⟨J, hJ⟩ : ∃ J, (cleanL (s.data.toList.take k)).length = J := ⟨_, rfl⟩
                have HJ := Lib.hid hJ
                rw [hJ] at hj ⊢
                have hji : (J : Int) ≤ (N : Int) := by omega
                have hwj : IntKind.i64.wrap (J : Int) = (J : Int) := by rw [IntKind.wrap_i64]; have := HNm.out; omega
                clear hst hle hGr hbl hv hr hb hJ hrow hbel hbad
                by_cases hJN : N = J
                · subst hJN
                  clear hj hji
                  go_wp2_with fail
                  go_region
                  go_wp2_with fail
                  go_roundg gm
                  case measure => omega
                  case rel => exact ⟨k + 1, by omega, by rw [HST.out, HJ.out], rfl, by rw [HST.out]; exact HR.out.1, HR.out.2.drew⟩
                · go_wp2_with fail
                  go_region
                  go_wp2_with fail
                  go_roundg gm
                  case measure => omega
                  case rel => exact ⟨k + 1, by omega, by rw [HST.out, HJ.out], rfl, by rw [HST.out]; exact HR.out.1, HR.out.2.drew⟩
              · rw [if_neg hbad] at hst
                have HST := Lib.hid hst
                rw [good_cell hbad] at hcell
                obtain ⟨J, hJ⟩ : ∃ J, (cleanL (s.data.toList.take k)).length = J := ⟨_, rfl⟩
                have HJ := Lib.hid hJ
                have hj : J < N := by rw [hst, List.length_append, hJ] at hle; rw [HN.out]; simp only [List.length_cons, List.length_nil] at hle; omega
                have HR := Lib.hid (And.intro hr hb)
                rw [hJ]
                have hji : (J : Int) < (N : Int) := by omega
                have hwj : IntKind.i64.wrap ((J : Int) + 1) = (J : Int) + 1 := by rw [IntKind.wrap_i64]; have := HNm.out; omega
                have hst := World.rowIs.cell hr hj
                have hfz := World.rowIs.frozen hr J
                clear hst hle hGr hbl hr hb hJ hrow hbel hbad
                have hst := World.rowIs.cell HR.out.1 hj
                go_wp2_with fail
                go_roundg gm
                case measure => omega
                case rel => exact ⟨k + 1, by omega, by rw [HST.out, List.length_append, HJ.out]; rfl, rfl, by rw [HST.out]; exact row_push HR.out.1 HJ.out, HR.out.2.setCell (p := ⟨w.heap.size, J, none⟩) (Nat.le_refl _) _⟩
      | succ gm =>
        have hk : k < s.size := by omega
        have hkl : k < s.data.toList.length := by rw [size_len]; exact hk
        have hki : (k : Int) < (s.size : Int) := by omega
        have hst := bad_step s.data.toList k hkl
        have hble : badN (s.data.toList.take k) ≤ k := Nat.le_trans List.countP_le_length (List.length_take_le k _)
        obtain ⟨b, hbx⟩ : ∃ b : UInt8, s[k]'hk = b := ⟨_, rfl⟩
        have hbl : s.data.toList[k] = b := by rw [← hbx]; rfl
        rw [hbl] at hst
        have hb256 : (b.toNat : Int) < 256 := by have := UInt8.toNat_lt b; omega
        have hcell : w.cell? ⟨G, b.toNat, none⟩ = some (bsF (.slice (some x) 0 cx) (.slice (some y) 0 cy) (.slice (some ⟨H, 0, none⟩) 2 c) b.toNat) := World.rowIs.cell HS.out.reps (i := b.toNat) (by omega)
        have hwk : IntKind.i64.wrap ((k : Int) + 1) = (k : Int) + 1 := by rw [IntKind.wrap_i64]; omega
        have w1 : IntKind.i64.wrap (0 - 1) = -1 := by rw [IntKind.wrap_i64]; omega
        have HST := Lib.hid hst
        obtain ⟨A, hA⟩ : ∃ A, badN (s.data.toList.take k) = A := ⟨_, rfl⟩
        have HA := Lib.hid hA
        rw [hA] at hble
        rw [hA]
        have w3 : IntKind.i64.wrap ((s.size : Int) - (A : Int) + -1) = (s.size : Int) - (A : Int) + -1 := by rw [IntKind.wrap_i64]; omega
        clear hst hbl hmk hcp hA
        by_cases hbad : badB b = true
        · obtain ⟨x', cx', hv⟩ : ∃ x' cx', bsF (.slice (some x) 0 cx) (.slice (some y) 0 cy) (.slice (some ⟨H, 0, none⟩) 2 c) b.toNat = .slice (some x') 0 cx' := bad_cell hbad
          rw [hv] at hcell
          have HN1 : Hid (badN (s.data.toList.take (k + 1)) = A + 1) := Lib.hid (by rw [HST.out, HA.out, if_pos hbad])
          clear hv hbad hble
          go_wp2_with fail
          go_roundg gm
          case measure => omega
          case rel => exact ⟨k + 1, by omega, by rw [HN1.out]; congr 1; omega, by rw [HN1.out]; simp, rfl, HS.out⟩
        · rw [good_cell hbad] at hcell
          have HN1 : Hid (badN (s.data.toList.take (k + 1)) = A) := Lib.hid (by rw [HST.out, HA.out, if_neg hbad, Nat.add_zero])
          clear hbad hble
          go_wp2_with fail
          go_roundg gm
          case measure => omega
          case rel => exact ⟨k + 1, by omega, by rw [HN1.out], by rw [HN1.out], rfl, HS.out⟩
end Go.Proofs.YthcomjhpjlcpdaaGreatDoor
namespace Go.Proofs.YthcomjhpjlcpdaaGreatDoor
open Go.RowKit
theorem meth_replace (v : Value) (w : World) : (Go.method 442 264 v "Replace").run Tryz.prog w = .ok (263, v) w := by kernel_rfl
set_option maxRecDepth 100000 in
set_option maxHeartbeats 2000000 in
theorem repl_replace (s : ByteArray) (b g c : Nat) (w : World) (hR : Rp w b 0 0 .nilIface (.slice (some ⟨g, 0, none⟩) 4 c)) (B : Nat) (hgb : g < b) (hO : w.ownsRow B 9 1 (.slice (some ⟨g, 0, none⟩) 4 c) 4 newsV) (hs : s.size ≤ 1000000) :
    Calls Tryz.prog 126 #[.pointer (some ⟨b, 0, none⟩), .string s] w fun e w' => e = .returned (.string (bs (cleanL s.data.toList))) ∧ Below b w w' := by
  have HD := Lib.hid (once_do b g c w hR B hgb hO)
  have hmf : ∀ (fn : Fn) (first cap : Array Value) (w : World), (Instr.makeFunc fn first cap).run Tryz.prog w = .ok (.func fn first cap) w := fun _ _ _ _ => rfl
  clear hR hO
  go_enter Tryz.func126, Tryz.ntmps126
  have hm := meth_replace
  go_wp2_with (first
    | (go_at_call 148; refine HD.out.mono ?_; rintro e w1 ⟨rfl, ⟨G, x, cx, y, cy, H, ch, hr, hbG, hbs, k0, k1, hHb⟩, hb1⟩; obtain ⟨-, -, q3, -⟩ := hr.cells; have HX := Lib.hid (bsr_replace s G H ch x y cx cy w1 hbs k0 k1 hs); have HB1 := Lib.hid hb1; have HLT := Lib.hid hr.lt; clear hr hbs k0 k1 hb1)
    | (go_at_call 263; refine HX.out.mono ?_; rintro e w2 ⟨rfl, hb2⟩; have HB2 := Lib.hid hb2; clear hb2))
  go_ret
  exact ⟨rfl, HB1.out.trans (HB2.out.mono (Nat.le_of_lt HLT.out))⟩
set_option maxRecDepth 100000 in
set_option maxHeartbeats 2000000 in
theorem fault_clean (s : ByteArray) (w : World) (hs : s.size ≤ 1000000) :
    Calls Tryz.prog 97 #[.string s] w fun e w' => e = .returned (.string (bs (cleanL s.data.toList))) ∧ Below w.heap.size w w' := by
  have HN := Lib.hid (new_replacer w)
  go_enter Tryz.func97, Tryz.ntmps97
  go_wp2_with (first
    | (go_at_call 125; refine HN.out.mono ?_; rintro e w1 ⟨b, g, c, rfl, hgb, hbl, hr, ho, hb1⟩; have HX := Lib.hid (repl_replace s b g c w1 hr w.heap.size hgb ho hs); have HB1 := Lib.hid hb1; clear hr ho hb1)
    | (go_at_call 126; refine HX.out.mono ?_; rintro e w2 ⟨rfl, hb2⟩; have HB2 := Lib.hid hb2; clear hb2))
  go_ret
  exact ⟨rfl, HB1.out.trans (HB2.out.mono hbl)⟩
end Go.Proofs.YthcomjhpjlcpdaaGreatDoor
namespace Go.Proofs.YthcomjhpjlcpdaaGreatDoor
open Go.RowKit

theorem gapL_contains (c : UInt8) : gapL.contains c = gapB c := by
  unfold gapL gapB
  simp only [List.contains, List.elem]
  cases (c == 32) <;> cases (c == 9) <;> rfl
theorem trimS_cons (g : UInt8) (X : List UInt8) (h : gapB g = true) : Go.Lib.trimS (g :: X) gapL = Go.Lib.trimS X gapL := by
  have hg : gapL.contains g = true := (gapL_contains g).trans h
  unfold Go.Lib.trimS Go.Lib.trimRightS Go.Lib.trimLeftS
  rw [List.reverse_cons, List.dropWhile_append]
  split
  · rename_i he
    rw [List.isEmpty_iff] at he
    rw [he, List.dropWhile_cons_of_pos hg]; rfl
  · rw [List.reverse_append]
    show List.dropWhile _ (g :: _) = _
    rw [List.dropWhile_cons_of_pos hg]; rfl
theorem trimS_snoc (X : List UInt8) (g : UInt8) (h : gapB g = true) : Go.Lib.trimS (X ++ [g]) gapL = Go.Lib.trimS X gapL := by
  have hg : gapL.contains g = true := (gapL_contains g).trans h
  unfold Go.Lib.trimS Go.Lib.trimRightS
  rw [List.reverse_append]
  show Go.Lib.trimLeftS (List.dropWhile _ (g :: _)).reverse _ = _
  rw [List.dropWhile_cons_of_pos hg]; rfl
theorem trimS_le (X : List UInt8) : (Go.Lib.trimS X gapL).length ≤ X.length := by
  unfold Go.Lib.trimS Go.Lib.trimRightS Go.Lib.trimLeftS
  refine Nat.le_trans (List.dropWhile_suffix _).length_le ?_
  rw [List.length_reverse]
  refine Nat.le_trans (List.dropWhile_suffix _).length_le ?_
  rw [List.length_reverse]; exact Nat.le_refl _
def headGap (X : List UInt8) : Bool := match X with | [] => false | c :: _ => gapB c
def noGap (X : List UInt8) : Bool := !headGap X && !headGap X.reverse
theorem trimS_done (X : List UInt8) (h1 : headGap X = false) (h2 : headGap X.reverse = false) : Go.Lib.trimS X gapL = X := by
  have key : ∀ Y : List UInt8, headGap Y = false → Y.dropWhile (gapL.contains ·) = Y := by
    intro Y h
    cases Y with
    | nil => rfl
    | cons c t => exact List.dropWhile_cons_of_neg (by rw [gapL_contains]; show ¬ gapB c = true; rw [show gapB c = false from h]; decide)
  unfold Go.Lib.trimS Go.Lib.trimRightS Go.Lib.trimLeftS
  rw [key _ h2, List.reverse_reverse, key _ h1]
theorem trimS_iff (X : List UInt8) : Go.Lib.trimS X gapL = X ↔ noGap X = true := by
  unfold noGap
  constructor
  · intro h
    have a : headGap X = false := by
      cases X with
      | nil => rfl
      | cons c t =>
        rw [Bool.eq_false_iff]
        intro hc
        have := trimS_le t
        rw [← trimS_cons c t hc, h] at this
        simp at this
        omega
    have b : headGap X.reverse = false := by
      cases hr : X.reverse with
      | nil => rfl
      | cons c t =>
        rw [Bool.eq_false_iff]
        intro hc
        have e : X = t.reverse ++ [c] := by rw [← List.reverse_reverse X, hr, List.reverse_cons]
        have := trimS_le t.reverse
        rw [← trimS_snoc t.reverse c hc, ← e, h, e] at this
        simp at this
        omega
    rw [a, b]; rfl
  · intro h
    simp only [Bool.and_eq_true, Bool.not_eq_true'] at h
    exact trimS_done X h.1 h.2

/-- what stands behind a name's colon -/
def tailV (v : List UInt8) : List UInt8 := if v.isEmpty then [] else 32 :: v
def printL (n v : List UInt8) : List UInt8 := titL true n ++ 58 :: tailV v
def printOk (n v : List UInt8) : Bool := nameL n && plainAll v && noGap v
def fieldE (n v : List UInt8) : Nat := if printOk n v = true then (if 256 < (printL n v).length then 5 else 0) else 4
def fieldS (n v : List UInt8) : List UInt8 := if fieldE n v = 0 then printL n v else []

theorem titL_append (b : Bool) (x y : List UInt8) : titL b (x ++ y) = titL b x ++ titL (match x.getLast? with | none => b | some c => stB c) y := by
  induction x generalizing b with
  | nil => rfl
  | cons c t ih =>
    show UInt8.ofNat _ :: titL (stB c) (t ++ y) = (UInt8.ofNat _ :: titL (stB c) t) ++ _
    rw [ih, List.cons_append, List.getLast?_cons]
    congr 2
    cases t.getLast? <;> rfl
theorem titL_len (b : Bool) (l : List UInt8) : (titL b l).length = l.length := by
  induction l generalizing b with
  | nil => rfl
  | cons c t ih => simp [titL, ih]
/-- trimming the end of a printed name, colon, blank and value: the blank goes just where there is no value -/
theorem trimR_print (t v : List UInt8) (h : noGap v = true) : Go.Lib.trimRightS (t ++ [58, 32] ++ v) gapL = t ++ 58 :: tailV v := by
  unfold Go.Lib.trimRightS tailV
  cases hv : v with
  | nil =>
    simp only [List.isEmpty_nil, if_true]
    have e : (t ++ [58, 32] ++ []).reverse = 32 :: 58 :: t.reverse := by simp
    rw [e, List.dropWhile_cons_of_pos (by decide), List.dropWhile_cons_of_neg (by decide)]
    simp
  | cons a r =>
    rw [← hv]
    have hb : headGap v.reverse = false := by
      unfold noGap at h; simp only [Bool.and_eq_true, Bool.not_eq_true'] at h; exact h.2
    have e : (t ++ [58, 32] ++ v).reverse = v.reverse ++ (32 :: 58 :: t.reverse) := by simp
    rw [e]
    cases hr : v.reverse with
    | nil => rw [List.reverse_eq_nil_iff.1 hr] at hv; exact absurd hv (by simp)
    | cons c u =>
      rw [hr] at hb
      rw [List.cons_append, List.dropWhile_cons_of_neg (by rw [gapL_contains]; rw [show gapB c = false from hb]; decide), ← List.cons_append, ← hr, List.reverse_append]
      simp [hv]
end Go.Proofs.YthcomjhpjlcpdaaGreatDoor
namespace Go.Proofs.YthcomjhpjlcpdaaGreatDoor
open Go.RowKit

theorem ahead_of (m t : List UInt8) (h : ∀ c ∈ m, c ≠ 58) : ahead (m ++ 58 :: t) = m := by
  unfold ahead
  rw [List.takeWhile_append_of_pos (fun c hc => by simpa using h c hc), List.takeWhile_cons_of_neg (by decide), List.append_nil]
theorem parse_of (m n v t : List UInt8) (h : ∀ c ∈ m, c ≠ 58) (hm : plainAll m = true) (ht : plainAll t = true) (hn : nameL n = true) (e : m.map smallB = n) (hv : Go.Lib.trimS t gapL = v) :
    parseN (m ++ 58 :: t) = n ∧ parseV (m ++ 58 :: t) = v ∧ parseE (m ++ 58 :: t) = 0 := by
  have ha := ahead_of m t h
  have hname : parseName (m ++ 58 :: t) = n := by unfold parseName; rw [ha, e]
  have hval : parseVal (m ++ 58 :: t) = v := by
    unfold parseVal; rw [ha]
    rw [show (m ++ 58 :: t).drop (m.length + 1) = t by
      rw [← List.drop_drop, List.drop_left]; rfl]
    exact hv
  have hok : parseOk (m ++ 58 :: t) = true := by
    unfold parseOk
    rw [hname, hn, ha]
    have hp : plainAll (m ++ 58 :: t) = true := by
      unfold plainAll at hm ht ⊢
      rw [List.all_append, hm, List.all_cons, ht]; rfl
    rw [hp, decide_eq_true (by simp)]; rfl
  unfold parseN parseV parseE
  rw [hok]
  exact ⟨hname, hval, rfl⟩

theorem namedN_bd (n : Nat) (h : namedN n = true) : (97 ≤ n ∧ n ≤ 122) ∨ (48 ≤ n ∧ n ≤ 57) ∨ n = 45 := by
  rcases named_cases n with ⟨a, b, _⟩ | ⟨a, b, _⟩ | ⟨a, _⟩ | ⟨_, _, c⟩ | ⟨_, _, c⟩ | ⟨_, c⟩
  · exact .inl ⟨a, b⟩
  · exact .inr (.inl ⟨a, b⟩)
  · exact .inr (.inr a)
  · rw [c] at h; exact absurd h (by decide)
  · rw [c] at h; exact absurd h (by decide)
  · rw [c] at h; exact absurd h (by decide)
theorem letN_iff (n : Nat) : letN n = true ↔ 97 ≤ n ∧ n ≤ 122 := by
  unfold letN; simp
theorem titN_named (b : Bool) (n : Nat) (h : namedN n = true) : titN b n = n ∨ (97 ≤ n ∧ n ≤ 122 ∧ titN b n = n - 32) := by
  unfold titN
  split
  · rename_i hb
    simp only [Bool.and_eq_true] at hb
    have := (letN_iff n).1 hb.2
    exact .inr ⟨this.1, this.2, rfl⟩
  · exact .inl rfl
theorem tit_byte (b : Bool) (c : UInt8) (h : namedN c.toNat = true) : (UInt8.ofNat (titN b c.toNat)).toNat = titN b c.toNat := by
  rw [UInt8.toNat_ofNat']
  have := namedN_bd _ h
  rcases titN_named b _ h with e | ⟨_, _, e⟩ <;> rw [e] <;> omega
theorem tit_small (b : Bool) (c : UInt8) (h : namedN c.toNat = true) : smallB (UInt8.ofNat (titN b c.toNat)) = c := by
  unfold smallB
  rw [tit_byte b c h]
  have hb := namedN_bd _ h
  apply UInt8.toNat_inj.1
  rw [UInt8.toNat_ofNat']
  unfold smallN
  rcases titN_named b _ h with e | ⟨a1, a2, e⟩
  · rw [e, if_neg (by omega)]; omega
  · rw [e, if_pos (by omega)]; omega
theorem plainB_of (n : Nat) (h1 : 32 ≤ n) (h2 : n ≤ 126) : plainB n = true := by
  unfold plainB; rw [decide_eq_true h1, decide_eq_true h2]; simp
theorem tit_plain (b : Bool) (c : UInt8) (h : namedN c.toNat = true) : plainB (UInt8.ofNat (titN b c.toNat)).toNat = true ∧ UInt8.ofNat (titN b c.toNat) ≠ 58 := by
  rw [tit_byte b c h]
  have hb := namedN_bd _ h
  rcases titN_named b _ h with e | ⟨a1, a2, e⟩
  · refine ⟨by rw [e]; exact plainB_of _ (by omega) (by omega), fun he => ?_⟩
    have := congrArg UInt8.toNat he
    rw [tit_byte b c h, e] at this
    have : (58 : UInt8).toNat = 58 := rfl
    omega
  · refine ⟨by rw [e]; exact plainB_of _ (by omega) (by omega), fun he => ?_⟩
    have := congrArg UInt8.toNat he
    rw [tit_byte b c h, e] at this
    have : (58 : UInt8).toNat = 58 := rfl
    omega
theorem titL_small (b : Bool) (l : List UInt8) (h : ∀ c ∈ l, namedN c.toNat = true) : (titL b l).map smallB = l := by
  induction l generalizing b with
  | nil => rfl
  | cons c t ih =>
    show smallB _ :: (titL _ t).map smallB = c :: t
    rw [tit_small b c (h c (List.mem_cons_self ..)), ih _ (fun d hd => h d (List.mem_cons_of_mem _ hd))]
theorem titL_plain (b : Bool) (l : List UInt8) (h : ∀ c ∈ l, namedN c.toNat = true) : plainAll (titL b l) = true ∧ ∀ c ∈ titL b l, c ≠ 58 := by
  induction l generalizing b with
  | nil => exact ⟨rfl, fun c hc => by simp [titL] at hc⟩
  | cons c t ih =>
    have h1 := tit_plain b c (h c (List.mem_cons_self ..))
    have h2 := ih (stB c) (fun d hd => h d (List.mem_cons_of_mem _ hd))
    constructor
    · show plainAll (_ :: _) = true
      unfold plainAll at h2 ⊢
      rw [List.all_cons, h1.1, h2.1]; rfl
    · intro d hd
      change d ∈ UInt8.ofNat (titN b c.toNat) :: titL (stB c) t at hd
      rcases List.mem_cons.1 hd with rfl | hd
      · exact h1.2
      · exact h2.2 d hd
theorem nameL_all (n : List UInt8) (h : nameL n = true) : (∀ c ∈ n, namedN c.toNat = true) ∧ n ≠ [] ∧ n.length ≤ 32 := by
  unfold nameL at h
  simp only [Bool.and_eq_true, Bool.not_eq_true', decide_eq_true_eq, List.all_eq_true] at h
  exact ⟨h.2, fun e => by rw [e] at h; exact absurd h.1.1 (by decide), h.1.2⟩
theorem printOk_and (n v : List UInt8) (h : printOk n v = true) : nameL n = true ∧ plainAll v = true ∧ noGap v = true := by
  unfold printOk at h; simp only [Bool.and_eq_true] at h; exact ⟨h.1.1, h.1.2, h.2⟩
theorem fieldE_zero (n v : List UInt8) (h : fieldE n v = 0) : printOk n v = true ∧ (printL n v).length ≤ 256 := by
  unfold fieldE at h
  split at h
  · split at h
    · exact absurd h (by decide)
    · exact ⟨by assumption, by omega⟩
  · exact absurd h (by decide)
theorem tailV_plain (v : List UInt8) (h : plainAll v = true) : plainAll (tailV v) = true := by
  unfold tailV; split
  · rfl
  · unfold plainAll at h ⊢; rw [List.all_cons, h]; rfl
theorem trimS_tail (v : List UInt8) (h : noGap v = true) : Go.Lib.trimS (tailV v) gapL = v := by
  unfold tailV
  split
  · rename_i he; rw [List.isEmpty_iff] at he; rw [he]; rfl
  · rw [trimS_cons 32 v (by decide)]; exact (trimS_iff v).2 h
/-- a printed field, parsed -/
theorem print_parse (n v : List UInt8) (h : printOk n v = true) : parseN (printL n v) = n ∧ parseV (printL n v) = v ∧ parseE (printL n v) = 0 := by
  obtain ⟨h1, h2, h3⟩ := printOk_and n v h
  obtain ⟨ha, hne, hlen⟩ := nameL_all n h1
  obtain ⟨p1, p2⟩ := titL_plain true n ha
  exact parse_of _ n v _ p2 p1 (tailV_plain v h2) h1 (titL_small true n ha) (trimS_tail v h3)
theorem print_put (n v : List UInt8) (h : fieldE n v = 0) : putErr (printL n v) = 0 := by
  obtain ⟨hk, hl⟩ := fieldE_zero n v h
  obtain ⟨h1, h2, h3⟩ := printOk_and n v hk
  obtain ⟨ha, hne, hlen⟩ := nameL_all n h1
  obtain ⟨p1, p2⟩ := titL_plain true n ha
  have hp : plainAll (printL n v) = true := by
    have ht := tailV_plain v h2
    unfold printL
    unfold plainAll at p1 ht ⊢
    rw [List.all_append, p1, List.all_cons, ht]; rfl
  unfold putErr
  unfold plainAll at hp
  rw [hp, if_neg (by decide), if_neg (by omega)]
/-- in great letters -/
def greatB (c : UInt8) : UInt8 := if 97 ≤ c.toNat ∧ c.toNat ≤ 122 then UInt8.ofNat (c.toNat - 32) else c
theorem great_byte (c : UInt8) (h : namedN c.toNat = true) : smallB (greatB c) = c ∧ plainB (greatB c).toNat = true ∧ greatB c ≠ 58 := by
  have hb := namedN_bd _ h
  unfold greatB
  split
  · rename_i hl
    have e : (UInt8.ofNat (c.toNat - 32)).toNat = c.toNat - 32 := by rw [UInt8.toNat_ofNat']; omega
    refine ⟨?_, by rw [e]; exact plainB_of _ (by omega) (by omega), fun he => ?_⟩
    · unfold smallB; rw [e]; apply UInt8.toNat_inj.1; rw [UInt8.toNat_ofNat']; unfold smallN; rw [if_pos (by omega)]; omega
    · have := congrArg UInt8.toNat he
      rw [e] at this
      have : (58 : UInt8).toNat = 58 := rfl
      omega
  · refine ⟨?_, plainB_of _ (by omega) (by omega), fun he => ?_⟩
    · unfold smallB; apply UInt8.toNat_inj.1; rw [UInt8.toNat_ofNat']; unfold smallN; rw [if_neg (by omega)]; omega
    · have := congrArg UInt8.toNat he
      have : (58 : UInt8).toNat = 58 := rfl
      omega
theorem great_all (n : List UInt8) (h : ∀ c ∈ n, namedN c.toNat = true) : (n.map greatB).map smallB = n ∧ plainAll (n.map greatB) = true ∧ ∀ c ∈ n.map greatB, c ≠ 58 := by
  refine ⟨?_, ?_, ?_⟩
  · rw [List.map_map]; conv => rhs; rw [← List.map_id n]
    exact List.map_congr_left (fun c hc => (great_byte c (h c hc)).1)
  · unfold plainAll; rw [List.all_map, List.all_eq_true]; intro c hc; exact (great_byte c (h c hc)).2.1
  · intro c hc
    obtain ⟨d, hd, rfl⟩ := List.mem_map.1 hc
    exact (great_byte d (h d hd)).2.2
theorem trimS_pre (g : UInt8) (hg : gapB g = true) (k : Nat) (t : List UInt8) : Go.Lib.trimS (List.replicate k g ++ t) gapL = Go.Lib.trimS t gapL := by
  induction k with
  | zero => rfl
  | succ k ih => rw [List.replicate_succ, List.cons_append, trimS_cons g _ hg, ih]
theorem trimS_post (g : UInt8) (hg : gapB g = true) (k : Nat) (t : List UInt8) : Go.Lib.trimS (t ++ List.replicate k g) gapL = Go.Lib.trimS t gapL := by
  induction k with
  | zero => rw [List.replicate_zero, List.append_nil]
  | succ k ih => rw [List.replicate_succ', ← List.append_assoc, trimS_snoc _ g hg, ih]
theorem gaps_plain (g : UInt8) (hg : gapB g = true) (k : Nat) : plainAll (List.replicate k g) = true := by
  unfold plainAll
  rw [List.all_eq_true]
  intro c hc
  rw [(List.mem_replicate.1 hc).2]
  unfold gapB at hg
  simp only [Bool.or_eq_true, beq_iff_eq] at hg
  rcases hg with rfl | rfl <;> rfl
def greatLine (n v : List UInt8) (a b c : Nat) : List UInt8 := n.map greatB ++ 58 :: (List.replicate a 32 ++ (List.replicate b 9 ++ (v ++ List.replicate c 32)))
theorem great_parse (n v : List UInt8) (h : printOk n v = true) (a b c : Nat) : parseN (greatLine n v a b c) = n ∧ parseV (greatLine n v a b c) = v ∧ parseE (greatLine n v a b c) = 0 := by
  obtain ⟨h1, h2, h3⟩ := printOk_and n v h
  obtain ⟨ha, hne, hlen⟩ := nameL_all n h1
  obtain ⟨q1, q2, q3⟩ := great_all n ha
  refine parse_of _ n v _ q3 q2 ?_ h1 q1 ?_
  · have g1 := gaps_plain 32 (by decide) a
    have g2 := gaps_plain 9 (by decide) b
    have g3 := gaps_plain 32 (by decide) c
    unfold plainAll at h2 g1 g2 g3 ⊢
    rw [List.all_append, List.all_append, List.all_append, g1, g2, h2, g3]; rfl
  · rw [trimS_pre 32 (by decide), trimS_pre 9 (by decide), trimS_post 32 (by decide)]
    exact (trimS_iff v).2 h3

/-- what was parsed is a field that may be printed, unless that is too long -/
theorem trimS_idem (l : List UInt8) : noGap (Go.Lib.trimS l gapL) = true := by
  suffices h : ∀ k (l : List UInt8), l.length ≤ k → noGap (Go.Lib.trimS l gapL) = true from h _ l (Nat.le_refl _)
  intro k
  induction k with
  | zero => intro l hl; rw [List.length_eq_zero_iff.1 (Nat.le_zero.1 hl)]; rfl
  | succ k ih =>
    intro l hl
    by_cases h1 : headGap l = true
    · cases l with
      | nil => rfl
      | cons c t => rw [trimS_cons c t h1]; exact ih t (by simp at hl; omega)
    · by_cases h2 : headGap l.reverse = true
      · cases hr : l.reverse with
        | nil => rw [hr] at h2; exact absurd h2 (by decide)
        | cons c t =>
          have e : l = t.reverse ++ [c] := by rw [← List.reverse_reverse l, hr, List.reverse_cons]
          rw [hr] at h2
          rw [e, trimS_snoc _ c h2]
          exact ih _ (by rw [e] at hl; simp at hl; rw [List.length_reverse]; omega)
      · have e := trimS_done l (by simpa using h1) (by simpa using h2)
        rw [e]; unfold noGap; simp at h1 h2; rw [h1, h2]; rfl
theorem trimS_infix (l : List UInt8) : ∃ a b, l = a ++ Go.Lib.trimS l gapL ++ b := by
  unfold Go.Lib.trimS
  obtain ⟨b, hb⟩ : ∃ b, l = Go.Lib.trimRightS l gapL ++ b := by
    unfold Go.Lib.trimRightS
    obtain ⟨t, ht⟩ := List.dropWhile_suffix (l := l.reverse) (gapL.contains ·)
    refine ⟨t.reverse, ?_⟩
    have := congrArg List.reverse ht
    rw [List.reverse_append, List.reverse_reverse] at this
    exact this.symm
  obtain ⟨a, ha⟩ : ∃ a, Go.Lib.trimRightS l gapL = a ++ Go.Lib.trimLeftS (Go.Lib.trimRightS l gapL) gapL := by
    obtain ⟨t, ht⟩ := List.dropWhile_suffix (l := Go.Lib.trimRightS l gapL) (gapL.contains ·)
    exact ⟨t, ht.symm⟩
  exact ⟨a, b, by rw [← ha]; exact hb⟩
theorem parse_zero (l : List UInt8) (h : parseE l = 0) : parseOk l = true ∧ parseN l = parseName l ∧ parseV l = parseVal l := by
  unfold parseE at h
  split at h
  · rename_i hk; exact ⟨hk, if_pos hk, if_pos hk⟩
  · exact absurd h (by decide)
theorem parse_four (l : List UInt8) (h : parseE l ≠ 0) : parseE l = 4 ∧ parseN l = [] ∧ parseV l = [] := by
  unfold parseE parseN parseV at *
  split at h
  · exact absurd rfl h
  · rename_i hk; rw [if_neg hk, if_neg hk, if_neg hk]; exact ⟨rfl, rfl, rfl⟩
theorem parse_infix (l : List UInt8) (h : parseE l = 0) : ∃ a b, l = a ++ parseV l ++ b := by
  obtain ⟨_, _, hv⟩ := parse_zero l h
  rw [hv]
  unfold parseVal
  obtain ⟨a, b, e⟩ := trimS_infix (l.drop ((ahead l).length + 1))
  exact ⟨l.take ((ahead l).length + 1) ++ a, b, by rw [List.append_assoc, List.append_assoc, ← List.append_assoc a, ← e, List.take_append_drop]⟩
theorem parse_print (l : List UInt8) (h : parseE l = 0) : printOk (parseN l) (parseV l) = true := by
  obtain ⟨hk, hn, hv⟩ := parse_zero l h
  obtain ⟨a, b, e⟩ := parse_infix l h
  have hp : plainAll l = true ∧ nameL (parseName l) = true := by
    unfold parseOk at hk; simp only [Bool.and_eq_true] at hk; exact ⟨hk.1.1, hk.2⟩
  unfold printOk
  rw [hn, hp.2]
  have h1 : plainAll (parseV l) = true := by
    have := hp.1
    rw [e] at this
    unfold plainAll at this ⊢
    rw [List.all_append, List.all_append] at this
    simp only [Bool.and_eq_true] at this
    exact this.1.2
  have h2 : noGap (parseV l) = true := by rw [hv]; exact trimS_idem _
  rw [h1, h2]; rfl
end Go.Proofs.YthcomjhpjlcpdaaGreatDoor
namespace Go.Proofs.YthcomjhpjlcpdaaGreatDoor
open Go.RowKit
theorem ref_small (c : Nat) (w : World) (hc : c < 256) : Calls Tryz.prog 73 #[.int .u8 (c : Int)] w fun e w' => e = .returned (.int .u8 (smallN c : Nat)) ∧ w' = w := by
  by_cases h1 : c < 65
  · have H : Hid (smallN c = c) := Lib.hid (if_neg (by omega))
    have t : decide ((c : Int) ≥ 65) = false := by simp; omega
    go_enter Tryz.func73, Tryz.ntmps73
    go_wp2_with fail
    go_ret
    exact ⟨by rw [H.out]; rfl, rfl⟩
  · by_cases h2 : 90 < c
    · have H : Hid (smallN c = c) := Lib.hid (if_neg (by omega))
      have t : decide ((c : Int) ≤ 90) = false := by simp; omega
      go_enter Tryz.func73, Tryz.ntmps73
      go_wp2_with fail
      go_ret
      exact ⟨by rw [H.out]; rfl, rfl⟩
    · have H : Hid (smallN c = c + 32) := Lib.hid (if_pos (by omega))
      have t : decide ((c : Int) ≤ 90) = true := by simp; omega
      have h3 : 65 ≤ c := by omega
      go_enter Tryz.func73, Tryz.ntmps73
      go_wp2_with fail
      go_ret
      refine ⟨ret_int ?_, rfl⟩
      rw [H.out]; omega

theorem ref_gap (c : UInt8) (w : World) : Calls Tryz.prog 75 #[.int .u8 (c.toNat : Int)] w fun e w' => e = .returned (.bool (gapB c)) ∧ w' = w := by
  by_cases h1 : c = 32
  · subst h1
    go_enter Tryz.func75, Tryz.ntmps75
    go_wp2_with fail
    go_ret
    exact ⟨rfl, rfl⟩
  · have t1 : ((c.toNat : Int) == 32) = false := by
      rw [beq_eq_false_iff_ne]; intro e; exact h1 (UInt8.toNat_inj.1 (by show _ = 32; omega))
    have H : Hid (gapB c = (c == 9)) := Lib.hid (by unfold gapB; rw [beq_eq_false_iff_ne.2 h1, Bool.false_or])
    by_cases h2 : c = 9
    · subst h2
      go_enter Tryz.func75, Tryz.ntmps75
      go_wp2_with fail
      go_ret
      exact ⟨rfl, rfl⟩
    · have t2 : ((c.toNat : Int) == 9) = false := by
        rw [beq_eq_false_iff_ne]; intro e; exact h2 (UInt8.toNat_inj.1 (by show _ = 9; omega))
      have H2 : Hid (gapB c = false) := Lib.hid (H.out.trans (beq_eq_false_iff_ne.2 h2))
      clear H h1 h2
      go_enter Tryz.func75, Tryz.ntmps75
      go_wp2_with fail
      go_ret
      exact ⟨ret_bool H2.out.symm, rfl⟩


set_option maxHeartbeats 1000000 in
theorem ref_fplain (s : ByteArray) (w : World) (hs : s.size ≤ 9223372036854775807) :
    Calls Tryz.prog 72 #[.string s] w fun e w' => e = .returned (.bool (s.data.toList.all (fun c => plainB c.toNat))) ∧ w' = w := by
  obtain ⟨B, hB⟩ : ∃ B, B = s.data.toList.all (fun c => plainB c.toNat) := ⟨_, rfl⟩
  rw [← hB]
  have HB := Lib.hid hB
  clear hB
  go_enter Tryz.func72, Tryz.ntmps72
  go_wp2_with fail
  go_loop [3] (fun j => ∃ k : Nat, k ≤ s.size ∧ j = .int .i64 k ∧ Hid (∀ j, j < k → ∀ hj : j < s.size, plainB (s[j]'hj).toNat = true)) (fun j => s.size - (intOf j).toNat)
  case atStart => exact ⟨0, by omega, rfl, Lib.hid (fun j hj => by omega)⟩
  case round =>
    obtain ⟨k, hk, rfl, Hall⟩ := hrel
    by_cases hlt : k < s.size
    · have hcb : s[k].toNat < 256 := s[k].toNat_lt
      have HP := Lib.hid (fun w => ref_plain s[k].toNat w hcb)
      by_cases hpl : plainB s[k].toNat = false
      · have H := Lib.hid (HB.out.trans <| all_at (fun c => plainB c.toNat) s k hlt hpl)
        rw [hpl] at HP
        clear hpl Hall
        go_wp2_with fail
        refine (HP.out _).mono ?_
        rintro e w' ⟨rfl, rfl⟩
        go_wp2_with fail
        go_ret
        exact ⟨ret_bool H.out.symm, rfl⟩
      · have hpl' : plainB s[k].toNat = true := by simpa using hpl
        have H := Lib.hid (upto_step (fun c => plainB c.toNat) s k Hall.out hlt hpl')
        rw [hpl'] at HP
        clear hpl hpl' Hall
        go_wp2_with fail
        refine (HP.out _).mono ?_
        rintro e w' ⟨rfl, rfl⟩
        go_wp2_with fail
        go_round
        case rel => exact ⟨k + 1, by omega, by go_num, H⟩
        case measure => simp [intOf]; omega
    · have H := Lib.hid (HB.out.trans <| all_of (fun c => plainB c.toNat) s (fun j hj => Hall.out j (by omega) hj))
      clear Hall
      go_wp2_with fail
      go_ret
      exact ⟨ret_bool H.out.symm, rfl⟩

set_option maxHeartbeats 2000000 in
theorem ref_name (s : ByteArray) (w : World) (hs : s.size ≤ 9223372036854775807) :
    Calls Tryz.prog 74 #[.string s] w fun e w' => e = .returned (.bool (nameL s.data.toList)) ∧ w' = w := by
  obtain ⟨B, hB⟩ : ∃ B, B = nameL s.data.toList := ⟨_, rfl⟩
  rw [← hB]
  have HB := Lib.hid hB
  clear hB
  go_enter Tryz.func74, Tryz.ntmps74
  go_wp2_with fail
  go_loop [3] (fun j => ∃ k : Nat, k ≤ s.size ∧ j = .int .i64 k ∧ Hid (∀ j, j < k → ∀ hj : j < s.size, namedN (s[j]'hj).toNat = true)) (fun j => s.size - (intOf j).toNat)
  case atStart => exact ⟨0, by omega, rfl, Lib.hid (fun j hj => by omega)⟩
  case round =>
    obtain ⟨k, hk, rfl, Hall⟩ := hrel
    by_cases hlt : k < s.size
    · have hN : ∀ hq : namedN s[k].toNat = true, Hid (∀ j, j < k + 1 → ∀ hj : j < s.size, namedN (s[j]'hj).toNat = true) := fun hq => Lib.hid (upto_step (fun c => namedN c.toNat) s k Hall.out hlt hq)
      have hF : ∀ hq : namedN s[k].toNat = false, Hid (B = false) := fun hq => Lib.hid (HB.out.trans (nameL_not _ (all_at (fun c => namedN c.toNat) s k hlt hq)))
      have hcase := named_cases s[k].toNat
      clear Hall HB
      rcases hcase with ⟨c1, c2, hq⟩ | ⟨c1, c2, hq⟩ | ⟨c1, hq⟩ | ⟨c1, c2, hq⟩ | ⟨c1, c2, hq⟩ | ⟨c1, hq⟩
      · have H := hN hq
        have t1 : decide ((s[k].toNat : Int) > 122) = false := by simp; omega
        have t2 : decide ((s[k].toNat : Int) < 97) = false := by simp; omega
        clear hN hF hq
        go_wp2_with fail
        go_round
        case rel => exact ⟨k + 1, by omega, by go_num, H⟩
        case measure => simp [intOf]; omega
      · have H := hN hq
        have t1 : decide ((s[k].toNat : Int) < 97) = true := by simp; omega
        have t2 : decide ((s[k].toNat : Int) < 48) = false := by simp; omega
        have t3 : decide ((s[k].toNat : Int) > 57) = false := by simp; omega
        clear hN hF hq
        go_wp2_with fail
        go_round
        case rel => exact ⟨k + 1, by omega, by go_num, H⟩
        case measure => simp [intOf]; omega
      · have H := hN hq
        have t1 : decide ((s[k].toNat : Int) < 97) = true := by simp; omega
        have t2 : decide ((s[k].toNat : Int) < 48) = true := by simp; omega
        have t3 : ((s[k].toNat : Int) != 45) = false := by rw [c1]; rfl
        clear hN hF hq
        go_wp2_with fail
        go_round
        case rel => exact ⟨k + 1, by omega, by go_num, H⟩
        case measure => simp [intOf]; omega
      · have H := hF hq
        have t1 : decide ((s[k].toNat : Int) < 97) = true := by simp; omega
        have t2 : decide ((s[k].toNat : Int) < 48) = true := by simp; omega
        have t3 : ((s[k].toNat : Int) != 45) = true := by rw [bne_iff_ne]; omega
        clear hN hF hq
        go_wp2_with fail
        go_ret
        exact ⟨ret_bool H.out.symm, rfl⟩
      · have H := hF hq
        have t1 : decide ((s[k].toNat : Int) < 97) = true := by simp; omega
        have t2 : decide ((s[k].toNat : Int) < 48) = false := by simp; omega
        have t3 : ((s[k].toNat : Int) != 45) = true := by rw [bne_iff_ne]; omega
        have t4 : decide ((s[k].toNat : Int) > 57) = true := by simp; omega
        clear hN hF hq
        go_wp2_with fail
        go_ret
        exact ⟨ret_bool H.out.symm, rfl⟩
      · have H := hF hq
        have t1 : decide ((s[k].toNat : Int) < 97) = false := by simp; omega
        have t2 : decide ((s[k].toNat : Int) < 48) = false := by simp; omega
        have t3 : ((s[k].toNat : Int) != 45) = true := by rw [bne_iff_ne]; omega
        have t4 : decide ((s[k].toNat : Int) > 57) = true := by simp; omega
        have t5 : decide ((s[k].toNat : Int) > 122) = true := by simp; omega
        clear hN hF hq
        go_wp2_with fail
        go_ret
        exact ⟨ret_bool H.out.symm, rfl⟩
    · have h := HB.out.trans (nameL_len s (all_of (fun c => namedN c.toNat) s (fun j hj => Hall.out j (by omega) hj)))
      by_cases h1 : s.size = 0
      · have H : Hid (B = false) := Lib.hid (by rw [h, decide_eq_false (by omega)]; rfl)
        clear h Hall HB
        go_wp2_with fail
        go_ret
        exact ⟨ret_bool H.out.symm, rfl⟩
      · by_cases h2 : s.size ≤ 32
        · have H : Hid (B = true) := Lib.hid (by rw [h, decide_eq_true (show 1 ≤ s.size by omega), decide_eq_true h2]; rfl)
          have t1 : decide ((s.size : Int) ≤ 32) = true := by simp; omega
          have t2 : 1 ≤ s.size := by omega
          clear h Hall HB
          go_wp2_with fail
          go_ret
          exact ⟨ret_bool H.out.symm, rfl⟩
        · have H : Hid (B = false) := Lib.hid (by rw [h, decide_eq_false h2, Bool.and_false])
          have t1 : decide ((s.size : Int) ≤ 32) = false := by simp; omega
          have t2 : 1 ≤ s.size := by omega
          clear h Hall HB
          go_wp2_with fail
          go_ret
          exact ⟨ret_bool H.out.symm, rfl⟩
end Go.Proofs.YthcomjhpjlcpdaaGreatDoor
namespace Go.Proofs.YthcomjhpjlcpdaaGreatDoor
open Go.RowKit

def strN (v : Value) : Nat := match v with | .string s => s.size | _ => 0
theorem conv_one (W : World) (c : UInt8) : (convert 136 9 (.slice (some ⟨W.heap.size, 0, none⟩) 1 1)).run Tryz.prog (W.alloc (.cells #[.int .u8 (c.toNat : Int)] 5)) = .ok (.string ⟨#[c]⟩) (W.alloc (.cells #[.int .u8 (c.toNat : Int)] 5)) :=
  run_convert_bytes_back (P := Tryz.prog) (W.alloc (.cells #[.int .u8 (c.toNat : Int)] 5)) 136 9 5 ⟨W.heap.size, 0, none⟩ 1 [c] Tryz.underlying136 Tryz.underlying5 Tryz.underlying9 (fun j hj => by
    obtain rfl : j = 0 := by simp at hj; exact hj
    exact cell_one_new W (.int .u8 (c.toNat : Int)) 5 0 _ rfl)
theorem ref_smallB (c : UInt8) (w : World) : Calls Tryz.prog 73 #[.int .u8 (c.toNat : Int)] w fun e w' => e = .returned (.int .u8 ((smallB c).toNat : Int)) ∧ w' = w := by
  have h := ref_small c.toNat w c.toNat_lt
  have e : (smallB c).toNat = smallN c.toNat := by
    unfold smallB; rw [UInt8.toNat_ofNat']
    have := c.toNat_lt
    unfold smallN; split <;> omega
  rw [e]; exact h
theorem ahead_upto (s : ByteArray) (k : Nat) (hk : k ≤ s.size) (h : ∀ j, j < k → ∀ hj : j < s.size, s[j]'hj ≠ 58) (h2 : ∀ hk : k < s.size, s[k]'hk = 58) : (ahead s.data.toList).length = k := by
  have hsl := size_len s
  have e : s.data.toList = s.data.toList.take k ++ s.data.toList.drop k := (List.take_append_drop k _).symm
  have h1 : ∀ c ∈ s.data.toList.take k, (c != 58) = true := by
    intro c hc
    obtain ⟨j, hj, rfl⟩ := List.getElem_of_mem hc
    rw [List.length_take] at hj
    rw [List.getElem_take]
    have := h j (by omega) (by omega)
    rw [bne_iff_ne]; exact this
  unfold ahead
  rw [e, List.takeWhile_append_of_pos h1]
  by_cases hlt : k < s.size
  · rw [List.drop_eq_getElem_cons (by omega), List.takeWhile_cons_of_neg (by have := h2 hlt; rw [bne_iff_ne]; intro hn; exact hn this), List.append_nil, List.length_take]; omega
  · rw [List.drop_eq_nil_of_le (by omega)]; simp; omega
theorem bs_snoc (l : List UInt8) (c : UInt8) : bs l ++ ⟨#[c]⟩ = bs (l ++ [c]) := bs_cat l [c]
theorem map_take_succ (l : List UInt8) (i : Nat) (h : i < l.length) (f : UInt8 → UInt8) : (l.take (i + 1)).map f = (l.take i).map f ++ [f l[i]] := by
  rw [List.take_succ_eq_append_getElem h, List.map_append]; rfl
theorem drop_one (V : ByteArray) (h : 0 < V.size) : V.data.toList = V[0] :: (V.extract 1 V.size).data.toList := by
  rw [extract_bs, bs_data, show V.data.toList.take V.size = V.data.toList from List.take_of_length_le (by rw [size_len]; exact Nat.le_refl _)]
  have := List.drop_eq_getElem_cons (l := V.data.toList) (i := 0) (by rw [size_len]; exact h)
  rw [List.drop_zero] at this
  exact this
theorem drop_last (V : ByteArray) (m : Nat) (h : V.size = m + 1) : V.data.toList = (V.extract 0 m).data.toList ++ [V[m]] := by
  rw [extract_bs, bs_data, List.drop_zero]
  have := List.take_succ_eq_append_getElem (l := V.data.toList) (i := m) (by rw [size_len]; omega)
  rw [List.take_of_length_le (by rw [size_len]; omega)] at this
  exact this

theorem headGap_pos (V : ByteArray) (h : headGap V.data.toList = true) : ∃ h : 0 < V.size, gapB V[0] = true := by
  have hpos : 0 < V.size := by
    rcases Nat.eq_zero_or_pos V.size with h0 | h0
    · have : V.data.toList = [] := List.length_eq_zero_iff.1 (by rw [size_len]; exact h0)
      rw [this] at h; exact absurd h (by decide)
    · exact h0
  rw [drop_one V hpos] at h
  exact ⟨hpos, h⟩
theorem headGap_neg (V : ByteArray) (h : headGap V.data.toList = false) (hpos : 0 < V.size) : gapB V[0] = false := by
  rw [drop_one V hpos] at h; exact h
theorem lastGap_pos (V : ByteArray) (h : headGap V.data.toList.reverse = true) : ∃ m, V.size = m + 1 ∧ ∃ hl : m < V.size, gapB V[m] = true := by
  have hpos : 0 < V.size := by
    rcases Nat.eq_zero_or_pos V.size with h0 | h0
    · have : V.data.toList = [] := List.length_eq_zero_iff.1 (by rw [size_len]; exact h0)
      rw [this] at h; exact absurd h (by decide)
    · exact h0
  obtain ⟨m, hm⟩ : ∃ m, V.size = m + 1 := ⟨V.size - 1, by omega⟩
  refine ⟨m, hm, by omega, ?_⟩
  rw [drop_last V m hm, List.reverse_append] at h
  exact h
theorem lastGap_neg (V : ByteArray) (h : headGap V.data.toList.reverse = false) (m : Nat) (hm : V.size = m + 1) (hl : m < V.size) : gapB V[m] = false := by
  rw [drop_last V m hm, List.reverse_append] at h
  exact h
theorem last_step (U : ByteArray) (m : Nat) (hm : U.size = m + 1) (hl : m < U.size) (hg : gapB U[m] = true) (h1 : headGap U.data.toList = false) (T : List UInt8) (hT : Go.Lib.trimS U.data.toList gapL = T) :
    Go.Lib.trimS (U.extract 0 m).data.toList gapL = T ∧ headGap (U.extract 0 m).data.toList = false := by
  have e := drop_last U m hm
  constructor
  · rw [← hT, e, trimS_snoc _ _ hg]
  · rw [e] at h1
    cases hx : (U.extract 0 m).data.toList with
    | nil => rfl
    | cons a t => rw [hx] at h1; exact h1

set_option maxRecDepth 100000 in
set_option maxHeartbeats 4000000 in
theorem ref_fparse (s : ByteArray) (w : World) (hs : s.size ≤ 1000000) :
    Calls Tryz.prog 44 #[.string s] w fun e w' => e = .returned (.tuple #[.agg #[.string (bs (parseN s.data.toList)), .string (bs (parseV s.data.toList))], .int .i64 (parseE s.data.toList)]) ∧ Below w.heap.size w w' := by
  obtain ⟨l, hl⟩ : ∃ l, l = s.data.toList := ⟨_, rfl⟩
  have hsl : l.length = s.size := by rw [hl]; exact size_len s
  have HPl := Lib.hid (fun w => ref_fplain s w (by omega))
  rw [← hl] at HPl ⊢
  have HL := Lib.hid hl
  clear hl
  have H4 : Hid (parseOk l = false → parseN l = [] ∧ parseV l = [] ∧ parseE l = 4) := Lib.hid (fun h => by unfold parseN parseV parseE; rw [h]; exact ⟨rfl, rfl, rfl⟩)
  go_enter Tryz.func44, Tryz.ntmps44
  go_wp2_with fail
  go_loop [4] (fun j => ∃ k : Nat, k ≤ s.size ∧ j = .int .i64 k ∧ Hid (∀ j, j < k → ∀ hj : j < s.size, s[j]'hj ≠ 58)) (fun j => s.size - (intOf j).toNat)
  case atStart => exact ⟨0, by omega, rfl, Lib.hid (fun j hj => by omega)⟩
  case round =>
    obtain ⟨k, hk, rfl, Hall⟩ := hrel
    by_cases hlt : k < s.size
    · by_cases h58 : s[k] = 58
      · have ha : Hid ((ahead l).length = k) := Lib.hid (by rw [HL.out]; exact ahead_upto s k hk Hall.out (fun _ => h58))
        have t1 : ((s[k].toNat : Int) != 58) = false := by rw [h58]; rfl
        have t2 : ((k : Int) == (s.size : Int)) = false := by rw [beq_eq_false_iff_ne]; omega
        clear Hall
        cases hpl : (l.all (fun c => plainB c.toNat)) with
        | false =>
          have HP := Lib.hid (H4.out (by unfold parseOk plainAll; rw [hpl]; rfl))
          rw [hpl] at HPl
          clear hpl h58
          go_wp2_with (go_at_call 72; refine (HPl.out _).mono ?_; rintro e w' ⟨rfl, rfl⟩)
          refine ret_field (b := w.heap.size) (x := .string ⟨#[]⟩) (y := .string ⟨#[]⟩) rfl (load_ref _ _ _ _ _ (heap_alloc_new w _)) rfl rfl rfl ?_
          refine ⟨?_, (Below.refl _ _).alloc (Nat.le_refl _) _⟩
          rw [HP.out.1, HP.out.2.1, HP.out.2.2]; rfl
        | true =>
          rw [hpl] at HPl
          have HpA : Hid (plainAll l = true) := Lib.hid hpl
          clear hpl h58
          go_wp2_with (go_at_call 72; refine (HPl.out _).mono ?_; rintro e w' ⟨rfl, rfl⟩)
          have HN : Hid ((l.take k).map smallB = parseName l) := Lib.hid (by unfold parseName; rw [← ahead_take l, ha.out])
          have HFN := Lib.hid (fun w => ref_name (bs (parseName l)) w (by rw [← HN.out, bs_size, List.length_map, List.length_take]; omega))
          rw [bs_data] at HFN
          go_loopw [5, 6] (fun n j wr => ∃ i : Nat, i ≤ k ∧ j = .int .i64 i ∧ n = .string (bs ((l.take i).map smallB)) ∧ Below (w.alloc (.cells #[.string ⟨#[]⟩, .string ⟨#[]⟩] 102)).heap.size (w.alloc (.cells #[.string ⟨#[]⟩, .string ⟨#[]⟩] 102)) wr) (fun _ j _ => k - (intOf j).toNat)
          case atStart => exact ⟨0, by omega, rfl, rfl, Below.refl _ _⟩
          case round =>
            obtain ⟨i, hi, rfl, rfl, hb⟩ := hrel
            by_cases hik : i < k
            · have hil : i < s.size := by omega
              have hst : Hid (bs ((l.take i).map smallB) ++ ⟨#[smallB s[i]]⟩ = bs ((l.take (i + 1)).map smallB)) := Lib.hid (by
                have e : l[i]'(by omega) = s[i] := by have := HL.out; subst this; rfl
                rw [bs_snoc, map_take_succ l i (by omega), e])
              have hsz : (bs ((l.take i).map smallB)).size + 1 ≤ 9223372036854775807 := by rw [bs_size, List.length_map, List.length_take]; omega
              have hcv := conv_one wr (smallB s[i])
              have hone : (ByteArray.mk #[smallB s[i]]).size = 1 := rfl
              obtain ⟨X, hX⟩ : ∃ X, X = bs ((l.take i).map smallB) := ⟨_, rfl⟩
              rw [← hX] at hst hsz ⊢
              clear hX
              go_wp2_with (go_at_call 73; refine (ref_smallB _ _).mono ?_; rintro e w' ⟨rfl, rfl⟩)
              go_roundw
              case rel => exact ⟨i + 1, by omega, by go_num, by rw [hst.out], hb.trans (((Below.refl _ _).alloc (Nat.le_refl _) _).mono hb.size)⟩
              case measure => simp [intOf]; omega
            · obtain rfl : i = k := by omega
              have hbox := two_box hb
              obtain ⟨k0, k1, f0, f1⟩ := two_of hbox
              obtain ⟨N, hN⟩ : ∃ N, N = bs (parseName l) := ⟨_, rfl⟩
              rw [HN.out, ← hN]
              rw [← hN] at HFN
              have HNN := Lib.hid hN
              clear hN hik
              cases hnm : nameL (parseName l) with
              | false =>
                rw [hnm] at HFN
                have HP := Lib.hid (H4.out (by unfold parseOk; rw [hnm, Bool.and_false]))
                clear hnm
                go_wp2_with (go_at_call 74; refine (HFN.out _).mono ?_; rintro e w' ⟨rfl, rfl⟩)
                refine ret_field (b := w.heap.size) (x := .string ⟨#[]⟩) (y := .string ⟨#[]⟩) rfl (load_ref _ _ _ _ _ (two_set hbox _ _)) rfl rfl rfl ?_
                refine ⟨?_, two_below (((Below.refl _ _).alloc (Nat.le_refl _) _).trans (hb.mono (by simp))) _ (Nat.le_refl _) _ _⟩
                rw [HP.out.1, HP.out.2.1, HP.out.2.2]; rfl
              | true =>
                rw [hnm] at HFN
                have HP : Hid (parseN l = parseName l ∧ parseV l = parseVal l ∧ parseE l = 0) := Lib.hid (by
                  have : parseOk l = true := by unfold parseOk; rw [hnm, HpA.out, decide_eq_true (by rw [ha.out]; omega)]; rfl
                  unfold parseN parseV parseE; rw [this]; exact ⟨rfl, rfl, rfl⟩)
                have hV0 : Hid (Go.Lib.trimS (s.extract (i + 1) s.size).data.toList gapL = parseVal l) := Lib.hid (by
                  unfold parseVal
                  rw [extract_bs, bs_data, ← HL.out, List.take_of_length_le (by omega), ha.out])
                have hV1 : (s.extract (i + 1) s.size).size ≤ s.size := by rw [ByteArray.size_extract]; omega
                clear hnm
                go_wp2_with (go_at_call 74; refine (HFN.out _).mono ?_; rintro e w' ⟨rfl, rfl⟩)
                go_loop [7] (fun v => ∃ V : ByteArray, v = .string V ∧ V.size ≤ s.size ∧ Hid (Go.Lib.trimS V.data.toList gapL = parseVal l)) (fun v => strN v)
                case atStart => exact ⟨_, rfl, hV1, hV0⟩
                case round =>
                  obtain ⟨V, rfl, hVs, HV⟩ := hrel
                  by_cases hcont : headGap V.data.toList = true
                  · obtain ⟨hpos, hg⟩ := headGap_pos V hcont
                    have Hn : Hid (Go.Lib.trimS (V.extract 1 V.size).data.toList gapL = parseVal l) := Lib.hid (by
                      rw [← HV.out, drop_one V hpos, trimS_cons _ _ hg])
                    have hG := fun w => ref_gap V[0] w
                    rw [hg] at hG
                    have HG := Lib.hid hG
                    clear hG hg hcont hV0 hV1
                    go_wp2_with (go_at_call 75; refine (HG.out _).mono ?_; rintro e w' ⟨rfl, rfl⟩)
                    go_round
                    case rel => exact ⟨_, rfl, by rw [ByteArray.size_extract]; omega, Hn⟩
                    case measure => simp [strN]; omega
                  · have HG0 : Hid (headGap V.data.toList = false) := Lib.hid (by simpa using hcont)
                    clear hcont hV0 hV1
                    have hgn := fun h : 0 < V.size => headGap_neg V HG0.out h
                    by_cases hpos : 0 < V.size
                    case' pos =>
                      have hG := fun w => ref_gap V[0] w
                      rw [hgn hpos] at hG
                      have HG := Lib.hid hG
                      clear hG hgn
                      go_wp2_with (go_at_call 75; refine (HG.out _).mono ?_; rintro e w' ⟨rfl, rfl⟩)
                    case' neg =>
                      have t0 : decide ((V.size : Int) > 0) = false := decide_eq_false (by omega)
                      have HG := True.intro
                      clear hgn
                      go_wp2_with fail
                    all_goals
                      clear HG
                      go_loop [7] (fun v => ∃ V : ByteArray, v = .string V ∧ V.size ≤ s.size ∧ Hid (Go.Lib.trimS V.data.toList gapL = parseVal l) ∧ Hid (headGap V.data.toList = false)) (fun v => strN v)
                      case atStart => exact ⟨_, rfl, hVs, HV, HG0⟩
                      case round =>
                        clear HG0 HV hVs
                        obtain ⟨U, rfl, hUs, HU, HG1⟩ := hrel
                        by_cases hcont : headGap U.data.toList.reverse = true
                        · obtain ⟨m, hm, hlt2, hg⟩ := lastGap_pos U hcont
                          have Hn : Hid (Go.Lib.trimS (U.extract 0 m).data.toList gapL = parseVal l ∧ headGap (U.extract 0 m).data.toList = false) := Lib.hid (last_step U m hm hlt2 hg HG1.out (parseVal l) HU.out)
                          have hG := fun w => ref_gap U[m] w
                          rw [hg] at hG
                          have HG := Lib.hid hG
                          have hmi : ((U.size : Int) - 1) = (m : Int) := by omega
                          have hpos : 0 < U.size := by omega
                          have HM := Lib.hid hm
                          clear hG hg hcont hm
                          go_wp2_with (go_at_call 75; refine (HG.out _).mono ?_; rintro e w' ⟨rfl, rfl⟩)
                          go_round
                          case rel => exact ⟨_, rfl, by rw [ByteArray.size_extract]; omega, Lib.hid Hn.out.1, Lib.hid Hn.out.2⟩
                          case measure => simp [strN]; omega
                        · have HF : Hid (bs (parseVal l) = U) := Lib.hid (by rw [← HU.out, trimS_done _ HG1.out (by simpa using hcont), bs_self])
                          have hgn := lastGap_neg U (by simpa using hcont)
                          clear hcont
                          by_cases hpos : 0 < U.size
                          case' pos =>
                            obtain ⟨m, hm⟩ : ∃ m, U.size = m + 1 := ⟨U.size - 1, by omega⟩
                            have hlt2 : m < U.size := by omega
                            have hG := fun w => ref_gap U[m] w
                            rw [hgn m hm hlt2] at hG
                            have HG := Lib.hid hG
                            have hmi : ((U.size : Int) - 1) = (m : Int) := by omega
                            have HM := Lib.hid hm
                            clear hG hgn hm
                            go_wp2_with (go_at_call 75; refine (HG.out _).mono ?_; rintro e w' ⟨rfl, rfl⟩)
                          case' neg =>
                            have t0 : decide ((U.size : Int) > 0) = false := decide_eq_false (by omega)
                            clear hgn
                            go_wp2_with fail
                          all_goals
                            refine ret_field (b := w.heap.size) (x := .string N) (y := .string U) rfl (load_ref _ _ _ _ _ (two_set hbox _ _)) rfl rfl rfl ?_
                            refine ⟨?_, two_below (((Below.refl _ _).alloc (Nat.le_refl _) _).trans (hb.mono (by simp))) _ (Nat.le_refl _) _ _⟩
                            rw [HP.out.1, HP.out.2.1, HP.out.2.2, HF.out, ← HNN.out]; rfl
      · have t1 : ((s[k].toNat : Int) != 58) = true := by
          rw [bne_iff_ne]; intro e; exact h58 (UInt8.toNat_inj.1 (by show _ = 58; omega))
        have H : Hid (∀ j, j < k + 1 → ∀ hj : j < s.size, s[j]'hj ≠ 58) := Lib.hid (fun j hj hjs => by
          by_cases e : j = k
          · subst e; exact h58
          · exact Hall.out j (by omega) hjs)
        clear Hall h58
        go_wp2_with fail
        go_round
        case rel => exact ⟨k + 1, by omega, by go_num, H⟩
        case measure => simp [intOf]; omega
    · have ha : (ahead l).length = k := by rw [HL.out]; exact ahead_upto s k hk Hall.out (fun h => absurd h hlt)
      have hks : k = s.size := by omega
      have HP := Lib.hid (H4.out (by unfold parseOk; rw [decide_eq_false (by omega), Bool.and_false, Bool.false_and]))
      clear ha Hall
      subst hks
      generalize hpb : (l.all (fun c => plainB c.toNat)) = pb at HPl
      clear hpb
      cases pb
      all_goals
        go_wp2_with (go_at_call 72; refine (HPl.out _).mono ?_; rintro e w' ⟨rfl, rfl⟩)
        refine ret_field (b := w.heap.size) (x := .string ⟨#[]⟩) (y := .string ⟨#[]⟩) rfl (load_ref _ _ _ _ _ (heap_alloc_new w _)) rfl rfl rfl ?_
        refine ⟨?_, (Below.refl _ _).alloc (Nat.le_refl _) _⟩
        rw [HP.out.1, HP.out.2.1, HP.out.2.2]; rfl
end Go.Proofs.YthcomjhpjlcpdaaGreatDoor
namespace Go.Proofs.YthcomjhpjlcpdaaGreatDoor
open Go.RowKit
theorem bs_byte (l : List UInt8) (s : ByteArray) (k : Nat) (h : k < s.size) : bs l ++ s.extract k (k + 1) = bs (l ++ [s[k]]) := by
  have e : s.extract k (k + 1) = bs [s[k]] := by
    rw [extract_bs]
    congr 1
    have hl : k < s.data.toList.length := by rw [size_len]; exact h
    rw [List.take_succ_eq_append_getElem hl, List.drop_append_of_le_length (by rw [List.length_take]; omega), List.drop_take]
    simp
    rfl
  rw [e]
  apply ByteArray.ext
  apply Array.toList_inj.1
  simp [bs]
set_option maxRecDepth 100000 in
set_option maxHeartbeats 2000000 in
theorem ref_clean (s : ByteArray) (w : World) (hs : s.size ≤ 1000000) :
    Calls Tryz.prog 43 #[.string s] w fun e w' => e = .returned (.string (bs (cleanL s.data.toList))) ∧ w' = w := by
  go_enter Tryz.func43, Tryz.ntmps43
  go_wp2_with fail
  go_loopg [3, 4] s.size (fun gk s3 s4 wr => ∃ k : Nat, k + gk = s.size ∧ s3 = .string (bs (cleanL (s.data.toList.take k))) ∧ s4 = .int .i64 (k : Int) ∧ wr = w)
  case atStart => exact ⟨0, by omega, rfl, rfl, rfl⟩
  case round =>
    obtain ⟨k, hgk, rfl, rfl, rfl⟩ := hrel
    cases gk with
    | zero =>
      obtain rfl : k = s.size := by omega
      rw [List.take_of_length_le (by rw [size_len]; exact Nat.le_refl _)]
      go_wp2_with fail
      go_ret
      exact ⟨rfl, rfl⟩
    | succ gm =>
      have hk : k < s.size := by omega
      have hkl : k < s.data.toList.length := by rw [size_len]; exact hk
      have hki : (k : Int) < (s.size : Int) := by omega
      have hst := clean_step s.data.toList k hkl
      obtain ⟨b, hbx⟩ : ∃ b : UInt8, s[k]'hk = b := ⟨_, rfl⟩
      have hbl : s.data.toList[k] = b := by rw [← hbx]; rfl
      rw [hbl] at hst
      have hwk : IntKind.i64.wrap ((k : Int) + 1) = (k : Int) + 1 := by rw [IntKind.wrap_i64]; omega
      by_cases hbad : badB b = true
      · rw [if_pos hbad, List.append_nil] at hst
        have HST := Lib.hid hst
        generalize hQ : bs (cleanL (s.data.toList.take k)) = Q
        have HQ := Lib.hid hQ
        clear hst hbl hQ
        unfold badB at hbad
        rw [Bool.or_eq_true, beq_iff_eq, beq_iff_eq] at hbad
        rcases hbad with rfl | rfl
        all_goals
          go_wp2_with fail
          go_roundg gm
          case measure => omega
          case rel => exact ⟨k + 1, by omega, by rw [HST.out, HQ.out], rfl, rfl⟩
      · rw [if_neg hbad] at hst
        have hle : (cleanL (s.data.toList.take k)).length ≤ s.size := Nat.le_trans (cleanL_len _) (by rw [List.length_take, size_len]; omega)
        have hadd := bs_byte (cleanL (s.data.toList.take k)) s k hk
        rw [hbx, ← hst] at hadd
        have HADD := Lib.hid hadd
        have hqs : (bs (cleanL (s.data.toList.take k))).size ≤ s.size := by rw [bs_size]; exact hle
        generalize bs (cleanL (s.data.toList.take k)) = Q at HADD hqs
        have he : (s.extract k (k + 1)).size ≤ 1000000 := by rw [ByteArray.size_extract]; omega
        have padd := fun w => run_string_add_sum (P := Tryz.prog) w Q (s.extract k (k + 1)) (by omega)
        unfold badB at hbad
        rw [Bool.or_eq_true, beq_iff_eq, beq_iff_eq] at hbad
        have h10 : b.toNat ≠ 10 := fun e => hbad (.inl (UInt8.toNat_inj.1 e))
        have h13 : b.toNat ≠ 13 := fun e => hbad (.inr (UInt8.toNat_inj.1 e))
        have t10 : ((b.toNat : Int) != 10) = true := by rw [bne_iff_ne]; omega
        have t13 : ((b.toNat : Int) != 13) = true := by rw [bne_iff_ne]; omega
        have u10 : ¬ ((b.toNat : Int) = 10) := by omega
        have u13 : ¬ ((b.toNat : Int) = 13) := by omega
        have hk1 : (k : Int) + 1 ≤ (s.size : Int) := by omega
        clear hst hbl hbad hadd hle
        go_wp2_with fail
        go_roundg gm
        case measure => omega
        case rel => exact ⟨k + 1, by omega, by rw [← HADD.out], rfl, rfl⟩
theorem put_bytes (s t : ByteArray) (k b l : Nat) (hb : atF s k = (b : Int)) (hl : (takeLine s (b : Int)).size = l) : s.extract 0 b ++ t ++ s.extract (b + l) s.size = bs (putF s k t.data.toList) := by
  apply ByteArray.ext
  apply Array.toList_inj.1
  rw [bs_data]
  unfold putF
  rw [hb, hl, Int.toNat_natCast, ByteArray.data_append, ByteArray.data_append, Array.toList_append, Array.toList_append, Go.Lib.extract_data, Go.Lib.extract_data]
  simp only [List.drop_zero, Nat.sub_zero]
  congr 1
  exact List.take_of_length_le (by rw [List.length_drop, size_len]; omega)
set_option maxRecDepth 100000 in
set_option maxHeartbeats 2000000 in
theorem ref_line (s t : ByteArray) (k : Nat) (w : World) (hs : s.size ≤ 1000000) (ht : t.size ≤ 1000000) (hk : k ≤ 1000000) :
    Calls Tryz.prog 42 #[.string s, .int .i64 (k : Int), .string t] w fun e w' => e = .returned (.string (bs (putF s k t.data.toList))) ∧ Below w.heap.size w w' := by
  have HT := Lib.hid (fun a w => ref_take s a w (by omega))
  obtain ⟨b, hb, hbs⟩ := atF_in s k
  obtain ⟨-, -, -, hl0⟩ := take_in s b hbs
  obtain ⟨l, hl⟩ : ∃ l, (takeLine s (b : Int)).size = l := ⟨_, rfl⟩
  have hR := put_bytes s t k b l hb hl
  rw [hl] at hl0
  have HR := Lib.hid hR
  have HL := Lib.hid hl
  have HBE := Lib.hid hb
  have hbi : (b : Int) ≤ (s.size : Int) := by omega
  have hli : (b : Int) + (l : Int) ≤ (s.size : Int) := by omega
  have hwl : IntKind.i64.wrap ((b : Int) + (l : Int)) = (b : Int) + (l : Int) := by rw [IntKind.wrap_i64]; omega
  have x1 : (s.extract 0 b).size ≤ 1000000 := by rw [ByteArray.size_extract]; omega
  have x2 : (s.extract (b + l) s.size).size ≤ 1000000 := by rw [ByteArray.size_extract]; omega
  have padd1 := fun w => run_string_add_sum (P := Tryz.prog) w (s.extract 0 b) t (by omega)
  have padd2 := fun w => run_string_add_sum (P := Tryz.prog) w (s.extract 0 b ++ t) (s.extract (b + l) s.size) (by rw [ByteArray.size_append]; omega)
  have hn : ((b : Int) + (l : Int)).toNat = b + l := by omega
  clear hR hl hb
  go_enter Tryz.func42, Tryz.ntmps42
  go_wp2_with fail
  go_loopg [7, 8] k (fun gk s7 s8 wr => ∃ i : Nat, i + gk = k ∧ s7 = .int .i64 (atF s i) ∧ s8 = .int .i64 (i : Int) ∧ wr = w)
  case atStart => exact ⟨0, by omega, rfl, rfl, rfl⟩
  case round =>
    obtain ⟨i, hgk, rfl, rfl, rfl⟩ := hrel
    cases gk with
    | zero =>
      obtain rfl : i = k := by omega
      rw [HBE.out]
      go_wp2_with (go_at_call 69; refine (HT.out _ _).mono ?_; rintro e w' ⟨rfl, rfl⟩; have hlz := HL.out; generalize takeLine s (b : Int) = LN at hlz)
      go_quiet (fail)
      go_wp2_with fail
      go_ret
      exact ⟨ret_str HR.out, ⟨rfl, rfl, rfl, Nat.le_refl _, fun _ _ => rfl⟩⟩
    | succ gm =>
      have hki : (i : Int) < (k : Int) := by omega
      have hwk : IntKind.i64.wrap ((i : Int) + 1) = (i : Int) + 1 := by rw [IntKind.wrap_i64]; omega
      clear padd1 padd2
      go_wp2_with (go_at_call 69; refine (HT.out _ _).mono ?_; rintro e w' ⟨rfl, rfl⟩)
      go_roundg gm
      case measure => omega
      case rel => exact ⟨i + 1, by omega, rfl, rfl, rfl⟩
set_option maxRecDepth 100000 in
set_option maxHeartbeats 2000000 in
theorem fault_put (s t : ByteArray) (k : Nat) (w : World) (hs : s.size ≤ 1000000) (ht : t.size ≤ 1000000) (hk : k ≤ 1000000) :
    Calls Tryz.prog 95 #[.string s, .int .i64 (k : Int), .string t] w fun e w' => e = .returned (.string (bs (putF s k t.data.toList))) ∧ Below w.heap.size w w' := by
  have HT := Lib.hid (fun a w => lines_take s a w (by omega))
  obtain ⟨b, hb, hbs⟩ := atF_in s k
  obtain ⟨-, -, -, hl0⟩ := take_in s b hbs
  obtain ⟨l, hl⟩ : ∃ l, (takeLine s (b : Int)).size = l := ⟨_, rfl⟩
  have hR := put_bytes s t k b l hb hl
  rw [hl] at hl0
  have HR := Lib.hid hR
  have HL := Lib.hid hl
  have HBE := Lib.hid hb
  have hbi : (b : Int) ≤ (s.size : Int) := by omega
  have hli : (b : Int) + (l : Int) ≤ (s.size : Int) := by omega
  have hwl : IntKind.i64.wrap ((b : Int) + (l : Int)) = (b : Int) + (l : Int) := by rw [IntKind.wrap_i64]; omega
  have x1 : (s.extract 0 b).size ≤ 1000000 := by rw [ByteArray.size_extract]; omega
  have x2 : (s.extract (b + l) s.size).size ≤ 1000000 := by rw [ByteArray.size_extract]; omega
  have padd1 := fun w => run_string_add_sum (P := Tryz.prog) w (s.extract 0 b) t (by omega)
  have padd2 := fun w => run_string_add_sum (P := Tryz.prog) w (s.extract 0 b ++ t) (s.extract (b + l) s.size) (by rw [ByteArray.size_append]; omega)
  have hn : ((b : Int) + (l : Int)).toNat = b + l := by omega
  clear hR hl hb
  go_enter Tryz.func95, Tryz.ntmps95
  go_wp2_with fail
  go_loopg [7, 12] k (fun gk s7 s8 wr => ∃ i : Nat, i + gk = k ∧ s7 = .int .i64 (atF s i) ∧ s8 = .int .i64 (i : Int) ∧ wr = w)
  case atStart => exact ⟨0, by omega, rfl, rfl, rfl⟩
  case round =>
    obtain ⟨i, hgk, rfl, rfl, rfl⟩ := hrel
    cases gk with
    | zero =>
      obtain rfl : i = k := by omega
      rw [HBE.out]
      go_wp2_with (go_at_call 63; refine (HT.out _ _).mono ?_; rintro e w' ⟨rfl, rfl⟩; have hlz := HL.out; generalize takeLine s (b : Int) = LN at hlz)
      go_quiet (fail)
      go_wp2_with fail
      go_ret
      exact ⟨ret_str HR.out, ⟨rfl, rfl, rfl, Nat.le_refl _, fun _ _ => rfl⟩⟩
    | succ gm =>
      have hki : (i : Int) < (k : Int) := by omega
      have hwk : IntKind.i64.wrap ((i : Int) + 1) = (i : Int) + 1 := by rw [IntKind.wrap_i64]; omega
      clear padd1 padd2
      go_wp2_with (go_at_call 63; refine (HT.out _ _).mono ?_; rintro e w' ⟨rfl, rfl⟩)
      go_roundg gm
      case measure => omega
      case rel => exact ⟨i + 1, by omega, rfl, rfl, rfl⟩
end Go.Proofs.YthcomjhpjlcpdaaGreatDoor
