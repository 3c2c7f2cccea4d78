/- What Print of the reference of fields returns. What Over of the reference of fields returns. Whether two replies of the document are the same. What the laws' Own and Back make of fields and of replies. What Over and Print of the reference of reply return. What Parse of the reference of reply returns. What the laws' Own and Back make of replies. -/
import Derived.Test.YtiljjkdpjbffbaaGreatDoorPk7
import Derived.BigQuiet
import Derived.Outline
import Derived.Deep.RegionHeld3
set_option linter.unusedVariables false
namespace Go.Proofs.YtiljjkdpjbffbaaGreatDoor
open Go.RowKit

theorem conv_int (W : World) (z : Int) (c : UInt8) (h : z = (c.toNat : Int)) : (convert 86 9 (.slice (some ⟨W.heap.size, 0, none⟩) 1 1)).run Tryz.prog (W.alloc (.cells #[.int .u8 z] 5)) = .ok (.string ⟨#[c]⟩) (W.alloc (.cells #[.int .u8 z] 5)) := by
  subst h; exact conv_one W c
/-- does a part of a name begin at a place? -/
def begAt (N : List UInt8) (i : Nat) : Bool := match i with | 0 => true | m + 1 => match N[m]? with | none => true | some c => stB c
theorem titL_succ (N : List UInt8) (i : Nat) (h : i < N.length) : titL true (N.take (i + 1)) = titL true (N.take i) ++ [UInt8.ofNat (titN (begAt N i) N[i].toNat)] := by
  rw [List.take_succ_eq_append_getElem h, titL_append]
  congr 1
  show [UInt8.ofNat (titN _ _)] = _
  congr 3
  cases i with
  | zero => rfl
  | succ m =>
    have : (N.take (m + 1)).getLast? = some (N[m]'(by omega)) := by
      rw [List.take_succ_eq_append_getElem (by omega), List.getLast?_append]; rfl
    rw [this]
    show _ = (match N[m]? with | none => true | some c => stB c)
    rw [List.getElem?_eq_getElem (by omega)]
theorem tit_keep (c : UInt8) (b : Bool) (h : (b && letN c.toNat) = false) : UInt8.ofNat (titN b c.toNat) = c := by
  unfold titN; rw [h, if_neg (by decide)]; exact UInt8.ofNat_toNat
theorem tit_up (c : UInt8) (b : Bool) (h : (b && letN c.toNat) = true) (h2 : 97 ≤ c.toNat) : (UInt8.ofNat (titN b c.toNat)).toNat = c.toNat - 32 := by
  unfold titN; rw [if_pos h, UInt8.toNat_ofNat']; have := c.toNat_lt; omega

set_option maxRecDepth 100000 in
set_option maxHeartbeats 4000000 in
theorem ref_fprint (n v : ByteArray) (w : World) (hn : n.size ≤ 1000000) (hv : v.size ≤ 1000000) :
    Calls Tryz.prog 28 #[.agg #[.string n, .string v]] w fun e w' => e = .returned (.tuple #[.string (bs (fieldS n.data.toList v.data.toList)), .int .i64 (fieldE n.data.toList v.data.toList)]) ∧ Below w.heap.size w w' := by
  have HNm := Lib.hid (fun w => ref_name n w (by omega))
  have HPl := Lib.hid (fun w => ref_fplain v w (by omega))
  obtain ⟨N, hN⟩ : ∃ N, N = n.data.toList := ⟨_, rfl⟩
  obtain ⟨V, hV⟩ : ∃ V, V = v.data.toList := ⟨_, rfl⟩
  rw [← hN] at HNm
  rw [← hV] at HPl
  rw [← hN, ← hV]
  have HNV := Lib.hid (And.intro hN hV)
  clear hN hV
  have box := box_cells w n v 59
  have hb0 := below_box2 w (.string n) (.string v) 59
  have hbl : w.heap.size < (w.alloc (.cells #[.string n, .string v] 59)).heap.size := by simp
  obtain ⟨k0, k1⟩ := box
  cases h1 : nameL N with
  | false =>
    have HF := Lib.hid (fieldE_not N V (by unfold printOk; rw [h1]; rfl))
    rw [h1] at HNm
    clear h1 HPl
    go_enter Tryz.func28, Tryz.ntmps28
    go_wp2_with (go_at_call 53; refine (HNm.out _).mono ?_; rintro e w' ⟨rfl, rfl⟩)
    go_ret2
    exact ⟨ret_pair (by rw [HF.out.2]; rfl) (by rw [HF.out.1]; rfl), hb0⟩
  | true =>
    rw [h1] at HNm
    have hn1 := Lib.hid h1
    clear h1
    cases h2 : (V.all fun c => plainB c.toNat) with
    | false =>
      have HF := Lib.hid (fieldE_not N V (by unfold printOk plainAll; rw [h2, Bool.and_false]; rfl))
      rw [h2] at HPl
      clear h2
      go_enter Tryz.func28, Tryz.ntmps28
      go_wp2_with (first
        | (go_at_call 53; refine (HNm.out _).mono ?_; rintro e w' ⟨rfl, rfl⟩)
        | (go_at_call 54; refine (HPl.out _).mono ?_; rintro e w' ⟨rfl, rfl⟩))
      go_ret2
      exact ⟨ret_pair (by rw [HF.out.2]; rfl) (by rw [HF.out.1]; rfl), hb0⟩
    | true =>
      rw [h2] at HPl
      have hp1 := Lib.hid h2
      clear h2
      by_cases hpos : 0 < v.size
      case' pos =>
        obtain ⟨m, hm⟩ : ∃ m, v.size = m + 1 := ⟨v.size - 1, by omega⟩
        have hlm : m < v.size := by omega
        have hmi : ((v.size : Int) - 1) = (m : Int) := by omega
        have hg0 : headGap V = gapB v[0] := by rw [HNV.out.2, drop_one v hpos]; rfl
        have hgm : headGap V.reverse = gapB v[m] := by rw [HNV.out.2, drop_last v m hm, List.reverse_append]; rfl
        have HG0 := Lib.hid (fun w => ref_gap v[0] w)
        have HGm := Lib.hid (fun w => ref_gap v[m] w)
        have HM := Lib.hid hm
        clear hm
        rw [← hg0] at HG0
        rw [← hgm] at HGm
        clear hg0 hgm
        cases h3 : headGap V
        case true =>
          have HF := Lib.hid (fieldE_not N V (by unfold printOk noGap; rw [h3]; simp))
          rw [h3] at HG0
          clear h3
          go_enter Tryz.func28, Tryz.ntmps28
          go_wp2_with (first
            | (go_at_call 53; refine (HNm.out _).mono ?_; rintro e w' ⟨rfl, rfl⟩)
            | (go_at_call 54; refine (HPl.out _).mono ?_; rintro e w' ⟨rfl, rfl⟩)
            | (go_at_call 55; refine (HG0.out _).mono ?_; rintro e w' ⟨rfl, rfl⟩))
          go_ret2
          exact ⟨ret_pair (by rw [HF.out.2]; rfl) (by rw [HF.out.1]; rfl), hb0⟩
        case' false =>
          rw [h3] at HG0
          cases h4 : headGap V.reverse
          case true =>
            have HF := Lib.hid (fieldE_not N V (by unfold printOk noGap; rw [h4]; simp))
            rw [h4] at HGm
            clear h3 h4
            go_enter Tryz.func28, Tryz.ntmps28
            go_wp2_with (first
              | (go_at_call 53; refine (HNm.out _).mono ?_; rintro e w' ⟨rfl, rfl⟩)
              | (go_at_call 54; refine (HPl.out _).mono ?_; rintro e w' ⟨rfl, rfl⟩)
              | fail)
            refine (HG0.out _).mono ?_
            rintro e w' ⟨rfl, rfl⟩
            go_wp2_with fail
            refine (HGm.out _).mono ?_
            rintro e w' ⟨rfl, rfl⟩
            go_wp2_with fail
            go_ret2
            exact ⟨ret_pair (by rw [HF.out.2]; rfl) (by rw [HF.out.1]; rfl), hb0⟩
          case' false =>
            rw [h4] at HGm
            have hok : Hid (printOk N V = true) := Lib.hid (by unfold printOk noGap; rw [hn1.out, h3, h4]; rw [show plainAll V = true from hp1.out]; rfl)
            clear h3 h4
            go_enter Tryz.func28, Tryz.ntmps28
            go_wp2_with (first
              | (go_at_call 53; refine (HNm.out _).mono ?_; rintro e w' ⟨rfl, rfl⟩)
              | (go_at_call 54; refine (HPl.out _).mono ?_; rintro e w' ⟨rfl, rfl⟩)
              | fail)
            refine (HG0.out _).mono ?_
            rintro e w' ⟨rfl, rfl⟩
            go_wp2_with fail
            refine (HGm.out _).mono ?_
            rintro e w' ⟨rfl, rfl⟩
            go_wp2_with fail
            clear HG0 HGm hmi HM
      case' neg =>
        have hok : Hid (printOk N V = true) := Lib.hid (by
          have hV0 : V = [] := List.length_eq_zero_iff.1 (by rw [HNV.out.2, size_len]; omega)
          unfold printOk; rw [hn1.out, show plainAll V = true from hp1.out, hV0]; rfl)
        have t0 : decide ((v.size : Int) > 0) = false := decide_eq_false (by omega)
        go_enter Tryz.func28, Tryz.ntmps28
        go_wp2_with (first
          | (go_at_call 53; refine (HNm.out _).mono ?_; rintro e w' ⟨rfl, rfl⟩)
          | (go_at_call 54; refine (HPl.out _).mono ?_; rintro e w' ⟨rfl, rfl⟩))
        clear t0
      all_goals
        clear HPl HNm
        have H5 := fieldE_yes N V hok.out
        have HY := Lib.hid H5
        clear H5
        have hlN : N.length = n.size := by rw [HNV.out.1]; exact size_len n
        have hlV : V.length = v.size := by rw [HNV.out.2]; exact size_len v
        go_loopw [5, 6] (fun s i wr => ∃ k : Nat, k ≤ n.size ∧ i = .int .i64 k ∧ s = .string (bs (titL true (N.take k))) ∧ Below (w.alloc (.cells #[.string n, .string v] 59)).heap.size (w.alloc (.cells #[.string n, .string v] 59)) wr) (fun _ i _ => n.size - (intOf i).toNat)
        case atStart => exact ⟨0, by omega, rfl, rfl, Below.refl _ _⟩
        case round =>
          obtain ⟨k, hk, rfl, rfl, hb⟩ := hrel
          have k0' := (hb.cell (p := ⟨w.heap.size, 0, none⟩) hbl).trans k0
          by_cases hlt : k < n.size
          · have hNk : N[k]'(by omega) = n[k] := by have := HNV.out.1; subst this; rfl
            have hX := titL_succ N k (by omega)
            rw [hNk] at hX
            have hsz : (bs (titL true (N.take k))).size + 1 ≤ 9223372036854775807 := by rw [bs_size, titL_len, List.length_take]; omega
            have hst : Hid (bs (titL true (N.take k)) ++ ⟨#[UInt8.ofNat (titN (begAt N k) n[k].toNat)]⟩ = bs (titL true (N.take (k + 1)))) := Lib.hid (by rw [hX, bs_snoc])
            clear hX hNk
            have hone : ∀ X : UInt8, (ByteArray.mk #[X]).size = 1 := fun _ => rfl
            obtain ⟨S, hS⟩ : ∃ S, S = bs (titL true (N.take k)) := ⟨_, rfl⟩
            rw [← hS] at hst hsz ⊢
            clear hS
            by_cases c1 : n[k].toNat < 97
            case' pos =>
              have e := tit_keep n[k] (begAt N k) (by rw [letN_lo _ c1, Bool.and_false])
              rw [e] at hst
              have hcv := conv_one wr n[k]
              have t1 : decide ((n[k].toNat : Int) ≥ 97) = false := decide_eq_false (by omega)
              clear e
            case' neg =>
              by_cases c2 : 122 < n[k].toNat
              case' pos =>
                have e := tit_keep n[k] (begAt N k) (by rw [letN_hi _ c2, Bool.and_false])
                rw [e] at hst
                have hcv := conv_one wr n[k]
                have t1 : decide ((n[k].toNat : Int) ≤ 122) = false := decide_eq_false (by omega)
                clear e
              case' neg =>
                have hlet := letN_in n[k].toNat (by omega) (by omega)
                have t1 : decide ((n[k].toNat : Int) ≤ 122) = true := decide_eq_true (by omega)
                have t0 : 97 ≤ n[k].toNat := by omega
                rcases Nat.eq_zero_or_pos k with hz | hp
                case' inl =>
                  subst hz
                  have e := tit_up n[0] true (by rw [hlet]; rfl) t0
                  have hcv := conv_int wr ((n[0].toNat : Int) - 32) (UInt8.ofNat (titN true n[0].toNat)) (by rw [e]; omega)
                  change Hid (S ++ ⟨#[UInt8.ofNat (titN true n[0].toNat)]⟩ = _) at hst
                  clear e hlet
                case' inr =>
                  obtain ⟨m, rfl⟩ : ∃ m, k = m + 1 := ⟨k - 1, by omega⟩
                  have hm : m < n.size := by omega
                  have hbm : begAt N (m + 1) = stB n[m] := by
                    show (match N[m]? with | none => true | some c => stB c) = _
                    rw [List.getElem?_eq_getElem (by omega)]
                    have := HNV.out.1; subst this; rfl
                  rw [hbm] at hst
                  clear hbm hp
                  by_cases c45 : n[m].toNat = 45
                  case' pos =>
                    have hs : stB n[m] = true := by unfold stB; rw [c45]; rfl
                    have t2 : ((n[m].toNat : Int) == 45) = true := by rw [c45]; rfl
                    rw [hs] at hst
                    have e := tit_up n[m + 1] true (by rw [hlet]; rfl) t0
                    have hcv := conv_int wr ((n[m + 1].toNat : Int) - 32) (UInt8.ofNat (titN true n[m + 1].toNat)) (by rw [e]; omega)
                    clear e hlet hs c45
                  case' neg =>
                    have t2 : ((n[m].toNat : Int) == 45) = false := by rw [beq_eq_false_iff_ne]; omega
                    have hs : stB n[m] = false := t2
                    rw [hs] at hst
                    have e := tit_keep n[m + 1] false rfl
                    rw [e] at hst
                    have hcv := conv_one wr n[m + 1]
                    clear e hlet hs c45
            all_goals
              go_wp2_with fail
              go_roundw
              case rel =>
                first
                  | exact ⟨k + 1, by omega, by go_num, by rw [hst.out], hb.trans (((Below.refl _ _).alloc (Nat.le_refl _) _).mono hb.size)⟩
                  | exact ⟨m + 1 + 1, by omega, by go_num, by rw [hst.out], hb.trans (((Below.refl _ _).alloc (Nat.le_refl _) _).mono hb.size)⟩
                  | exact ⟨1, by omega, by go_num, by rw [hst.out], hb.trans (((Below.refl _ _).alloc (Nat.le_refl _) _).mono hb.size)⟩
              case measure => simp [intOf]; omega
          · obtain rfl : k = n.size := by omega
            have hall : N.take n.size = N := List.take_of_length_le (by omega)
            rw [hall]
            have hlA : (bs (titL true N)).size = n.size := by rw [bs_size, titL_len, hlN]
            have hpL : (printL N V).length = n.size + 1 + (tailV V).length := by unfold printL; rw [List.length_append, titL_len, List.length_cons, hlN]; omega
            obtain ⟨A, hA⟩ : ∃ A, A = bs (titL true N) := ⟨_, rfl⟩
            rw [← hA] at hlA ⊢
            have hA1 : A.size ≤ 1000000 := by omega
            have z1 : (ByteArray.mk #[58]).size = 1 := rfl
            have z2 : (ByteArray.mk #[32]).size = 1 := rfl
            have zz : ∀ X Y : ByteArray, (X ++ Y).size = X.size + Y.size := fun X Y => ByteArray.size_append
            by_cases hv2 : 0 < v.size
            · first
                | (exfalso; omega)
                | (
                  have e : A ++ ⟨#[58]⟩ ++ ⟨#[32]⟩ ++ v = bs (printL N V) := by
                    have hv3 : v = bs V := by rw [HNV.out.2, bs_self]
                    rw [hA, bs_snoc, bs_snoc, hv3, bs_cat]
                    congr 1
                    unfold printL tailV
                    rw [show V.isEmpty = false from by rw [Bool.eq_false_iff, Ne, List.isEmpty_iff]; intro e; rw [e] at hlV; exact absurd hlV (by simp; omega)]
                    simp
                  have hsz : (A ++ ⟨#[58]⟩ ++ ⟨#[32]⟩ ++ v).size = A.size + 1 + 1 + v.size := by rw [zz, zz, zz]; rfl
                  have hle : (printL N V).length = A.size + 1 + 1 + v.size := by rw [← hsz, e, bs_size]
                  have HE := Lib.hid e
                  have t1 : decide ((v.size : Int) > 0) = true := decide_eq_true (by omega)
                  clear hA hall hlA e hsz hpL
                  have q1 : A.size + 1 ≤ 9223372036854775807 := by omega
                  have q2 : A.size + 1 + 1 ≤ 9223372036854775807 := by omega
                  have q3 : A.size + 1 + 1 + v.size ≤ 9223372036854775807 := by omega
                  by_cases hlong : 256 < A.size + 1 + 1 + v.size
                  · have HF := Lib.hid (HY.out.1 (by omega))
                    clear hle
                    go_wp2_with fail
                    go_ret2
                    exact ⟨ret_pair (by rw [HF.out.2]; rfl) (by rw [HF.out.1]; rfl), hb0.trans (hb.mono (by simp))⟩
                  · have HF := Lib.hid (HY.out.2 (by omega))
                    clear hle
                    go_wp2_with fail
                    go_ret2
                    exact ⟨ret_pair (by rw [HF.out.2, ← HE.out]) (by rw [HF.out.1]; rfl), hb0.trans (hb.mono (by simp))⟩)
            · first
                | (exfalso; omega)
                | (
                  have e : A ++ ⟨#[58]⟩ = bs (printL N V) := by
                    rw [hA, bs_snoc]
                    congr 1
                    unfold printL tailV
                    rw [show V = [] from List.length_eq_zero_iff.1 (by omega)]
                    rfl
                  have hsz : (A ++ ⟨#[58]⟩).size = A.size + 1 := by rw [zz]; rfl
                  have hle : (printL N V).length = A.size + 1 := by rw [← hsz, e, bs_size]
                  have HE := Lib.hid e
                  have t1 : decide ((v.size : Int) > 0) = false := decide_eq_false (by omega)
                  clear hA hall hlA e hsz hpL
                  have q1 : A.size + 1 ≤ 9223372036854775807 := by omega
                  by_cases hlong : 256 < A.size + 1
                  · have HF := Lib.hid (HY.out.1 (by omega))
                    clear hle
                    go_wp2_with fail
                    go_ret2
                    exact ⟨ret_pair (by rw [HF.out.2]; rfl) (by rw [HF.out.1]; rfl), hb0.trans (hb.mono (by simp))⟩
                  · have HF := Lib.hid (HY.out.2 (by omega))
                    clear hle
                    go_wp2_with fail
                    go_ret2
                    exact ⟨ret_pair (by rw [HF.out.2, ← HE.out]) (by rw [HF.out.1]; rfl), hb0.trans (hb.mono (by simp))⟩)
end Go.Proofs.YtiljjkdpjbffbaaGreatDoor
namespace Go.Proofs.YtiljjkdpjbffbaaGreatDoor
open Go.RowKit

def longF (f : List UInt8 × List UInt8) : Bool := decide (400 < f.1.length) || decide (400 < f.2.length)
def overF (fs : List (List UInt8 × List UInt8)) (most : Int) : Bool := fs.any longF || decide (most < (fs.length : Int))

set_option maxRecDepth 100000 in
set_option maxHeartbeats 2000000 in
theorem ref_over (v : Value) (fs : List (List UInt8 × List UInt8)) (most : Int) (w : World) (hv : HoldsF w v fs) (hlen : fs.length ≤ 9223372036854775807) :
    Calls Tryz.prog 17 #[v, .int .i64 most] w fun e w' => e = .returned (.bool (overF fs most)) ∧ w' = w := by
  obtain ⟨a, c, rfl, hc, hx⟩ := hv
  have HX := Lib.hid hx
  clear hx
  go_enter Tryz.func17, Tryz.ntmps17
  go_wp2_with fail
  go_loop [5] (fun i => ∃ k : Nat, k ≤ fs.length ∧ i = .int .i64 k ∧ Hid ((fs.take k).any longF = false)) (fun i => fs.length - (intOf i).toNat)
  case atStart => exact ⟨0, by omega, rfl, Lib.hid rfl⟩
  case round =>
    obtain ⟨k, hk, rfl, Hst⟩ := hrel
    by_cases hlt : k < fs.length
    · obtain ⟨b, o, rfl, hbl, hcell⟩ := HX.out (fun e => by rw [e] at hlt; exact absurd hlt (Nat.not_lt_zero _))
      have c0 := (hcell k hlt).1
      have c1 := (hcell k hlt).2
      clear hcell
      have hstep : (fs.take (k + 1)).any longF = longF fs[k] := by
        rw [List.take_succ_eq_append_getElem hlt, List.any_append, Hst.out]; simp
      have hover : longF fs[k] = true → overF fs most = true := fun h => by
        unfold overF
        rw [List.any_eq_true.2 ⟨fs[k], List.getElem_mem hlt, h⟩]; rfl
      have s0 : (bs fs[k].1).size = fs[k].1.length := bs_size _
      have s1 : (bs fs[k].2).size = fs[k].2.length := bs_size _
      by_cases h1 : 400 < fs[k].1.length
      · have H := Lib.hid (hover (by unfold longF; rw [decide_eq_true h1]; rfl))
        have z0 : 400 < (bs fs[k].1).size := by omega
        obtain ⟨X, hX⟩ : ∃ X, X = bs fs[k].1 := ⟨_, rfl⟩
        rw [← hX] at c0 z0
        clear hX hstep hover s0 s1 h1 Hst HX
        have t : decide ((X.size : Int) > 400) = true := by simp; omega
        go_wp2_with fail
        go_ret
        exact ⟨ret_bool H.out.symm, rfl⟩
      · by_cases h2 : 400 < fs[k].2.length
        · have H := Lib.hid (hover (by unfold longF; rw [decide_eq_true h2, Bool.or_true]))
          have z0 : (bs fs[k].1).size ≤ 400 := by omega
          have z1 : 400 < (bs fs[k].2).size := by omega
          obtain ⟨X, hX⟩ : ∃ X, X = bs fs[k].1 := ⟨_, rfl⟩
          obtain ⟨Y, hY⟩ : ∃ Y, Y = bs fs[k].2 := ⟨_, rfl⟩
          rw [← hX] at c0 z0
          rw [← hY] at c1 z1
          clear hX hY hstep hover s0 s1 h1 h2 Hst HX
          have t : decide ((X.size : Int) > 400) = false := by simp; omega
          have t2 : decide ((Y.size : Int) > 400) = true := by simp; omega
          go_wp2_with fail
          go_ret
          exact ⟨ret_bool H.out.symm, rfl⟩
        · have H := Lib.hid (hstep.trans (by unfold longF; rw [decide_eq_false h1, decide_eq_false h2, Bool.or_false]))
          have z0 : (bs fs[k].1).size ≤ 400 := by omega
          have z1 : (bs fs[k].2).size ≤ 400 := by omega
          obtain ⟨X, hX⟩ : ∃ X, X = bs fs[k].1 := ⟨_, rfl⟩
          obtain ⟨Y, hY⟩ : ∃ Y, Y = bs fs[k].2 := ⟨_, rfl⟩
          rw [← hX] at c0 z0
          rw [← hY] at c1 z1
          clear hX hY hstep hover s0 s1 h1 h2 Hst HX
          have t : decide ((X.size : Int) > 400) = false := by simp; omega
          have t2 : decide ((Y.size : Int) > 400) = false := by simp; omega
          go_wp2_with fail
          go_round
          case rel => exact ⟨k + 1, by omega, by go_num, H⟩
          case measure => simp [intOf]; omega
    · have H : Hid (overF fs most = decide (most < (fs.length : Int))) := Lib.hid (by
        have := Hst.out
        rw [List.take_of_length_le (by omega)] at this
        unfold overF; rw [this, Bool.false_or])
      clear Hst HX
      go_wp2_with fail
      go_ret
      exact ⟨ret_bool H.out.symm, rfl⟩
end Go.Proofs.YtiljjkdpjbffbaaGreatDoor
namespace Go.Proofs.YtiljjkdpjbffbaaGreatDoor
open Go.RowKit
theorem eq_rfield_in (d : Nat) (x y : List UInt8 × List UInt8) (w : World) : (Op.equalIn (d + 2) 59 (.agg (encF x).toArray) (.agg (encF y).toArray)).run Tryz.prog w = .ok (decide (x = y)) w := by
  have u3 := Tryz.underlying9
  have hS : Tryz.prog.underlying 59 = some (.struct (Tryz.prog.fieldsOf 59)) := by kernel_rfl
  have hp : Tryz.prog.stoodInHeld 59 = false := by kernel_rfl
  simp only [encF]
  rw [run_equalIn_agg w (d + 1) 59 _ _ hS hp]
  simp only [Program.fieldsOf, Tryz.underlying59]
  go_simp
  obtain ⟨x1, x2⟩ := x
  obtain ⟨y1, y2⟩ := y
  by_cases h1 : x1 = y1 <;> by_cases h2 : x2 = y2 <;> simp [h1, h2, bs_same]
theorem neq_rfield (x y : List UInt8 × List UInt8) (b : Bool) (h : decide (x = y) = !b) (w : World) : (binOp .neq 59 (.agg #[.string (bs x.1), .string (bs x.2)]) (.agg #[.string (bs y.1), .string (bs y.2)])).run Tryz.prog w = .ok (.bool b) w := by
  have := eq_rfield_in 9998 x y w
  simp only [encF] at this
  rw [run_neq_struct, show (10000 : Nat) = 9998 + 2 from rfl, this, h]
  cases b <;> rfl
theorem guard_rfield (op : BinOp) (x y : Operand) (xs ys : Array Value) (w : World) : (eqGuard op 59 x y (.agg xs) (.agg ys)).run Tryz.prog w = .ok () w :=
  run_eqGuard_agg w op 59 x y xs ys (by kernel_rfl)
def SameFPost (xs ys : List (List UInt8 × List UInt8)) (w : World) (e : Ending) (w' : World) : Prop := e = .returned (.bool (decide (xs = ys))) ∧ Below w.heap.size w w'
set_option maxRecDepth 100000 in
set_option maxHeartbeats 2000000 in
theorem ref_sameF (va vb : Value) (xs ys : List (List UInt8 × List UInt8)) (w : World) (hA : HoldsF w va xs) (hB : HoldsF w vb ys) (hx : xs.length ≤ 1000000) (hy : ys.length ≤ 1000000) :
    Calls Tryz.prog 30 #[va, vb] w (SameFPost xs ys w) := by
  obtain ⟨a, c, rfl, hc, hcx⟩ := hA
  obtain ⟨b, d, rfl, hd, hcy⟩ := hB
  have hgd := guard_rfield
  by_cases hl : xs.length = ys.length
  · have hlI : ((xs.length : Int) != (ys.length : Int)) = false := by rw [bne_eq_false_iff_eq]; omega
    go_enter Tryz.func30, Tryz.ntmps30
    have Hl := Lib.hid hl
    clear hl
    go_wp2_with fail
    go_loopw [5] (fun j wr => ∃ k : Nat, k ≤ xs.length ∧ j = .int .i64 k ∧ Below w.heap.size w wr ∧ Hid (∀ j, j < k → xs[j]? = ys[j]?)) (fun j _ => xs.length - (intOf j).toNat)
    case atStart => exact ⟨0, by omega, rfl, Below.refl _ _, Lib.hid (fun j hj => by omega)⟩
    case round =>
      obtain ⟨k, hk, rfl, hb, Hall⟩ := hrel
      by_cases hlt : k < xs.length
      · have hlt2 : k < ys.length := by rw [← Hl.out]; exact hlt
        obtain ⟨ba, oa, rfl, hba, hca⟩ := hcx (by intro h; rw [h] at hlt; simp at hlt)
        obtain ⟨bb, ob, rfl, hbb, hcb⟩ := hcy (by intro h; rw [h] at hlt2; simp at hlt2)
        have h1 := (hb.cell (p := ⟨ba, oa + k * 2, none⟩) hba).trans (hca k hlt).1
        have h1' := (hb.cell (p := ⟨ba, oa + k * 2 + 1, none⟩) hba).trans (hca k hlt).2
        have h2 := (hb.cell (p := ⟨bb, ob + k * 2, none⟩) hbb).trans (hcb k hlt2).1
        have h2' := (hb.cell (p := ⟨bb, ob + k * 2 + 1, none⟩) hbb).trans (hcb k hlt2).2
        clear hca hcb hcx hcy
        have hxk : xs[k]? = some xs[k] := List.getElem?_eq_getElem hlt
        have hyk : ys[k]? = some ys[k] := List.getElem?_eq_getElem hlt2
        by_cases he : xs[k] = ys[k]
        · have hcmp := neq_rfield xs[k] ys[k] false (by rw [decide_eq_true he]; rfl)
          have Hn : Hid (∀ j, j < k + 1 → xs[j]? = ys[j]?) := Lib.hid (fun j hj => by
            by_cases e : j = k
            · subst e; rw [hxk, hyk, he]
            · exact Hall.out j (by omega))
          clear he hxk hyk
          generalize bs xs[k].1 = X at *
          generalize bs ys[k].1 = Y at *
          generalize bs xs[k].2 = X2 at *
          generalize bs ys[k].2 = Y2 at *
          go_wp2_with fail
          go_quiet (fail)
          go_wp2_with fail
          go_roundw
          case rel => exact ⟨k + 1, by omega, by go_num, (hb.trans ⟨rfl, rfl, rfl, Nat.le_refl _, fun _ _ => rfl⟩), Hn⟩
          case measure => simp [intOf]; omega
        · have hcmp := neq_rfield xs[k] ys[k] true (by rw [decide_eq_false he]; rfl)
          have Hn : Hid (xs ≠ ys) := Lib.hid (fun e => he (by subst e; rfl))
          clear he hxk hyk
          generalize bs xs[k].1 = X at *
          generalize bs ys[k].1 = Y at *
          generalize bs xs[k].2 = X2 at *
          generalize bs ys[k].2 = Y2 at *
          go_wp2_with fail
          go_quiet (fail)
          go_wp2_with fail
          go_ret
          exact ⟨congrArg (fun b => Ending.returned (.bool b)) (decide_eq_false Hn.out).symm, (hb.trans ⟨rfl, rfl, rfl, Nat.le_refl _, fun _ _ => rfl⟩)⟩
      · have Hn : Hid (xs = ys) := Lib.hid (List.ext_getElem? (fun j => by
          by_cases e : j < k
          · exact Hall.out j e
          · rw [List.getElem?_eq_none (by omega), List.getElem?_eq_none (by have := Hl.out; omega)]))
        go_wp2_with fail
        go_ret
        exact ⟨congrArg (fun b => Ending.returned (.bool b)) (decide_eq_true Hn.out).symm, hb⟩
  · have hlI : ((xs.length : Int) != (ys.length : Int)) = true := by rw [bne_iff_ne]; omega
    have Hn : Hid (xs ≠ ys) := Lib.hid (fun e => hl (by rw [e]))
    clear hl
    go_enter Tryz.func30, Tryz.ntmps30
    go_wp2_with fail
    go_ret
    exact ⟨congrArg (fun b => Ending.returned (.bool b)) (decide_eq_false Hn.out).symm, Below.refl _ _⟩
set_option maxRecDepth 100000 in
set_option maxHeartbeats 1000000 in
theorem ref_sameR (c d : Int) (x y : ByteArray) (va vb : Value) (fs gs : List (List UInt8 × List UInt8)) (w : World) (ha : HoldsF w va fs) (hb : HoldsF w vb gs) (hf : fs.length ≤ 1000000) (hg : gs.length ≤ 1000000) :
    Calls Tryz.prog 13 #[.agg #[.int .i64 c, va, .string x], .agg #[.int .i64 d, vb, .string y]] w fun e w' => e = .returned (.bool (sameR c d x.data.toList y.data.toList fs gs)) ∧ Below w.heap.size w w' := by
  have B1 := below_agg3 w (.int .i64 c) va (.string x) 24
  have T1 := Lib.hid ((Three.new w (.int .i64 c) va (.string x) 24).alloc (.cells #[.int .i64 d, vb, .string y] 24))
  have B2 := below_agg3 (w.alloc (.cells #[.int .i64 c, va, .string x] 24)) (.int .i64 d) vb (.string y) 24
  have T2 := Lib.hid (Three.new (w.alloc (.cells #[.int .i64 c, va, .string x] 24)) (.int .i64 d) vb (.string y) 24)
  have ha' := Lib.hid ((ha.below B1).below B2)
  have hb' := Lib.hid ((hb.below B1).below B2)
  have BB := Lib.hid (bstep B1 B2)
  clear ha hb B1 B2
  have T1' := T1.out
  have T2' := T2.out
  obtain ⟨l1, t0, t1, t2⟩ := T1'
  obtain ⟨l2, u0, u1, u2⟩ := T2'
  by_cases h1 : c = d
  · subst h1
    obtain ⟨q, hq⟩ : ∃ q, decide (fs = gs) = q := ⟨_, rfl⟩
    have HS : Hid (∀ w', HoldsF w' va fs → HoldsF w' vb gs → Calls Tryz.prog 30 #[va, vb] w' fun e w'' => e = .returned (.bool q) ∧ Below w'.heap.size w' w'') := Lib.hid (fun w' k1 k2 => by
      have := ref_sameF va vb fs gs w' k1 k2 hf hg
      unfold SameFPost at this
      rw [hq] at this
      exact this)
    obtain ⟨r, hr⟩ : ∃ r, (x.toList == y.toList) = r := ⟨_, rfl⟩
    have hrd : decide (x.data.toList = y.data.toList) = r := by
      rw [← hr, ByteArray.toList_eq, ByteArray.toList_eq]
      by_cases e : x.data.toList = y.data.toList
      · rw [decide_eq_true e, e]; simp
      · rw [decide_eq_false e]; exact (beq_eq_false_iff_ne.2 e).symm
    have hS : Hid (sameR c c x.data.toList y.data.toList fs gs = (q && r)) := Lib.hid (by unfold sameR; rw [hq, hrd, decide_eq_true rfl]; cases q <;> cases r <;> rfl)
    clear hq hrd
    cases q
    · go_enter Tryz.func13, Tryz.ntmps13
      go_wp2_with fail
      refine (HS.out _ ha'.out hb'.out).mono ?_
      rintro e w' ⟨rfl, hbl⟩
      go_wp2_with fail
      go_ret
      refine ⟨?_, bstep BB.out hbl⟩
      rw [hS.out]; rfl
    · go_enter Tryz.func13, Tryz.ntmps13
      go_wp2_with fail
      refine (HS.out _ ha'.out hb'.out).mono ?_
      rintro e w' ⟨rfl, hbl⟩
      have x2 := (T1.out.below hbl).2.2.2
      have y2 : w'.cell? ⟨w.heap.size + 1, 2, none⟩ = some (.string y) := by have := (T2.out.below hbl).2.2.2; simpa using this
      go_wp2_with fail
      go_ret
      refine ⟨?_, bstep BB.out hbl⟩
      rw [hS.out]; rfl
  · have h1' : (c == d) = false := by rw [beq_eq_false_iff_ne]; exact h1
    have hS : Hid (sameR c d x.data.toList y.data.toList fs gs = false) := Lib.hid (by unfold sameR; rw [decide_eq_false h1]; simp)
    go_enter Tryz.func13, Tryz.ntmps13
    go_wp2_with fail
    go_ret
    refine ⟨?_, BB.out⟩
    rw [hS.out]; rfl
end Go.Proofs.YtiljjkdpjbffbaaGreatDoor
namespace Go.Proofs.YtiljjkdpjbffbaaGreatDoor
open Go.RowKit
def OwnRow (fs : List (List UInt8 × List UInt8)) (w : World) (e : Ending) (w' : World) : Prop := ∃ v, e = .returned v ∧ w'.ownsRow w.heap.size 51 2 v fs.length (fcells fs) ∧ Below w.heap.size w w'
set_option maxRecDepth 100000 in
set_option maxHeartbeats 2000000 in
theorem law_own_row (v : Value) (fs : List (List UInt8 × List UInt8)) (w : World) (hv : HoldsF w v fs) (hlen : fs.length < 2147483648) :
    Calls Tryz.prog 25 #[v] w (OwnRow fs w) := by
  obtain ⟨a, c, rfl, hc, hx⟩ := hv
  have HX := Lib.hid hx
  clear hx
  go_enter Tryz.func25, Tryz.ntmps25
  go_wp2_with fail
  go_loopw [3, 4] (fun u i wr => ∃ k : Nat, k ≤ fs.length ∧ i = .int .i64 k ∧ wr.ownsRow w.heap.size 51 2 u (fs.take k).length (fcells (fs.take k)) ∧ Below w.heap.size w wr) (fun _ i _ => fs.length - (intOf i).toNat)
  case atStart => exact ⟨0, by omega, rfl, World.ownsRow_nil _ _ _ _, Below.refl _ _⟩
  case round =>
    obtain ⟨k, hk, rfl, hown, hb⟩ := hrel
    by_cases hlt : k < fs.length
    · obtain ⟨b, o, rfl, hbl, hcell⟩ := HX.out (fun e => by rw [e] at hlt; exact absurd hlt (Nat.not_lt_zero _))
      have c0 := (hb.cell (p := ⟨b, o + k * 2, none⟩) hbl).trans (hcell k hlt).1
      have c1 := (hb.cell (p := ⟨b, o + k * 2 + 1, none⟩) hbl).trans (hcell k hlt).2
      have hstep : Hid (fs.take (k + 1) = fs.take k ++ [fs[k]]) := Lib.hid (List.take_succ_eq_append_getElem hlt)
      have hkl : (fs.take k).length < 2147483648 := by rw [List.length_take]; omega
      clear hcell HX
      go_wp2_with (at_builtin; go_loud (refine append_field wr (by rfl) _ _ (by rfl) w.heap.size _ (fs.take k) (by rfl) hown (bs fs[k].1) (bs fs[k].2) fs[k] rfl rfl (by rfl) hkl hb.size ?_); intro v' w1 hown1 hg1 hne1)
      go_roundw
      case rel => exact ⟨k + 1, by omega, by go_num, by rw [hstep.out]; exact hown1, below_ownF hb hg1 hown (Nat.le_refl _) hb.size⟩
      case measure => simp [intOf]; omega
    · have hall : fs.take k = fs := List.take_of_length_le (by omega)
      rw [hall] at hown
      clear hall
      go_wp2_with fail
      go_ret
      exact ⟨_, rfl, hown, hb⟩
def BackRow (fs : List (List UInt8 × List UInt8)) (w : World) (e : Ending) (w' : World) : Prop := ∃ v, e = .returned v ∧ w'.ownsRow w.heap.size 59 2 v fs.length (fcells fs) ∧ Below w.heap.size w w'
set_option maxRecDepth 100000 in
set_option maxHeartbeats 2000000 in
theorem law_back_row (v : Value) (fs : List (List UInt8 × List UInt8)) (w : World) (hv : HoldsF w v fs) (hlen : fs.length < 2147483648) :
    Calls Tryz.prog 39 #[v] w (BackRow fs w) := by
  obtain ⟨a, c, rfl, hc, hx⟩ := hv
  have HX := Lib.hid hx
  clear hx
  go_enter Tryz.func39, Tryz.ntmps39
  go_wp2_with fail
  go_loopw [3, 4] (fun u i wr => ∃ k : Nat, k ≤ fs.length ∧ i = .int .i64 k ∧ wr.ownsRow w.heap.size 59 2 u (fs.take k).length (fcells (fs.take k)) ∧ Below w.heap.size w wr) (fun _ i _ => fs.length - (intOf i).toNat)
  case atStart => exact ⟨0, by omega, rfl, World.ownsRow_nil _ _ _ _, Below.refl _ _⟩
  case round =>
    obtain ⟨k, hk, rfl, hown, hb⟩ := hrel
    by_cases hlt : k < fs.length
    · obtain ⟨b, o, rfl, hbl, hcell⟩ := HX.out (fun e => by rw [e] at hlt; exact absurd hlt (Nat.not_lt_zero _))
      have c0 := (hb.cell (p := ⟨b, o + k * 2, none⟩) hbl).trans (hcell k hlt).1
      have c1 := (hb.cell (p := ⟨b, o + k * 2 + 1, none⟩) hbl).trans (hcell k hlt).2
      have hstep : Hid (fs.take (k + 1) = fs.take k ++ [fs[k]]) := Lib.hid (List.take_succ_eq_append_getElem hlt)
      have hkl : (fs.take k).length < 2147483648 := by rw [List.length_take]; omega
      clear hcell HX
      go_wp2_with (at_builtin; go_loud (refine append_rfield wr (by rfl) _ _ (by rfl) w.heap.size _ (fs.take k) (by rfl) hown (bs fs[k].1) (bs fs[k].2) fs[k] rfl rfl wr.heap.size rfl (by rfl) hkl hb.size ?_); intro v' w1 hown1 hg1 hne1)
      go_roundw
      case rel => exact ⟨k + 1, by omega, by go_num, by rw [hstep.out]; exact hown1, below_ownF hb hg1 hown (Nat.le_refl _) hb.size⟩
      case measure => simp [intOf]; omega
    · have hall : fs.take k = fs := List.take_of_length_le (by omega)
      rw [hall] at hown
      clear hall
      go_wp2_with fail
      go_ret
      exact ⟨_, rfl, hown, hb⟩
end Go.Proofs.YtiljjkdpjbffbaaGreatDoor
namespace Go.Proofs.YtiljjkdpjbffbaaGreatDoor
open Go.RowKit
theorem below_r3 (w : World) (x y z : Value) : Below w.heap.size w (w.alloc (.cells #[x, y, z] 24)) := (Below.refl _ _).alloc (Nat.le_refl _) _
def overR (fs : List (List UInt8 × List UInt8)) (b : ByteArray) : Bool := overF fs 20 || decide (500 < b.size)
set_option maxHeartbeats 1000000 in
theorem ref_rover (c : Int) (fv : Value) (fs : List (List UInt8 × List UInt8)) (b : ByteArray) (w : World) (hv : HoldsF w fv fs) (hlen : fs.length ≤ 9223372036854775807) :
    Calls Tryz.prog 7 #[.agg #[.int .i64 c, fv, .string b]] w fun e w' => e = .returned (.bool (overR fs b)) ∧ Below w.heap.size w w' := by
  have B1 := below_r3 w (.int .i64 c) fv (.string b)
  obtain ⟨l1, t0, t1, t2⟩ := Three.new w (.int .i64 c) fv (.string b) 24
  have HO := Lib.hid (ref_over fv fs 20 _ (hv.below B1) hlen)
  have HB1 := Lib.hid B1
  clear hv B1
  cases ho : overF fs 20 with
  | true =>
    have HR : Hid (overR fs b = true) := Lib.hid (by unfold overR; rw [ho]; rfl)
    rw [ho] at HO
    go_enter Tryz.func7, Tryz.ntmps7
    go_wp2_with fail
    refine HO.out.mono ?_
    rintro e w' ⟨rfl, rfl⟩
    go_wp2_with fail
    go_ret
    exact ⟨by rw [HR.out]; rfl, HB1.out⟩
  | false =>
    rw [ho] at HO
    obtain ⟨r, hr⟩ : ∃ r, decide (500 < b.size) = r := ⟨_, rfl⟩
    have HR : Hid (overR fs b = r) := Lib.hid (by unfold overR; rw [ho, hr]; rfl)
    have hr2 : decide ((b.size : Int) > 500) = r := by rw [← hr]; exact decide_eq_decide.2 (by omega)
    clear hr
    go_enter Tryz.func7, Tryz.ntmps7
    go_wp2_with fail
    refine HO.out.mono ?_
    rintro e w' ⟨rfl, rfl⟩
    go_wp2_with fail
    go_ret
    exact ⟨by rw [HR.out]; rfl, HB1.out⟩
theorem repLines_take (c : Int) (fs : List (List UInt8 × List UInt8)) (n k : Nat) (hk : k < fs.length) : (repLines c fs n).take (k + 1 + 2) = (repLines c fs n).take (k + 2) ++ [printL fs[k].1 fs[k].2] := by
  have h : (repLines c fs n)[k + 2]? = some (printL fs[k].1 fs[k].2) := by unfold repLines; simp [hk]
  rw [show k + 1 + 2 = (k + 2) + 1 by omega, List.take_add_one, h]
  rfl
theorem repLines_two (c : Int) (fs : List (List UInt8 × List UInt8)) (n : Nat) : bs (body ((repLines c fs n).take 2)) = printOf c ++ ⟨#[13, 10, 67, 111, 110, 116, 101, 110, 116, 45, 76, 101, 110, 103, 116, 104, 58, 32]⟩ ++ bs (digL n) ++ ⟨#[13, 10]⟩ := by
  have e1 : (⟨#[13, 10, 67, 111, 110, 116, 101, 110, 116, 45, 76, 101, 110, 103, 116, 104, 58, 32]⟩ : ByteArray) = bs [13, 10, 67, 111, 110, 116, 101, 110, 116, 45, 76, 101, 110, 103, 116, 104, 58, 32] := rfl
  have e2 : (⟨#[13, 10]⟩ : ByteArray) = bs [13, 10] := rfl
  have hp : printL clen (digL n) = [67, 111, 110, 116, 101, 110, 116, 45, 76, 101, 110, 103, 116, 104, 58, 32] ++ digL n := by
    unfold printL tailV
    rw [digL_nat, if_neg (by have := decDigits_ne n; cases h : Go.Lib.decDigits n <;> simp_all), show titL true clen = [67, 111, 110, 116, 101, 110, 116, 45, 76, 101, 110, 103, 116, 104] by decide]
    rfl
  rw [e1, e2]
  conv => rhs; lhs; lhs; lhs; rw [← bs_self (printOf c)]
  rw [bs_cat, bs_cat, bs_cat]
  congr 1
  unfold repLines
  simp [body, hp]
set_option maxRecDepth 100000 in
set_option maxHeartbeats 4000000 in
theorem ref_rprint (c : Int) (fv : Value) (fs : List (List UInt8 × List UInt8)) (b : ByteArray) (w : World) (hc0 : -9223372036854775808 ≤ c) (hc1 : c ≤ 9223372036854775807)
    (hv : HoldsF w fv fs) (hl : fs.length ≤ 1000000) (hf : ∀ f ∈ fs, f.1.length ≤ 1000000 ∧ f.2.length ≤ 1000000) (hb : b.size ≤ 1000000) :
    Calls Tryz.prog 11 #[.agg #[.int .i64 c, fv, .string b]] w (RPost c fs b.data.toList w) := by
  have HS := Lib.hid (fun w => ref_print c w hc0 hc1)
  have B1 := below_r3 w (.int .i64 c) fv (.string b)
  have T1 := Three.new w (.int .i64 c) fv (.string b) 24
  have hv1 := hv.below B1
  have HB1 := Lib.hid B1
  obtain ⟨av, cv, rfl, hcv, hx⟩ := hv1
  have HX := Lib.hid hx
  clear hv B1 hx
  obtain ⟨l1, t0, t1, t2⟩ := T1
  by_cases he : printErr c = 0
  case neg =>
    have HR : Hid (repE c fs = printErr c ∧ repS c fs b.data.toList = []) := Lib.hid (by
      have : repE c fs = printErr c := if_pos he
      exact ⟨this, by unfold repS; rw [if_neg (by rw [this]; exact he)]⟩)
    have tz : ((printErr c : Int) != 0) = true := by rw [bne_iff_ne]; omega
    clear he hf
    go_enter Tryz.func11, Tryz.ntmps11
    go_wp2_with fail
    refine (HS.out _).mono ?_
    rintro e w1 ⟨rfl, hb1⟩
    have HB2 := Lib.hid (bstep HB1.out hb1)
    clear hb1 t0 t1 t2
    go_wp2_with fail
    go_ret2
    exact ⟨by rw [HR.out.1, HR.out.2]; rfl, HB2.out⟩
  have hcl : ¬ (c < 100 ∨ 599 < c) := fun e => by unfold printErr at he; rw [if_pos ((class_iff c).2 e)] at he; exact absurd he (by decide)
  have hps : (printOf c).size ≤ 40 := by
    obtain ⟨n, rfl⟩ : ∃ n : Nat, c = n := ⟨c.toNat, by omega⟩
    rw [printOf_line _ (by omega) (by omega), statusLine_len n (by omega) (by omega)]
    have := reason_size (n : Int)
    omega
  rw [he] at HS
  have hlI : (fs.length : Int) ≤ 1000000 := by omega
  by_cases hm : 15 < fs.length
  · have HR : Hid (repE c fs = 21 ∧ repS c fs b.data.toList = []) := Lib.hid (by
      have : repE c fs = 21 := by unfold repE; rw [if_neg (by rw [he]; simp), if_pos hm]
      exact ⟨this, by unfold repS; rw [if_neg (by rw [this]; simp)]⟩)
    have tm : decide ((fs.length : Int) > 15) = true := decide_eq_true (by omega)
    clear he hf hcl hps
    go_enter Tryz.func11, Tryz.ntmps11
    go_wp2_with fail
    refine (HS.out _).mono ?_
    rintro e w1 ⟨rfl, hb1⟩
    have HB2 := Lib.hid (bstep HB1.out hb1)
    obtain ⟨l2, u0, u1, u2⟩ := Three.below ⟨l1, t0, t1, t2⟩ hb1
    clear hb1 t0 t1 t2
    go_wp2_with fail
    go_ret2
    exact ⟨by rw [HR.out.1, HR.out.2]; rfl, HB2.out⟩
  have tm : decide ((fs.length : Int) > 15) = false := decide_eq_false (by omega)
  have HR : Hid (repE c fs = ownE fs) := Lib.hid (by unfold repE; rw [if_neg (by rw [he]; simp), if_neg hm])
  have hl15 : fs.length ≤ 15 := by omega
  have HD := Lib.hid (fun w => ref_digitsZ (b.size : Int) w (by omega))
  have hdl := digL_len (b.size : Int) (by omega)
  have HT := Lib.hid (repLines_two c fs b.size)
  have HTS := Lib.hid (fun k hk => repLines_take c fs b.size k hk)
  have HLL : Hid ((repLines c fs b.size).length = fs.length + 2) := Lib.hid (by unfold repLines; simp)
  obtain ⟨L, hL⟩ : ∃ L, repLines c fs b.size = L := ⟨_, rfl⟩
  have HL := Lib.hid hL
  rw [hL] at HT HTS HLL
  obtain ⟨D, hD⟩ : ∃ D, bs (digL (b.size : Int)) = D := ⟨_, rfl⟩
  rw [hD] at HD HT
  have hDs : D.size ≤ 20 := by rw [← hD, bs_size]; exact hdl
  obtain ⟨P0, hP0⟩ : ∃ P, printOf c = P := ⟨_, rfl⟩
  rw [hP0] at HS HT hps
  have zz : ∀ X Y : ByteArray, (X ++ Y).size = X.size + Y.size := fun X Y => ByteArray.size_append
  have q1 := fun w => run_string_add_sum (P := Tryz.prog) w P0 ⟨#[13, 10, 67, 111, 110, 116, 101, 110, 116, 45, 76, 101, 110, 103, 116, 104, 58, 32]⟩ (by show _ + 18 ≤ _; omega)
  have q2 := fun w => run_string_add_sum (P := Tryz.prog) w (P0 ++ ⟨#[13, 10, 67, 111, 110, 116, 101, 110, 116, 45, 76, 101, 110, 103, 116, 104, 58, 32]⟩) D (by rw [zz]; show _ + 18 + _ ≤ _; omega)
  have q3 := fun w => run_string_add_sum (P := Tryz.prog) w (P0 ++ ⟨#[13, 10, 67, 111, 110, 116, 101, 110, 116, 45, 76, 101, 110, 103, 116, 104, 58, 32]⟩ ++ D) ⟨#[13, 10]⟩ (by rw [zz, zz]; show _ + 18 + _ + 2 ≤ _; omega)
  have hs0 : (P0 ++ ⟨#[13, 10, 67, 111, 110, 116, 101, 110, 116, 45, 76, 101, 110, 103, 116, 104, 58, 32]⟩ ++ D ++ ⟨#[13, 10]⟩ : ByteArray).size ≤ 200 := by rw [zz, zz, zz]; show _ + 18 + _ + 2 ≤ _; omega
  have HS0 := Lib.hid hs0
  clear he hm hD hP0 hL hcl hdl hs0 zz
  go_enter Tryz.func11, Tryz.ntmps11
  go_wp2_with fail
  refine (HS.out _).mono ?_
  rintro e w1 ⟨rfl, hb1⟩
  have HB2 := Lib.hid (bstep HB1.out hb1)
  obtain ⟨l2, u0, u1, u2⟩ := Three.below ⟨l1, t0, t1, t2⟩ hb1
  have HX1 : Hid (fs ≠ [] → ∃ b o, av = some ⟨b, o, none⟩ ∧ b < w1.heap.size ∧ ∀ j (hj : j < fs.length), w1.cell? ⟨b, o + j * 2, none⟩ = some (.string (bs fs[j].1)) ∧ w1.cell? ⟨b, o + j * 2 + 1, none⟩ = some (.string (bs fs[j].2))) := Lib.hid (fun h => by
    obtain ⟨bb, o, h1, h2, h3⟩ := HX.out h
    exact ⟨bb, o, h1, Nat.lt_of_lt_of_le h2 hb1.size, fun j hj => ⟨(hb1.cell (p := ⟨bb, o + j * 2, none⟩) h2).trans (h3 j hj).1, (hb1.cell (p := ⟨bb, o + j * 2 + 1, none⟩) h2).trans (h3 j hj).2⟩⟩)
  have HU := Lib.hid (And.intro l2 (And.intro u1 u2))
  clear hb1 t0 t1 t2 l1 HB1 HX
  go_wp2_with fail
  refine (HD.out _).mono ?_
  rintro e w' ⟨rfl, hww⟩
  obtain rfl := hww.symm
  go_wp2_with fail
  clear q1 q2 q3 u0 u1 u2
  have HT0 : Hid ((P0 ++ ⟨#[13, 10, 67, 111, 110, 116, 101, 110, 116, 45, 76, 101, 110, 103, 116, 104, 58, 32]⟩ ++ D ++ ⟨#[13, 10]⟩) = bs (body (L.take (0 + 2)))) := Lib.hid HT.out.symm
  generalize (P0 ++ ⟨#[13, 10, 67, 111, 110, 116, 101, 110, 116, 45, 76, 101, 110, 103, 116, 104, 58, 32]⟩ ++ D ++ ⟨#[13, 10]⟩ : ByteArray) = O0 at HS0 HT0 ⊢
  go_loopg [4, 6] fs.length (fun gk s4 s6 wr => ∃ (k : Nat) (O : ByteArray), s4 = .string O ∧ s6 = .int .i64 (k : Int) ∧ k + gk = fs.length ∧ O.size ≤ 200 + k * 260 ∧ Hid (Below w1.heap.size w1 wr) ∧ Hid (O = bs (body (L.take (k + 2)))) ∧ Hid (∀ j (hj : j < fs.length), j < k → fs[j].1 ≠ clen ∧ fieldE fs[j].1 fs[j].2 = 0))
  case atStart => exact ⟨0, _, rfl, by simp, by omega, by have := HS0.out; omega, Lib.hid (Below.refl _ _), HT0, Lib.hid (fun j hj h => absurd h (Nat.not_lt_zero _))⟩
  case round =>
    obtain ⟨k, O, rfl, rfl, hgk, hOs, HBr, HO, HK⟩ := hrel
    have r1 := (HBr.out.cell (p := ⟨w.heap.size, 1, none⟩) HU.out.1).trans HU.out.2.1
    have r2 := (HBr.out.cell (p := ⟨w.heap.size, 2, none⟩) HU.out.1).trans HU.out.2.2
    by_cases hk : k < fs.length
    · obtain ⟨g', rfl⟩ : ∃ g', gk = g' + 1 := ⟨gk - 1, by omega⟩
      have hkI : decide ((k : Int) < (fs.length : Int)) = true := decide_eq_true (by omega)
      obtain ⟨bb, o, rfl, hbl, hcell⟩ := HX1.out (fun e => by rw [e] at hk; exact absurd hk (Nat.not_lt_zero _))
      have c0 := (HBr.out.cell (p := ⟨bb, o + k * 2, none⟩) hbl).trans (hcell k hk).1
      have c1 := (HBr.out.cell (p := ⟨bb, o + k * 2 + 1, none⟩) hbl).trans (hcell k hk).2
      obtain ⟨o1, o2⟩ := ownE_bad fs k hk (fun i hi hik => HK.out i hi hik)
      obtain ⟨y, hy⟩ : ∃ y, fs[k] = y := ⟨_, rfl⟩
      have hyl := hf _ (List.getElem_mem hk)
      have HTk := Lib.hid (HTS.out k hk)
      rw [hy] at c0 c1 o1 o2 hyl HTk
      have HP := Lib.hid (fun w => ref_fprint (bs y.1) (bs y.2) w (by rw [bs_size]; exact hyl.1) (by rw [bs_size]; exact hyl.2))
      rw [bs_data, bs_data] at HP
      have HOE := Lib.hid (And.intro o1 o2)
      have HY := Lib.hid hy
      have hcmp := bs_lit y.1 [99, 111, 110, 116, 101, 110, 116, 45, 108, 101, 110, 103, 116, 104]
      clear hcell o1 o2 hy hyl
      by_cases hnm : y.1 = clen
      · have HF : Hid (repE c fs = 22 ∧ repS c fs b.data.toList = []) := Lib.hid (by
          have : repE c fs = 22 := by rw [HR.out]; exact HOE.out.1 hnm
          exact ⟨this, by unfold repS; rw [if_neg (by rw [this]; simp)]⟩)
        rw [decide_eq_true (show y.1 = [99, 111, 110, 116, 101, 110, 116, 45, 108, 101, 110, 103, 116, 104] from hnm)] at hcmp
        clear hnm HK HY
        go_wp2_with fail
        go_ret2
        exact ⟨by rw [HF.out.1, HF.out.2]; rfl, bstep HB2.out HBr.out⟩
      · have HNM := Lib.hid hnm
        rw [decide_eq_false (show ¬ y.1 = [99, 111, 110, 116, 101, 110, 116, 45, 108, 101, 110, 103, 116, 104] from hnm)] at hcmp
        by_cases hz : fieldE y.1 y.2 = 0
        · have HK2 : Hid (∀ j (hj : j < fs.length), j < k + 1 → fs[j].1 ≠ clen ∧ fieldE fs[j].1 fs[j].2 = 0) := Lib.hid (fun j hj h => by
            by_cases e : j = k
            · subst e; rw [HY.out]; exact ⟨HNM.out, hz⟩
            · exact HK.out j hj (by omega))
          have hfs : fieldS y.1 y.2 = printL y.1 y.2 := if_pos hz
          have hpl : (printL y.1 y.2).length ≤ 256 := (fieldE_zero _ _ hz).2
          rw [hz, hfs] at HP
          obtain ⟨X, hX⟩ : ∃ X, bs (printL y.1 y.2) = X := ⟨_, rfl⟩
          have hXs : X.size ≤ 256 := by rw [← hX, bs_size]; exact hpl
          rw [hX] at HP
          have HOO : Hid (O ++ X ++ ⟨#[13, 10]⟩ = bs (body (L.take (k + 1 + 2)))) := Lib.hid (by
            rw [HO.out, ← hX, show (⟨#[13, 10]⟩ : ByteArray) = bs [13, 10] from rfl, bs_cat, bs_cat, HTk.out, body_append]
            simp [body])
          have hOk : O.size ≤ 200 + 15 * 260 := by omega
          have p1 := fun w => run_string_add_sum (P := Tryz.prog) w O X (by omega)
          have p2 := fun w => run_string_add_sum (P := Tryz.prog) w (O ++ X) ⟨#[13, 10]⟩ (by rw [ByteArray.size_append]; show _ + _ + 2 ≤ _; omega)
          clear hz hfs hpl hX hnm HK HY
          go_wp2_with fail
          refine (HP.out _).mono ?_
          rintro e w3 ⟨rfl, hb3⟩
          have HB3 := Lib.hid (bstep HBr.out hb3)
          clear hb3 c0 c1 r1 r2
          go_wp2_with fail
          go_roundg g'
          case measure => omega
          case rel => exact ⟨k + 1, _, rfl, by simp, by omega, by rw [ByteArray.size_append, ByteArray.size_append]; show _ + _ + 2 ≤ _; omega, HB3, HOO, HK2⟩
        · have HF : Hid (repE c fs = fieldE y.1 y.2 ∧ repS c fs b.data.toList = []) := Lib.hid (by
            have : repE c fs = fieldE y.1 y.2 := by rw [HR.out]; exact HOE.out.2 HNM.out hz
            exact ⟨this, by unfold repS; rw [if_neg (by rw [this]; exact hz)]⟩)
          have tz : ((fieldE y.1 y.2 : Int) != 0) = true := by rw [bne_iff_ne]; omega
          clear hz hnm HK HY
          go_wp2_with fail
          refine (HP.out _).mono ?_
          rintro e w3 ⟨rfl, hb3⟩
          have HB3 := Lib.hid (bstep HB2.out (bstep HBr.out hb3))
          clear hb3 c0 c1 r1 r2
          go_wp2_with fail
          go_ret2
          exact ⟨by rw [HF.out.1, HF.out.2]; rfl, HB3.out⟩
    · obtain rfl : k = fs.length := by omega
      have hkI : decide ((fs.length : Int) < (fs.length : Int)) = false := decide_eq_false (by omega)
      have hrz : repE c fs = 0 := by rw [HR.out]; exact ownE_good fs (fun i hi => HK.out i hi hi)
      have HF : Hid (repE c fs = 0 ∧ repS c fs b.data.toList = body L ++ 13 :: 10 :: b.data.toList) := Lib.hid ⟨hrz, by unfold repS; rw [if_pos hrz]; unfold repL; rw [size_len, HL.out]⟩
      have HOO : Hid (O ++ ⟨#[13, 10]⟩ ++ b = bs (repS c fs b.data.toList)) := Lib.hid (by
        rw [HF.out.2, HO.out, List.take_of_length_le (by rw [HLL.out]; omega), show (⟨#[13, 10]⟩ : ByteArray) = bs [13, 10] from rfl]
        conv => lhs; rhs; rw [← bs_self b]
        rw [bs_cat, bs_cat]
        congr 1
        simp)
      have hOk : O.size ≤ 200 + 15 * 260 := by omega
      have p1 := fun w => run_string_add_sum (P := Tryz.prog) w O ⟨#[13, 10]⟩ (by show _ + 2 ≤ _; omega)
      have p2 := fun w => run_string_add_sum (P := Tryz.prog) w (O ++ ⟨#[13, 10]⟩) b (by rw [ByteArray.size_append]; show _ + 2 + _ ≤ _; omega)
      clear hrz HK
      go_wp2_with fail
      go_ret2
      exact ⟨by rw [HF.out.1, ← HOO.out]; rfl, bstep HB2.out HBr.out⟩
end Go.Proofs.YtiljjkdpjbffbaaGreatDoor
namespace Go.Proofs.YtiljjkdpjbffbaaGreatDoor
open Go.RowKit
theorem load_rrep (w : World) (b : Nat) (t : TypeId) (x y z : Value) (h : w.heap[b]? = some (.cells #[x, y, z] t (0, 0))) : (loadVar 24 ⟨b, 0, none⟩).run Tryz.prog w = .ok (.agg #[x, y, z]) w :=
  run_loadVar_row w b t 24 #[x, y, z] (0, 0) _ h Tryz.underlying24 rfl (by kernel_rfl)
/-- the block of a reply of the document's -/
def RqB (w : World) (R : Nat) (c f b : Value) : Prop := w.heap[R]? = some (.cells #[c, f, b] 24 (0, 0))
theorem RqB.below {w w' : World} {R : Nat} {c f b : Value} (k : RqB w R c f b) (hb : Below w.heap.size w w') : RqB w' R c f b :=
  (hb.block R (Array.getElem?_eq_some_iff.1 k).1).trans k
theorem RqB.lt {w : World} {R : Nat} {c f b : Value} (k : RqB w R c f b) : R < w.heap.size := (Array.getElem?_eq_some_iff.1 k).1
theorem RqB.set1 {w : World} {R : Nat} {c f b : Value} (k : RqB w R c f b) (v : Value) : RqB (w.setCell ⟨R, 1, none⟩ v) R c v b := by
  unfold RqB at k ⊢; simp [World.setCell, Array.getElem?_modify, k]
theorem step_appG {ops : Array Oper} {o : Oper} {a : Act} {K : Act → World → Prop} {Q : Exit → Act → World → Prop} {E : Prop} (W : World) (hgd : o.guard = none) (s x : Operand)
    (ho : o.op = .call { callee := .builtin .append, args := #[s, x], argTypes := #[22, 22] })
    (base : Nat) (v : Value) (fs : List (List UInt8 × List UInt8)) (hs : a.eval s = v) (hown : W.ownsRow base 59 2 v fs.length (fcells fs))
    (B : Nat) (f : List UInt8 × List UInt8) (hB : W.heap[B]? = some (.cells #[.string (bs f.1), .string (bs f.2)] 59 (0, 0))) (hx : a.eval x = .slice (some ⟨B, 0, none⟩) 1 1) (hn : fs.length < 2147483648) (hbase : base ≤ W.heap.size)
    (h : ∀ g cap w', w'.ownsRow base 59 2 (.slice (some ⟨g, 0, none⟩) (fs.length + 1) cap) (fs ++ [f]).length (fcells (fs ++ [f])) → W.grownBy w' v.ownBlock → K (a.put o.dst (.slice (some ⟨g, 0, none⟩) (fs.length + 1) cap)) w') :
    if Region.wanted o (yielded ops a.tmps) = true then Oper.wp Tryz.prog o a W K Q else E := by
  obtain ⟨i0, hi, hz0, hz1, hz2⟩ := info_parts info_rfield
  refine step_append_lies W hgd s x 22 ho base 59 i0 _ 2 32 Tryz.underlying22 hi hz0 hz1 hz2 rfl (by decide) v fs.length (fcells fs) hs hown ⟨B, 0, none⟩ 1 1 [.string (bs f.1), .string (bs f.2)] hx rfl (World.news_of_block hB) (by simp [Value.oneCell']) (by decide) (by unfold maxLen; omega) (by omega) hbase _ rfl ?_
  intro g cap w' h1 h2 _ _
  refine h g cap w' ?_ h2
  rw [List.length_append, fcells_append]; exact h1
def AfterAppQ (R : Nat) (W w' : World) (c v b : Value) : Prop := RqB w' R c v b ∧ W.grownBy w' (some R)
theorem step_appQ {ops : Array Oper} {o : Oper} {a : Act} {K : Act → World → Prop} {Q : Exit → Act → World → Prop} {E : Prop} {R base : Nat} (w0 : World) (hw0 : w0.heap.size = base) (hR0 : R < base) {c v b : Value} {W2 : World} {fs : List (List UInt8 × List UInt8)} (W : World) (hgd : o.guard = none) (s z : Operand)
    (ho : o.op = .call { callee := .builtin .append, args := #[s, z], argTypes := #[22, 22] })
    (hR2 : RqB W2 R c v b) (hown : W2.ownsRow base 59 2 v fs.length (fcells fs)) (hg0 : w0.grownBy W2 (some R)) (hs : a.eval s = v) (hn : fs.length < 2147483648) (hbW : Below W2.heap.size W2 W)
    (B : Nat) (f : List UInt8 × List UInt8) (hB : W.heap[B]? = some (.cells #[.string (bs f.1), .string (bs f.2)] 59 (0, 0))) (hx : a.eval z = .slice (some ⟨B, 0, none⟩) 1 1)
    (hK : ∀ g cap w', w'.ownsRow base 59 2 (.slice (some ⟨g, 0, none⟩) (fs.length + 1) cap) (fs ++ [f]).length (fcells (fs ++ [f])) → w'.cell? ⟨R, 1, none⟩ = some v → w'.frozen? ⟨R, 1, none⟩ = false → AfterAppQ R w0 w' c v b → K (a.put o.dst (.slice (some ⟨g, 0, none⟩) (fs.length + 1) cap)) w') :
    if Region.wanted o (yielded ops a.tmps) = true then Oper.wp Tryz.prog o a W K Q else E := by
  have hoW := own_keep hown hbW
  have hlt := hR2.lt
  have hsz := hbW.size
  have hs0 := hg0.size
  refine step_appG W hgd s z ho base v fs hs hoW B f hB hx hn (by omega) (fun g cap w' h1 h2 => ?_)
  have hR3 : RqB w' R c v b := (grow_block h2 hoW hR0 (by omega)).trans (hR2.below hbW)
  have hg1 := hg0.below hbW
  have hb3 : w0.grownBy w' (some R) := ⟨h2.os.trans hg1.os, h2.tape.trans hg1.tape, h2.output.trans hg1.output, Nat.le_trans hg1.size h2.size, fun k hk hne =>
    (h2.block k (Nat.lt_of_lt_of_le hk hg1.size) (fun h => by have := (hoW.lt k h.symm).1; omega)).trans (hg1.block k hk hne)⟩
  obtain ⟨-, k1, -, -, f1, -⟩ := three_facts hR3
  exact hK g cap w' h1 k1 f1 ⟨hR3, hb3⟩
def RefPost (s : ByteArray) (most : Int) (w : World) (e : Ending) (w' : World) : Prop :=
  ∃ fv, e = .returned (RepV s most fv) ∧ (∃ B, w'.ownsRow B 59 2 fv (takF s most).length (fcells (takF s most))) ∧ Below w.heap.size w w'
theorem rparse_bad (s : ByteArray) (most : Int) (e : Nat) (h : takE s most = e) (h0 : e ≠ 0) (w w' : World) (hb : Below w.heap.size w w') :
    RefPost s most w (.returned (.tuple #[.agg #[.int .i64 0, .slice none 0 0, .string ⟨#[]⟩], .int .i64 0, .int .i64 (e : Nat)])) w' := by
  obtain ⟨h1, h2, h3, h4⟩ := tak_bad s most (by rw [h]; exact h0)
  refine ⟨.slice none 0 0, ?_, ?_, hb⟩
  · unfold RepV; rw [h1, h3, h4, h]; rfl
  · rw [h2]; exact ⟨0, World.ownsRow_nil _ _ _ _⟩
theorem rparse_good (s : ByteArray) (most : Int) (h : takE s most = 0) (w w' : World) (fv : Value) (hown : ∃ B, w'.ownsRow B 59 2 fv (takF s most).length (fcells (takF s most))) (hb : Below w.heap.size w w') (C n : Int) (B : ByteArray) (h1 : takC s most = C) (h2 : takN s most = n) (h3 : bs (takB s most) = B) :
    RefPost s most w (.returned (.tuple #[.agg #[.int .i64 C, fv, .string B], .int .i64 n, .int .i64 0])) w' := by
  refine ⟨fv, ?_, hown, hb⟩
  unfold RepV; rw [h1, h2, h3, h]; rfl
theorem res3 {w w1 : World} (hb : Below (w.alloc (.cells #[.int .i64 0, .slice none 0 0, .string ⟨#[]⟩] 24)).heap.size (w.alloc (.cells #[.int .i64 0, .slice none 0 0, .string ⟨#[]⟩] 24)) w1) :
    w1.heap[w.heap.size]? = some (.cells #[.int .i64 0, .slice none 0 0, .string ⟨#[]⟩] 24 (0, 0)) := (hb.block w.heap.size (by simp)).trans (heap_alloc_new w _)
theorem restF_take (fs : List (List UInt8 × List UInt8)) (k : Nat) (hk : k < fs.length) : restF (fs.take (k + 1)) = restF (fs.take k) ++ (if fs[k].1 = clen then [] else [fs[k]]) := by
  unfold restF
  rw [List.take_succ_eq_append_getElem hk, List.filter_append]
  congr 1
  by_cases h : fs[k].1 = clen
  · rw [if_pos h, List.filter_cons_of_neg (by simp [h])]; rfl
  · rw [if_neg h, List.filter_cons_of_pos (by simp [h])]; rfl
theorem restF_len (fs : List (List UInt8 × List UInt8)) : (restF fs).length ≤ fs.length := List.length_filter_le _ _
theorem hdE_split (x : List UInt8) (xs : List (List UInt8)) : hdE (x :: xs) = if (statusOf x).2 ≠ 0 then (statusOf x).2 else if fldE xs ≠ 0 then fldE xs else if getE (fldL xs) clen ≠ 0 then getE (fldL xs) clen else numE (getS (fldL xs) clen) := by
  unfold hdE
  rw [if_neg (by simp)]; rfl
set_option maxRecDepth 100000 in
set_option maxHeartbeats 4000000 in
theorem ref_rparse (s : ByteArray) (most : Int) (w : World) (hs : s.size ≤ 1000000) :
    Calls Tryz.prog 15 #[.string s, .int .i64 most] w (RefPost s most w) := by
  have HH := Lib.hid (ref_head s (w.alloc (.cells #[.int .i64 0, .slice none 0 0, .string ⟨#[]⟩] 24)) (by omega))
  have hbd := headOf_bound s
  have hbd2 := headOf_bd s
  unfold HeadPost at HH
  obtain ⟨⟨ls, n, e⟩, hh⟩ : ∃ T, headOf s = T := ⟨_, rfl⟩
  rw [hh] at HH hbd hbd2
  have HHd := Lib.hid hh
  change (∀ x ∈ ls, x.length ≤ 256) ∧ ls.length ≤ 17 at hbd
  change e = 0 → 0 < n ∧ n ≤ (s.size : Int) at hbd2
  change Hid (Calls _ _ _ _ fun r w' => ∃ v, r = .returned (.tuple #[v, .int .i64 n, .int .i64 (e : Nat)]) ∧ w'.ownsRow _ 9 1 v ls.length (strs ls) ∧ _) at HH
  have HBD := Lib.hid hbd
  have HB0 := Lib.hid (below_r3 w (.int .i64 0) (.slice none 0 0) (.string ⟨#[]⟩))
  clear hbd hh
  by_cases he : e = 0
  case neg =>
    have HV : Hid (takE s most = e ∧ e ≠ 0) := Lib.hid ⟨by unfold takE; rw [HHd.out]; exact if_pos he, he⟩
    have tz : ((e : Int) != 0) = true := by rw [bne_iff_ne]; omega
    clear he hbd2
    go_enter Tryz.func15, Tryz.ntmps15
    go_wp2_with fail
    refine HH.out.mono ?_
    rintro r w1 ⟨v, rfl, -, hb1⟩
    have HB1 := Lib.hid hb1
    obtain ⟨d0, d1, d2, g0, g1, g2⟩ := three_facts (res3 hb1)
    clear hb1
    go_wp2_with fail
    refine ret_cell3 (A := ⟨w.heap.size, 0, none⟩) rfl (load_rrep _ _ _ _ _ _ (three_set (res3 HB1.out) _ _ _)) rfl rfl rfl rfl ?_
    exact rparse_bad s most e HV.out.1 HV.out.2 w _ (three_below (bstep HB0.out HB1.out) _ (Nat.le_refl _) _ _ _)
  subst he
  obtain ⟨n1, n2⟩ := hbd2 rfl
  obtain ⟨nx, rfl⟩ : ∃ nx : Nat, n = nx := ⟨n.toNat, by omega⟩
  have hh2 : Hid (∀ q, takE s most = q ↔ (if hdE ls ≠ 0 then hdE ls else if most < (hdN ls : Int) then 5 else if (s.size : Int) - nx < (hdN ls : Int) then 3 else 0) = q) := Lib.hid (fun q => by unfold takE; rw [HHd.out]; rfl)
  clear hbd2
  cases ls with
  | nil =>
    have HV : Hid (takE s most = 4) := Lib.hid ((hh2.out 4).2 rfl)
    go_enter Tryz.func15, Tryz.ntmps15
    go_wp2_with fail
    refine HH.out.mono ?_
    rintro e w1 ⟨v, rfl, hown, hb1⟩
    obtain ⟨av, cv, rfl⟩ := slice_of_own hown
    have HB1 := Lib.hid hb1
    obtain ⟨d0, d1, d2, g0, g1, g2⟩ := three_facts (res3 hb1)
    clear hb1 hown
    go_wp2_with fail
    refine ret_cell3 (A := ⟨w.heap.size, 0, none⟩) rfl (load_rrep _ _ _ _ _ _ (three_set (res3 HB1.out) _ _ _)) rfl rfl rfl rfl ?_
    exact rparse_bad s most 4 HV.out (by decide) w _ (three_below (bstep HB0.out HB1.out) _ (Nat.le_refl _) _ _ _)
  | cons x xs =>
    have hxl : x.length ≤ 256 := HBD.out.1 x (List.mem_cons_self ..)
    have HS := Lib.hid (fun w => ref_status_parse (bs x) w (by rw [bs_size]; omega))
    rw [bs_data] at HS
    have HXS : Hid (∀ y ∈ xs, y.length ≤ 256) := Lib.hid (fun y hy => HBD.out.1 y (List.mem_cons_of_mem _ hy))
    have hxn : xs.length ≤ 16 := by have := HBD.out.2; simp at this; omega
    have HSp := Lib.hid (hdE_split x xs)
    have HCN : Hid (hdC (x :: xs) = (statusOf x).1 ∧ hdN (x :: xs) = numV (getS (fldL xs) clen)) := Lib.hid ⟨rfl, rfl⟩
    obtain ⟨⟨C, e0⟩, hst⟩ : ∃ T, statusOf x = T := ⟨_, rfl⟩
    rw [hst] at HS HSp HCN
    clear hst
    go_enter Tryz.func15, Tryz.ntmps15
    go_wp2_with fail
    refine HH.out.mono ?_
    rintro e w1 ⟨v, rfl, hown, hb1⟩
    have hSS := HoldsS.of_own hown
    obtain ⟨av, cv, hv, hcv, hhv⟩ := hSS
    subst hv
    obtain ⟨B, o, rfl, hBl, hcell⟩ := hhv (by simp)
    have c0 := hcell 0 (by simp)
    rw [Nat.add_zero] at c0
    change w1.cell? ⟨B, o, none⟩ = some (.string (bs x)) at c0
    have HST : Hid (HoldsS w1 (.slice (some ⟨B, o, none⟩) (x :: xs).length cv) (x :: xs)) := Lib.hid (HoldsS.of_own hown)
    have HB1 := Lib.hid hb1
    have hll : ((x :: xs).length : Nat) = xs.length + 1 := rfl
    rw [hll] at hcv ⊢
    have tl : (((xs.length : Int) + 1) == 0) = false := by rw [beq_eq_false_iff_ne]; omega
    clear hb1 hown hcell hhv hll HH
    go_wp2_with fail
    refine (HS.out _).mono ?_
    rintro e w2 ⟨rfl, hww⟩
    obtain rfl := hww.symm
    by_cases h1 : e0 = 0
    case neg =>
      have HV : Hid (takE s most = e0 ∧ e0 ≠ 0) := Lib.hid ⟨(hh2.out e0).2 (by rw [HSp.out, if_pos h1, if_pos h1]), h1⟩
      have tz : ((e0 : Int) != 0) = true := by rw [bne_iff_ne]; omega
      obtain ⟨d0, d1, d2, g0, g1, g2⟩ := three_facts (res3 HB1.out)
      clear h1 c0
      go_wp2_with fail
      refine ret_cell3 (A := ⟨w.heap.size, 0, none⟩) rfl (load_rrep _ _ _ _ _ _ (three_set (res3 HB1.out) _ _ _)) rfl rfl rfl rfl ?_
      exact rparse_bad s most _ HV.out.1 HV.out.2 w _ (three_below (bstep HB0.out HB1.out) _ (Nat.le_refl _) _ _ _)
    subst h1
    rw [if_neg (by simp)] at HSp
    clear HS c0
    by_cases hx0 : xs = []
    · subst hx0
      have HV : Hid (takE s most = 6) := Lib.hid ((hh2.out 6).2 (by rw [HSp.out]; rfl))
      have HFE : Hid (∀ a c w, Calls Tryz.prog 36 #[.slice a 0 c] w (FieldsPost [] w)) := Lib.hid (fun a c w => ref_fields w (.slice a 0 c) [] (HoldsS.empty w a c) (by decide) (fun x h => by simp at h))
      by_cases hc : cv = 1
      all_goals
        go_wp2_with fail
        refine (HFE.out _ _ _).mono ?_
        rintro e w3 ⟨v3, rfl, ⟨a3, c3, n3, rfl⟩, hf3, hb3⟩
        have HF3 := Lib.hid (hf3 rfl)
        have HB3 := Lib.hid (bstep HB1.out hb3)
        clear hf3 hb3
        go_wp2_with fail
        refine (get_rk _ _ ⟨#[99, 111, 110, 116, 101, 110, 116, 45, 108, 101, 110, 103, 116, 104]⟩ clen rfl _ HF3.out (by decide)).mono ?_
        rintro e w3 ⟨rfl, rfl⟩
        obtain ⟨d0, d1, d2, g0, g1, g2⟩ := three_facts (res3 HB3.out)
        rw [show getE (fldL []) clen = 6 from rfl]
        go_wp2_with fail
        refine ret_cell3 (A := ⟨w.heap.size, 0, none⟩) rfl (load_rrep _ _ _ _ _ _ (three_set (res3 HB3.out) _ _ _)) rfl rfl rfl rfl ?_
        exact rparse_bad s most 6 HV.out (by decide) w _ (three_below (bstep HB0.out HB3.out) _ (Nat.le_refl _) _ _ _)
    · have hyp : 0 < xs.length := List.length_pos_iff.2 hx0
      have hc : 1 < cv := by omega
      have HT : Hid (HoldsS w1 (.slice (some ⟨B, o + 1, none⟩) xs.length (cv - 1)) xs) := Lib.hid (HST.out.tail hc)
      have HFE := Lib.hid (ref_fields w1 _ xs HT.out (by omega) (fun y hy => by have := HXS.out y hy; omega))
      obtain ⟨fs, hfs⟩ : ∃ fs, fldL xs = fs := ⟨_, rfl⟩
      have hfl : fs.length ≤ 16 := by rw [← hfs]; unfold fldL; rw [List.length_map]; omega
      have hgl : (getS fs clen).length ≤ 256 := by rw [← hfs]; exact getS_len xs clen HXS.out
      have HTL : Hid (restF (fldL (x :: xs).tail) = restF fs) := Lib.hid (by rw [List.tail_cons, hfs])
      have HFS := Lib.hid hfs
      rw [hfs] at HSp HCN
      clear hfs hx0
      go_wp2_with fail
      refine HFE.out.mono ?_
      rintro e w3 ⟨v3, rfl, ⟨a3, c3, n3, rfl⟩, hf3, hb3⟩
      have HB3 := Lib.hid (bstep HB1.out hb3)
      have HF3 := Lib.hid hf3
      clear hf3 hb3
      by_cases h2 : fldE xs = 0
      case neg =>
        have HV : Hid (takE s most = fldE xs ∧ fldE xs ≠ 0) := Lib.hid ⟨(hh2.out _).2 (by rw [HSp.out, if_pos h2, if_pos h2]), h2⟩
        have tz : ((fldE xs : Int) != 0) = true := by rw [bne_iff_ne]; omega
        obtain ⟨d0, d1, d2, g0, g1, g2⟩ := three_facts (res3 HB3.out)
        clear h2
        go_wp2_with fail
        refine ret_cell3 (A := ⟨w.heap.size, 0, none⟩) rfl (load_rrep _ _ _ _ _ _ (three_set (res3 HB3.out) _ _ _)) rfl rfl rfl rfl ?_
        exact rparse_bad s most _ HV.out.1 HV.out.2 w _ (three_below (bstep HB0.out HB3.out) _ (Nat.le_refl _) _ _ _)
      have HF : Hid (HoldsF w3 (.slice a3 n3 c3) fs) := Lib.hid (by have := HF3.out h2; rwa [HFS.out] at this)
      rw [h2, if_neg (by simp)] at HSp
      rw [h2]
      have HG := Lib.hid (get_rk _ fs ⟨#[99, 111, 110, 116, 101, 110, 116, 45, 108, 101, 110, 103, 116, 104]⟩ clen rfl _ HF.out (by omega))
      clear h2 HF3
      go_wp2_with fail
      refine HG.out.mono ?_
      rintro e w4 ⟨rfl, hww⟩
      obtain rfl := hww.symm
      by_cases h3 : getE fs clen = 0
      case neg =>
        have HV : Hid (takE s most = getE fs clen ∧ getE fs clen ≠ 0) := Lib.hid ⟨(hh2.out _).2 (by rw [HSp.out, if_pos h3, if_pos h3]), h3⟩
        have tz : ((getE fs clen : Int) != 0) = true := by rw [bne_iff_ne]; omega
        obtain ⟨d0, d1, d2, g0, g1, g2⟩ := three_facts (res3 HB3.out)
        clear h3
        go_wp2_with fail
        refine ret_cell3 (A := ⟨w.heap.size, 0, none⟩) rfl (load_rrep _ _ _ _ _ _ (three_set (res3 HB3.out) _ _ _)) rfl rfl rfl rfl ?_
        exact rparse_bad s most _ HV.out.1 HV.out.2 w _ (three_below (bstep HB0.out HB3.out) _ (Nat.le_refl _) _ _ _)
      rw [h3, if_neg (by simp)] at HSp
      rw [h3]
      have HN := Lib.hid (fun w => ref_number (bs (getS fs clen)) w (by rw [bs_size]; omega))
      rw [bs_data] at HN
      clear h3 HG
      go_wp2_with fail
      refine (HN.out _).mono ?_
      rintro e w4 ⟨rfl, hww⟩
      obtain rfl := hww.symm
      by_cases h4 : numE (getS fs clen) = 0
      case neg =>
        have HV : Hid (takE s most = numE (getS fs clen) ∧ numE (getS fs clen) ≠ 0) := Lib.hid ⟨(hh2.out _).2 (by rw [HSp.out, if_pos h4]), h4⟩
        have tz : ((numE (getS fs clen) : Int) != 0) = true := by rw [bne_iff_ne]; omega
        obtain ⟨d0, d1, d2, g0, g1, g2⟩ := three_facts (res3 HB3.out)
        clear h4
        go_wp2_with fail
        refine ret_cell3 (A := ⟨w.heap.size, 0, none⟩) rfl (load_rrep _ _ _ _ _ _ (three_set (res3 HB3.out) _ _ _)) rfl rfl rfl rfl ?_
        exact rparse_bad s most _ HV.out.1 HV.out.2 w _ (three_below (bstep HB0.out HB3.out) _ (Nat.le_refl _) _ _ _)
      have HZ : Hid (hdE (x :: xs) = 0) := Lib.hid (by rw [HSp.out]; exact h4)
      rw [h4]
      obtain ⟨N, hN⟩ : ∃ N, numV (getS fs clen) = N := ⟨_, rfl⟩
      rw [hN] at HCN ⊢
      obtain ⟨d0, d1, d2, g0, g1, g2⟩ := three_facts (res3 HB3.out)
      clear h4 hN HN HSp
      by_cases hm : most < (N : Int)
      · have HV : Hid (takE s most = 5) := Lib.hid ((hh2.out 5).2 (by rw [if_neg (by rw [HZ.out]; simp), HCN.out.2, if_pos hm]))
        have tm : decide ((N : Int) > most) = true := decide_eq_true (by omega)
        clear hm
        go_wp2_with fail
        refine ret_cell3 (A := ⟨w.heap.size, 0, none⟩) rfl (load_rrep _ _ _ _ _ _ (three_set (res3 HB3.out) _ _ _)) rfl rfl rfl rfl ?_
        exact rparse_bad s most 5 HV.out (by decide) w _ (three_below (bstep HB0.out HB3.out) _ (Nat.le_refl _) _ _ _)
      have tm : decide ((N : Int) > most) = false := decide_eq_false (by omega)
      have tw : IntKind.i64.wrap ((s.size : Int) - (nx : Int)) = (s.size : Int) - (nx : Int) := by rw [IntKind.wrap_i64]; omega
      by_cases hsh : (s.size : Int) - (nx : Int) < (N : Int)
      · have HV : Hid (takE s most = 3) := Lib.hid ((hh2.out 3).2 (by rw [if_neg (by rw [HZ.out]; simp), HCN.out.2, if_neg hm, if_pos hsh]))
        have ts : decide ((s.size : Int) - (nx : Int) < (N : Int)) = true := decide_eq_true hsh
        clear hm hsh
        go_wp2_with fail
        refine ret_cell3 (A := ⟨w.heap.size, 0, none⟩) rfl (load_rrep _ _ _ _ _ _ (three_set (res3 HB3.out) _ _ _)) rfl rfl rfl rfl ?_
        exact rparse_bad s most 3 HV.out (by decide) w _ (three_below (bstep HB0.out HB3.out) _ (Nat.le_refl _) _ _ _)
      have hz : takE s most = 0 := (hh2.out 0).2 (by rw [if_neg (by rw [HZ.out]; simp), HCN.out.2, if_neg hm, if_neg hsh])
      have HV : Hid (takE s most = 0 ∧ takC s most = C ∧ takF s most = restF fs ∧ takN s most = (nx : Int) + (N : Int) ∧ bs (takB s most) = s.extract nx (nx + N)) := Lib.hid ⟨hz, by unfold takC; rw [if_pos hz, HHd.out]; exact HCN.out.1, by unfold takF; rw [if_pos hz, HHd.out]; exact HTL.out, by unfold takN; rw [if_pos hz, HHd.out]; exact congrArg (fun q : Nat => (nx : Int) + (q : Int)) HCN.out.2, by
        unfold takB; rw [if_pos hz, HHd.out, extract_bs]
        show bs ((s.data.toList.take ((nx : Int).toNat + hdN (x :: xs))).drop (nx : Int).toNat) = _
        rw [HCN.out.2, Int.toNat_natCast]⟩
      have ts : decide ((s.size : Int) - (nx : Int) < (N : Int)) = false := decide_eq_false hsh
      have ta : IntKind.i64.wrap ((nx : Int) + (N : Int)) = (nx : Int) + (N : Int) := by rw [IntKind.wrap_i64]; omega
      have hle : nx + N ≤ s.size := by omega
      have hle2 : (nx : Int) + (N : Int) ≤ (s.size : Int) := by omega
      have hf := HF.out
      obtain ⟨aa, cc, hfe, hfc, hfx⟩ := hf
      injection hfe with q1 q2 q3
      subst q1 q2 q3
      have HX := Lib.hid hfx
      clear hm hsh hz hfx d0 d1 d2 g0 g1 g2 HT HST hBl
      go_wp2_with fail
      have hR0 : RqB (w3.alloc (.cells #[.int .i64 C, .slice none 0 0, .string (s.extract nx (nx + N))] 24)) w3.heap.size (.int .i64 C) (.slice none 0 0) (.string (s.extract nx (nx + N))) := heap_alloc_new w3 _
      have hW0 : (w3.alloc (.cells #[.int .i64 C, .slice none 0 0, .string (s.extract nx (nx + N))] 24)).heap.size = w3.heap.size + 1 := by simp
      have hA0 := (Below.refl w3.heap.size w3).alloc (Nat.le_refl _) (.cells #[.int .i64 C, .slice none 0 0, .string (s.extract nx (nx + N))] 24)
      generalize w3.alloc (.cells #[.int .i64 C, .slice none 0 0, .string (s.extract nx (nx + N))] 24) = W0 at hR0 hW0 hA0 ⊢
      obtain ⟨BD, hBD⟩ : ∃ BD, s.extract nx (nx + N) = BD := ⟨_, rfl⟩
      rw [hBD] at hR0 HV
      have hsz3 : w.heap.size < w3.heap.size := by have := HB3.out.size; simp at this; omega
      obtain ⟨R, hRe⟩ : ∃ R, w3.heap.size = R := ⟨_, rfl⟩
      rw [hRe] at hR0 hW0 hsz3
      have HW0 := Lib.hid (And.intro hR0 (And.intro hW0 hA0))
      have HRE := Lib.hid hRe
      rw [hRe]
      clear hR0 hA0 hBD hRe
      have hR0l : R < W0.heap.size := by omega
      have HW0s := Lib.hid hW0
      clear hW0
      go_loopg [15] fs.length (fun gk s15 wr => ∃ (k : Nat) (fv : Value), s15 = .int .i64 (k : Int) ∧ k + gk = fs.length ∧ Hid (RqB wr R (.int .i64 C) fv (.string BD)) ∧ Hid (wr.ownsRow W0.heap.size 59 2 fv (restF (fs.take k)).length (fcells (restF (fs.take k)))) ∧ Hid (W0.grownBy wr (some R)))
      case atStart => exact ⟨0, _, by simp, by omega, Lib.hid HW0.out.1, Lib.hid (by rw [List.take_zero]; exact World.ownsRow_nil _ _ _ _), Lib.hid (GR.refl _ _)⟩
      case round =>
        obtain ⟨k, fv, rfl, hgk, HRr, HOr, HGr⟩ := hrel
        obtain ⟨avv, cvv, rfl⟩ := own_fslice HOr.out
        have hRl := HRr.out.lt
        obtain ⟨r0, r1, r2, -, f1, -⟩ := three_facts HRr.out
        by_cases hk : k < fs.length
        · obtain ⟨g', rfl⟩ : ∃ g', gk = g' + 1 := ⟨gk - 1, by omega⟩
          have hkI : decide ((k : Int) < (fs.length : Int)) = true := decide_eq_true (by omega)
          have hkI2 : (k : Int) < (fs.length : Int) := by omega
          obtain ⟨bb, o', rfl, hbl, hcell⟩ := HX.out (fun e => by rw [e] at hk; exact absurd hk (Nat.not_lt_zero _))
          have HBR : Hid (Below R W0 wr) := Lib.hid (HGr.out.toBelow (Nat.le_of_lt hR0l))
          have hbR : bb < R := by have := HRE.out; omega
          have c0 := (HBR.out.cell (p := ⟨bb, o' + k * 2, none⟩) hbR).trans ((HW0.out.2.2.cell (p := ⟨bb, o' + k * 2, none⟩) hbl).trans (hcell k hk).1)
          have c1 := (HBR.out.cell (p := ⟨bb, o' + k * 2 + 1, none⟩) hbR).trans ((HW0.out.2.2.cell (p := ⟨bb, o' + k * 2 + 1, none⟩) hbl).trans (hcell k hk).2)
          have HTk := Lib.hid (restF_take fs k hk)
          obtain ⟨y, hy⟩ : ∃ y, fs[k] = y := ⟨_, rfl⟩
          rw [hy] at c0 c1 HTk
          have hcmp := bs_lit y.1 [99, 111, 110, 116, 101, 110, 116, 45, 108, 101, 110, 103, 116, 104]
          have hkl : Hid ((restF (fs.take k)).length < 2147483648) := Lib.hid (by have := restF_len (fs.take k); rw [List.length_take] at this; omega)
          obtain ⟨rk, hrk⟩ : ∃ rk, restF (fs.take k) = rk := ⟨_, rfl⟩
          rw [hrk] at HOr HTk hkl HRr r1
          clear hcell hy hrk
          by_cases hnm : y.1 = clen
          · have HTS : Hid (restF (fs.take (k + 1)) = rk) := Lib.hid (by rw [HTk.out, if_pos hnm, List.append_nil])
            rw [decide_eq_true (show y.1 = [99, 111, 110, 116, 101, 110, 116, 45, 108, 101, 110, 103, 116, 104] from hnm)] at hcmp
            have hcmp2 : ((bs y.1).toList != [99, 111, 110, 116, 101, 110, 116, 45, 108, 101, 110, 103, 116, 104]) = false := by unfold bne; rw [hcmp]; rfl
            clear hnm
            go_wp2_with fail
            go_roundg g'
            case measure => omega
            case rel => exact ⟨k + 1, _, by simp, by omega, HRr, by rw [HTS.out]; exact HOr, HGr⟩
          · have HTS : Hid (restF (fs.take (k + 1)) = rk ++ [y]) := Lib.hid (by rw [HTk.out, if_neg hnm])
            rw [decide_eq_false (show ¬ y.1 = [99, 111, 110, 116, 101, 110, 116, 45, 108, 101, 110, 103, 116, 104] from hnm)] at hcmp
            have hcmp2 : ((bs y.1).toList != [99, 111, 110, 116, 101, 110, 116, 45, 108, 101, 110, 103, 116, 104]) = true := by unfold bne; rw [hcmp]; rfl
            clear hnm
            go_wp2_with fail
            go_region_law (refine step_appQ W0 rfl hR0l _ rfl _ _ rfl HRr.out HOr.out HGr.out rfl hkl.out ?_ wr.heap.size y ?_ rfl ?_; exact ((Below.refl _ _).alloc (Nat.le_refl _) _).drew; exact heap_alloc_new wr _; intro g cap w4 hown4 hc4 hf4 haf)
            all_goals
              go_wp2_with fail
              go_roundg g'
              case measure => omega
              case rel =>
                refine ⟨k + 1, _, by simp, by omega, Lib.hid (haf.1.set1 _), Lib.hid ?_, Lib.hid (haf.2.set 1 _)⟩
                rw [HTS.out]; exact ownsRow_setCell_below hown4 (a := ⟨R, 1, none⟩) hR0l _
        · obtain rfl : k = fs.length := by omega
          have hkI : decide ((fs.length : Int) < (fs.length : Int)) = false := decide_eq_false (by omega)
          have HBR : Hid (Below R W0 wr) := Lib.hid (HGr.out.toBelow (Nat.le_of_lt hR0l))
          have HBW : Hid (Below w3.heap.size w3 wr) := Lib.hid (by have h1 := HW0.out.2.2; have h2 := HBR.out; rw [← HRE.out] at h2; exact h1.trans h2)
          have HRES : Hid (wr.heap[w.heap.size]? = some (.cells #[.int .i64 0, .slice none 0 0, .string ⟨#[]⟩] 24 (0, 0))) := Lib.hid (by
            have hl : w.heap.size < w3.heap.size := by rw [HRE.out]; exact hsz3
            exact (HBW.out.block w.heap.size hl).trans (res3 HB3.out))
          obtain ⟨d0, d1, d2, g0, g1, g2⟩ := three_facts HRES.out
          have hFl : Hid ((restF (fs.take fs.length)) = restF fs) := Lib.hid (by rw [List.take_length])
          rw [hFl.out] at HOr HRr r1
          obtain ⟨rk, hrk⟩ : ∃ rk, restF fs = rk := ⟨_, rfl⟩
          rw [hrk] at HOr HRr r1 HV
          clear hrk hFl
          go_wp2_with fail
          refine ret_cell3 (A := ⟨w.heap.size, 0, none⟩) rfl (load_rrep _ _ _ _ _ _ (three_set HRES.out _ _ _)) rfl rfl rfl rfl ?_
          refine rparse_good s most HV.out.1 w _ _ ?_ (three_below (bstep HB0.out (HB3.out.trans (HBW.out.mono HB3.out.size))) _ (Nat.le_refl _) _ _ _) _ _ _ HV.out.2.1 HV.out.2.2.2.1 HV.out.2.2.2.2
          rw [HV.out.2.2.1]
          have hl : w.heap.size < W0.heap.size := by omega
          exact ⟨_, (ownsRow_setCell_below (ownsRow_setCell_below (ownsRow_setCell_below HOr.out (a := ⟨w.heap.size, 0, none⟩) hl _) (a := ⟨w.heap.size, 1, none⟩) hl _) (a := ⟨w.heap.size, 2, none⟩) hl _)⟩
end Go.Proofs.YtiljjkdpjbffbaaGreatDoor
namespace Go.Proofs.YtiljjkdpjbffbaaGreatDoor
open Go.RowKit
def OwnR (c : Int) (fs : List (List UInt8 × List UInt8)) (x : ByteArray) (t : TypeId) (w : World) (e : Ending) (w' : World) : Prop :=
  ∃ a cp, e = .returned (.agg #[.int .i64 c, .slice a fs.length cp, .string x]) ∧ w'.ownsRow w.heap.size t 2 (.slice a fs.length cp) fs.length (fcells fs) ∧ Below w.heap.size w w'
set_option maxRecDepth 100000 in
set_option maxHeartbeats 2000000 in
theorem law26_own (c : Int) (v : Value) (fs : List (List UInt8 × List UInt8)) (x : ByteArray) (w : World) (hv : HoldsF w v fs) (hlen : fs.length < 2147483648) :
    Calls Tryz.prog 10 #[.agg #[.int .i64 c, v, .string x]] w (OwnR c fs x 51 w) := by
  have B1 := below_r3 w (.int .i64 c) v (.string x)
  have HW0 := Lib.hid (bstep B1 (below_agg3 (w.alloc (.cells #[.int .i64 c, v, .string x] 24)) (.int .i64 0) (.slice none 0 0) (.string ⟨#[]⟩) 32))
  have hv0 := hv.below HW0.out
  have hk0 := heap_alloc2_new w (.cells #[.int .i64 c, v, .string x] 24) (.cells #[.int .i64 0, .slice none 0 0, .string ⟨#[]⟩] 32)
  have hp0 := ((below_agg3 (w.alloc (.cells #[.int .i64 c, v, .string x] 24)) (.int .i64 0) (.slice none 0 0) (.string ⟨#[]⟩) 32).block w.heap.size (by simp)).trans (heap_alloc_new w _)
  have hsz : ((w.alloc (.cells #[.int .i64 c, v, .string x] 24)).alloc (.cells #[.int .i64 0, .slice none 0 0, .string ⟨#[]⟩] 32)).heap.size = w.heap.size + 1 + 1 := by simp
  clear hv B1
  go_enter Tryz.func10, Tryz.ntmps10
  go_wp2_with fail
  generalize ((w.alloc (.cells #[.int .i64 c, v, .string x] 24)).alloc (.cells #[.int .i64 0, .slice none 0 0, .string ⟨#[]⟩] 32)) = W0 at HW0 hv0 hk0 hp0 hsz ⊢
  have HO : Hid (∀ W, Below W0.heap.size W0 W → Calls Tryz.prog 25 #[v] W fun e w' => ∃ a cp, e = .returned (.slice a fs.length cp) ∧ w'.ownsRow W0.heap.size 51 2 (.slice a fs.length cp) fs.length (fcells fs) ∧ Below W.heap.size W w') := Lib.hid (fun W hW => by
    refine (law_own_row v fs W (hv0.below hW) hlen).mono ?_
    rintro e w' ⟨v', rfl, h1, h2⟩
    obtain ⟨a, cp, rfl⟩ := own_fslice h1
    exact ⟨a, cp, rfl, own_lowerF h1 hW.size, h2⟩)
  obtain ⟨p0, p1, p2, -, -, -⟩ := three_facts hp0
  obtain ⟨k0, k1, k2, f0, f1, f2⟩ := three_facts hk0
  have HS : Hid (∀ W, Below (w.heap.size + 1) W0 W → W.cell? ⟨w.heap.size, 0, none⟩ = some (.int .i64 c) ∧ W.cell? ⟨w.heap.size, 1, none⟩ = some v ∧ W.cell? ⟨w.heap.size, 2, none⟩ = some (.string x)) := Lib.hid (fun W hW => by
    have l0 : w.heap.size < w.heap.size + 1 := by omega
    exact ⟨(hW.cell (p := ⟨_, 0, none⟩) l0).trans p0, (hW.cell (p := ⟨_, 1, none⟩) l0).trans p1, (hW.cell (p := ⟨_, 2, none⟩) l0).trans p2⟩)
  have HK : Hid (∀ W, Below W0.heap.size W0 W → W.heap[w.heap.size + 1]? = some (.cells #[.int .i64 0, .slice none 0 0, .string ⟨#[]⟩] 32 (0, 0))) := Lib.hid (fun W hW => (hW.block (w.heap.size + 1) (by omega)).trans hk0)
  have HSZ := Lib.hid hsz
  clear hv0 hk0 hp0 hsz
  have hz1 : w.heap.size + 1 ≤ W0.heap.size := by have := HSZ.out; omega
  clear k0 k1 k2 f0 f1 f2 p0 p1 p2
  go_region_held3 (fun w' => w'.cell? ⟨w.heap.size, 0, none⟩ = some (.int .i64 c) ∧ w'.cell? ⟨w.heap.size, 1, none⟩ = some v ∧ w'.cell? ⟨w.heap.size, 2, none⟩ = some (.string x)) (first | exact HS.out _ (Below.refl _ _).drew | exact HS.out _ (HA1.out.mono hz1) | exact HS.out _ (three_below (HA1.out.mono hz1) _ (Nat.le_refl _) _ _ _))
    (first
      | (go_at_call 25; refine (HO.out _ (Below.refl _ _).drew).mono ?_; rintro e wx ⟨ax, cx, rfl, hox, hbx⟩; have HA1 : Hid (Below W0.heap.size W0 wx) := Lib.hid (bstep (Below.refl _ _).drew hbx); have HOX := Lib.hid hox; obtain ⟨k0, k1, k2, f0, f1, f2⟩ := three_facts (HK.out _ HA1.out); clear hox hbx))
  clear k0 k1 k2 f0 f1 f2
  go_wp2_with fail
  refine ret_cell (A := ⟨w.heap.size + 1, 0, none⟩) rfl (load_rep _ _ _ _ _ _ (three_set (HK.out _ HA1.out) _ _ _)) rfl rfl ?_
  have hl : w.heap.size + 1 < W0.heap.size := by have := HSZ.out; omega
  exact ⟨ax, cx, rfl, own_lowerF (ownsRow_setCell_below (ownsRow_setCell_below (ownsRow_setCell_below HOX.out (a := ⟨w.heap.size + 1, 0, none⟩) hl _) (a := ⟨w.heap.size + 1, 1, none⟩) hl _) (a := ⟨w.heap.size + 1, 2, none⟩) hl _) (by omega), three_below (bstep HW0.out HA1.out) _ (by omega) _ _ _⟩
set_option maxRecDepth 100000 in
set_option maxHeartbeats 2000000 in
theorem law26_back (c : Int) (v : Value) (fs : List (List UInt8 × List UInt8)) (x : ByteArray) (w : World) (hv : HoldsF w v fs) (hlen : fs.length < 2147483648) :
    Calls Tryz.prog 16 #[.agg #[.int .i64 c, v, .string x]] w (OwnR c fs x 59 w) := by
  have B1 := below_agg3 w (.int .i64 c) v (.string x) 32
  have HW0 := Lib.hid (bstep B1 (below_agg3 (w.alloc (.cells #[.int .i64 c, v, .string x] 32)) (.int .i64 0) (.slice none 0 0) (.string ⟨#[]⟩) 24))
  have hv0 := hv.below HW0.out
  have hk0 := heap_alloc2_new w (.cells #[.int .i64 c, v, .string x] 32) (.cells #[.int .i64 0, .slice none 0 0, .string ⟨#[]⟩] 24)
  have hp0 := ((below_agg3 (w.alloc (.cells #[.int .i64 c, v, .string x] 32)) (.int .i64 0) (.slice none 0 0) (.string ⟨#[]⟩) 24).block w.heap.size (by simp)).trans (heap_alloc_new w _)
  have hsz : ((w.alloc (.cells #[.int .i64 c, v, .string x] 32)).alloc (.cells #[.int .i64 0, .slice none 0 0, .string ⟨#[]⟩] 24)).heap.size = w.heap.size + 1 + 1 := by simp
  clear hv B1
  go_enter Tryz.func16, Tryz.ntmps16
  go_wp2_with fail
  generalize ((w.alloc (.cells #[.int .i64 c, v, .string x] 32)).alloc (.cells #[.int .i64 0, .slice none 0 0, .string ⟨#[]⟩] 24)) = W0 at HW0 hv0 hk0 hp0 hsz ⊢
  have HO : Hid (∀ W, Below W0.heap.size W0 W → Calls Tryz.prog 39 #[v] W fun e w' => ∃ a cp, e = .returned (.slice a fs.length cp) ∧ w'.ownsRow W0.heap.size 59 2 (.slice a fs.length cp) fs.length (fcells fs) ∧ Below W.heap.size W w') := Lib.hid (fun W hW => by
    refine (law_back_row v fs W (hv0.below hW) hlen).mono ?_
    rintro e w' ⟨v', rfl, h1, h2⟩
    obtain ⟨a, cp, rfl⟩ := own_fslice h1
    exact ⟨a, cp, rfl, own_lowerF h1 hW.size, h2⟩)
  obtain ⟨p0, p1, p2, -, -, -⟩ := three_facts hp0
  obtain ⟨k0, k1, k2, f0, f1, f2⟩ := three_facts hk0
  have HS : Hid (∀ W, Below (w.heap.size + 1) W0 W → W.cell? ⟨w.heap.size, 0, none⟩ = some (.int .i64 c) ∧ W.cell? ⟨w.heap.size, 1, none⟩ = some v ∧ W.cell? ⟨w.heap.size, 2, none⟩ = some (.string x)) := Lib.hid (fun W hW => by
    have l0 : w.heap.size < w.heap.size + 1 := by omega
    exact ⟨(hW.cell (p := ⟨_, 0, none⟩) l0).trans p0, (hW.cell (p := ⟨_, 1, none⟩) l0).trans p1, (hW.cell (p := ⟨_, 2, none⟩) l0).trans p2⟩)
  have HK : Hid (∀ W, Below W0.heap.size W0 W → W.heap[w.heap.size + 1]? = some (.cells #[.int .i64 0, .slice none 0 0, .string ⟨#[]⟩] 24 (0, 0))) := Lib.hid (fun W hW => (hW.block (w.heap.size + 1) (by omega)).trans hk0)
  have HSZ := Lib.hid hsz
  clear hv0 hk0 hp0 hsz
  have hz1 : w.heap.size + 1 ≤ W0.heap.size := by have := HSZ.out; omega
  clear k0 k1 k2 f0 f1 f2 p0 p1 p2
  go_region_held3 (fun w' => w'.cell? ⟨w.heap.size, 0, none⟩ = some (.int .i64 c) ∧ w'.cell? ⟨w.heap.size, 1, none⟩ = some v ∧ w'.cell? ⟨w.heap.size, 2, none⟩ = some (.string x)) (first | exact HS.out _ (Below.refl _ _).drew | exact HS.out _ (HA1.out.mono hz1) | exact HS.out _ (three_below (HA1.out.mono hz1) _ (Nat.le_refl _) _ _ _))
    (first
      | (go_at_call 39; refine (HO.out _ (Below.refl _ _).drew).mono ?_; rintro e wx ⟨ax, cx, rfl, hox, hbx⟩; have HA1 : Hid (Below W0.heap.size W0 wx) := Lib.hid (bstep (Below.refl _ _).drew hbx); have HOX := Lib.hid hox; obtain ⟨k0, k1, k2, f0, f1, f2⟩ := three_facts (HK.out _ HA1.out); clear hox hbx))
  clear k0 k1 k2 f0 f1 f2
  go_wp2_with fail
  refine ret_cell (A := ⟨w.heap.size + 1, 0, none⟩) rfl (load_rrep _ _ _ _ _ _ (three_set (HK.out _ HA1.out) _ _ _)) rfl rfl ?_
  have hl : w.heap.size + 1 < W0.heap.size := by have := HSZ.out; omega
  exact ⟨ax, cx, rfl, own_lowerF (ownsRow_setCell_below (ownsRow_setCell_below (ownsRow_setCell_below HOX.out (a := ⟨w.heap.size + 1, 0, none⟩) hl _) (a := ⟨w.heap.size + 1, 1, none⟩) hl _) (a := ⟨w.heap.size + 1, 2, none⟩) hl _) (by omega), three_below (bstep HW0.out HA1.out) _ (by omega) _ _ _⟩
end Go.Proofs.YtiljjkdpjbffbaaGreatDoor
