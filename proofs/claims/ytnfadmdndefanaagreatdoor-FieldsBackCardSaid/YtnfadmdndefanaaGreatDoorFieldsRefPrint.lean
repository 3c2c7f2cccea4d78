/- What Print of the reference of fields returns. -/
import Derived.Test.YtnfadmdndefanaaGreatDoorFieldsRefParse
import Derived.Test.YtnfadmdndefanaaGreatDoorFieldsPrint
namespace Go.Proofs.YtnfadmdndefanaaGreatDoor
open Go.RowKit

theorem conv_int (W : World) (z : Int) (c : UInt8) (h : z = (c.toNat : Int)) : (convert 55 9 (.slice (some ⟨W.heap.size, 0, none⟩) 1 1)).run Tryz.prog (W.alloc (.cells #[.int .u8 z] 5)) = .ok (.string ⟨#[c]⟩) (W.alloc (.cells #[.int .u8 z] 5)) := by
  subst h; exact conv_one W c
/-- does a part of a name begin at a place? -/
def begAt (N : List UInt8) (i : Nat) : Bool := match i with | 0 => true | m + 1 => match N[m]? with | none => true | some c => stB c
theorem titL_succ (N : List UInt8) (i : Nat) (h : i < N.length) : titL true (N.take (i + 1)) = titL true (N.take i) ++ [UInt8.ofNat (titN (begAt N i) N[i].toNat)] := by
  rw [List.take_succ_eq_append_getElem h, titL_append]
  congr 1
  show [UInt8.ofNat (titN _ _)] = _
  congr 3
  cases i with
  | zero => rfl
  | succ m =>
    have : (N.take (m + 1)).getLast? = some (N[m]'(by omega)) := by
      rw [List.take_succ_eq_append_getElem (by omega), List.getLast?_append]; rfl
    rw [this]
    show _ = (match N[m]? with | none => true | some c => stB c)
    rw [List.getElem?_eq_getElem (by omega)]
theorem tit_keep (c : UInt8) (b : Bool) (h : (b && letN c.toNat) = false) : UInt8.ofNat (titN b c.toNat) = c := by
  unfold titN; rw [h, if_neg (by decide)]; exact UInt8.ofNat_toNat
theorem tit_up (c : UInt8) (b : Bool) (h : (b && letN c.toNat) = true) (h2 : 97 ≤ c.toNat) : (UInt8.ofNat (titN b c.toNat)).toNat = c.toNat - 32 := by
  unfold titN; rw [if_pos h, UInt8.toNat_ofNat']; have := c.toNat_lt; omega

set_option maxRecDepth 100000 in
set_option maxHeartbeats 4000000 in
theorem ref_fprint (n v : ByteArray) (w : World) (hn : n.size ≤ 1000000) (hv : v.size ≤ 1000000) :
    Calls Tryz.prog 11 #[.agg #[.string n, .string v]] w fun e w' => e = .returned (.tuple #[.string (bs (fieldS n.data.toList v.data.toList)), .int .i64 (fieldE n.data.toList v.data.toList)]) ∧ Below w.heap.size w w' := by
  have HNm := Lib.hid (fun w => ref_name n w (by omega))
  have HPl := Lib.hid (fun w => ref_fplain v w (by omega))
  obtain ⟨N, hN⟩ : ∃ N, N = n.data.toList := ⟨_, rfl⟩
  obtain ⟨V, hV⟩ : ∃ V, V = v.data.toList := ⟨_, rfl⟩
  rw [← hN] at HNm
  rw [← hV] at HPl
  rw [← hN, ← hV]
  have HNV := Lib.hid (And.intro hN hV)
  clear hN hV
  have box := box_cells w n v 23
  have hb0 := below_box2 w (.string n) (.string v) 23
  have hbl : w.heap.size < (w.alloc (.cells #[.string n, .string v] 23)).heap.size := by simp
  obtain ⟨k0, k1⟩ := box
  cases h1 : nameL N with
  | false =>
    have HF := Lib.hid (fieldE_not N V (by unfold printOk; rw [h1]; rfl))
    rw [h1] at HNm
    clear h1 HPl
    go_enter Tryz.func11, Tryz.ntmps11
    go_wp2_with (go_at_call 28; refine (HNm.out _).mono ?_; rintro e w' ⟨rfl, rfl⟩)
    go_ret2
    exact ⟨ret_pair (by rw [HF.out.2]; rfl) (by rw [HF.out.1]; rfl), hb0⟩
  | true =>
    rw [h1] at HNm
    have hn1 := Lib.hid h1
    clear h1
    cases h2 : (V.all fun c => plainB c.toNat) with
    | false =>
      have HF := Lib.hid (fieldE_not N V (by unfold printOk plainAll; rw [h2, Bool.and_false]; rfl))
      rw [h2] at HPl
      clear h2
      go_enter Tryz.func11, Tryz.ntmps11
      go_wp2_with (first
        | (go_at_call 28; refine (HNm.out _).mono ?_; rintro e w' ⟨rfl, rfl⟩)
        | (go_at_call 26; refine (HPl.out _).mono ?_; rintro e w' ⟨rfl, rfl⟩))
      go_ret2
      exact ⟨ret_pair (by rw [HF.out.2]; rfl) (by rw [HF.out.1]; rfl), hb0⟩
    | true =>
      rw [h2] at HPl
      have hp1 := Lib.hid h2
      clear h2
      by_cases hpos : 0 < v.size
      case' pos =>
        obtain ⟨m, hm⟩ : ∃ m, v.size = m + 1 := ⟨v.size - 1, by omega⟩
        have hlm : m < v.size := by omega
        have hmi : ((v.size : Int) - 1) = (m : Int) := by omega
        have hg0 : headGap V = gapB v[0] := by rw [HNV.out.2, drop_one v hpos]; rfl
        have hgm : headGap V.reverse = gapB v[m] := by rw [HNV.out.2, drop_last v m hm, List.reverse_append]; rfl
        have HG0 := Lib.hid (fun w => ref_gap v[0] w)
        have HGm := Lib.hid (fun w => ref_gap v[m] w)
        have HM := Lib.hid hm
        clear hm
        rw [← hg0] at HG0
        rw [← hgm] at HGm
        clear hg0 hgm
        cases h3 : headGap V
        case true =>
          have HF := Lib.hid (fieldE_not N V (by unfold printOk noGap; rw [h3]; simp))
          rw [h3] at HG0
          clear h3
          go_enter Tryz.func11, Tryz.ntmps11
          go_wp2_with (first
            | (go_at_call 28; refine (HNm.out _).mono ?_; rintro e w' ⟨rfl, rfl⟩)
            | (go_at_call 26; refine (HPl.out _).mono ?_; rintro e w' ⟨rfl, rfl⟩)
            | (go_at_call 29; refine (HG0.out _).mono ?_; rintro e w' ⟨rfl, rfl⟩))
          go_ret2
          exact ⟨ret_pair (by rw [HF.out.2]; rfl) (by rw [HF.out.1]; rfl), hb0⟩
        case' false =>
          rw [h3] at HG0
          cases h4 : headGap V.reverse
          case true =>
            have HF := Lib.hid (fieldE_not N V (by unfold printOk noGap; rw [h4]; simp))
            rw [h4] at HGm
            clear h3 h4
            go_enter Tryz.func11, Tryz.ntmps11
            go_wp2_with (first
              | (go_at_call 28; refine (HNm.out _).mono ?_; rintro e w' ⟨rfl, rfl⟩)
              | (go_at_call 26; refine (HPl.out _).mono ?_; rintro e w' ⟨rfl, rfl⟩)
              | fail)
            refine (HG0.out _).mono ?_
            rintro e w' ⟨rfl, rfl⟩
            go_wp2_with fail
            refine (HGm.out _).mono ?_
            rintro e w' ⟨rfl, rfl⟩
            go_wp2_with fail
            go_ret2
            exact ⟨ret_pair (by rw [HF.out.2]; rfl) (by rw [HF.out.1]; rfl), hb0⟩
          case' false =>
            rw [h4] at HGm
            have hok : Hid (printOk N V = true) := Lib.hid (by unfold printOk noGap; rw [hn1.out, h3, h4]; rw [show plainAll V = true from hp1.out]; rfl)
            clear h3 h4
            go_enter Tryz.func11, Tryz.ntmps11
            go_wp2_with (first
              | (go_at_call 28; refine (HNm.out _).mono ?_; rintro e w' ⟨rfl, rfl⟩)
              | (go_at_call 26; refine (HPl.out _).mono ?_; rintro e w' ⟨rfl, rfl⟩)
              | fail)
            refine (HG0.out _).mono ?_
            rintro e w' ⟨rfl, rfl⟩
            go_wp2_with fail
            refine (HGm.out _).mono ?_
            rintro e w' ⟨rfl, rfl⟩
            go_wp2_with fail
            clear HG0 HGm hmi HM
      case' neg =>
        have hok : Hid (printOk N V = true) := Lib.hid (by
          have hV0 : V = [] := List.length_eq_zero_iff.1 (by rw [HNV.out.2, size_len]; omega)
          unfold printOk; rw [hn1.out, show plainAll V = true from hp1.out, hV0]; rfl)
        have t0 : decide ((v.size : Int) > 0) = false := decide_eq_false (by omega)
        go_enter Tryz.func11, Tryz.ntmps11
        go_wp2_with (first
          | (go_at_call 28; refine (HNm.out _).mono ?_; rintro e w' ⟨rfl, rfl⟩)
          | (go_at_call 26; refine (HPl.out _).mono ?_; rintro e w' ⟨rfl, rfl⟩))
        clear t0
      all_goals
        clear HPl HNm
        have H5 := fieldE_yes N V hok.out
        have HY := Lib.hid H5
        clear H5
        have hlN : N.length = n.size := by rw [HNV.out.1]; exact size_len n
        have hlV : V.length = v.size := by rw [HNV.out.2]; exact size_len v
        go_loopw [5, 6] (fun s i wr => ∃ k : Nat, k ≤ n.size ∧ i = .int .i64 k ∧ s = .string (bs (titL true (N.take k))) ∧ Below (w.alloc (.cells #[.string n, .string v] 23)).heap.size (w.alloc (.cells #[.string n, .string v] 23)) wr) (fun _ i _ => n.size - (intOf i).toNat)
        case atStart => exact ⟨0, by omega, rfl, rfl, Below.refl _ _⟩
        case round =>
          obtain ⟨k, hk, rfl, rfl, hb⟩ := hrel
          have k0' := (hb.cell (p := ⟨w.heap.size, 0, none⟩) hbl).trans k0
          by_cases hlt : k < n.size
          · have hNk : N[k]'(by omega) = n[k] := by have := HNV.out.1; subst this; rfl
            have hX := titL_succ N k (by omega)
            rw [hNk] at hX
            have hsz : (bs (titL true (N.take k))).size + 1 ≤ 9223372036854775807 := by rw [bs_size, titL_len, List.length_take]; omega
            have hst : Hid (bs (titL true (N.take k)) ++ ⟨#[UInt8.ofNat (titN (begAt N k) n[k].toNat)]⟩ = bs (titL true (N.take (k + 1)))) := Lib.hid (by rw [hX, bs_snoc])
            clear hX hNk
            have hone : ∀ X : UInt8, (ByteArray.mk #[X]).size = 1 := fun _ => rfl
            obtain ⟨S, hS⟩ : ∃ S, S = bs (titL true (N.take k)) := ⟨_, rfl⟩
            rw [← hS] at hst hsz ⊢
            clear hS
            by_cases c1 : n[k].toNat < 97
            case' pos =>
              have e := tit_keep n[k] (begAt N k) (by rw [letN_lo _ c1, Bool.and_false])
              rw [e] at hst
              have hcv := conv_one wr n[k]
              have t1 : decide ((n[k].toNat : Int) ≥ 97) = false := decide_eq_false (by omega)
              clear e
            case' neg =>
              by_cases c2 : 122 < n[k].toNat
              case' pos =>
                have e := tit_keep n[k] (begAt N k) (by rw [letN_hi _ c2, Bool.and_false])
                rw [e] at hst
                have hcv := conv_one wr n[k]
                have t1 : decide ((n[k].toNat : Int) ≤ 122) = false := decide_eq_false (by omega)
                clear e
              case' neg =>
                have hlet := letN_in n[k].toNat (by omega) (by omega)
                have t1 : decide ((n[k].toNat : Int) ≤ 122) = true := decide_eq_true (by omega)
                have t0 : 97 ≤ n[k].toNat := by omega
                rcases Nat.eq_zero_or_pos k with hz | hp
                case' inl =>
                  subst hz
                  have e := tit_up n[0] true (by rw [hlet]; rfl) t0
                  have hcv := conv_int wr ((n[0].toNat : Int) - 32) (UInt8.ofNat (titN true n[0].toNat)) (by rw [e]; omega)
                  change Hid (S ++ ⟨#[UInt8.ofNat (titN true n[0].toNat)]⟩ = _) at hst
                  clear e hlet
                case' inr =>
                  obtain ⟨m, rfl⟩ : ∃ m, k = m + 1 := ⟨k - 1, by omega⟩
                  have hm : m < n.size := by omega
                  have hbm : begAt N (m + 1) = stB n[m] := by
                    show (match N[m]? with | none => true | some c => stB c) = _
                    rw [List.getElem?_eq_getElem (by omega)]
                    have := HNV.out.1; subst this; rfl
                  rw [hbm] at hst
                  clear hbm hp
                  by_cases c45 : n[m].toNat = 45
                  case' pos =>
                    have hs : stB n[m] = true := by unfold stB; rw [c45]; rfl
                    have t2 : ((n[m].toNat : Int) == 45) = true := by rw [c45]; rfl
                    rw [hs] at hst
                    have e := tit_up n[m + 1] true (by rw [hlet]; rfl) t0
                    have hcv := conv_int wr ((n[m + 1].toNat : Int) - 32) (UInt8.ofNat (titN true n[m + 1].toNat)) (by rw [e]; omega)
                    clear e hlet hs c45
                  case' neg =>
                    have t2 : ((n[m].toNat : Int) == 45) = false := by rw [beq_eq_false_iff_ne]; omega
                    have hs : stB n[m] = false := t2
                    rw [hs] at hst
                    have e := tit_keep n[m + 1] false rfl
                    rw [e] at hst
                    have hcv := conv_one wr n[m + 1]
                    clear e hlet hs c45
            all_goals
              go_wp2_with fail
              go_roundw
              case rel =>
                first
                  | exact ⟨k + 1, by omega, by go_num, by rw [hst.out], hb.trans (((Below.refl _ _).alloc (Nat.le_refl _) _).mono hb.size)⟩
                  | exact ⟨m + 1 + 1, by omega, by go_num, by rw [hst.out], hb.trans (((Below.refl _ _).alloc (Nat.le_refl _) _).mono hb.size)⟩
                  | exact ⟨1, by omega, by go_num, by rw [hst.out], hb.trans (((Below.refl _ _).alloc (Nat.le_refl _) _).mono hb.size)⟩
              case measure => simp [intOf]; omega
          · obtain rfl : k = n.size := by omega
            have hall : N.take n.size = N := List.take_of_length_le (by omega)
            rw [hall]
            have hlA : (bs (titL true N)).size = n.size := by rw [bs_size, titL_len, hlN]
            have hpL : (printL N V).length = n.size + 1 + (tailV V).length := by unfold printL; rw [List.length_append, titL_len, List.length_cons, hlN]; omega
            obtain ⟨A, hA⟩ : ∃ A, A = bs (titL true N) := ⟨_, rfl⟩
            rw [← hA] at hlA ⊢
            have hA1 : A.size ≤ 1000000 := by omega
            have z1 : (ByteArray.mk #[58]).size = 1 := rfl
            have z2 : (ByteArray.mk #[32]).size = 1 := rfl
            have zz : ∀ X Y : ByteArray, (X ++ Y).size = X.size + Y.size := fun X Y => ByteArray.size_append
            by_cases hv2 : 0 < v.size
            · first
                | (exfalso; omega)
                | (
                  have e : A ++ ⟨#[58]⟩ ++ ⟨#[32]⟩ ++ v = bs (printL N V) := by
                    have hv3 : v = bs V := by rw [HNV.out.2, bs_self]
                    rw [hA, bs_snoc, bs_snoc, hv3, bs_cat]
                    congr 1
                    unfold printL tailV
                    rw [show V.isEmpty = false from by rw [Bool.eq_false_iff, Ne, List.isEmpty_iff]; intro e; rw [e] at hlV; exact absurd hlV (by simp; omega)]
                    simp
                  have hsz : (A ++ ⟨#[58]⟩ ++ ⟨#[32]⟩ ++ v).size = A.size + 1 + 1 + v.size := by rw [zz, zz, zz]; rfl
                  have hle : (printL N V).length = A.size + 1 + 1 + v.size := by rw [← hsz, e, bs_size]
                  have HE := Lib.hid e
                  have t1 : decide ((v.size : Int) > 0) = true := decide_eq_true (by omega)
                  clear hA hall hlA e hsz hpL
                  have q1 : A.size + 1 ≤ 9223372036854775807 := by omega
                  have q2 : A.size + 1 + 1 ≤ 9223372036854775807 := by omega
                  have q3 : A.size + 1 + 1 + v.size ≤ 9223372036854775807 := by omega
                  by_cases hlong : 256 < A.size + 1 + 1 + v.size
                  · have HF := Lib.hid (HY.out.1 (by omega))
                    clear hle
                    go_wp2_with fail
                    go_ret2
                    exact ⟨ret_pair (by rw [HF.out.2]; rfl) (by rw [HF.out.1]; rfl), hb0.trans (hb.mono (by simp))⟩
                  · have HF := Lib.hid (HY.out.2 (by omega))
                    clear hle
                    go_wp2_with fail
                    go_ret2
                    exact ⟨ret_pair (by rw [HF.out.2, ← HE.out]) (by rw [HF.out.1]; rfl), hb0.trans (hb.mono (by simp))⟩)
            · first
                | (exfalso; omega)
                | (
                  have e : A ++ ⟨#[58]⟩ = bs (printL N V) := by
                    rw [hA, bs_snoc]
                    congr 1
                    unfold printL tailV
                    rw [show V = [] from List.length_eq_zero_iff.1 (by omega)]
                    rfl
                  have hsz : (A ++ ⟨#[58]⟩).size = A.size + 1 := by rw [zz]; rfl
                  have hle : (printL N V).length = A.size + 1 := by rw [← hsz, e, bs_size]
                  have HE := Lib.hid e
                  have t1 : decide ((v.size : Int) > 0) = false := decide_eq_false (by omega)
                  clear hA hall hlA e hsz hpL
                  have q1 : A.size + 1 ≤ 9223372036854775807 := by omega
                  by_cases hlong : 256 < A.size + 1
                  · have HF := Lib.hid (HY.out.1 (by omega))
                    clear hle
                    go_wp2_with fail
                    go_ret2
                    exact ⟨ret_pair (by rw [HF.out.2]; rfl) (by rw [HF.out.1]; rfl), hb0.trans (hb.mono (by simp))⟩
                  · have HF := Lib.hid (HY.out.2 (by omega))
                    clear hle
                    go_wp2_with fail
                    go_ret2
                    exact ⟨ret_pair (by rw [HF.out.2, ← HE.out]) (by rw [HF.out.1]; rfl), hb0.trans (hb.mono (by simp))⟩)
end Go.Proofs.YtnfadmdndefanaaGreatDoor
