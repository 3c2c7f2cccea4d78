/- What Print of the reference of fields returns. What Over of the reference of fields returns. Whether two replies of the document are the same. What the laws' Own and Back make of fields and of replies. What Over and Print of the reference of reply return. What Parse of the reference of reply returns. What the laws' Own and Back make of replies. The small example of the laws of layer 26. Plain words: what an origin answers (no program in sight). Plain words on feeds: what is taken off bytes, whatever the pieces (no program in sight). The law function ReplyLays. The law function ReplyTakes. The law function ReplyBack. Plain words on connections: what is answered to bytes, whatever the pieces (no program in sight). Blocks that a call touches; rows of bytes. (The same as PoolMem's first part: never import both.) -/
import Derived.Test.YtgnkmfjleecmfaaGreatDoorPs8
import Derived.BigQuiet
import Derived.Outline
import Derived.Deep.RegionHeld3
import Derived.Lib.AppendStr
import Derived.Deep.AppendLies
set_option linter.unusedVariables false
namespace Go.Proofs.YtgnkmfjleecmfaaGreatDoor
open Go.RowKit

theorem conv_int (W : World) (z : Int) (c : UInt8) (h : z = (c.toNat : Int)) : (convert 102 9 (.slice (some ⟨W.heap.size, 0, none⟩) 1 1)).run Tryz.prog (W.alloc (.cells #[.int .u8 z] 5)) = .ok (.string ⟨#[c]⟩) (W.alloc (.cells #[.int .u8 z] 5)) := by
  subst h; exact conv_one W c
/-- does a part of a name begin at a place? -/
def begAt (N : List UInt8) (i : Nat) : Bool := match i with | 0 => true | m + 1 => match N[m]? with | none => true | some c => stB c
theorem titL_succ (N : List UInt8) (i : Nat) (h : i < N.length) : titL true (N.take (i + 1)) = titL true (N.take i) ++ [UInt8.ofNat (titN (begAt N i) N[i].toNat)] := by
  rw [List.take_succ_eq_append_getElem h, titL_append]
  congr 1
  show [UInt8.ofNat (titN _ _)] = _
  congr 3
  cases i with
  | zero => rfl
  | succ m =>
    have : (N.take (m + 1)).getLast? = some (N[m]'(by omega)) := by
      rw [List.take_succ_eq_append_getElem (by omega), List.getLast?_append]; rfl
    rw [this]
    show _ = (match N[m]? with | none => true | some c => stB c)
    rw [List.getElem?_eq_getElem (by omega)]
theorem tit_keep (c : UInt8) (b : Bool) (h : (b && letN c.toNat) = false) : UInt8.ofNat (titN b c.toNat) = c := by
  unfold titN; rw [h, if_neg (by decide)]; exact UInt8.ofNat_toNat
theorem tit_up (c : UInt8) (b : Bool) (h : (b && letN c.toNat) = true) (h2 : 97 ≤ c.toNat) : (UInt8.ofNat (titN b c.toNat)).toNat = c.toNat - 32 := by
  unfold titN; rw [if_pos h, UInt8.toNat_ofNat']; have := c.toNat_lt; omega

set_option maxRecDepth 100000 in
set_option maxHeartbeats 4000000 in
theorem ref_fprint (n v : ByteArray) (w : World) (hn : n.size ≤ 1000000) (hv : v.size ≤ 1000000) :
    Calls Tryz.prog 40 #[.agg #[.string n, .string v]] w fun e w' => e = .returned (.tuple #[.string (bs (fieldS n.data.toList v.data.toList)), .int .i64 (fieldE n.data.toList v.data.toList)]) ∧ Below w.heap.size w w' := by
  have HNm := Lib.hid (fun w => ref_name n w (by omega))
  have HPl := Lib.hid (fun w => ref_fplain v w (by omega))
  obtain ⟨N, hN⟩ : ∃ N, N = n.data.toList := ⟨_, rfl⟩
  obtain ⟨V, hV⟩ : ∃ V, V = v.data.toList := ⟨_, rfl⟩
  rw [← hN] at HNm
  rw [← hV] at HPl
  rw [← hN, ← hV]
  have HNV := Lib.hid (And.intro hN hV)
  clear hN hV
  have box := box_cells w n v 74
  have hb0 := below_box2 w (.string n) (.string v) 74
  have hbl : w.heap.size < (w.alloc (.cells #[.string n, .string v] 74)).heap.size := by simp
  obtain ⟨k0, k1⟩ := box
  cases h1 : nameL N with
  | false =>
    have HF := Lib.hid (fieldE_not N V (by unfold printOk; rw [h1]; rfl))
    rw [h1] at HNm
    clear h1 HPl
    go_enter Tryz.func40, Tryz.ntmps40
    go_wp2_with (go_at_call 64; refine (HNm.out _).mono ?_; rintro e w' ⟨rfl, rfl⟩)
    go_ret2
    exact ⟨ret_pair (by rw [HF.out.2]; rfl) (by rw [HF.out.1]; rfl), hb0⟩
  | true =>
    rw [h1] at HNm
    have hn1 := Lib.hid h1
    clear h1
    cases h2 : (V.all fun c => plainB c.toNat) with
    | false =>
      have HF := Lib.hid (fieldE_not N V (by unfold printOk plainAll; rw [h2, Bool.and_false]; rfl))
      rw [h2] at HPl
      clear h2
      go_enter Tryz.func40, Tryz.ntmps40
      go_wp2_with (first
        | (go_at_call 64; refine (HNm.out _).mono ?_; rintro e w' ⟨rfl, rfl⟩)
        | (go_at_call 62; refine (HPl.out _).mono ?_; rintro e w' ⟨rfl, rfl⟩))
      go_ret2
      exact ⟨ret_pair (by rw [HF.out.2]; rfl) (by rw [HF.out.1]; rfl), hb0⟩
    | true =>
      rw [h2] at HPl
      have hp1 := Lib.hid h2
      clear h2
      by_cases hpos : 0 < v.size
      case' pos =>
        obtain ⟨m, hm⟩ : ∃ m, v.size = m + 1 := ⟨v.size - 1, by omega⟩
        have hlm : m < v.size := by omega
        have hmi : ((v.size : Int) - 1) = (m : Int) := by omega
        have hg0 : headGap V = gapB v[0] := by rw [HNV.out.2, drop_one v hpos]; rfl
        have hgm : headGap V.reverse = gapB v[m] := by rw [HNV.out.2, drop_last v m hm, List.reverse_append]; rfl
        have HG0 := Lib.hid (fun w => ref_gap v[0] w)
        have HGm := Lib.hid (fun w => ref_gap v[m] w)
        have HM := Lib.hid hm
        clear hm
        rw [← hg0] at HG0
        rw [← hgm] at HGm
        clear hg0 hgm
        cases h3 : headGap V
        case true =>
          have HF := Lib.hid (fieldE_not N V (by unfold printOk noGap; rw [h3]; simp))
          rw [h3] at HG0
          clear h3
          go_enter Tryz.func40, Tryz.ntmps40
          go_wp2_with (first
            | (go_at_call 64; refine (HNm.out _).mono ?_; rintro e w' ⟨rfl, rfl⟩)
            | (go_at_call 62; refine (HPl.out _).mono ?_; rintro e w' ⟨rfl, rfl⟩)
            | (go_at_call 65; refine (HG0.out _).mono ?_; rintro e w' ⟨rfl, rfl⟩))
          go_ret2
          exact ⟨ret_pair (by rw [HF.out.2]; rfl) (by rw [HF.out.1]; rfl), hb0⟩
        case' false =>
          rw [h3] at HG0
          cases h4 : headGap V.reverse
          case true =>
            have HF := Lib.hid (fieldE_not N V (by unfold printOk noGap; rw [h4]; simp))
            rw [h4] at HGm
            clear h3 h4
            go_enter Tryz.func40, Tryz.ntmps40
            go_wp2_with (first
              | (go_at_call 64; refine (HNm.out _).mono ?_; rintro e w' ⟨rfl, rfl⟩)
              | (go_at_call 62; refine (HPl.out _).mono ?_; rintro e w' ⟨rfl, rfl⟩)
              | fail)
            refine (HG0.out _).mono ?_
            rintro e w' ⟨rfl, rfl⟩
            go_wp2_with fail
            refine (HGm.out _).mono ?_
            rintro e w' ⟨rfl, rfl⟩
            go_wp2_with fail
            go_ret2
            exact ⟨ret_pair (by rw [HF.out.2]; rfl) (by rw [HF.out.1]; rfl), hb0⟩
          case' false =>
            rw [h4] at HGm
            have hok : Hid (printOk N V = true) := Lib.hid (by unfold printOk noGap; rw [hn1.out, h3, h4]; rw [show plainAll V = true from hp1.out]; rfl)
            clear h3 h4
            go_enter Tryz.func40, Tryz.ntmps40
            go_wp2_with (first
              | (go_at_call 64; refine (HNm.out _).mono ?_; rintro e w' ⟨rfl, rfl⟩)
              | (go_at_call 62; refine (HPl.out _).mono ?_; rintro e w' ⟨rfl, rfl⟩)
              | fail)
            refine (HG0.out _).mono ?_
            rintro e w' ⟨rfl, rfl⟩
            go_wp2_with fail
            refine (HGm.out _).mono ?_
            rintro e w' ⟨rfl, rfl⟩
            go_wp2_with fail
            clear HG0 HGm hmi HM
      case' neg =>
        have hok : Hid (printOk N V = true) := Lib.hid (by
          have hV0 : V = [] := List.length_eq_zero_iff.1 (by rw [HNV.out.2, size_len]; omega)
          unfold printOk; rw [hn1.out, show plainAll V = true from hp1.out, hV0]; rfl)
        have t0 : decide ((v.size : Int) > 0) = false := decide_eq_false (by omega)
        go_enter Tryz.func40, Tryz.ntmps40
        go_wp2_with (first
          | (go_at_call 64; refine (HNm.out _).mono ?_; rintro e w' ⟨rfl, rfl⟩)
          | (go_at_call 62; refine (HPl.out _).mono ?_; rintro e w' ⟨rfl, rfl⟩))
        clear t0
      all_goals
        clear HPl HNm
        have H5 := fieldE_yes N V hok.out
        have HY := Lib.hid H5
        clear H5
        have hlN : N.length = n.size := by rw [HNV.out.1]; exact size_len n
        have hlV : V.length = v.size := by rw [HNV.out.2]; exact size_len v
        go_loopw [5, 6] (fun s i wr => ∃ k : Nat, k ≤ n.size ∧ i = .int .i64 k ∧ s = .string (bs (titL true (N.take k))) ∧ Below (w.alloc (.cells #[.string n, .string v] 74)).heap.size (w.alloc (.cells #[.string n, .string v] 74)) wr) (fun _ i _ => n.size - (intOf i).toNat)
        case atStart => exact ⟨0, by omega, rfl, rfl, Below.refl _ _⟩
        case round =>
          obtain ⟨k, hk, rfl, rfl, hb⟩ := hrel
          have k0' := (hb.cell (p := ⟨w.heap.size, 0, none⟩) hbl).trans k0
          by_cases hlt : k < n.size
          · have hNk : N[k]'(by omega) = n[k] := by have := HNV.out.1; subst this; rfl
            have hX := titL_succ N k (by omega)
            rw [hNk] at hX
            have hsz : (bs (titL true (N.take k))).size + 1 ≤ 9223372036854775807 := by rw [bs_size, titL_len, List.length_take]; omega
            have hst : Hid (bs (titL true (N.take k)) ++ ⟨#[UInt8.ofNat (titN (begAt N k) n[k].toNat)]⟩ = bs (titL true (N.take (k + 1)))) := Lib.hid (by rw [hX, bs_snoc])
            clear hX hNk
            have hone : ∀ X : UInt8, (ByteArray.mk #[X]).size = 1 := fun _ => rfl
            obtain ⟨S, hS⟩ : ∃ S, S = bs (titL true (N.take k)) := ⟨_, rfl⟩
            rw [← hS] at hst hsz ⊢
            clear hS
            by_cases c1 : n[k].toNat < 97
            case' pos =>
              have e := tit_keep n[k] (begAt N k) (by rw [letN_lo _ c1, Bool.and_false])
              rw [e] at hst
              have hcv := conv_one wr n[k]
              have t1 : decide ((n[k].toNat : Int) ≥ 97) = false := decide_eq_false (by omega)
              clear e
            case' neg =>
              by_cases c2 : 122 < n[k].toNat
              case' pos =>
                have e := tit_keep n[k] (begAt N k) (by rw [letN_hi _ c2, Bool.and_false])
                rw [e] at hst
                have hcv := conv_one wr n[k]
                have t1 : decide ((n[k].toNat : Int) ≤ 122) = false := decide_eq_false (by omega)
                clear e
              case' neg =>
                have hlet := letN_in n[k].toNat (by omega) (by omega)
                have t1 : decide ((n[k].toNat : Int) ≤ 122) = true := decide_eq_true (by omega)
                have t0 : 97 ≤ n[k].toNat := by omega
                rcases Nat.eq_zero_or_pos k with hz | hp
                case' inl =>
                  subst hz
                  have e := tit_up n[0] true (by rw [hlet]; rfl) t0
                  have hcv := conv_int wr ((n[0].toNat : Int) - 32) (UInt8.ofNat (titN true n[0].toNat)) (by rw [e]; omega)
                  change Hid (S ++ ⟨#[UInt8.ofNat (titN true n[0].toNat)]⟩ = _) at hst
                  clear e hlet
                case' inr =>
                  obtain ⟨m, rfl⟩ : ∃ m, k = m + 1 := ⟨k - 1, by omega⟩
                  have hm : m < n.size := by omega
                  have hbm : begAt N (m + 1) = stB n[m] := by
                    show (match N[m]? with | none => true | some c => stB c) = _
                    rw [List.getElem?_eq_getElem (by omega)]
                    have := HNV.out.1; subst this; rfl
                  rw [hbm] at hst
                  clear hbm hp
                  by_cases c45 : n[m].toNat = 45
                  case' pos =>
                    have hs : stB n[m] = true := by unfold stB; rw [c45]; rfl
                    have t2 : ((n[m].toNat : Int) == 45) = true := by rw [c45]; rfl
                    rw [hs] at hst
                    have e := tit_up n[m + 1] true (by rw [hlet]; rfl) t0
                    have hcv := conv_int wr ((n[m + 1].toNat : Int) - 32) (UInt8.ofNat (titN true n[m + 1].toNat)) (by rw [e]; omega)
                    clear e hlet hs c45
                  case' neg =>
                    have t2 : ((n[m].toNat : Int) == 45) = false := by rw [beq_eq_false_iff_ne]; omega
                    have hs : stB n[m] = false := t2
                    rw [hs] at hst
                    have e := tit_keep n[m + 1] false rfl
                    rw [e] at hst
                    have hcv := conv_one wr n[m + 1]
                    clear e hlet hs c45
            all_goals
              go_wp2_with fail
              go_roundw
              case rel =>
                first
                  | exact ⟨k + 1, by omega, by go_num, by rw [hst.out], hb.trans (((Below.refl _ _).alloc (Nat.le_refl _) _).mono hb.size)⟩
                  | exact ⟨m + 1 + 1, by omega, by go_num, by rw [hst.out], hb.trans (((Below.refl _ _).alloc (Nat.le_refl _) _).mono hb.size)⟩
                  | exact ⟨1, by omega, by go_num, by rw [hst.out], hb.trans (((Below.refl _ _).alloc (Nat.le_refl _) _).mono hb.size)⟩
              case measure => simp [intOf]; omega
          · obtain rfl : k = n.size := by omega
            have hall : N.take n.size = N := List.take_of_length_le (by omega)
            rw [hall]
            have hlA : (bs (titL true N)).size = n.size := by rw [bs_size, titL_len, hlN]
            have hpL : (printL N V).length = n.size + 1 + (tailV V).length := by unfold printL; rw [List.length_append, titL_len, List.length_cons, hlN]; omega
            obtain ⟨A, hA⟩ : ∃ A, A = bs (titL true N) := ⟨_, rfl⟩
            rw [← hA] at hlA ⊢
            have hA1 : A.size ≤ 1000000 := by omega
            have z1 : (ByteArray.mk #[58]).size = 1 := rfl
            have z2 : (ByteArray.mk #[32]).size = 1 := rfl
            have zz : ∀ X Y : ByteArray, (X ++ Y).size = X.size + Y.size := fun X Y => ByteArray.size_append
            by_cases hv2 : 0 < v.size
            · first
                | (exfalso; omega)
                | (
                  have e : A ++ ⟨#[58]⟩ ++ ⟨#[32]⟩ ++ v = bs (printL N V) := by
                    have hv3 : v = bs V := by rw [HNV.out.2, bs_self]
                    rw [hA, bs_snoc, bs_snoc, hv3, bs_cat]
                    congr 1
                    unfold printL tailV
                    rw [show V.isEmpty = false from by rw [Bool.eq_false_iff, Ne, List.isEmpty_iff]; intro e; rw [e] at hlV; exact absurd hlV (by simp; omega)]
                    simp
                  have hsz : (A ++ ⟨#[58]⟩ ++ ⟨#[32]⟩ ++ v).size = A.size + 1 + 1 + v.size := by rw [zz, zz, zz]; rfl
                  have hle : (printL N V).length = A.size + 1 + 1 + v.size := by rw [← hsz, e, bs_size]
                  have HE := Lib.hid e
                  have t1 : decide ((v.size : Int) > 0) = true := decide_eq_true (by omega)
                  clear hA hall hlA e hsz hpL
                  have q1 : A.size + 1 ≤ 9223372036854775807 := by omega
                  have q2 : A.size + 1 + 1 ≤ 9223372036854775807 := by omega
                  have q3 : A.size + 1 + 1 + v.size ≤ 9223372036854775807 := by omega
                  by_cases hlong : 256 < A.size + 1 + 1 + v.size
                  · have HF := Lib.hid (HY.out.1 (by omega))
                    clear hle
                    go_wp2_with fail
                    go_ret2
                    exact ⟨ret_pair (by rw [HF.out.2]; rfl) (by rw [HF.out.1]; rfl), hb0.trans (hb.mono (by simp))⟩
                  · have HF := Lib.hid (HY.out.2 (by omega))
                    clear hle
                    go_wp2_with fail
                    go_ret2
                    exact ⟨ret_pair (by rw [HF.out.2, ← HE.out]) (by rw [HF.out.1]; rfl), hb0.trans (hb.mono (by simp))⟩)
            · first
                | (exfalso; omega)
                | (
                  have e : A ++ ⟨#[58]⟩ = bs (printL N V) := by
                    rw [hA, bs_snoc]
                    congr 1
                    unfold printL tailV
                    rw [show V = [] from List.length_eq_zero_iff.1 (by omega)]
                    rfl
                  have hsz : (A ++ ⟨#[58]⟩).size = A.size + 1 := by rw [zz]; rfl
                  have hle : (printL N V).length = A.size + 1 := by rw [← hsz, e, bs_size]
                  have HE := Lib.hid e
                  have t1 : decide ((v.size : Int) > 0) = false := decide_eq_false (by omega)
                  clear hA hall hlA e hsz hpL
                  have q1 : A.size + 1 ≤ 9223372036854775807 := by omega
                  by_cases hlong : 256 < A.size + 1
                  · have HF := Lib.hid (HY.out.1 (by omega))
                    clear hle
                    go_wp2_with fail
                    go_ret2
                    exact ⟨ret_pair (by rw [HF.out.2]; rfl) (by rw [HF.out.1]; rfl), hb0.trans (hb.mono (by simp))⟩
                  · have HF := Lib.hid (HY.out.2 (by omega))
                    clear hle
                    go_wp2_with fail
                    go_ret2
                    exact ⟨ret_pair (by rw [HF.out.2, ← HE.out]) (by rw [HF.out.1]; rfl), hb0.trans (hb.mono (by simp))⟩)
end Go.Proofs.YtgnkmfjleecmfaaGreatDoor
namespace Go.Proofs.YtgnkmfjleecmfaaGreatDoor
open Go.RowKit

def longF (f : List UInt8 × List UInt8) : Bool := decide (400 < f.1.length) || decide (400 < f.2.length)
def overF (fs : List (List UInt8 × List UInt8)) (most : Int) : Bool := fs.any longF || decide (most < (fs.length : Int))

set_option maxRecDepth 100000 in
set_option maxHeartbeats 2000000 in
theorem ref_over (v : Value) (fs : List (List UInt8 × List UInt8)) (most : Int) (w : World) (hv : HoldsF w v fs) (hlen : fs.length ≤ 9223372036854775807) :
    Calls Tryz.prog 38 #[v, .int .i64 most] w fun e w' => e = .returned (.bool (overF fs most)) ∧ w' = w := by
  obtain ⟨a, c, rfl, hc, hx⟩ := hv
  have HX := Lib.hid hx
  clear hx
  go_enter Tryz.func38, Tryz.ntmps38
  go_wp2_with fail
  go_loop [5] (fun i => ∃ k : Nat, k ≤ fs.length ∧ i = .int .i64 k ∧ Hid ((fs.take k).any longF = false)) (fun i => fs.length - (intOf i).toNat)
  case atStart => exact ⟨0, by omega, rfl, Lib.hid rfl⟩
  case round =>
    obtain ⟨k, hk, rfl, Hst⟩ := hrel
    by_cases hlt : k < fs.length
    · obtain ⟨b, o, rfl, hbl, hcell⟩ := HX.out (fun e => by rw [e] at hlt; exact absurd hlt (Nat.not_lt_zero _))
      have c0 := (hcell k hlt).1
      have c1 := (hcell k hlt).2
      clear hcell
      have hstep : (fs.take (k + 1)).any longF = longF fs[k] := by
        rw [List.take_succ_eq_append_getElem hlt, List.any_append, Hst.out]; simp
      have hover : longF fs[k] = true → overF fs most = true := fun h => by
        unfold overF
        rw [List.any_eq_true.2 ⟨fs[k], List.getElem_mem hlt, h⟩]; rfl
      have s0 : (bs fs[k].1).size = fs[k].1.length := bs_size _
      have s1 : (bs fs[k].2).size = fs[k].2.length := bs_size _
      by_cases h1 : 400 < fs[k].1.length
      · have H := Lib.hid (hover (by unfold longF; rw [decide_eq_true h1]; rfl))
        have z0 : 400 < (bs fs[k].1).size := by omega
        obtain ⟨X, hX⟩ : ∃ X, X = bs fs[k].1 := ⟨_, rfl⟩
        rw [← hX] at c0 z0
        clear hX hstep hover s0 s1 h1 Hst HX
        have t : decide ((X.size : Int) > 400) = true := by simp; omega
        go_wp2_with fail
        go_ret
        exact ⟨ret_bool H.out.symm, rfl⟩
      · by_cases h2 : 400 < fs[k].2.length
        · have H := Lib.hid (hover (by unfold longF; rw [decide_eq_true h2, Bool.or_true]))
          have z0 : (bs fs[k].1).size ≤ 400 := by omega
          have z1 : 400 < (bs fs[k].2).size := by omega
          obtain ⟨X, hX⟩ : ∃ X, X = bs fs[k].1 := ⟨_, rfl⟩
          obtain ⟨Y, hY⟩ : ∃ Y, Y = bs fs[k].2 := ⟨_, rfl⟩
          rw [← hX] at c0 z0
          rw [← hY] at c1 z1
          clear hX hY hstep hover s0 s1 h1 h2 Hst HX
          have t : decide ((X.size : Int) > 400) = false := by simp; omega
          have t2 : decide ((Y.size : Int) > 400) = true := by simp; omega
          go_wp2_with fail
          go_ret
          exact ⟨ret_bool H.out.symm, rfl⟩
        · have H := Lib.hid (hstep.trans (by unfold longF; rw [decide_eq_false h1, decide_eq_false h2, Bool.or_false]))
          have z0 : (bs fs[k].1).size ≤ 400 := by omega
          have z1 : (bs fs[k].2).size ≤ 400 := by omega
          obtain ⟨X, hX⟩ : ∃ X, X = bs fs[k].1 := ⟨_, rfl⟩
          obtain ⟨Y, hY⟩ : ∃ Y, Y = bs fs[k].2 := ⟨_, rfl⟩
          rw [← hX] at c0 z0
          rw [← hY] at c1 z1
          clear hX hY hstep hover s0 s1 h1 h2 Hst HX
          have t : decide ((X.size : Int) > 400) = false := by simp; omega
          have t2 : decide ((Y.size : Int) > 400) = false := by simp; omega
          go_wp2_with fail
          go_round
          case rel => exact ⟨k + 1, by omega, by go_num, H⟩
          case measure => simp [intOf]; omega
    · have H : Hid (overF fs most = decide (most < (fs.length : Int))) := Lib.hid (by
        have := Hst.out
        rw [List.take_of_length_le (by omega)] at this
        unfold overF; rw [this, Bool.false_or])
      clear Hst HX
      go_wp2_with fail
      go_ret
      exact ⟨ret_bool H.out.symm, rfl⟩
end Go.Proofs.YtgnkmfjleecmfaaGreatDoor
namespace Go.Proofs.YtgnkmfjleecmfaaGreatDoor
open Go.RowKit
theorem eq_rfield_in (d : Nat) (x y : List UInt8 × List UInt8) (w : World) : (Op.equalIn (d + 2) 74 (.agg (encF x).toArray) (.agg (encF y).toArray)).run Tryz.prog w = .ok (decide (x = y)) w := by
  have u3 := Tryz.underlying9
  have hS : Tryz.prog.underlying 74 = some (.struct (Tryz.prog.fieldsOf 74)) := by kernel_rfl
  have hp : Tryz.prog.stoodInHeld 74 = false := by kernel_rfl
  simp only [encF]
  rw [run_equalIn_agg w (d + 1) 74 _ _ hS hp]
  simp only [Program.fieldsOf, Tryz.underlying74]
  go_simp
  obtain ⟨x1, x2⟩ := x
  obtain ⟨y1, y2⟩ := y
  by_cases h1 : x1 = y1 <;> by_cases h2 : x2 = y2 <;> simp [h1, h2, bs_same]
theorem neq_rfield (x y : List UInt8 × List UInt8) (b : Bool) (h : decide (x = y) = !b) (w : World) : (binOp .neq 74 (.agg #[.string (bs x.1), .string (bs x.2)]) (.agg #[.string (bs y.1), .string (bs y.2)])).run Tryz.prog w = .ok (.bool b) w := by
  have := eq_rfield_in 9998 x y w
  simp only [encF] at this
  rw [run_neq_struct, show (10000 : Nat) = 9998 + 2 from rfl, this, h]
  cases b <;> rfl
theorem guard_rfield (op : BinOp) (x y : Operand) (xs ys : Array Value) (w : World) : (eqGuard op 74 x y (.agg xs) (.agg ys)).run Tryz.prog w = .ok () w :=
  run_eqGuard_agg w op 74 x y xs ys (by kernel_rfl)
def SameFPost (xs ys : List (List UInt8 × List UInt8)) (w : World) (e : Ending) (w' : World) : Prop := e = .returned (.bool (decide (xs = ys))) ∧ Below w.heap.size w w'
end Go.Proofs.YtgnkmfjleecmfaaGreatDoor
namespace Go.Proofs.YtgnkmfjleecmfaaGreatDoor
open Go.RowKit
def OwnRow (fs : List (List UInt8 × List UInt8)) (w : World) (e : Ending) (w' : World) : Prop := ∃ v, e = .returned v ∧ w'.ownsRow w.heap.size 149 2 v fs.length (fcells fs) ∧ Below w.heap.size w w'
def BackRow (fs : List (List UInt8 × List UInt8)) (w : World) (e : Ending) (w' : World) : Prop := ∃ v, e = .returned v ∧ w'.ownsRow w.heap.size 74 2 v fs.length (fcells fs) ∧ Below w.heap.size w w'
end Go.Proofs.YtgnkmfjleecmfaaGreatDoor
namespace Go.Proofs.YtgnkmfjleecmfaaGreatDoor
open Go.RowKit
theorem below_r3 (w : World) (x y z : Value) : Below w.heap.size w (w.alloc (.cells #[x, y, z] 35)) := (Below.refl _ _).alloc (Nat.le_refl _) _
def overR (fs : List (List UInt8 × List UInt8)) (b : ByteArray) : Bool := overF fs 20 || decide (500 < b.size)
set_option maxHeartbeats 1000000 in
theorem ref_rover (c : Int) (fv : Value) (fs : List (List UInt8 × List UInt8)) (b : ByteArray) (w : World) (hv : HoldsF w fv fs) (hlen : fs.length ≤ 9223372036854775807) :
    Calls Tryz.prog 14 #[.agg #[.int .i64 c, fv, .string b]] w fun e w' => e = .returned (.bool (overR fs b)) ∧ Below w.heap.size w w' := by
  have B1 := below_r3 w (.int .i64 c) fv (.string b)
  obtain ⟨l1, t0, t1, t2⟩ := Three.new w (.int .i64 c) fv (.string b) 35
  have HO := Lib.hid (ref_over fv fs 20 _ (hv.below B1) hlen)
  have HB1 := Lib.hid B1
  clear hv B1
  cases ho : overF fs 20 with
  | true =>
    have HR : Hid (overR fs b = true) := Lib.hid (by unfold overR; rw [ho]; rfl)
    rw [ho] at HO
    go_enter Tryz.func14, Tryz.ntmps14
    go_wp2_with fail
    refine HO.out.mono ?_
    rintro e w' ⟨rfl, rfl⟩
    go_wp2_with fail
    go_ret
    exact ⟨by rw [HR.out]; rfl, HB1.out⟩
  | false =>
    rw [ho] at HO
    obtain ⟨r, hr⟩ : ∃ r, decide (500 < b.size) = r := ⟨_, rfl⟩
    have HR : Hid (overR fs b = r) := Lib.hid (by unfold overR; rw [ho, hr]; rfl)
    have hr2 : decide ((b.size : Int) > 500) = r := by rw [← hr]; exact decide_eq_decide.2 (by omega)
    clear hr
    go_enter Tryz.func14, Tryz.ntmps14
    go_wp2_with fail
    refine HO.out.mono ?_
    rintro e w' ⟨rfl, rfl⟩
    go_wp2_with fail
    go_ret
    exact ⟨by rw [HR.out]; rfl, HB1.out⟩
theorem repLines_take (c : Int) (fs : List (List UInt8 × List UInt8)) (n k : Nat) (hk : k < fs.length) : (repLines c fs n).take (k + 1 + 2) = (repLines c fs n).take (k + 2) ++ [printL fs[k].1 fs[k].2] := by
  have h : (repLines c fs n)[k + 2]? = some (printL fs[k].1 fs[k].2) := by unfold repLines; simp [hk]
  rw [show k + 1 + 2 = (k + 2) + 1 by omega, List.take_add_one, h]
  rfl
theorem repLines_two (c : Int) (fs : List (List UInt8 × List UInt8)) (n : Nat) : bs (body ((repLines c fs n).take 2)) = printOf c ++ ⟨#[13, 10, 67, 111, 110, 116, 101, 110, 116, 45, 76, 101, 110, 103, 116, 104, 58, 32]⟩ ++ bs (digL n) ++ ⟨#[13, 10]⟩ := by
  have e1 : (⟨#[13, 10, 67, 111, 110, 116, 101, 110, 116, 45, 76, 101, 110, 103, 116, 104, 58, 32]⟩ : ByteArray) = bs [13, 10, 67, 111, 110, 116, 101, 110, 116, 45, 76, 101, 110, 103, 116, 104, 58, 32] := rfl
  have e2 : (⟨#[13, 10]⟩ : ByteArray) = bs [13, 10] := rfl
  have hp : printL clen (digL n) = [67, 111, 110, 116, 101, 110, 116, 45, 76, 101, 110, 103, 116, 104, 58, 32] ++ digL n := by
    unfold printL tailV
    rw [digL_nat, if_neg (by have := decDigits_ne n; cases h : Go.Lib.decDigits n <;> simp_all), show titL true clen = [67, 111, 110, 116, 101, 110, 116, 45, 76, 101, 110, 103, 116, 104] by decide]
    rfl
  rw [e1, e2]
  conv => rhs; lhs; lhs; lhs; rw [← bs_self (printOf c)]
  rw [bs_cat, bs_cat, bs_cat]
  congr 1
  unfold repLines
  simp [body, hp]
set_option maxRecDepth 100000 in
set_option maxHeartbeats 4000000 in
theorem ref_rprint (c : Int) (fv : Value) (fs : List (List UInt8 × List UInt8)) (b : ByteArray) (w : World) (hc0 : -9223372036854775808 ≤ c) (hc1 : c ≤ 9223372036854775807)
    (hv : HoldsF w fv fs) (hl : fs.length ≤ 1000000) (hf : ∀ f ∈ fs, f.1.length ≤ 1000000 ∧ f.2.length ≤ 1000000) (hb : b.size ≤ 1000000) :
    Calls Tryz.prog 15 #[.agg #[.int .i64 c, fv, .string b]] w (RPost c fs b.data.toList w) := by
  have HS := Lib.hid (fun w => ref_print c w hc0 hc1)
  have B1 := below_r3 w (.int .i64 c) fv (.string b)
  have T1 := Three.new w (.int .i64 c) fv (.string b) 35
  have hv1 := hv.below B1
  have HB1 := Lib.hid B1
  obtain ⟨av, cv, rfl, hcv, hx⟩ := hv1
  have HX := Lib.hid hx
  clear hv B1 hx
  obtain ⟨l1, t0, t1, t2⟩ := T1
  by_cases he : printErr c = 0
  case neg =>
    have HR : Hid (repE c fs = printErr c ∧ repS c fs b.data.toList = []) := Lib.hid (by
      have : repE c fs = printErr c := if_pos he
      exact ⟨this, by unfold repS; rw [if_neg (by rw [this]; exact he)]⟩)
    have tz : ((printErr c : Int) != 0) = true := by rw [bne_iff_ne]; omega
    clear he hf
    go_enter Tryz.func15, Tryz.ntmps15
    go_wp2_with fail
    refine (HS.out _).mono ?_
    rintro e w1 ⟨rfl, hb1⟩
    have HB2 := Lib.hid (bstep HB1.out hb1)
    clear hb1 t0 t1 t2
    go_wp2_with fail
    go_ret2
    exact ⟨by rw [HR.out.1, HR.out.2]; rfl, HB2.out⟩
  have hcl : ¬ (c < 100 ∨ 599 < c) := fun e => by unfold printErr at he; rw [if_pos ((class_iff c).2 e)] at he; exact absurd he (by decide)
  have hps : (printOf c).size ≤ 40 := by
    obtain ⟨n, rfl⟩ : ∃ n : Nat, c = n := ⟨c.toNat, by omega⟩
    rw [printOf_line _ (by omega) (by omega), statusLine_len n (by omega) (by omega)]
    have := reason_size (n : Int)
    omega
  rw [he] at HS
  have hlI : (fs.length : Int) ≤ 1000000 := by omega
  by_cases hm : 15 < fs.length
  · have HR : Hid (repE c fs = 21 ∧ repS c fs b.data.toList = []) := Lib.hid (by
      have : repE c fs = 21 := by unfold repE; rw [if_neg (by rw [he]; simp), if_pos hm]
      exact ⟨this, by unfold repS; rw [if_neg (by rw [this]; simp)]⟩)
    have tm : decide ((fs.length : Int) > 15) = true := decide_eq_true (by omega)
    clear he hf hcl hps
    go_enter Tryz.func15, Tryz.ntmps15
    go_wp2_with fail
    refine (HS.out _).mono ?_
    rintro e w1 ⟨rfl, hb1⟩
    have HB2 := Lib.hid (bstep HB1.out hb1)
    obtain ⟨l2, u0, u1, u2⟩ := Three.below ⟨l1, t0, t1, t2⟩ hb1
    clear hb1 t0 t1 t2
    go_wp2_with fail
    go_ret2
    exact ⟨by rw [HR.out.1, HR.out.2]; rfl, HB2.out⟩
  have tm : decide ((fs.length : Int) > 15) = false := decide_eq_false (by omega)
  have HR : Hid (repE c fs = ownE fs) := Lib.hid (by unfold repE; rw [if_neg (by rw [he]; simp), if_neg hm])
  have hl15 : fs.length ≤ 15 := by omega
  have HD := Lib.hid (fun w => ref_digitsZ (b.size : Int) w (by omega))
  have hdl := digL_len (b.size : Int) (by omega)
  have HT := Lib.hid (repLines_two c fs b.size)
  have HTS := Lib.hid (fun k hk => repLines_take c fs b.size k hk)
  have HLL : Hid ((repLines c fs b.size).length = fs.length + 2) := Lib.hid (by unfold repLines; simp)
  obtain ⟨L, hL⟩ : ∃ L, repLines c fs b.size = L := ⟨_, rfl⟩
  have HL := Lib.hid hL
  rw [hL] at HT HTS HLL
  obtain ⟨D, hD⟩ : ∃ D, bs (digL (b.size : Int)) = D := ⟨_, rfl⟩
  rw [hD] at HD HT
  have hDs : D.size ≤ 20 := by rw [← hD, bs_size]; exact hdl
  obtain ⟨P0, hP0⟩ : ∃ P, printOf c = P := ⟨_, rfl⟩
  rw [hP0] at HS HT hps
  have zz : ∀ X Y : ByteArray, (X ++ Y).size = X.size + Y.size := fun X Y => ByteArray.size_append
  have q1 := fun w => run_string_add_sum (P := Tryz.prog) w P0 ⟨#[13, 10, 67, 111, 110, 116, 101, 110, 116, 45, 76, 101, 110, 103, 116, 104, 58, 32]⟩ (by show _ + 18 ≤ _; omega)
  have q2 := fun w => run_string_add_sum (P := Tryz.prog) w (P0 ++ ⟨#[13, 10, 67, 111, 110, 116, 101, 110, 116, 45, 76, 101, 110, 103, 116, 104, 58, 32]⟩) D (by rw [zz]; show _ + 18 + _ ≤ _; omega)
  have q3 := fun w => run_string_add_sum (P := Tryz.prog) w (P0 ++ ⟨#[13, 10, 67, 111, 110, 116, 101, 110, 116, 45, 76, 101, 110, 103, 116, 104, 58, 32]⟩ ++ D) ⟨#[13, 10]⟩ (by rw [zz, zz]; show _ + 18 + _ + 2 ≤ _; omega)
  have hs0 : (P0 ++ ⟨#[13, 10, 67, 111, 110, 116, 101, 110, 116, 45, 76, 101, 110, 103, 116, 104, 58, 32]⟩ ++ D ++ ⟨#[13, 10]⟩ : ByteArray).size ≤ 200 := by rw [zz, zz, zz]; show _ + 18 + _ + 2 ≤ _; omega
  have HS0 := Lib.hid hs0
  clear he hm hD hP0 hL hcl hdl hs0 zz
  go_enter Tryz.func15, Tryz.ntmps15
  go_wp2_with fail
  refine (HS.out _).mono ?_
  rintro e w1 ⟨rfl, hb1⟩
  have HB2 := Lib.hid (bstep HB1.out hb1)
  obtain ⟨l2, u0, u1, u2⟩ := Three.below ⟨l1, t0, t1, t2⟩ hb1
  have HX1 : Hid (fs ≠ [] → ∃ b o, av = some ⟨b, o, none⟩ ∧ b < w1.heap.size ∧ ∀ j (hj : j < fs.length), w1.cell? ⟨b, o + j * 2, none⟩ = some (.string (bs fs[j].1)) ∧ w1.cell? ⟨b, o + j * 2 + 1, none⟩ = some (.string (bs fs[j].2))) := Lib.hid (fun h => by
    obtain ⟨bb, o, h1, h2, h3⟩ := HX.out h
    exact ⟨bb, o, h1, Nat.lt_of_lt_of_le h2 hb1.size, fun j hj => ⟨(hb1.cell (p := ⟨bb, o + j * 2, none⟩) h2).trans (h3 j hj).1, (hb1.cell (p := ⟨bb, o + j * 2 + 1, none⟩) h2).trans (h3 j hj).2⟩⟩)
  have HU := Lib.hid (And.intro l2 (And.intro u1 u2))
  clear hb1 t0 t1 t2 l1 HB1 HX
  go_wp2_with fail
  refine (HD.out _).mono ?_
  rintro e w' ⟨rfl, hww⟩
  obtain rfl := hww.symm
  go_wp2_with fail
  clear q1 q2 q3 u0 u1 u2
  have HT0 : Hid ((P0 ++ ⟨#[13, 10, 67, 111, 110, 116, 101, 110, 116, 45, 76, 101, 110, 103, 116, 104, 58, 32]⟩ ++ D ++ ⟨#[13, 10]⟩) = bs (body (L.take (0 + 2)))) := Lib.hid HT.out.symm
  generalize (P0 ++ ⟨#[13, 10, 67, 111, 110, 116, 101, 110, 116, 45, 76, 101, 110, 103, 116, 104, 58, 32]⟩ ++ D ++ ⟨#[13, 10]⟩ : ByteArray) = O0 at HS0 HT0 ⊢
  go_loopg [4, 6] fs.length (fun gk s4 s6 wr => ∃ (k : Nat) (O : ByteArray), s4 = .string O ∧ s6 = .int .i64 (k : Int) ∧ k + gk = fs.length ∧ O.size ≤ 200 + k * 260 ∧ Hid (Below w1.heap.size w1 wr) ∧ Hid (O = bs (body (L.take (k + 2)))) ∧ Hid (∀ j (hj : j < fs.length), j < k → fs[j].1 ≠ clen ∧ fieldE fs[j].1 fs[j].2 = 0))
  case atStart => exact ⟨0, _, rfl, by simp, by omega, by have := HS0.out; omega, Lib.hid (Below.refl _ _), HT0, Lib.hid (fun j hj h => absurd h (Nat.not_lt_zero _))⟩
  case round =>
    obtain ⟨k, O, rfl, rfl, hgk, hOs, HBr, HO, HK⟩ := hrel
    have r1 := (HBr.out.cell (p := ⟨w.heap.size, 1, none⟩) HU.out.1).trans HU.out.2.1
    have r2 := (HBr.out.cell (p := ⟨w.heap.size, 2, none⟩) HU.out.1).trans HU.out.2.2
    by_cases hk : k < fs.length
    · obtain ⟨g', rfl⟩ : ∃ g', gk = g' + 1 := ⟨gk - 1, by omega⟩
      have hkI : decide ((k : Int) < (fs.length : Int)) = true := decide_eq_true (by omega)
      obtain ⟨bb, o, rfl, hbl, hcell⟩ := HX1.out (fun e => by rw [e] at hk; exact absurd hk (Nat.not_lt_zero _))
      have c0 := (HBr.out.cell (p := ⟨bb, o + k * 2, none⟩) hbl).trans (hcell k hk).1
      have c1 := (HBr.out.cell (p := ⟨bb, o + k * 2 + 1, none⟩) hbl).trans (hcell k hk).2
      obtain ⟨o1, o2⟩ := ownE_bad fs k hk (fun i hi hik => HK.out i hi hik)
      obtain ⟨y, hy⟩ : ∃ y, fs[k] = y := ⟨_, rfl⟩
      have hyl := hf _ (List.getElem_mem hk)
      have HTk := Lib.hid (HTS.out k hk)
      rw [hy] at c0 c1 o1 o2 hyl HTk
      have HP := Lib.hid (fun w => ref_fprint (bs y.1) (bs y.2) w (by rw [bs_size]; exact hyl.1) (by rw [bs_size]; exact hyl.2))
      rw [bs_data, bs_data] at HP
      have HOE := Lib.hid (And.intro o1 o2)
      have HY := Lib.hid hy
      have hcmp := bs_lit y.1 [99, 111, 110, 116, 101, 110, 116, 45, 108, 101, 110, 103, 116, 104]
      clear hcell o1 o2 hy hyl
      by_cases hnm : y.1 = clen
      · have HF : Hid (repE c fs = 22 ∧ repS c fs b.data.toList = []) := Lib.hid (by
          have : repE c fs = 22 := by rw [HR.out]; exact HOE.out.1 hnm
          exact ⟨this, by unfold repS; rw [if_neg (by rw [this]; simp)]⟩)
        rw [decide_eq_true (show y.1 = [99, 111, 110, 116, 101, 110, 116, 45, 108, 101, 110, 103, 116, 104] from hnm)] at hcmp
        clear hnm HK HY
        go_wp2_with fail
        go_ret2
        exact ⟨by rw [HF.out.1, HF.out.2]; rfl, bstep HB2.out HBr.out⟩
      · have HNM := Lib.hid hnm
        rw [decide_eq_false (show ¬ y.1 = [99, 111, 110, 116, 101, 110, 116, 45, 108, 101, 110, 103, 116, 104] from hnm)] at hcmp
        by_cases hz : fieldE y.1 y.2 = 0
        · have HK2 : Hid (∀ j (hj : j < fs.length), j < k + 1 → fs[j].1 ≠ clen ∧ fieldE fs[j].1 fs[j].2 = 0) := Lib.hid (fun j hj h => by
            by_cases e : j = k
            · subst e; rw [HY.out]; exact ⟨HNM.out, hz⟩
            · exact HK.out j hj (by omega))
          have hfs : fieldS y.1 y.2 = printL y.1 y.2 := if_pos hz
          have hpl : (printL y.1 y.2).length ≤ 256 := (fieldE_zero _ _ hz).2
          rw [hz, hfs] at HP
          obtain ⟨X, hX⟩ : ∃ X, bs (printL y.1 y.2) = X := ⟨_, rfl⟩
          have hXs : X.size ≤ 256 := by rw [← hX, bs_size]; exact hpl
          rw [hX] at HP
          have HOO : Hid (O ++ X ++ ⟨#[13, 10]⟩ = bs (body (L.take (k + 1 + 2)))) := Lib.hid (by
            rw [HO.out, ← hX, show (⟨#[13, 10]⟩ : ByteArray) = bs [13, 10] from rfl, bs_cat, bs_cat, HTk.out, body_append]
            simp [body])
          have hOk : O.size ≤ 200 + 15 * 260 := by omega
          have p1 := fun w => run_string_add_sum (P := Tryz.prog) w O X (by omega)
          have p2 := fun w => run_string_add_sum (P := Tryz.prog) w (O ++ X) ⟨#[13, 10]⟩ (by rw [ByteArray.size_append]; show _ + _ + 2 ≤ _; omega)
          clear hz hfs hpl hX hnm HK HY
          go_wp2_with fail
          refine (HP.out _).mono ?_
          rintro e w3 ⟨rfl, hb3⟩
          have HB3 := Lib.hid (bstep HBr.out hb3)
          clear hb3 c0 c1 r1 r2
          go_wp2_with fail
          go_roundg g'
          case measure => omega
          case rel => exact ⟨k + 1, _, rfl, by simp, by omega, by rw [ByteArray.size_append, ByteArray.size_append]; show _ + _ + 2 ≤ _; omega, HB3, HOO, HK2⟩
        · have HF : Hid (repE c fs = fieldE y.1 y.2 ∧ repS c fs b.data.toList = []) := Lib.hid (by
            have : repE c fs = fieldE y.1 y.2 := by rw [HR.out]; exact HOE.out.2 HNM.out hz
            exact ⟨this, by unfold repS; rw [if_neg (by rw [this]; exact hz)]⟩)
          have tz : ((fieldE y.1 y.2 : Int) != 0) = true := by rw [bne_iff_ne]; omega
          clear hz hnm HK HY
          go_wp2_with fail
          refine (HP.out _).mono ?_
          rintro e w3 ⟨rfl, hb3⟩
          have HB3 := Lib.hid (bstep HB2.out (bstep HBr.out hb3))
          clear hb3 c0 c1 r1 r2
          go_wp2_with fail
          go_ret2
          exact ⟨by rw [HF.out.1, HF.out.2]; rfl, HB3.out⟩
    · obtain rfl : k = fs.length := by omega
      have hkI : decide ((fs.length : Int) < (fs.length : Int)) = false := decide_eq_false (by omega)
      have hrz : repE c fs = 0 := by rw [HR.out]; exact ownE_good fs (fun i hi => HK.out i hi hi)
      have HF : Hid (repE c fs = 0 ∧ repS c fs b.data.toList = body L ++ 13 :: 10 :: b.data.toList) := Lib.hid ⟨hrz, by unfold repS; rw [if_pos hrz]; unfold repL; rw [size_len, HL.out]⟩
      have HOO : Hid (O ++ ⟨#[13, 10]⟩ ++ b = bs (repS c fs b.data.toList)) := Lib.hid (by
        rw [HF.out.2, HO.out, List.take_of_length_le (by rw [HLL.out]; omega), show (⟨#[13, 10]⟩ : ByteArray) = bs [13, 10] from rfl]
        conv => lhs; rhs; rw [← bs_self b]
        rw [bs_cat, bs_cat]
        congr 1
        simp)
      have hOk : O.size ≤ 200 + 15 * 260 := by omega
      have p1 := fun w => run_string_add_sum (P := Tryz.prog) w O ⟨#[13, 10]⟩ (by show _ + 2 ≤ _; omega)
      have p2 := fun w => run_string_add_sum (P := Tryz.prog) w (O ++ ⟨#[13, 10]⟩) b (by rw [ByteArray.size_append]; show _ + 2 + _ ≤ _; omega)
      clear hrz HK
      go_wp2_with fail
      go_ret2
      exact ⟨by rw [HF.out.1, ← HOO.out]; rfl, bstep HB2.out HBr.out⟩
end Go.Proofs.YtgnkmfjleecmfaaGreatDoor
namespace Go.Proofs.YtgnkmfjleecmfaaGreatDoor
open Go.RowKit
theorem load_rrep (w : World) (b : Nat) (t : TypeId) (x y z : Value) (h : w.heap[b]? = some (.cells #[x, y, z] t (0, 0))) : (loadVar 35 ⟨b, 0, none⟩).run Tryz.prog w = .ok (.agg #[x, y, z]) w :=
  run_loadVar_row w b t 35 #[x, y, z] (0, 0) _ h Tryz.underlying35 rfl (by kernel_rfl)
/-- the block of a reply of the document's -/
def RqB (w : World) (R : Nat) (c f b : Value) : Prop := w.heap[R]? = some (.cells #[c, f, b] 35 (0, 0))
theorem RqB.below {w w' : World} {R : Nat} {c f b : Value} (k : RqB w R c f b) (hb : Below w.heap.size w w') : RqB w' R c f b :=
  (hb.block R (Array.getElem?_eq_some_iff.1 k).1).trans k
theorem RqB.lt {w : World} {R : Nat} {c f b : Value} (k : RqB w R c f b) : R < w.heap.size := (Array.getElem?_eq_some_iff.1 k).1
theorem RqB.set1 {w : World} {R : Nat} {c f b : Value} (k : RqB w R c f b) (v : Value) : RqB (w.setCell ⟨R, 1, none⟩ v) R c v b := by
  unfold RqB at k ⊢; simp [World.setCell, Array.getElem?_modify, k]
theorem step_appG {ops : Array Oper} {o : Oper} {a : Act} {K : Act → World → Prop} {Q : Exit → Act → World → Prop} {E : Prop} (W : World) (hgd : o.guard = none) (s x : Operand)
    (ho : o.op = .call { callee := .builtin .append, args := #[s, x], argTypes := #[33, 33] })
    (base : Nat) (v : Value) (fs : List (List UInt8 × List UInt8)) (hs : a.eval s = v) (hown : W.ownsRow base 74 2 v fs.length (fcells fs))
    (B : Nat) (f : List UInt8 × List UInt8) (hB : W.heap[B]? = some (.cells #[.string (bs f.1), .string (bs f.2)] 74 (0, 0))) (hx : a.eval x = .slice (some ⟨B, 0, none⟩) 1 1) (hn : fs.length < 2147483648) (hbase : base ≤ W.heap.size)
    (h : ∀ g cap w', w'.ownsRow base 74 2 (.slice (some ⟨g, 0, none⟩) (fs.length + 1) cap) (fs ++ [f]).length (fcells (fs ++ [f])) → W.grownBy w' v.ownBlock → K (a.put o.dst (.slice (some ⟨g, 0, none⟩) (fs.length + 1) cap)) w') :
    if Region.wanted o (yielded ops a.tmps) = true then Oper.wp Tryz.prog o a W K Q else E := by
  obtain ⟨i0, hi, hz0, hz1, hz2⟩ := info_parts info_rfield
  refine step_append_lies W hgd s x 33 ho base 74 i0 _ 2 32 Tryz.underlying33 hi hz0 hz1 hz2 rfl (by decide) v fs.length (fcells fs) hs hown ⟨B, 0, none⟩ 1 1 [.string (bs f.1), .string (bs f.2)] hx rfl (World.news_of_block hB) (by simp [Value.oneCell']) (by decide) (by unfold maxLen; omega) (by omega) hbase _ rfl ?_
  intro g cap w' h1 h2 _ _
  refine h g cap w' ?_ h2
  rw [List.length_append, fcells_append]; exact h1
def AfterAppQ (R : Nat) (W w' : World) (c v b : Value) : Prop := RqB w' R c v b ∧ W.grownBy w' (some R)
theorem step_appQ {ops : Array Oper} {o : Oper} {a : Act} {K : Act → World → Prop} {Q : Exit → Act → World → Prop} {E : Prop} {R base : Nat} (w0 : World) (hw0 : w0.heap.size = base) (hR0 : R < base) {c v b : Value} {W2 : World} {fs : List (List UInt8 × List UInt8)} (W : World) (hgd : o.guard = none) (s z : Operand)
    (ho : o.op = .call { callee := .builtin .append, args := #[s, z], argTypes := #[33, 33] })
    (hR2 : RqB W2 R c v b) (hown : W2.ownsRow base 74 2 v fs.length (fcells fs)) (hg0 : w0.grownBy W2 (some R)) (hs : a.eval s = v) (hn : fs.length < 2147483648) (hbW : Below W2.heap.size W2 W)
    (B : Nat) (f : List UInt8 × List UInt8) (hB : W.heap[B]? = some (.cells #[.string (bs f.1), .string (bs f.2)] 74 (0, 0))) (hx : a.eval z = .slice (some ⟨B, 0, none⟩) 1 1)
    (hK : ∀ g cap w', w'.ownsRow base 74 2 (.slice (some ⟨g, 0, none⟩) (fs.length + 1) cap) (fs ++ [f]).length (fcells (fs ++ [f])) → w'.cell? ⟨R, 1, none⟩ = some v → w'.frozen? ⟨R, 1, none⟩ = false → AfterAppQ R w0 w' c v b → K (a.put o.dst (.slice (some ⟨g, 0, none⟩) (fs.length + 1) cap)) w') :
    if Region.wanted o (yielded ops a.tmps) = true then Oper.wp Tryz.prog o a W K Q else E := by
  have hoW := own_keep hown hbW
  have hlt := hR2.lt
  have hsz := hbW.size
  have hs0 := hg0.size
  refine step_appG W hgd s z ho base v fs hs hoW B f hB hx hn (by omega) (fun g cap w' h1 h2 => ?_)
  have hR3 : RqB w' R c v b := (grow_block h2 hoW hR0 (by omega)).trans (hR2.below hbW)
  have hg1 := hg0.below hbW
  have hb3 : w0.grownBy w' (some R) := ⟨h2.os.trans hg1.os, h2.tape.trans hg1.tape, h2.output.trans hg1.output, Nat.le_trans hg1.size h2.size, fun k hk hne =>
    (h2.block k (Nat.lt_of_lt_of_le hk hg1.size) (fun h => by have := (hoW.lt k h.symm).1; omega)).trans (hg1.block k hk hne)⟩
  obtain ⟨-, k1, -, -, f1, -⟩ := three_facts hR3
  exact hK g cap w' h1 k1 f1 ⟨hR3, hb3⟩
def RefPost (s : ByteArray) (most : Int) (w : World) (e : Ending) (w' : World) : Prop :=
  ∃ fv, e = .returned (RepV s most fv) ∧ (∃ B, w'.ownsRow B 74 2 fv (takF s most).length (fcells (takF s most))) ∧ Below w.heap.size w w'
theorem rparse_bad (s : ByteArray) (most : Int) (e : Nat) (h : takE s most = e) (h0 : e ≠ 0) (w w' : World) (hb : Below w.heap.size w w') :
    RefPost s most w (.returned (.tuple #[.agg #[.int .i64 0, .slice none 0 0, .string ⟨#[]⟩], .int .i64 0, .int .i64 (e : Nat)])) w' := by
  obtain ⟨h1, h2, h3, h4⟩ := tak_bad s most (by rw [h]; exact h0)
  refine ⟨.slice none 0 0, ?_, ?_, hb⟩
  · unfold RepV; rw [h1, h3, h4, h]; rfl
  · rw [h2]; exact ⟨0, World.ownsRow_nil _ _ _ _⟩
theorem rparse_good (s : ByteArray) (most : Int) (h : takE s most = 0) (w w' : World) (fv : Value) (hown : ∃ B, w'.ownsRow B 74 2 fv (takF s most).length (fcells (takF s most))) (hb : Below w.heap.size w w') (C n : Int) (B : ByteArray) (h1 : takC s most = C) (h2 : takN s most = n) (h3 : bs (takB s most) = B) :
    RefPost s most w (.returned (.tuple #[.agg #[.int .i64 C, fv, .string B], .int .i64 n, .int .i64 0])) w' := by
  refine ⟨fv, ?_, hown, hb⟩
  unfold RepV; rw [h1, h2, h3, h]; rfl
theorem res3 {w w1 : World} (hb : Below (w.alloc (.cells #[.int .i64 0, .slice none 0 0, .string ⟨#[]⟩] 35)).heap.size (w.alloc (.cells #[.int .i64 0, .slice none 0 0, .string ⟨#[]⟩] 35)) w1) :
    w1.heap[w.heap.size]? = some (.cells #[.int .i64 0, .slice none 0 0, .string ⟨#[]⟩] 35 (0, 0)) := (hb.block w.heap.size (by simp)).trans (heap_alloc_new w _)
theorem restF_take (fs : List (List UInt8 × List UInt8)) (k : Nat) (hk : k < fs.length) : restF (fs.take (k + 1)) = restF (fs.take k) ++ (if fs[k].1 = clen then [] else [fs[k]]) := by
  unfold restF
  rw [List.take_succ_eq_append_getElem hk, List.filter_append]
  congr 1
  by_cases h : fs[k].1 = clen
  · rw [if_pos h, List.filter_cons_of_neg (by simp [h])]; rfl
  · rw [if_neg h, List.filter_cons_of_pos (by simp [h])]; rfl
theorem restF_len (fs : List (List UInt8 × List UInt8)) : (restF fs).length ≤ fs.length := List.length_filter_le _ _
theorem hdE_split (x : List UInt8) (xs : List (List UInt8)) : hdE (x :: xs) = if (statusOf x).2 ≠ 0 then (statusOf x).2 else if fldE xs ≠ 0 then fldE xs else if getE (fldL xs) clen ≠ 0 then getE (fldL xs) clen else numE (getS (fldL xs) clen) := by
  unfold hdE
  rw [if_neg (by simp)]; rfl
end Go.Proofs.YtgnkmfjleecmfaaGreatDoor
namespace Go.Proofs.YtgnkmfjleecmfaaGreatDoor
open Go.RowKit
def OwnR (c : Int) (fs : List (List UInt8 × List UInt8)) (x : ByteArray) (t : TypeId) (w : World) (e : Ending) (w' : World) : Prop :=
  ∃ a cp, e = .returned (.agg #[.int .i64 c, .slice a fs.length cp, .string x]) ∧ w'.ownsRow w.heap.size t 2 (.slice a fs.length cp) fs.length (fcells fs) ∧ Below w.heap.size w w'
end Go.Proofs.YtgnkmfjleecmfaaGreatDoor
namespace Go.Proofs.YtgnkmfjleecmfaaGreatDoor
open Go.RowKit
/-- a reply of the program's that lies in a block -/
structure PAt (w : World) (b : Nat) (c : Int) (a : Option Addr) (n cp : Nat) (fs : List (List UInt8 × List UInt8)) (x : ByteArray) : Prop where
  blk : w.heap[b]? = some (.cells #[.int .i64 c, .slice a n cp, .string x] 63 (0, 0))
  own : ∃ B, w.ownsRow B 149 2 (.slice a n cp) n (fcells fs)
theorem PAt.lt {w : World} {b : Nat} {c : Int} {a : Option Addr} {n cp : Nat} {fs : List (List UInt8 × List UInt8)} {x : ByteArray} (h : PAt w b c a n cp fs x) : b < w.heap.size := (Array.getElem?_eq_some_iff.1 h.blk).1
theorem PAt.below {w w' : World} {b : Nat} {c : Int} {a : Option Addr} {n cp : Nat} {fs : List (List UInt8 × List UInt8)} {x : ByteArray} (h : PAt w b c a n cp fs x) (hb : Below w.heap.size w w') : PAt w' b c a n cp fs x :=
  ⟨(hb.block b h.lt).trans h.blk, let ⟨B, hB⟩ := h.own; ⟨B, own_keep hB hb⟩⟩
theorem PAt.alloc {w : World} {b : Nat} {c : Int} {a : Option Addr} {n cp : Nat} {fs : List (List UInt8 × List UInt8)} {x : ByteArray} (h : PAt w b c a n cp fs x) (o : Obj) : PAt (w.alloc o) b c a n cp fs x := h.below ((Below.refl _ _).alloc (Nat.le_refl _) o)
theorem PAt.holds {w : World} {b : Nat} {c : Int} {a : Option Addr} {n cp : Nat} {fs : List (List UInt8 × List UInt8)} {x : ByteArray} (h : PAt w b c a n cp fs x) : HoldsF w (.slice a n cp) fs := let ⟨_, hB⟩ := h.own; HoldsF.of_own hB
theorem PAt.new {w : World} {B : Nat} {c : Int} {a : Option Addr} {n cp : Nat} {fs : List (List UInt8 × List UInt8)} {x : ByteArray} (h : w.ownsRow B 149 2 (.slice a n cp) n (fcells fs)) :
    PAt (w.alloc (.cells #[.int .i64 c, .slice a n cp, .string x] 63)) w.heap.size c a n cp fs x :=
  ⟨heap_alloc_new w _, B, own_keep h ((Below.refl _ _).alloc (Nat.le_refl _) _)⟩
def ParseAt (C n : Int) (F : List (List UInt8 × List UInt8)) (B : ByteArray) (E : Nat) (w : World) (e : Ending) (w' : World) : Prop :=
  ∃ a cp, e = .returned (.tuple #[.agg #[.int .i64 C, .slice a F.length cp, .string B], .int .i64 n, .int .i64 (E : Nat)]) ∧ w'.ownsRow w.heap.size 149 2 (.slice a F.length cp) F.length (fcells F) ∧ Below w.heap.size w w'
theorem parse_is (s : ByteArray) (most : Int) (C n : Int) (F : List (List UInt8 × List UInt8)) (B : ByteArray) (E : Nat) (h : takE s most = E ∧ takC s most = C ∧ takF s most = F ∧ bs (takB s most) = B ∧ takN s most = n) (w : World) (hs : s.size ≤ 1000000) (hE : EnvF w) :
    Calls Tryz.prog 29 #[.string s, .int .i64 most] w (ParseAt C n F B E w) := by
  obtain ⟨rfl, rfl, rfl, rfl, rfl⟩ := h
  refine (reply_parse s most w hs hE).mono ?_
  rintro e w' ⟨fv, rfl, h1, h2⟩
  obtain ⟨a, cp, rfl⟩ := own_fslice h1
  exact ⟨a, cp, rfl, h1, h2⟩
theorem parse_err (s : ByteArray) (most : Int) (E : Nat) (h : takE s most = E) (h0 : E ≠ 0) (w : World) (hs : s.size ≤ 1000000) (hE : EnvF w) :
    Calls Tryz.prog 29 #[.string s, .int .i64 most] w (ParseAt 0 0 [] ⟨#[]⟩ E w) := by
  obtain ⟨h1, h2, h3, h4⟩ := tak_bad s most (by rw [h]; exact h0)
  exact parse_is s most 0 0 [] ⟨#[]⟩ E ⟨h, h1, h2, by rw [h3]; rfl, h4⟩ w hs hE
def PrintAt (S : ByteArray) (E : Nat) (w : World) (e : Ending) (w' : World) : Prop := e = .returned (.tuple #[.string S, .int .i64 (E : Nat)]) ∧ Below w.heap.size w w'
theorem print_is (c : Int) (fv : Value) (fs : List (List UInt8 × List UInt8)) (b : ByteArray) (S : ByteArray) (E : Nat) (h : bs (repS c fs b.data.toList) = S ∧ repE c fs = E) (B : Nat) (w : World) (hE : EnvF w) (hc0 : -9223372036854775808 ≤ c) (hc1 : c ≤ 9223372036854775807)
    (hown : w.ownsRow B 149 2 fv fs.length (fcells fs)) (hl : fs.length ≤ 1000000) (hf : ∀ f ∈ fs, f.1.length ≤ 1000000 ∧ f.2.length ≤ 1000000) (hb : b.size ≤ 1000000) :
    Calls Tryz.prog 50 #[.agg #[.int .i64 c, fv, .string b]] w (PrintAt S E w) := by
  obtain ⟨rfl, rfl⟩ := h
  exact reply_print c fv fs b B w hE hc0 hc1 hown hl hf hb
def aw26 : List UInt8 := [72, 84, 84, 80, 47, 49, 46, 49, 32, 52, 48, 52, 32, 78, 111, 116, 32, 70, 111, 117, 110, 100, 13, 10, 67, 111, 110, 116, 101, 110, 116, 45, 76, 101, 110, 103, 116, 104, 58, 32, 49, 13, 10, 13, 10, 120]
theorem aw_e : repE 404 [] = 0 := by decide +kernel
theorem aw_st : (printOf 404).data.toList = [72, 84, 84, 80, 47, 49, 46, 49, 32, 52, 48, 52, 32, 78, 111, 116, 32, 70, 111, 117, 110, 100] := by
  rw [printOf_line 404 (by decide) (by decide)]
  exact (statusLine_data 404 (by decide) (by decide)).trans (by decide +kernel)
theorem aw_ln : printL clen (digL 1) = [67, 111, 110, 116, 101, 110, 116, 45, 76, 101, 110, 103, 116, 104, 58, 32, 49] := by
  rw [show (1 : Int) = ((1 : Nat) : Int) from rfl, digL_nat, Go.Lib.decDigits_one (by decide)]
  decide +kernel
theorem aw_s : repL 404 [] [120] = aw26 := by
  unfold repL repLines
  rw [aw_st, show (([120] : List UInt8).length : Int) = 1 from rfl, aw_ln]
  decide +kernel
theorem aw_p : bs (repS 404 [] (ByteArray.mk #[120]).data.toList) = bs aw26 ∧ repE 404 [] = 0 := by
  refine ⟨?_, aw_e⟩
  unfold repS
  rw [if_pos aw_e]
  exact congrArg bs aw_s
theorem aw_t : takE (bs aw26 ++ ⟨#[121]⟩) 1 = 0 ∧ takC (bs aw26 ++ ⟨#[121]⟩) 1 = 404 ∧ takF (bs aw26 ++ ⟨#[121]⟩) 1 = [] ∧ bs (takB (bs aw26 ++ ⟨#[121]⟩) 1) = ⟨#[120]⟩ ∧ takN (bs aw26 ++ ⟨#[121]⟩) 1 = 46 := by
  obtain ⟨h1, h2, h3, h4, h5⟩ := rep_take 404 [] [120] [121] (bs aw26 ++ ⟨#[121]⟩) 1 aw_e (by decide) (by rw [aw_s, ByteArray.data_append, Array.toList_append, bs_data]) (by decide)
  refine ⟨h1, h2, h3, by rw [h4]; rfl, ?_⟩
  rw [h5, aw_s]; rfl
theorem aw_l : takE (bs aw26) 0 = 5 := rep_long 404 [] [120] [] (bs aw26) 0 aw_e (by decide) (by rw [aw_s, bs_data, List.append_nil]) (by decide)
theorem aw_h : takE ⟨#[72, 84, 84, 80, 47, 49, 46, 49, 32, 50, 48, 48, 32, 79, 75, 13, 10, 13, 10]⟩ 9 = 6 := by decide +kernel
theorem aw_i : bs (repS 99 [] (ByteArray.mk #[]).data.toList) = ⟨#[]⟩ ∧ repE 99 [] = 8 := ⟨rfl, rfl⟩
theorem aw_same : sameR 404 404 [120] [120] [] [] = true ∧ sameR 404 0 [120] [] [] [] = false := by decide +kernel
theorem aw_sz : (bs aw26).size = 46 := rfl
theorem aw_T (w : World) (hE : EnvF w) : Calls Tryz.prog 29 #[.string (bs aw26 ++ ⟨#[121]⟩), .int .i64 1] w (ParseAt 404 46 [] ⟨#[120]⟩ 0 w) := by
  obtain ⟨h1, h2, h3, h4, h5⟩ := aw_t
  exact parse_is _ _ _ _ _ _ _ ⟨h1, h2, h3, h4, h5⟩ w (by rw [ByteArray.size_append, aw_sz]; decide) hE
theorem nil_own (w : World) : w.ownsRow 0 149 2 (.slice none 0 0) 0 (fcells []) := World.ownsRow_nil _ _ _ _
end Go.Proofs.YtgnkmfjleecmfaaGreatDoor
namespace Go.Proofs.YtgnkmfjleecmfaaGreatDoor
open Go.RowKit
/-- may an origin be? -/
def orgE (h p : List UInt8) : Nat := if pathB p = false ∨ hostB h = false then 2 else 0
theorem orgE_asks (h p : List UInt8) : aErr p h 0 0 = orgE h p := by
  unfold aErr orgE
  split
  · rfl
  · decide
/-- the code of what a server of the file f answers to s -/
def orgC (h p f : List UInt8) (s : ByteArray) : Int :=
  if askE s ≠ 0 ∨ askN s < (s.size : Int) then 400
  else if askPath s ≠ p ∨ askHost s ≠ h then 404
  else if clipE (askA s) (askB s) (f.length : Int) ≠ 0 then 416 else 206
def orgA (f : List UInt8) (s : ByteArray) : Int := clipA (askA s) (askB s) (f.length : Int)
def orgB (f : List UInt8) (s : ByteArray) : Int := clipB (askA s) (askB s) (f.length : Int)
def orgF (h p f : List UInt8) (s : ByteArray) : List (List UInt8 × List UInt8) := if orgC h p f s = 206 then [(crangeK, toldL (orgA f s) (orgB f s) (f.length : Int))] else []
def orgY (h p f : List UInt8) (s : ByteArray) : List UInt8 := if orgC h p f s = 206 then (f.take (orgB f s + 1).toNat).drop (orgA f s).toNat else []
def orgS (h p f : List UInt8) (s : ByteArray) : List UInt8 := if orgE h p = 0 then repS (orgC h p f s) (orgF h p f s) (orgY h p f s) else []
def orgK (h p f : List UInt8) (s : ByteArray) : Int := if orgE h p = 0 then orgC h p f s else 0
theorem orgC_four (h p f : List UInt8) (s : ByteArray) : orgC h p f s = 400 ∨ orgC h p f s = 404 ∨ orgC h p f s = 416 ∨ orgC h p f s = 206 := by
  unfold orgC
  split
  · exact .inl rfl
  · split
    · exact .inr (.inl rfl)
    · split
      · exact .inr (.inr (.inl rfl))
      · exact .inr (.inr (.inr rfl))
theorem orgC_206 (h p f : List UInt8) (s : ByteArray) (hc : orgC h p f s = 206) : askE s = 0 ∧ (s.size : Int) ≤ askN s ∧ askPath s = p ∧ askHost s = h ∧ clipE (askA s) (askB s) (f.length : Int) = 0 := by
  unfold orgC at hc
  split at hc
  · exact absurd hc (by decide)
  · split at hc
    · exact absurd hc (by decide)
    · split at hc
      · exact absurd hc (by decide)
      · rename_i h1 h2 h3
        rw [not_or] at h1 h2
        exact ⟨Decidable.not_not.1 h1.1, by omega, Decidable.not_not.1 h2.1, Decidable.not_not.1 h2.2, Decidable.not_not.1 h3⟩
theorem orgF_other (h p f : List UInt8) (s : ByteArray) (hc : orgC h p f s ≠ 206) : orgF h p f s = [] ∧ orgY h p f s = [] := by
  unfold orgF orgY
  rw [if_neg hc, if_neg hc]
  exact ⟨rfl, rfl⟩
theorem orgF_bd (h p f : List UInt8) (s : ByteArray) : (orgF h p f s).length ≤ 1 ∧ ∀ x ∈ orgF h p f s, x.1.length ≤ 1000000 ∧ x.2.length ≤ 1000000 := by
  unfold orgF
  split
  · refine ⟨Nat.le_refl _, fun x hx => ?_⟩
    obtain rfl := List.mem_singleton.1 hx
    exact ⟨by show crangeK.length ≤ 1000000; decide, Nat.le_trans (toldL_len _ _ _) (by decide)⟩
  · exact ⟨Nat.zero_le _, fun x hx => by cases hx⟩
theorem orgY_len (h p f : List UInt8) (s : ByteArray) : (orgY h p f s).length ≤ f.length := by
  unfold orgY
  split
  · rw [List.length_drop]
    have := List.length_take_le (orgB f s + 1).toNat f
    have := List.length_take_le' (orgB f s + 1).toNat f
    omega
  · exact Nat.zero_le _
theorem err_four (c : Int) (h : c = 400 ∨ c = 404 ∨ c = 416 ∨ c = 206) : printErr c = 0 := by
  rcases h with rfl | rfl | rfl | rfl <;> decide
/-- what is answered may be laid -/
theorem org_good (h p f : List UInt8) (s : ByteArray) (hf : f.length ≤ 1000000) : repE (orgC h p f s) (orgF h p f s) = 0 := by
  unfold repE
  rw [if_neg (by rw [err_four _ (orgC_four h p f s)]; decide)]
  by_cases hc : orgC h p f s = 206
  · obtain ⟨-, -, -, -, h5⟩ := orgC_206 h p f s hc
    have ht := clip_told _ _ _ h5 (by omega)
    have hfe := told_field _ _ _ ht
    unfold orgF
    rw [if_pos hc, if_neg (by simp)]
    show (if crangeK = clen then 22 else if fieldE crangeK (toldL (orgA f s) (orgB f s) (f.length : Int)) ≠ 0 then fieldE crangeK (toldL (orgA f s) (orgB f s) (f.length : Int)) else ownE []) = 0
    unfold orgA orgB
    rw [if_neg (by decide), hfe]
    rfl
  · rw [(orgF_other h p f s hc).1, if_neg (by simp)]
    rfl
theorem orgS_eq (h p f : List UInt8) (s : ByteArray) (hf : f.length ≤ 1000000) (he : orgE h p = 0) : orgS h p f s = repL (orgC h p f s) (orgF h p f s) (orgY h p f s) := by
  unfold orgS repS
  rw [if_pos he, if_pos (org_good h p f s hf)]
end Go.Proofs.YtgnkmfjleecmfaaGreatDoor
namespace Go.Proofs.YtgnkmfjleecmfaaGreatDoor
open Go.RowKit

/-- what is taken off bytes: the replies, what is left, what ended it (0: nothing) -/
def feedR : Nat → Int → List UInt8 → List (Int × List (List UInt8 × List UInt8) × List UInt8) × List UInt8 × Nat
  | 0, _, l => ([], l, 0)
  | f + 1, m, l => if takE (bs l) m = 0 then ((takC (bs l) m, takF (bs l) m, takB (bs l) m) :: (feedR f m (l.drop (takN (bs l) m).toNat)).1, (feedR f m (l.drop (takN (bs l) m).toNat)).2) else if takE (bs l) m = 3 then ([], l, 0) else ([], [], takE (bs l) m)
def feedOf (m : Int) (l : List UInt8) : List (Int × List (List UInt8 × List UInt8) × List UInt8) × List UInt8 × Nat := feedR (l.length + 1) m l
theorem tak_n (l : List UInt8) (m : Int) (h : takE (bs l) m = 0) : 1 ≤ (takN (bs l) m).toNat ∧ (takN (bs l) m).toNat ≤ l.length ∧ takN (bs l) m = ((takN (bs l) m).toNat : Int) := by
  obtain ⟨-, h2, h3, -⟩ := rep_again (bs l) m h
  rw [bs_size] at h3
  omega
theorem feedR_more (m : Int) : ∀ (f : Nat) (l : List UInt8), l.length < f → feedR f m l = feedR (f + 1) m l := by
  intro f
  induction f with
  | zero => intro l h; exact absurd h (Nat.not_lt_zero _)
  | succ f ih =>
    intro l h
    rw [feedR, feedR]
    by_cases h0 : takE (bs l) m = 0
    · rw [if_pos h0, if_pos h0]
      obtain ⟨n1, n2, n3⟩ := tak_n l m h0
      rw [ih (l.drop (takN (bs l) m).toNat) (by rw [List.length_drop]; omega)]
    · rw [if_neg h0, if_neg h0]
theorem feedR_all (m : Int) (l : List UInt8) (f : Nat) (h : l.length < f) : feedR f m l = feedOf m l := by
  unfold feedOf
  obtain ⟨k, rfl⟩ : ∃ k, f = l.length + 1 + k := ⟨f - (l.length + 1), by omega⟩
  clear h
  induction k with
  | zero => rfl
  | succ k ih => rw [← ih, show l.length + 1 + (k + 1) = l.length + 1 + k + 1 by omega, ← feedR_more m _ l (by omega)]
theorem feed_more (m : Int) (l : List UInt8) (h : takE (bs l) m = 0) : feedOf m l = ((takC (bs l) m, takF (bs l) m, takB (bs l) m) :: (feedOf m (l.drop (takN (bs l) m).toNat)).1, (feedOf m (l.drop (takN (bs l) m).toNat)).2) := by
  obtain ⟨n1, n2, n3⟩ := tak_n l m h
  have e := feedR_all m (l.drop (takN (bs l) m).toNat) l.length (by rw [List.length_drop]; omega)
  unfold feedOf at e ⊢
  rw [feedR, if_pos h, e]
theorem feed_short (m : Int) (l : List UInt8) (h : takE (bs l) m = 3) : feedOf m l = ([], l, 0) := by
  unfold feedOf
  rw [feedR, if_neg (by rw [h]; decide), if_pos h]
theorem feed_bad (m : Int) (l : List UInt8) (h : takE (bs l) m ≠ 0) (h3 : takE (bs l) m ≠ 3) : feedOf m l = ([], [], takE (bs l) m) := by
  unfold feedOf
  rw [feedR, if_neg h, if_neg h3]
theorem feed_ind (m : Int) (P : List UInt8 → Prop) (hp : ∀ l, (takE (bs l) m = 0 → P (l.drop (takN (bs l) m).toNat)) → P l) : ∀ l, P l := by
  intro l
  obtain ⟨n, hn⟩ : ∃ n, l.length ≤ n := ⟨_, Nat.le_refl _⟩
  induction n generalizing l with
  | zero =>
    refine hp l (fun h => ?_)
    have := tak_n l m h
    omega
  | succ n ih =>
    refine hp l (fun h => ih _ ?_)
    have := tak_n l m h
    rw [List.length_drop]; omega
/-- what is left is too short, or nothing -/
def RestOk (m : Int) (l : List UInt8) : Prop := ((feedOf m l).2.2 = 0 → takE (bs (feedOf m l).2.1) m = 3) ∧ ((feedOf m l).2.2 ≠ 0 → (feedOf m l).2.1 = []) ∧ (feedOf m l).2.1.length ≤ l.length ∧ (feedOf m l).2.2 ≠ 3
theorem feed_rest (m : Int) : ∀ l, RestOk m l := by
  refine feed_ind m (RestOk m) ?_
  intro l ih
  unfold RestOk at ih ⊢
  by_cases h0 : takE (bs l) m = 0
  · have ih0 := ih h0
    rw [feed_more m l h0]
    rw [List.length_drop] at ih0
    generalize feedOf m (l.drop (takN (bs l) m).toNat) = R at ih0 ⊢
    obtain ⟨i1, i2, i3, i4⟩ := ih0
    exact ⟨i1, i2, Nat.le_trans i3 (Nat.sub_le _ _), i4⟩
  · by_cases h3 : takE (bs l) m = 3
    · rw [feed_short m l h3]; exact ⟨fun _ => h3, fun h => absurd rfl h, Nat.le_refl _, show (0 : Nat) ≠ 3 by decide⟩
    · rw [feed_bad m l h0 h3]; exact ⟨fun h => absurd h h0, fun _ => rfl, Nat.zero_le _, h3⟩
/-- a scan that is not too short does not hang on what stands behind -/
theorem scan_behind (l b : List UInt8) : ∀ n, (scan l n).2 ≠ 3 → scan (l ++ b) n = scan l n := by
  induction l with
  | nil => intro n h; exact absurd rfl h
  | cons c r ih =>
    intro n h
    rw [List.cons_append, scan, scan]
    rw [scan] at h
    by_cases h1 : c = 13 ∧ r = []
    · rw [if_pos h1] at h; exact absurd rfl h
    · rw [if_neg h1] at h ⊢
      have h1' : ¬ (c = 13 ∧ r ++ b = []) := fun e => h1 ⟨e.1, (List.append_eq_nil_iff.1 e.2).1⟩
      rw [if_neg h1']
      by_cases h2 : c = 13 ∧ r.head? = some 10
      · have h2' : c = 13 ∧ (r ++ b).head? = some 10 := ⟨h2.1, by cases r with
          | nil => simp at h2
          | cons d t => simpa using h2.2⟩
        rw [if_pos h2, if_pos h2']
      · rw [if_neg h2] at h ⊢
        have h2' : ¬ (c = 13 ∧ (r ++ b).head? = some 10) := fun e => by
          cases r with
          | nil => exact h1 ⟨e.1, rfl⟩
          | cons d t => exact h2 ⟨e.1, by simpa using e.2⟩
        rw [if_neg h2']
        by_cases h3 : plainB c.toNat = false
        · rw [if_pos h3, if_pos h3]
        · rw [if_neg h3] at h ⊢
          rw [if_neg h3]
          by_cases h4 : n = 256
          · rw [if_pos h4, if_pos h4]
          · rw [if_neg h4] at h ⊢
            rw [if_neg h4]
            exact ih _ h
theorem take_behind (l b : List UInt8) (a : Int) (h0 : 0 ≤ a) (h1 : a ≤ (l.length : Int)) (h : takeErr (bs l) a ≠ 3) : takeErr (bs (l ++ b)) a = takeErr (bs l) a ∧ takeLine (bs (l ++ b)) a = takeLine (bs l) a ∧ takeNext (bs (l ++ b)) a = takeNext (bs l) a := by
  obtain ⟨i, rfl⟩ : ∃ i : Nat, a = i := ⟨a.toNat, by omega⟩
  have hi : i ≤ l.length := by omega
  have e1 : takeErr (bs l) i = (scanAt l i 0).2 := by rw [takeErr_in (bs l) i (by rw [bs_size]; omega), bs_data]
  have e2 : takeErr (bs (l ++ b)) i = (scanAt (l ++ b) i 0).2 := by rw [takeErr_in (bs (l ++ b)) i (by rw [bs_size, List.length_append]; omega), bs_data]
  have es : scanAt (l ++ b) i 0 = scanAt l i 0 := by
    unfold scanAt at e1 ⊢
    rw [List.drop_append_of_le_length hi]
    exact scan_behind _ b 0 (by rw [← e1]; exact h)
  have eE : takeErr (bs (l ++ b)) i = takeErr (bs l) i := by rw [e1, e2, es]
  refine ⟨eE, ?_, ?_⟩
  · unfold takeLine
    rw [eE]
    split
    · rename_i hz
      rw [bs_data, bs_data, Int.toNat_natCast, es, extract_bs, extract_bs, bs_data, bs_data]
      congr 1
      have hz2 : (scan (l.drop i) 0).2 = 0 := e1.symm.trans hz
      have := scan_zero (l.drop i) 0 hz2
      rw [List.length_drop] at this
      rw [List.take_append_of_le_length (by unfold scanAt; omega)]
    · rfl
  · unfold takeNext
    rw [eE, bs_data, bs_data, Int.toNat_natCast, es]
theorem headR_behind (l b : List UInt8) : ∀ (f : Nat) (a : Int) (xs : List (List UInt8)), 0 ≤ a → a ≤ (l.length : Int) → (headR f (bs l) a xs).2.2 ≠ 3 → headR f (bs (l ++ b)) a xs = headR f (bs l) a xs := by
  intro f
  induction f with
  | zero => intro a xs _ _ _; rfl
  | succ f ih =>
    intro a xs h0 h1 h
    by_cases he : takeErr (bs l) a = 3
    · rw [headR_err f (bs l) a xs (by rw [he]; decide)] at h
      exact absurd he h
    · obtain ⟨t1, t2, t3⟩ := take_behind l b a h0 h1 he
      by_cases hz : takeErr (bs l) a = 0
      · by_cases hm : (takeLine (bs l) a).toList.isEmpty = true
        · rw [headR_end f (bs l) a xs hz hm, headR_end f (bs (l ++ b)) a xs (t1.trans hz) (by rw [t2]; exact hm), t3]
        · rw [Bool.not_eq_true] at hm
          by_cases h17 : xs.length = 17
          · rw [headR_many f (bs l) a xs hz hm h17, headR_many f (bs (l ++ b)) a xs (t1.trans hz) (by rw [t2]; exact hm) h17]
          · rw [headR_more f (bs l) a xs hz hm h17] at h ⊢
            rw [headR_more f (bs (l ++ b)) a xs (t1.trans hz) (by rw [t2]; exact hm) h17, t2, t3]
            obtain ⟨b1, b2⟩ := take_next_bd (bs l) a hz h0
            rw [bs_size] at b2
            exact ih _ _ (by omega) b2 h
      · rw [headR_err f (bs l) a xs hz, headR_err f (bs (l ++ b)) a xs (by rw [t1]; exact hz), t1]
theorem head_behind (l b : List UInt8) (h : (headOf (bs l)).2.2 ≠ 3) : headOf (bs (l ++ b)) = headOf (bs l) := headR_behind l b 18 0 [] (Int.le_refl _) (by omega) h
/-- what is not too short does not hang on what stands behind -/
theorem tak_behind (l b : List UInt8) (m : Int) (h : takE (bs l) m ≠ 3) : takE (bs (l ++ b)) m = takE (bs l) m ∧ takC (bs (l ++ b)) m = takC (bs l) m ∧ takF (bs (l ++ b)) m = takF (bs l) m ∧ takB (bs (l ++ b)) m = takB (bs l) m ∧ takN (bs (l ++ b)) m = takN (bs l) m := by
  have hh : (headOf (bs l)).2.2 ≠ 3 := fun e => h (by unfold takE; rw [e]; rfl)
  have hd := head_behind l b hh
  have hE : takE (bs (l ++ b)) m = takE (bs l) m := by
    unfold takE at h ⊢
    rw [hd]
    split
    · rfl
    rename_i q1
    rw [if_neg q1] at h
    split
    · rfl
    rename_i q2
    rw [if_neg q2] at h
    split
    · rfl
    rename_i q3
    rw [if_neg q3] at h
    split at h
    · exact absurd rfl h
    rename_i q4
    rw [bs_size] at q4
    rw [if_neg (by rw [bs_size, List.length_append]; omega), if_neg (by rw [bs_size]; omega)]
  by_cases hz : takE (bs l) m = 0
  · obtain ⟨z1, z2, z3, z4⟩ := tak_zero (bs l) m hz
    obtain ⟨n1, n2⟩ := headOf_bd (bs l) z1
    have hz2 := hE.trans hz
    refine ⟨hE, ?_, ?_, ?_, ?_⟩
    · unfold takC; rw [if_pos hz, if_pos hz2, hd]
    · unfold takF; rw [if_pos hz, if_pos hz2, hd]
    · unfold takB; rw [if_pos hz, if_pos hz2, hd, bs_data, bs_data]
      rw [bs_size] at z4 n2
      rw [List.take_append_of_le_length (by omega)]
    · unfold takN; rw [if_pos hz, if_pos hz2, hd]
  · obtain ⟨c1, c2, c3, c4⟩ := tak_bad (bs l) m hz
    obtain ⟨d1, d2, d3, d4⟩ := tak_bad (bs (l ++ b)) m (by rw [hE]; exact hz)
    exact ⟨hE, d1.trans c1.symm, d2.trans c2.symm, d3.trans c3.symm, d4.trans c4.symm⟩
/-- the pieces do not matter -/
def PieceOk (m : Int) (b l : List UInt8) : Prop := feedOf m (l ++ b) = if (feedOf m l).2.2 = 0 then ((feedOf m l).1 ++ (feedOf m ((feedOf m l).2.1 ++ b)).1, (feedOf m ((feedOf m l).2.1 ++ b)).2) else feedOf m l
theorem feed_behind (m : Int) (b : List UInt8) : ∀ l, PieceOk m b l := by
  refine feed_ind m (PieceOk m b) ?_
  intro l ih
  unfold PieceOk at ih ⊢
  by_cases h0 : takE (bs l) m = 0
  · obtain ⟨t1, t2, t3, t4, t5⟩ := tak_behind l b m (by rw [h0]; decide)
    obtain ⟨n1, n2, n3⟩ := tak_n l m h0
    have ih0 := ih h0
    rw [feed_more m (l ++ b) (t1.trans h0), t2, t3, t4, t5, List.drop_append_of_le_length n2, ih0, feed_more m l h0]
    clear ih0 ih
    generalize feedOf m (l.drop (takN (bs l) m).toNat) = R
    obtain ⟨R1, R2, R3⟩ := R
    generalize feedOf m (R2 ++ b) = Q
    by_cases hz : R3 = 0
    · rw [if_pos hz, if_pos hz]; rfl
    · rw [if_neg hz, if_neg hz]
  · by_cases h3 : takE (bs l) m = 3
    · rw [feed_short m l h3, if_pos rfl]; rfl
    · obtain ⟨t1, -⟩ := tak_behind l b m h3
      rw [feed_bad m l h0 h3, feed_bad m (l ++ b) (by rw [t1]; exact h0) (by rw [t1]; exact h3), t1, if_neg h0]
end Go.Proofs.YtgnkmfjleecmfaaGreatDoor
namespace Go.Proofs.YtgnkmfjleecmfaaGreatDoor
open Go.RowKit
theorem overR_false (fs : List (List UInt8 × List UInt8)) (b : ByteArray) (h : overR fs b = false) : fs.length ≤ 20 ∧ (∀ f ∈ fs, f.1.length ≤ 400 ∧ f.2.length ≤ 400) ∧ b.size ≤ 500 := by
  unfold overR overF at h
  simp only [Bool.or_eq_false_iff, decide_eq_false_iff_not, List.any_eq_false] at h
  obtain ⟨⟨h1, h2⟩, h3⟩ := h
  refine ⟨by omega, fun f hf => ?_, by omega⟩
  have := h1 f hf
  unfold longF at this
  simp only [Bool.or_eq_true, decide_eq_true_eq, not_or] at this
  omega
/-- a reply of the document's that lies in a block -/
structure QAt (w : World) (b : Nat) (c : Int) (v : Value) (fs : List (List UInt8 × List UInt8)) (x : ByteArray) : Prop where
  blk : w.heap[b]? = some (.cells #[.int .i64 c, v, .string x] 35 (0, 0))
  hold : HoldsF w v fs
theorem QAt.lt {w : World} {b : Nat} {c : Int} {v : Value} {fs : List (List UInt8 × List UInt8)} {x : ByteArray} (h : QAt w b c v fs x) : b < w.heap.size := (Array.getElem?_eq_some_iff.1 h.blk).1
theorem QAt.below {w w' : World} {b : Nat} {c : Int} {v : Value} {fs : List (List UInt8 × List UInt8)} {x : ByteArray} (h : QAt w b c v fs x) (hb : Below w.heap.size w w') : QAt w' b c v fs x :=
  ⟨(hb.block b h.lt).trans h.blk, h.hold.below hb⟩
theorem QAt.new {w : World} {c : Int} {v : Value} {fs : List (List UInt8 × List UInt8)} {x : ByteArray} (h : HoldsF w v fs) :
    QAt (w.alloc (.cells #[.int .i64 c, v, .string x] 35)) w.heap.size c v fs x :=
  ⟨heap_alloc_new w _, h.below ((Below.refl _ _).alloc (Nat.le_refl _) _)⟩
theorem QAt.alloc {w : World} {b : Nat} {c : Int} {v : Value} {fs : List (List UInt8 × List UInt8)} {x : ByteArray} (h : QAt w b c v fs x) (o : Obj) : QAt (w.alloc o) b c v fs x := h.below ((Below.refl _ _).alloc (Nat.le_refl _) o)
theorem QAt.cells {w : World} {b : Nat} {c : Int} {v : Value} {fs : List (List UInt8 × List UInt8)} {x : ByteArray} (h : QAt w b c v fs x) : w.cell? ⟨b, 0, none⟩ = some (.int .i64 c) ∧ w.cell? ⟨b, 1, none⟩ = some v ∧ w.cell? ⟨b, 2, none⟩ = some (.string x) :=
  let ⟨h0, h1, h2, _⟩ := three_facts h.blk; ⟨h0, h1, h2⟩
end Go.Proofs.YtgnkmfjleecmfaaGreatDoor
namespace Go.Proofs.YtgnkmfjleecmfaaGreatDoor
open Go.RowKit
def RParseAt (C n : Int) (F : List (List UInt8 × List UInt8)) (B : ByteArray) (E : Nat) (w : World) (e : Ending) (w' : World) : Prop :=
  ∃ a cp, e = .returned (.tuple #[.agg #[.int .i64 C, .slice a F.length cp, .string B], .int .i64 n, .int .i64 (E : Nat)]) ∧ HoldsF w' (.slice a F.length cp) F ∧ Below w.heap.size w w'
theorem takF_len (s : ByteArray) (most : Int) : (takF s most).length ≤ 17 := by
  unfold takF
  split
  · refine Nat.le_trans (restF_len _) ?_
    unfold fldL
    rw [List.length_map, List.length_tail]
    have := (headOf_bound s).2
    omega
  · exact Nat.zero_le _
theorem PAt.cells {w : World} {b : Nat} {c : Int} {a : Option Addr} {n cp : Nat} {fs : List (List UInt8 × List UInt8)} {x : ByteArray} (h : PAt w b c a n cp fs x) : w.cell? ⟨b, 0, none⟩ = some (.int .i64 c) ∧ w.cell? ⟨b, 1, none⟩ = some (.slice a n cp) ∧ w.cell? ⟨b, 2, none⟩ = some (.string x) :=
  let ⟨h0, h1, h2, _⟩ := three_facts h.blk; ⟨h0, h1, h2⟩
theorem sameR_refl (c : Int) (x : List UInt8) (fs : List (List UInt8 × List UInt8)) : sameR c c x x fs fs = true := by unfold sameR; simp
end Go.Proofs.YtgnkmfjleecmfaaGreatDoor
namespace Go.Proofs.YtgnkmfjleecmfaaGreatDoor
open Go.RowKit
theorem body_len (ls : List (List UInt8)) (h : ∀ x ∈ ls, x.length ≤ 256) : (body ls).length ≤ ls.length * 258 := by
  induction ls with
  | nil => exact Nat.le_refl _
  | cons x t ih =>
    have h1 := h x (List.mem_cons_self ..)
    have h2 := ih (fun y hy => h y (List.mem_cons_of_mem _ hy))
    show (x ++ 13 :: 10 :: body t).length ≤ (t.length + 1) * 258
    rw [List.length_append, List.length_cons, List.length_cons]; omega
theorem repL_len (c : Int) (fs : List (List UInt8 × List UInt8)) (b : List UInt8) (h : repE c fs = 0) (hn : b.length ≤ 1000000) : (repL c fs b).length ≤ 4400 + b.length ∧ 2 ≤ (repL c fs b).length := by
  obtain ⟨g1, g2⟩ := good_lines c fs b.length h hn
  have := body_len (repLines c fs b.length) (fun x hx => (g1 x hx).2.2)
  unfold repL
  rw [List.length_append, List.length_cons, List.length_cons]; omega
theorem isEmpty_false (S : ByteArray) (h : 0 < S.size) : (S.toList == []) = false := by
  rw [beq_eq_false_iff_ne]
  intro e
  have : S.toList.length = 0 := by rw [e]; rfl
  rw [ByteArray.toList_eq, size_len] at this
  omega
end Go.Proofs.YtgnkmfjleecmfaaGreatDoor
namespace Go.Proofs.YtgnkmfjleecmfaaGreatDoor
open Go.RowKit

/-- what is answered to bytes, what is left, how many answers, whether it is closed -/
def srvR (h p f : List UInt8) : Nat → List UInt8 → List UInt8 × List UInt8 × Nat × Bool
  | 0, l => ([], l, 0, false)
  | k + 1, l => if askE (bs l) = 0 then (orgS h p f (bs (l.take (askN (bs l)).toNat)) ++ (srvR h p f k (l.drop (askN (bs l)).toNat)).1, (srvR h p f k (l.drop (askN (bs l)).toNat)).2.1, (srvR h p f k (l.drop (askN (bs l)).toNat)).2.2.1 + 1, (srvR h p f k (l.drop (askN (bs l)).toNat)).2.2.2) else if askE (bs l) = 3 then ([], l, 0, false) else (orgS h p f (bs l), [], 1, true)
def srvOf (h p f : List UInt8) (l : List UInt8) : List UInt8 × List UInt8 × Nat × Bool := srvR h p f (l.length + 1) l
theorem ask_n (l : List UInt8) (h : askE (bs l) = 0) : 1 ≤ (askN (bs l)).toNat ∧ (askN (bs l)).toNat ≤ l.length ∧ askN (bs l) = ((askN (bs l)).toNat : Int) := by
  obtain ⟨-, h2, h3, -⟩ := ask_again (bs l) h
  rw [bs_size] at h3
  omega
theorem srvR_more (h p f : List UInt8) : ∀ (k : Nat) (l : List UInt8), l.length < k → srvR h p f k l = srvR h p f (k + 1) l := by
  intro k
  induction k with
  | zero => intro l hl; exact absurd hl (Nat.not_lt_zero _)
  | succ k ih =>
    intro l hl
    rw [srvR, srvR]
    by_cases h0 : askE (bs l) = 0
    · rw [if_pos h0, if_pos h0]
      obtain ⟨n1, n2, n3⟩ := ask_n l h0
      rw [ih (l.drop (askN (bs l)).toNat) (by rw [List.length_drop]; omega)]
    · rw [if_neg h0, if_neg h0]
theorem srvR_all (h p f : List UInt8) (l : List UInt8) (k : Nat) (hl : l.length < k) : srvR h p f k l = srvOf h p f l := by
  unfold srvOf
  obtain ⟨j, rfl⟩ : ∃ j, k = l.length + 1 + j := ⟨k - (l.length + 1), by omega⟩
  clear hl
  induction j with
  | zero => rfl
  | succ j ih => rw [← ih, show l.length + 1 + (j + 1) = l.length + 1 + j + 1 by omega, ← srvR_more h p f _ l (by omega)]
theorem srv_more (h p f : List UInt8) (l : List UInt8) (h0 : askE (bs l) = 0) : srvOf h p f l = (orgS h p f (bs (l.take (askN (bs l)).toNat)) ++ (srvOf h p f (l.drop (askN (bs l)).toNat)).1, (srvOf h p f (l.drop (askN (bs l)).toNat)).2.1, (srvOf h p f (l.drop (askN (bs l)).toNat)).2.2.1 + 1, (srvOf h p f (l.drop (askN (bs l)).toNat)).2.2.2) := by
  obtain ⟨n1, n2, n3⟩ := ask_n l h0
  have e := srvR_all h p f (l.drop (askN (bs l)).toNat) l.length (by rw [List.length_drop]; omega)
  unfold srvOf at e ⊢
  rw [srvR, if_pos h0, e]
theorem srv_short (h p f : List UInt8) (l : List UInt8) (h3 : askE (bs l) = 3) : srvOf h p f l = ([], l, 0, false) := by
  unfold srvOf
  rw [srvR, if_neg (by rw [h3]; decide), if_pos h3]
theorem srv_bad (h p f : List UInt8) (l : List UInt8) (h0 : askE (bs l) ≠ 0) (h3 : askE (bs l) ≠ 3) : srvOf h p f l = (orgS h p f (bs l), [], 1, true) := by
  unfold srvOf
  rw [srvR, if_neg h0, if_neg h3]
theorem srv_ind (P : List UInt8 → Prop) (hp : ∀ l, (askE (bs l) = 0 → P (l.drop (askN (bs l)).toNat)) → P l) : ∀ l, P l := by
  intro l
  obtain ⟨n, hn⟩ : ∃ n, l.length ≤ n := ⟨_, Nat.le_refl _⟩
  induction n generalizing l with
  | zero =>
    refine hp l (fun h => ?_)
    have := ask_n l h
    omega
  | succ n ih =>
    refine hp l (fun h => ih _ ?_)
    have := ask_n l h
    rw [List.length_drop]; omega
/-- what is left is too short, or nothing; few answers; each is short -/
def SrvRest (h p f : List UInt8) (l : List UInt8) : Prop := ((srvOf h p f l).2.2.2 = false → askE (bs (srvOf h p f l).2.1) = 3) ∧ ((srvOf h p f l).2.2.2 = true → (srvOf h p f l).2.1 = []) ∧ (srvOf h p f l).2.1.length ≤ l.length ∧ (srvOf h p f l).2.2.1 ≤ l.length + 1 ∧ (srvOf h p f l).1.length ≤ (srvOf h p f l).2.2.1 * (4400 + f.length)
theorem orgS_len (h p f : List UInt8) (s : ByteArray) (hf : f.length ≤ 1000000) : (orgS h p f s).length ≤ 4400 + f.length := by
  by_cases he : orgE h p = 0
  · rw [orgS_eq h p f s hf he]
    have h1 := orgY_len h p f s
    have h2 := (repL_len _ _ (orgY h p f s) (org_good h p f s hf) (by omega)).1
    omega
  · unfold orgS; rw [if_neg he]; exact Nat.zero_le _
theorem srv_rest (h p f : List UInt8) (hf : f.length ≤ 1000000) : ∀ l, SrvRest h p f l := by
  refine srv_ind (SrvRest h p f) ?_
  intro l ih
  unfold SrvRest at ih ⊢
  by_cases h0 : askE (bs l) = 0
  · have ih0 := ih h0
    obtain ⟨n1, n2, n3⟩ := ask_n l h0
    have ho := orgS_len h p f (bs (l.take (askN (bs l)).toNat)) hf
    rw [srv_more h p f l h0]
    rw [List.length_drop] at ih0
    generalize srvOf h p f (l.drop (askN (bs l)).toNat) = R at ih0 ⊢
    obtain ⟨i1, i2, i3, i4, i5⟩ := ih0
    refine ⟨i1, i2, Nat.le_trans i3 (Nat.sub_le _ _), ?_, ?_⟩
    · show R.2.2.1 + 1 ≤ _; omega
    · show (orgS h p f (bs (l.take (askN (bs l)).toNat)) ++ R.1).length ≤ (R.2.2.1 + 1) * (4400 + f.length)
      rw [List.length_append, Nat.add_mul, Nat.one_mul]; omega
  · by_cases h3 : askE (bs l) = 3
    · rw [srv_short h p f l h3]; exact ⟨fun _ => h3, (fun h => absurd (show false = true from h) (by decide)), Nat.le_refl _, Nat.zero_le _, Nat.zero_le _⟩
    · have ho := orgS_len h p f (bs l) hf
      rw [srv_bad h p f l h0 h3]; exact ⟨(fun h => absurd (show true = false from h) (by decide)), fun _ => rfl, Nat.zero_le _, by show 1 ≤ l.length + 1; omega, by show (orgS h p f (bs l)).length ≤ 1 * _; omega⟩
/-- what is not too short does not hang on what stands behind -/
theorem ask_behind (l b : List UInt8) (h : askE (bs l) ≠ 3) : askE (bs (l ++ b)) = askE (bs l) ∧ askN (bs (l ++ b)) = askN (bs l) := by
  have hh : (headOf (bs l)).2.2 ≠ 3 := fun e => h (by unfold askE; rw [e]; rfl)
  have hd := head_behind l b hh
  have hE : askE (bs (l ++ b)) = askE (bs l) := by unfold askE; rw [hd]
  refine ⟨hE, ?_⟩
  unfold askN
  rw [hE, hd]
/-- what may not be is answered alike -/
theorem orgS_bad (h p f : List UInt8) (s t : ByteArray) (hs : askE s ≠ 0) (ht : askE t ≠ 0) : orgS h p f s = orgS h p f t := by
  have e : ∀ u, askE u ≠ 0 → orgC h p f u = 400 := fun u hu => by unfold orgC; rw [if_pos (.inl hu)]
  obtain ⟨s1, s2⟩ := orgF_other h p f s (by rw [e s hs]; decide)
  obtain ⟨t1, t2⟩ := orgF_other h p f t (by rw [e t ht]; decide)
  unfold orgS
  rw [s1, s2, t1, t2, e s hs, e t ht]
/-- the pieces do not matter -/
def SrvPiece (h p f b l : List UInt8) : Prop := srvOf h p f (l ++ b) = if (srvOf h p f l).2.2.2 = true then srvOf h p f l else ((srvOf h p f l).1 ++ (srvOf h p f ((srvOf h p f l).2.1 ++ b)).1, (srvOf h p f ((srvOf h p f l).2.1 ++ b)).2.1, (srvOf h p f l).2.2.1 + (srvOf h p f ((srvOf h p f l).2.1 ++ b)).2.2.1, (srvOf h p f ((srvOf h p f l).2.1 ++ b)).2.2.2)
theorem srv_behind (h p f b : List UInt8) : ∀ l, SrvPiece h p f b l := by
  refine srv_ind (SrvPiece h p f b) ?_
  intro l ih
  unfold SrvPiece at ih ⊢
  by_cases h0 : askE (bs l) = 0
  · obtain ⟨t1, t2⟩ := ask_behind l b (by rw [h0]; decide)
    obtain ⟨n1, n2, n3⟩ := ask_n l h0
    have ih0 := ih h0
    rw [srv_more h p f (l ++ b) (t1.trans h0), t2, List.drop_append_of_le_length n2, List.take_append_of_le_length n2, ih0, srv_more h p f l h0]
    clear ih0 ih
    generalize srvOf h p f (l.drop (askN (bs l)).toNat) = R
    obtain ⟨R1, R2, R3, R4⟩ := R
    generalize srvOf h p f (R2 ++ b) = Q
    cases R4 with
    | true => rfl
    | false =>
      simp only [Bool.false_eq_true, if_false, List.append_assoc, Prod.mk.injEq, true_and, and_true]
      omega
  · by_cases h3 : askE (bs l) = 3
    · rw [srv_short h p f l h3, if_neg (show ¬ (false = true) by decide)]; simp
    · obtain ⟨t1, -⟩ := ask_behind l b h3
      rw [srv_bad h p f l h0 h3, srv_bad h p f (l ++ b) (by rw [t1]; exact h0) (by rw [t1]; exact h3), if_pos rfl, orgS_bad h p f (bs (l ++ b)) (bs l) (by rw [t1]; exact h0) h0]
end Go.Proofs.YtgnkmfjleecmfaaGreatDoor
namespace Go.Proofs.YtgnkmfjleecmfaaGreatDoor
open Go.RowKit
/-- w' is w but for blocks of which S holds, and new ones -/
structure Touch (S : Nat → Prop) (w w' : World) : Prop where
  os : w'.os = w.os
  tape : w'.tape = w.tape
  output : w'.output = w.output
  size : w.heap.size ≤ w'.heap.size
  block : ∀ k, k < w.heap.size → ¬ S k → w'.heap[k]? = w.heap[k]?
theorem Touch.refl (S : Nat → Prop) (w : World) : Touch S w w := ⟨rfl, rfl, rfl, Nat.le_refl _, fun _ _ _ => rfl⟩
theorem Touch.trans {S S' : Nat → Prop} {a b c : World} (h : Touch S a b) (k : Touch S' b c) (hS : ∀ g, S' g → S g ∨ a.heap.size ≤ g) : Touch S a c :=
  ⟨k.os.trans h.os, k.tape.trans h.tape, k.output.trans h.output, Nat.le_trans h.size k.size, fun i hi hn =>
    (k.block i (Nat.lt_of_lt_of_le hi h.size) (fun hs => (hS i hs).elim hn (fun h2 => by omega))).trans (h.block i hi hn)⟩
theorem Touch.of_below {S : Nat → Prop} {w w' : World} (h : Below w.heap.size w w') : Touch S w w' := ⟨h.os, h.tape, h.output, h.size, fun k hk _ => h.block k hk⟩
theorem Touch.of_grown {S : Nat → Prop} {w w' : World} {row : Option Nat} (h : w.grownBy w' row) (hr : ∀ g, row = some g → S g ∨ w.heap.size ≤ g) : Touch S w w' :=
  ⟨h.os, h.tape, h.output, h.size, fun k hk hn => h.block k hk (fun e => (hr k e.symm).elim hn (fun h2 => by omega))⟩
theorem Touch.mono {S S' : Nat → Prop} {w w' : World} (h : Touch S w w') (hS : ∀ g, S g → S' g) : Touch S' w w' := ⟨h.os, h.tape, h.output, h.size, fun k hk hn => h.block k hk (fun hs => hn (hS k hs))⟩
theorem Touch.below {S : Nat → Prop} {B : Nat} {w w' : World} (h : Touch S w w') (hS : ∀ g, S g → B ≤ g) (hB : B ≤ w.heap.size) : Below B w w' :=
  ⟨h.os, h.tape, h.output, h.size, fun k hk => h.block k (by omega) (fun hs => by have := hS k hs; omega)⟩

/-- a row that stands in its block is owned in every world that has that block -/
theorem own_of_block {w w' : World} {base : Nat} {e : TypeId} {size : Nat} {v : Value} {n : Nat} {xs : List Value} (h : w.ownsRow base e size v n xs) (hb : ∀ g, v.ownBlock = some g → w'.heap[g]? = w.heap[g]?) : w'.ownsRow base e size v n xs := by
  refine ⟨h.1, ?_⟩
  rcases h.2 with hn | ⟨g, cap, cur, rfl, hg, hgg, rest⟩
  · exact .inl hn
  · refine .inr ⟨g, cap, cur, rfl, hg, ?_, rest⟩
    rw [hb g rfl]; exact hgg
theorem own_kept {w w' : World} {S : Nat → Prop} {base : Nat} {e : TypeId} {size : Nat} {v : Value} {n : Nat} {xs : List Value} (h : w.ownsRow base e size v n xs) (ht : Touch S w w') (hn : ∀ g, v.ownBlock = some g → ¬ S g) : w'.ownsRow base e size v n xs :=
  own_of_block h (fun g hg => ht.block g (h.lt g hg).2 (hn g hg))
/-- the block of an owned row bears its element's type -/
theorem own_tag {w : World} {base : Nat} {e : TypeId} {size : Nat} {v : Value} {n : Nat} {xs : List Value} (h : w.ownsRow base e size v n xs) (g : Nat) (hg : v.ownBlock = some g) : ∃ cur, w.heap[g]? = some (.cells cur e (0, 0)) := by
  rcases h.2 with ⟨rfl, _⟩ | ⟨g', cap, cur, rfl, _, hgg, _⟩
  · cases hg
  · obtain rfl : g' = g := by simpa [Value.ownBlock] using hg
    exact ⟨cur, hgg⟩
theorem own_apart {w : World} {b1 b2 : Nat} {e1 e2 : TypeId} {s1 s2 n1 n2 : Nat} {v1 v2 : Value} {x1 x2 : List Value} (h1 : w.ownsRow b1 e1 s1 v1 n1 x1) (h2 : w.ownsRow b2 e2 s2 v2 n2 x2) (hne : e1 ≠ e2) : v1.ownBlock = none ∨ v1.ownBlock ≠ v2.ownBlock := by
  cases hv : v1.ownBlock with
  | none => exact .inl rfl
  | some g =>
    refine .inr (fun e => ?_)
    obtain ⟨c1, k1⟩ := own_tag h1 g hv
    obtain ⟨c2, k2⟩ := own_tag h2 g e.symm
    rw [k1] at k2
    simp only [Option.some.injEq, Obj.cells.injEq] at k2
    exact hne k2.2.1
theorem own_not_map {w : World} {b1 : Nat} {e1 : TypeId} {s1 n1 : Nat} {v1 : Value} {x1 : List Value} (h1 : w.ownsRow b1 e1 s1 v1 n1 x1) {b : Nat} {es : Array MapEntry} {clock : Nat} (hb : w.heap[b]? = some (.map es clock)) : v1.ownBlock ≠ some b := fun hv => by
  obtain ⟨c1, k1⟩ := own_tag h1 b hv
  rw [k1] at hb; cases hb
theorem own_not_row {w : World} {b1 : Nat} {e1 : TypeId} {s1 n1 : Nat} {v1 : Value} {x1 : List Value} (h1 : w.ownsRow b1 e1 s1 v1 n1 x1) {b : Nat} {cs : Array Value} {t : TypeId} {m : Nat × Nat} (hb : w.heap[b]? = some (.cells cs t m)) (hne : e1 ≠ t) : v1.ownBlock ≠ some b := fun hv => by
  obtain ⟨c1, k1⟩ := own_tag h1 b hv
  rw [k1] at hb
  simp only [Option.some.injEq, Obj.cells.injEq] at hb
  exact hne hb.2.1

/-- the values of some bytes -/
def bytesV (l : List UInt8) : List Value := l.map fun b => Value.int .u8 (b.toNat : Int)
theorem bytesV_length (l : List UInt8) : (bytesV l).length = l.length := by simp [bytesV]
theorem bytesV_append (a b : List UInt8) : bytesV (a ++ b) = bytesV a ++ bytesV b := by simp [bytesV]
theorem bytesV_str (s : ByteArray) : Lib.strCells s = bytesV s.data.toList := rfl
/-- where a text's bytes come to lie behind an append -/
theorem run_append_string_at (w : World) (t u ty e : TypeId) (i : TypeInfo) (ht : Tryz.prog.underlying t = some (.slice e)) (hu : Tryz.prog.underlying u = some .string) (hi : Tryz.prog.info? e = some i) (hz : i.zero = some (.int .u8 0)) (hsize : i.size = 1) (hby : i.bytes = 1)
    (v : Value) (n : Nat) (xs : List Value) (hown : w.ownsRow 0 e 1 v n xs) (s : ByteArray) (h0 : 0 < s.size) (h63 : n + s.size ≤ maxLen) (hbytes : n + s.size ≤ 140737488355328) (v' : Value) (w' : World) (hr : (Builtin.append_ #[t, u] ty #[v, .string s]).run Tryz.prog w = .ok v' w') :
    v'.ownBlock = v.ownBlock ∨ v'.ownBlock = some w.heap.size := by
  unfold maxLen at h63
  have hxl : xs.length = n := by simpa using hown.1
  rcases hown.2 with ⟨rfl, rfl⟩ | ⟨g, cap, cur, rfl, hbg, hg, hnc, hcm, hcs, htake⟩
  · have h := run_append_nil_string (P := Tryz.prog) w t u ty e i (.int .u8 0) ht hu hi hz s h0 (by omega) (by rw [hby]; omega)
    rw [h] at hr
    injection hr with e1 _
    exact .inr (by rw [← e1]; rfl)
  · by_cases hroom : n + s.size ≤ cap
    · have h := Lib.run_append_room_string (P := Tryz.prog) w t u ty e i ht hu hi hsize g n cap cur hg s hroom (by have : cur.size = cap := (by simpa using hcs); omega)
      rw [h] at hr
      injection hr with e1 _
      exact .inl (by rw [← e1]; rfl)
    · have h := Lib.run_append_grow_string (P := Tryz.prog) w t u ty e i (.int .u8 0) ht hu hi hz ⟨g, 0, none⟩ n cap xs (by rw [hsize]; simpa using hxl) (hown.cells (g := g) rfl) s (by omega) (by omega) (by rw [hby]; exact growslice_fits (by omega) (by omega))
      rw [h] at hr
      injection hr with e1 _
      exact .inr (by rw [← e1]; rfl)
theorem touch_set {S : Nat → Prop} {w w' : World} {a : Addr} (v : Value) (h : Touch S w w') (ha : S a.block ∨ w.heap.size ≤ a.block) : Touch S w (w'.setCell a v) :=
  h.trans (S' := fun g => g = a.block) ⟨rfl, rfl, rfl, by rw [set_size]; exact Nat.le_refl _, fun k hk hn => Below.heap_setCell _ _ _ _ hn⟩ (fun g hg => by rw [hg]; exact ha)
end Go.Proofs.YtgnkmfjleecmfaaGreatDoor
