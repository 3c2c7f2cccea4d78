/- What Quote of package jtext returns. -/
import Derived.Test.YtjkhihdghjoneaaDoorJWalk2
import Derived.Test.YtjkhihdghjoneaaDoorJTakePlain4
namespace Go.Proofs.YtjkhihdghjoneaaDoor
open Go.RowKit Go.Lib

/-- how a rune stands in quotes -/
def qr (c : Nat) : List UInt8 := if shortN c ≠ 0 then [92, UInt8.ofNat (shortN c)] else if c < 32 then [92, 117, 48, 48, hexB (c / 16), hexB (c % 16)] else Lib.encodeRune (c : Int)
theorem dec_high (l : List UInt8) (hb : ¬ badR l) (hh : 128 ≤ (l.getD 0 0).toNat) : 128 ≤ (Lib.decodeL l).1 := by
  unfold badR at hb
  rw [Go.Lib.decodeL_N] at hb ⊢
  rcases Go.Lib.decodeN_shape l.length (l.getD 0 0).toNat (l.getD 1 0).toNat (l.getD 2 0).toNat (l.getD 3 0).toNat with ⟨c, e⟩ | ⟨c1, c2, c3, cv, e⟩ | ⟨c1, c2, c3, c4, cv, cs, e⟩ | ⟨c1, c2, c3, c4, c5, cv, cw, e⟩ | e
  · omega
  · rw [e]; show 128 ≤ _; omega
  · rw [e]; show 128 ≤ _; omega
  · rw [e]; show 128 ≤ _; omega
  · rw [e] at hb; exact absurd ⟨rfl, rfl⟩ hb
theorem short_high (c : Nat) (h : 128 ≤ c) : shortN c = 0 := by
  unfold shortN
  rw [if_neg (by omega), if_neg (by omega), if_neg (by omega), if_neg (by omega), if_neg (by omega), if_neg (by omega)]
theorem quo_step (l : List UInt8) (h : l ≠ []) (hb : ¬ badR l) : l.flatMap qb = qr (Lib.decodeL l).1 ++ (l.drop (rwd l)).flatMap qb := by
  by_cases hl : (l.getD 0 0).toNat < 128
  · obtain ⟨x, t, rfl⟩ : ∃ x t, l = x :: t := by cases l with
      | nil => exact absurd rfl h
      | cons x t => exact ⟨x, t, rfl⟩
    have hx : x.toNat < 128 := hl
    have hd := low_rune x t hx
    have hw : rwd (x :: t) = 1 := by unfold rwd; rw [hd]
    rw [hw, hd, List.flatMap_cons]
    show qb x ++ _ = qr x.toNat ++ t.flatMap qb
    congr 1
    unfold qb qr
    rw [enc_low x hx]
  · have hh : 128 ≤ (l.getD 0 0).toNat := by omega
    have hc := dec_high l hb hh
    have e1 : qr (Lib.decodeL l).1 = l.take (rwd l) := by
      unfold qr
      rw [if_neg (by rw [short_high _ hc]; decide), if_neg (by omega)]
      exact Lib.encode_decode l h hb
    rw [e1]
    conv => lhs; rw [← List.take_append_drop (rwd l) l]
    rw [List.flatMap_append, flat_high _ (take_high l h hb hh)]
theorem short_byte : ∀ c : Fin 256, (UInt8.ofNat (shortN c.val)).toNat = shortN c.val := by decide +kernel
theorem qr_len (c : Nat) : (qr c).length ≤ 6 := by
  unfold qr; split
  · show 2 ≤ 6; decide
  · split
    · show 6 ≤ 6; decide
    · have := Lib.encodeRuneZ_length (c : Int)
      have e : (Lib.encodeRune (c : Int)).length = (Lib.encodeRuneZ (c : Int)).length := by unfold Lib.encodeRune; rw [List.length_map]
      omega
theorem and15 : ∀ c : Fin 32, bits BinOp.and IntKind.i32 ((c.val : Nat) : Int) 15 = ((c.val % 16 : Nat) : Int) := by decide +kernel
theorem hex_get (d : Nat) (h : d < 16) (hb : d < (⟨#[48, 49, 50, 51, 52, 53, 54, 55, 56, 57, 97, 98, 99, 100, 101, 102]⟩ : ByteArray).size) : (⟨#[48, 49, 50, 51, 52, 53, 54, 55, 56, 57, 97, 98, 99, 100, 101, 102]⟩ : ByteArray)[d] = hexB d := by
  have : ∀ (e : Fin 16), (⟨#[48, 49, 50, 51, 52, 53, 54, 55, 56, 57, 97, 98, 99, 100, 101, 102]⟩ : ByteArray)[e.val]'e.isLt = hexB e.val := by decide
  exact this ⟨d, h⟩

set_option maxRecDepth 100000 in
set_option maxHeartbeats 400000 in
theorem quote (s : ByteArray) (w : World) (hs : s.size ≤ 10000) (hu : U8 w) :
    Calls Tryd.prog 7 #[.string s] w fun e w' => e = .returned (.tuple #[.string (bs (if valR s.data.toList = true then quoL s.data.toList else [])), .int .i64 (if valR s.data.toList = true then 0 else 4)]) ∧ Below w.heap.size w w' := by
  have c := valid s w (by omega) hu
  cases hv : valR s.data.toList
  · rw [hv] at c
    go_enter Tryd.func7, Tryd.ntmps7
    go_wp2_with fail
    refine c.mono ?_
    rintro e w1 ⟨rfl, hb⟩
    go_wp2_with fail
    go_ret2
    exact ⟨rfl, hb⟩
  · rw [hv] at c
    go_enter Tryd.func7, Tryd.ntmps7
    go_wp2_with fail
    refine c.mono ?_
    rintro e w1 ⟨rfl, hb⟩
    have hB := BI.fresh w1
    have hsz : w1.heap.size ≤ (w1.alloc (.cells #[.pointer none, .slice none 0 0] 37 (0, 0))).heap.size := by simp
    have hA : Below w1.heap.size w1 (w1.alloc (.cells #[.pointer none, .slice none 0 0] 37 (0, 0))) := (Below.refl _ w1).alloc (Nat.le_refl _) _
    go_wp2_with fail
    refine (c_byte w1.heap.size [] 34 _ hB (by simp) hsz).mono ?_
    rintro e w2 ⟨rfl, hB2, b2, -⟩
    have hA2 := hA.trans b2
    have hlt2 : w1.heap.size < w2.heap.size := hB2.elim (fun x => x.lt) (fun x => x.lt)
    clear hB hsz hA b2
    go_wp2_with fail
    go_loopg [] s.size (fun gk wx => ∃ (k : Nat) (acc : List UInt8), BI w1.heap.size acc wx ∧ wx.heap[w2.heap.size]? = some (.stringIter s k) ∧ Below w1.heap.size w1 wx ∧
      Hid (acc ++ (s.data.toList.drop k).flatMap qb = 34 :: s.data.toList.flatMap qb) ∧ Hid (valR (s.data.toList.drop k) = true) ∧ acc.length ≤ 6 * k + 1 ∧ s.size ≤ k + gk ∧ k ≤ s.size)
    case atStart =>
      refine ⟨0, [34], BI.alloc hB2 _, World.iter_heap w2 s 0, hA2.trans ((Below.refl _ w2).alloc (by omega) _), Lib.hid ?_, Lib.hid ?_, by simp, by omega, by omega⟩
      · rw [List.drop_zero]; rfl
      · rw [List.drop_zero]; exact hv
    case round =>
      obtain ⟨k, acc, hI, hit, hbx, HS, HV, hal, hfu, hks⟩ := hrel
      have hszI : w2.heap.size < wr.heap.size := (Array.getElem?_eq_some_iff.1 hit).1
      by_cases hlt : k < s.size
      · obtain ⟨g', rfl⟩ : ∃ g', gk = g' + 1 := ⟨gk - 1, by omega⟩
        have hne := drop_ne s k hlt
        have hnx : ∀ ty, (Instr.next (.pointer (some ⟨w2.heap.size, 0, none⟩)) true ty).run Tryd.prog wr = _ := fun ty => Lib.run_next_any_at wr w2.heap.size s k ty hit hlt
        rw [dec_drop] at hnx
        have hnb := val_head _ hne HV.out
        have hq := quo_step _ hne hnb
        have hvs := valR_step _ hne hnb
        have hw := rwd_pos (s.data.toList.drop k)
        have hw2 := rwd_le _ hne
        rw [List.length_drop, size_len] at hw2
        have hcr := Lib.decodeL_rune (s.data.toList.drop k)
        obtain ⟨R, hR⟩ : ∃ R, (Lib.decodeL (s.data.toList.drop k)).1 = R := ⟨_, rfl⟩
        obtain ⟨M, hM⟩ : ∃ M, (Lib.decodeL (s.data.toList.drop k)).2 = M := ⟨_, rfl⟩
        rw [hR, hM] at hnx
        rw [hR] at hcr
        have hMw : rwd (s.data.toList.drop k) = M := hM
        rw [hMw, hR, List.drop_drop] at hq
        rw [hMw, List.drop_drop] at hvs
        rw [hMw] at hw hw2
        have HS2 : Hid ((acc ++ qr R) ++ (s.data.toList.drop (k + M)).flatMap qb = 34 :: s.data.toList.flatMap qb) := Lib.hid (by rw [← HS.out, hq, List.append_assoc])
        have HV2 : Hid (valR (s.data.toList.drop (k + M)) = true) := Lib.hid (by rw [← hvs]; exact HV.out)
        have hql := qr_len R
        have hit2 := Lib.iterAt_heap wr w2.heap.size s k (k + M) hit
        have hI2 : BI w1.heap.size acc (wr.iterAt w2.heap.size s (k + M)) := hI.iterAt hit (k + M)
        have hb2 : Below w1.heap.size w1 (wr.iterAt w2.heap.size s (k + M)) := hbx.trans ((Lib.below_iterAt (Below.refl w2.heap.size wr) (Nat.le_refl _) s (k + M)).mono (by omega))
        obtain ⟨W, hW⟩ : ∃ W, wr.iterAt w2.heap.size s (k + M) = W := ⟨_, rfl⟩
        rw [hW] at hnx hI2 hit2 hb2
        have hszW : w2.heap.size < W.heap.size := (Array.getElem?_eq_some_iff.1 hit2).1
        clear hq hvs hMw hM hit hI hbx hR hW HS HV hnb hne
        have cS := short R W
        by_cases hsh : shortN R ≠ 0
        · have hdd : decide (shortN R ≠ 0) = true := decide_eq_true hsh
          have hqr : qr R = [92, UInt8.ofNat (shortN R)] := if_pos hsh
          have hs8 : ((UInt8.ofNat (shortN R)).toNat : Int) = (shortN R : Int) := by
            have := short_low _ hsh
            rw [short_byte ⟨R, by omega⟩]
          rw [hqr] at HS2
          rw [hdd, ← hs8] at cS
          obtain ⟨lb, hlb⟩ : ∃ x : UInt8, UInt8.ofNat (shortN R) = x := ⟨_, rfl⟩
          rw [hlb] at HS2 cS
          clear hdd hqr hs8 hsh hql hlb
          go_wp2_with fail
          refine cS.mono ?_
          rintro e W' ⟨rfl, rfl⟩
          go_wp2_with fail
          refine (c_byte w1.heap.size acc 92 W' hI2 (by omega) (by omega)).mono ?_
          rintro e W3 ⟨rfl, hI3, b3, k3⟩
          have hit3 := k3.iter hit2 (by omega)
          have hb3 := hb2.trans b3
          have hszW3 : w2.heap.size < W3.heap.size := (Array.getElem?_eq_some_iff.1 hit3).1
          clear hI2 b3 k3 hit2 hb2 hszW
          go_wp2_with fail
          refine (c_byte w1.heap.size (acc ++ [92]) lb W3 hI3 (by rw [List.length_append, List.length_singleton]; omega) (by omega)).mono ?_
          rintro e W4 ⟨rfl, hI4, b4, k4⟩
          have hit4 := k4.iter hit3 (by omega)
          have hb4 := hb3.trans b4
          clear hI3 b4 k4 hit3 hb3 hszW3
          go_wp2_with fail
          go_roundg g'
          case measure => omega
          case rel => exact ⟨k + M, _, hI4, hit4, hb4, Lib.hid (by rw [List.append_assoc acc]; exact HS2.out), HV2, by simp; omega, by omega, by omega⟩
        · have hdd : decide (shortN R ≠ 0) = false := decide_eq_false hsh
          rw [hdd] at cS
          by_cases hc : R < 32
          · have hqr : qr R = [92, 117, 48, 48, hexB (R / 16), hexB (R % 16)] := by unfold qr; rw [if_neg hsh, if_pos hc]
            rw [hqr] at HS2
            have t1 : decide ((R : Int) < 32) = true := decide_eq_true (by omega)
            clear hdd hqr hsh hql
            have hx1 : R / 16 < 16 := by omega
            have hx2 : R % 16 < 16 := by omega
            have hb15 : bits BinOp.and IntKind.i32 (R : Int) 15 = ((R % 16 : Nat) : Int) := and15 ⟨R, hc⟩
            go_wp2_with fail
            refine cS.mono ?_
            rintro e W' ⟨rfl, rfl⟩
            go_wp2_with fail
            refine (c_str w1.heap.size acc _ W' hI2 (by show _ + 4 ≤ _; omega) (by omega)).mono ?_
            rintro e W3 ⟨rfl, hI3, b3, k3⟩
            have hit3 := k3.iter hit2 (by omega)
            have hb3 := hb2.trans b3
            have hszW3 : w2.heap.size < W3.heap.size := (Array.getElem?_eq_some_iff.1 hit3).1
            clear hI2 b3 k3 hit2 hb2 hszW
            go_wp2_with fail
            rw [hex_get (R / 16) hx1]
            refine (c_byte w1.heap.size _ (hexB (R / 16)) W3 hI3 (by rw [List.length_append]; show _ + 4 ≤ _; omega) (by omega)).mono ?_
            rintro e W4 ⟨rfl, hI4, b4, k4⟩
            have hit4 := k4.iter hit3 (by omega)
            have hb4 := hb3.trans b4
            have hszW4 : w2.heap.size < W4.heap.size := (Array.getElem?_eq_some_iff.1 hit4).1
            clear hI3 b4 k4 hit3 hb3 hszW3
            go_wp2_with fail
            rw [hex_get (R % 16) hx2]
            refine (c_byte w1.heap.size _ (hexB (R % 16)) W4 hI4 (by rw [List.length_append, List.length_append]; show _ + 4 + 1 ≤ _; omega) (by omega)).mono ?_
            rintro e W5 ⟨rfl, hI5, b5, k5⟩
            have hit5 := k5.iter hit4 (by omega)
            have hb5 := hb4.trans b5
            clear hI4 b5 k5 hit4 hb4 hszW4
            go_wp2_with fail
            go_roundg g'
            case measure => omega
            case rel => exact ⟨k + M, _, hI5, hit5, hb5, Lib.hid (by rw [List.append_assoc acc, List.append_assoc acc]; exact HS2.out), HV2, by rw [List.length_append, List.length_append, List.length_append]; show _ + 4 + 1 + 1 ≤ _; omega, by omega, by omega⟩
          · have hqr : qr R = Lib.encodeRune (R : Int) := by unfold qr; rw [if_neg hsh, if_neg hc]
            rw [hqr] at HS2
            rw [hqr] at hql
            have t1 : decide ((R : Int) < 32) = false := decide_eq_false (by omega)
            clear hdd hqr hsh
            go_wp2_with fail
            refine cS.mono ?_
            rintro e W' ⟨rfl, rfl⟩
            go_wp2_with fail
            refine (c_rune w1.heap.size acc (R : Int) (by omega) (by omega) W' hI2 (by omega) (by omega)).mono ?_
            rintro e W3 ⟨rfl, hI3, b3, k3⟩
            have hit3 := k3.iter hit2 (by omega)
            have hb3 := hb2.trans b3
            clear hI2 b3 k3 hit2 hb2 hszW
            go_wp2_with fail
            go_roundg g'
            case measure => omega
            case rel => exact ⟨k + M, _, hI3, hit3, hb3, HS2, HV2, by rw [List.length_append]; omega, by omega, by omega⟩
      · obtain rfl : k = s.size := by omega
        have hnx : ∀ ty, (Instr.next (.pointer (some ⟨w2.heap.size, 0, none⟩)) true ty).run Tryd.prog wr = _ := fun ty => Lib.run_next_end_at wr w2.heap.size s s.size ty hit hlt
        have HS2 : Hid (acc = 34 :: s.data.toList.flatMap qb) := Lib.hid (by rw [← HS.out, ← size_len s, List.drop_length]; exact (List.append_nil _).symm)
        clear HS hit
        go_wp2_with fail
        refine (c_byte w1.heap.size acc 34 wr hI (by omega) (by omega)).mono ?_
        rintro e W3 ⟨rfl, hI3, b3, -⟩
        have hb3 := hbx.trans b3
        have hszW3 : w1.heap.size ≤ W3.heap.size := by have := b3.size; omega
        clear b3 hbx
        go_wp2_with fail
        refine (c_text w1.heap.size _ W3 hI3 hszW3).mono ?_
        rintro e W4 ⟨rfl, -, b4⟩
        go_wp2_with fail
        go_ret2
        exact ⟨by rw [HS2.out]; rfl, bstep hb (hb3.trans b4)⟩
end Go.Proofs.YtjkhihdghjoneaaDoor
