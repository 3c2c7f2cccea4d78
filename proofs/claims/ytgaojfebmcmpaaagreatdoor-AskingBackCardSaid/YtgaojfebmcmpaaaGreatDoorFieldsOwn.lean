/- What the law's Own and the reference's Get, Number and Digits of fields return. -/
import Derived.Test.YtgaojfebmcmpaaaGreatDoorFieldsHeld
import Derived.Test.YtgaojfebmcmpaaaGreatDoorFieldsRefPl
import Derived.Test.YtgaojfebmcmpaaaGreatDoorNumWalk
import Derived.Test.YtgaojfebmcmpaaaGreatDoorRefDig
namespace Go.Proofs.YtgaojfebmcmpaaaGreatDoor
open Go.RowKit

theorem info_field : (Tryz.prog.info? 123).map (fun i => (i.zero, i.size, i.bytes)) = some (some (.agg #[.string ByteArray.empty, .string ByteArray.empty]), 2, 32) := by kernel_rfl
theorem cell_two_new (w : World) (x y : Value) (t : TypeId) : ∀ j u, [x, y][j]? = some u → (w.alloc (.cells #[x, y] t)).cell? ((⟨w.heap.size, 0, none⟩ : Addr).add j) = some u := by
  intro j u hj
  have hh := heap_alloc_new w (.cells #[x, y] t)
  have e0 : (⟨w.heap.size, 0, none⟩ : Addr).add j = ⟨w.heap.size, 0 + j, none⟩ := by unfold Addr.add; split <;> simp_all
  rw [e0]
  match j, hj with
  | 0, hj => simp at hj; subst hj; unfold World.cell?; rw [hh]; rfl
  | 1, hj => simp at hj; subst hj; unfold World.cell?; rw [hh]; rfl
/-- append of one field to a slice of the call's own. -/
theorem append_field {ops : Array Oper} {rest : List Oper} {o : Oper} {a : Act} {Q : Exit → Act → World → Prop} (w0 : World) (hgd : o.guard = none) (s x : Operand)
    (ho : o.op = .call { callee := .builtin .append, args := #[s, x], argTypes := #[50, 50] })
    (base : Nat) (v : Value) (fs : List (List UInt8 × List UInt8)) (hs : a.eval s = v) (hown : w0.ownsRow base 123 2 v fs.length (fcells fs))
    (p q : ByteArray) (f : List UInt8 × List UInt8) (hp : p = bs f.1) (hq : q = bs f.2) (hx : a.eval x = .slice (some ⟨w0.heap.size, 0, none⟩) 1 1) (hn : fs.length < 2147483648) (hbase : base ≤ w0.heap.size)
    (h : ∀ v' w', w'.ownsRow base 123 2 v' (fs ++ [f]).length (fcells (fs ++ [f])) → w0.grownBy w' v.ownBlock → v' ≠ .slice none 0 0 → wpList Tryz.prog ops Q rest (a.put o.dst v') w') :
    wpList Tryz.prog ops Q (o :: rest) a (w0.alloc (.cells #[.string p, .string q] 123)) := by
  obtain ⟨i0, hi, hz0, hz1, hz2⟩ := info_parts info_field
  subst hp hq
  refine wpList_append_own _ hgd s x 50 ho base 123 i0 _ 2 32 Tryz.underlying50 hi hz0 hz1 hz2 rfl (by decide) v fs.length (fcells fs) hs (hown.alloc _) ⟨w0.heap.size, 0, none⟩ 1 1 [.string (bs f.1), .string (bs f.2)] hx rfl (cell_two_new w0 _ _ _) (by simp [Value.oneCell']) (by unfold maxLen; omega) (by omega) (by simp; omega) ?_
  intro v' w' h2 h3 h4
  refine h v' w' ?_ ?_ (fun e => by have := (h4.1 e).2; omega)
  · rw [List.length_append, fcells_append]; exact h2
  · exact ⟨h3.os, h3.tape, h3.output, Nat.le_trans (by simp) h3.size, fun k hk hne => (h3.block k (by simp; omega) hne).trans (heap_alloc_old w0 _ hk)⟩
theorem below_ownF {B : Nat} {w wr w' : World} {base : Nat} {e : TypeId} {size : Nat} {v : Value} {n : Nat} {xs : List Value} (hb : Below B w wr) (hg : wr.grownBy w' v.ownBlock) (hown : wr.ownsRow base e size v n xs) (hB : B ≤ base) (hB2 : B ≤ wr.heap.size) : Below B w w' :=
  hb.grown hg hB2 fun k hk => Nat.le_trans hB (hown.lt k hk).1

def OwnPost (fs : List (List UInt8 × List UInt8)) (w : World) (e : Ending) (w' : World) : Prop := ∃ v, e = .returned v ∧ HoldsF w' v fs ∧ Below w.heap.size w w'
set_option maxRecDepth 100000 in
set_option maxHeartbeats 2000000 in
theorem law_own (v : Value) (fs : List (List UInt8 × List UInt8)) (w : World) (hv : HoldsF w v fs) (hlen : fs.length < 2147483648) :
    Calls Tryz.prog 82 #[v] w (OwnPost fs w) := by
  obtain ⟨a, c, rfl, hc, hx⟩ := hv
  have HX := Lib.hid hx
  clear hx
  go_enter Tryz.func82, Tryz.ntmps82
  go_wp2_with fail
  go_loopw [3, 4] (fun u i wr => ∃ k : Nat, k ≤ fs.length ∧ i = .int .i64 k ∧ wr.ownsRow w.heap.size 123 2 u (fs.take k).length (fcells (fs.take k)) ∧ Below w.heap.size w wr) (fun _ i _ => fs.length - (intOf i).toNat)
  case atStart => exact ⟨0, by omega, rfl, World.ownsRow_nil _ _ _ _, Below.refl _ _⟩
  case round =>
    obtain ⟨k, hk, rfl, hown, hb⟩ := hrel
    by_cases hlt : k < fs.length
    · obtain ⟨b, o, rfl, hbl, hcell⟩ := HX.out (fun e => by rw [e] at hlt; exact absurd hlt (Nat.not_lt_zero _))
      have c0 := (hb.cell (p := ⟨b, o + k * 2, none⟩) hbl).trans (hcell k hlt).1
      have c1 := (hb.cell (p := ⟨b, o + k * 2 + 1, none⟩) hbl).trans (hcell k hlt).2
      have hstep : Hid (fs.take (k + 1) = fs.take k ++ [fs[k]]) := Lib.hid (List.take_succ_eq_append_getElem hlt)
      have hkl : (fs.take k).length < 2147483648 := by rw [List.length_take]; omega
      clear hcell HX
      go_wp2_with (at_builtin; go_loud (refine append_field wr (by rfl) _ _ (by rfl) w.heap.size _ (fs.take k) (by rfl) hown (bs fs[k].1) (bs fs[k].2) fs[k] rfl rfl (by rfl) hkl hb.size ?_); intro v' w1 hown1 hg1 hne1)
      go_roundw
      case rel => exact ⟨k + 1, by omega, by go_num, by rw [hstep.out]; exact hown1, below_ownF hb hg1 hown (Nat.le_refl _) hb.size⟩
      case measure => simp [intOf]; omega
    · have hall : fs.take k = fs := List.take_of_length_le (by omega)
      rw [hall] at hown
      clear hall
      go_wp2_with fail
      go_ret
      exact ⟨_, rfl, HoldsF.of_own hown, hb⟩

/-- where a name stands, told as the reference counts. -/
def RGet (fs : List (List UInt8 × List UInt8)) (m : List UInt8) (k : Nat) (x y : Value) : Prop :=
  ∃ c t : Nat, x = .int .i64 c ∧ y = .int .i64 t ∧ c = (hits (fs.take k) m).length ∧ c ≤ k ∧ (0 < c → ∃ h : t < fs.length, (hits (fs.take k) m).getLast? = some fs[t].2)
theorem hits_all (fs : List (List UInt8 × List UInt8)) (m : List UInt8) (k : Nat) (h : fs.length ≤ k) : hits (fs.take k) m = hits fs m := by rw [List.take_of_length_le h]
set_option maxRecDepth 100000 in
set_option maxHeartbeats 2000000 in
theorem ref_get (v : Value) (fs : List (List UInt8 × List UInt8)) (n : ByteArray) (w : World) (hv : HoldsF w v fs) (hlen : fs.length ≤ 1000000) :
    Calls Tryz.prog 67 #[v, .string n] w fun e w' => e = .returned (.tuple #[.string (bs (getS fs n.data.toList)), .int .i64 (getE fs n.data.toList)]) ∧ w' = w := by
  obtain ⟨a, c, rfl, hc, hx⟩ := hv
  have HX := Lib.hid hx
  clear hx
  obtain ⟨m, rfl⟩ : ∃ m, n = bs m := ⟨n.data.toList, (bs_self n).symm⟩
  rw [bs_data]
  go_enter Tryz.func67, Tryz.ntmps67
  go_wp2_with fail
  go_loop [6, 7, 8] (fun x y i => ∃ k : Nat, k ≤ fs.length ∧ i = .int .i64 k ∧ RGet fs m k x y) (fun _ _ i => fs.length - (intOf i).toNat)
  case atStart => exact ⟨0, by omega, rfl, 0, 0, rfl, rfl, rfl, by omega, fun h => absurd h (Nat.lt_irrefl _)⟩
  case round =>
    obtain ⟨k, hk, rfl, cn, tn, rfl, rfl, hcn, hck, hlast⟩ := hrel
    by_cases hlt : k < fs.length
    · obtain ⟨b, o, rfl, hbl, hcell⟩ := HX.out (fun e => by rw [e] at hlt; exact absurd hlt (Nat.not_lt_zero _))
      have c0 := (hcell k hlt).1
      have hstep := hits_step fs m k hlt
      have hcmp := bs_beq fs[k].1 m
      clear hcell
      by_cases hn : fs[k].1 = m
      · rw [if_pos hn] at hstep
        rw [decide_eq_true hn] at hcmp
        have Hn : Hid (RGet fs m (k + 1) (.int .i64 ((cn + 1 : Nat) : Int)) (.int .i64 (k : Int))) := Lib.hid ⟨cn + 1, k, rfl, rfl, by rw [hstep, List.length_append, ← hcn]; rfl, by omega, fun _ => ⟨hlt, by rw [hstep, List.getLast?_append]; rfl⟩⟩
        clear hstep hn HX hlast hcn
        obtain ⟨X, hX⟩ : ∃ X, X = bs fs[k].1 := ⟨_, rfl⟩
        rw [← hX] at c0 hcmp
        clear hX
        go_wp2_with fail
        go_round
        case rel => exact ⟨k + 1, by omega, by go_num, Hn.out⟩
        case measure => simp [intOf]; omega
      · rw [if_neg hn, List.append_nil] at hstep
        rw [decide_eq_false hn] at hcmp
        have Hn : Hid (RGet fs m (k + 1) (.int .i64 (cn : Int)) (.int .i64 (tn : Int))) := Lib.hid ⟨cn, tn, rfl, rfl, by rw [hstep]; exact hcn, by omega, fun h => by rw [hstep]; exact hlast h⟩
        clear hstep hn HX hlast hcn
        obtain ⟨X, hX⟩ : ∃ X, X = bs fs[k].1 := ⟨_, rfl⟩
        rw [← hX] at c0 hcmp
        clear hX
        go_wp2_with fail
        go_round
        case rel => exact ⟨k + 1, by omega, by go_num, Hn.out⟩
        case measure => simp [intOf]; omega
    · rw [hits_all fs m k (by omega)] at hcn hlast
      by_cases hz : cn = 0
      · have H : Hid (getS fs m = [] ∧ getE fs m = 6) := Lib.hid (by
          have : hits fs m = [] := List.length_eq_zero_iff.1 (by omega)
          unfold getS getE; rw [this]; exact ⟨rfl, rfl⟩)
        have t1 : ((cn : Int) == 0) = true := by rw [hz]; rfl
        clear hz hcn hlast HX
        go_wp2_with fail
        go_ret2
        exact ⟨ret_two (by rw [H.out.1]; rfl) (by rw [H.out.2]; rfl), rfl⟩
      · have t1 : ((cn : Int) == 0) = false := by rw [beq_eq_false_iff_ne]; omega
        by_cases h1 : 1 < cn
        · have H : Hid (getS fs m = [] ∧ getE fs m = 22) := Lib.hid (by
            unfold getS getE
            cases hh : hits fs m with
            | nil => rw [hh] at hcn; simp at hcn; omega
            | cons a t => cases t with
              | nil => rw [hh] at hcn; simp at hcn; omega
              | cons b u => exact ⟨rfl, rfl⟩)
          clear hz hcn hlast HX
          go_wp2_with fail
          go_ret2
          exact ⟨ret_two (by rw [H.out.1]; rfl) (by rw [H.out.2]; rfl), rfl⟩
        · obtain ⟨htl, hl⟩ := hlast (by omega)
          obtain ⟨b, o, rfl, hbl, hcell⟩ := HX.out (fun e => by rw [e] at htl; exact absurd htl (Nat.not_lt_zero _))
          have c1 := (hcell tn htl).2
          have H : Hid (getS fs m = fs[tn].2 ∧ getE fs m = 0) := Lib.hid (by
            unfold getS getE
            cases hh : hits fs m with
            | nil => rw [hh] at hcn; simp at hcn; omega
            | cons a t => cases t with
              | nil => rw [hh] at hl; simp at hl; exact ⟨hl, rfl⟩
              | cons b u => rw [hh] at hcn; simp at hcn; omega)
          clear hz hcn hl HX hcell
          go_wp2_with fail
          go_ret2
          exact ⟨ret_two (by rw [H.out.1]; rfl) (by rw [H.out.2]; rfl), rfl⟩
theorem ref_digitsZ (n : Int) (w : World) (h1 : n ≤ 9223372036854775807) :
    Calls Tryz.prog 84 #[.int .i64 n] w fun e w' => e = .returned (.string (bs (digL n))) ∧ w' = w := by
  by_cases hn : n < 0
  · have H : Hid (digL n = []) := Lib.hid (if_pos hn)
    go_enter Tryz.func84, Tryz.ntmps84
    go_wp2_with fail
    go_ret
    exact ⟨by rw [H.out]; rfl, rfl⟩
  · obtain ⟨k, rfl⟩ := Int.eq_ofNat_of_zero_le (show 0 ≤ n by omega)
    have := ref_digits k k w (Nat.le_refl _) (by omega)
    rw [show digL (k : Int) = Go.Lib.decDigits k from if_neg hn]
    exact this

/-- the reference's reading of a number: what is known behind k digits -/
def RNum (l : List UInt8) (k : Nat) (x y : Value) : Prop := ∃ (n : Nat) (b : Bool), x = .int .i64 n ∧ y = .bool b ∧ n ≤ 9007199254740991 ∧ b = decide (9007199254740991 < decV (l.take k)) ∧ (b = false → n = decV (l.take k))
theorem rnum_step (l : List UInt8) (k n : Nat) (b : Bool) (hk : k < l.length) (hn : n ≤ 9007199254740991) (hb : b = decide (9007199254740991 < decV (l.take k))) (hv : b = false → n = decV (l.take k)) (hd : 48 ≤ l[k].toNat ∧ l[k].toNat ≤ 57) :
    (9007199254740991 < n * 10 + (l[k].toNat - 48) → RNum l (k + 1) (.int .i64 0) (.bool true)) ∧ (¬ 9007199254740991 < n * 10 + (l[k].toNat - 48) → RNum l (k + 1) (.int .i64 ((n * 10 + (l[k].toNat - 48) : Nat) : Int)) (.bool b)) := by
  have hs : decV (l.take (k + 1)) = decV (l.take k) * 10 + (l[k].toNat - 48) := by
    rw [List.take_succ_eq_append_getElem hk, decV_snoc]
  constructor
  · intro h
    refine ⟨0, true, rfl, rfl, by omega, ?_, fun h => absurd h (by decide)⟩
    rw [eq_comm, decide_eq_true_eq, hs]
    cases b with
    | true => have := of_decide_eq_true hb.symm; omega
    | false => have := hv rfl; omega
  · intro h
    refine ⟨_, b, rfl, rfl, by omega, ?_, fun e => by rw [hs, ← hv e]⟩
    cases b with
    | true => have := of_decide_eq_true hb.symm; rw [eq_comm, decide_eq_true_eq, hs]; omega
    | false => have := hv rfl; rw [eq_comm, decide_eq_false_iff_not, hs]; omega

set_option maxRecDepth 100000 in
set_option maxHeartbeats 2000000 in
theorem ref_number (s : ByteArray) (w : World) (hs : s.size ≤ 1000000) :
    Calls Tryz.prog 91 #[.string s] w fun e w' => e = .returned (.tuple #[.int .i64 (numV s.data.toList), .int .i64 (numE s.data.toList)]) ∧ w' = w := by
  obtain ⟨l, hl⟩ : ∃ l, l = s.data.toList := ⟨_, rfl⟩
  have hsl : l.length = s.size := by rw [hl]; exact size_len s
  have hlead1 := fun h h2 => lead0_size s h h2
  have hlead2 := fun h => lead0_not s h
  rw [← hl] at hlead1 hlead2 ⊢
  have HL := Lib.hid hl
  clear hl
  by_cases h0 : s.size = 0
  · have H := Lib.hid (numE_bad l (by rw [List.length_eq_zero_iff.1 (show l.length = 0 by omega)]; rfl))
    have t : ((s.size : Int) == 0) = true := by rw [h0]; rfl
    clear hsl hlead1 hlead2 h0
    go_enter Tryz.func91, Tryz.ntmps91
    go_wp2_with fail
    go_ret2
    exact ⟨ret_nums (by rw [H.out.2]; rfl) (by rw [H.out.1]; rfl), rfl⟩
  · have t : ((s.size : Int) == 0) = false := by rw [beq_eq_false_iff_ne]; omega
    have hpos : 0 < s.size := by omega
    by_cases h1 : ∃ h : 1 < s.size, s[0] = 48
    · obtain ⟨h1, h48⟩ := h1
      have H := Lib.hid (numE_bad l (by unfold numBad; rw [hlead1 h1 h48, Bool.or_true]))
      have t1 : ((s[0].toNat : Int) == 48) = true := by rw [h48]; rfl
      clear hsl hlead1 hlead2 h48 h0
      go_enter Tryz.func91, Tryz.ntmps91
      go_wp2_with fail
      go_ret2
      exact ⟨ret_nums (by rw [H.out.2]; rfl) (by rw [H.out.1]; rfl), rfl⟩
    · have hl0 := Lib.hid (hlead2 h1)
      have hemp : Hid (l.isEmpty = false) := Lib.hid (by rw [Bool.eq_false_iff, Ne, List.isEmpty_iff]; intro e; rw [e] at hsl; simp at hsl; omega)
      clear hlead1 hlead2 h0
      by_cases h2 : 1 < s.size
      case' pos =>
        have t1 : ((s[0].toNat : Int) == 48) = false := by
          rw [beq_eq_false_iff_ne]; intro e; exact h1 ⟨h2, UInt8.toNat_inj.1 (by show _ = 48; omega)⟩
      case' neg =>
        have t1 : decide ((s.size : Int) > 1) = false := decide_eq_false (by omega)
      all_goals
        clear h1
        go_enter Tryz.func91, Tryz.ntmps91
        go_wp2_with fail
        go_loop [4, 5, 6] (fun x y i => ∃ k : Nat, k ≤ s.size ∧ i = .int .i64 k ∧ Hid (digAll (l.take k) = true) ∧ RNum l k x y) (fun _ _ i => s.size - (intOf i).toNat)
        case atStart => exact ⟨0, by omega, rfl, Lib.hid rfl, 0, false, rfl, rfl, by omega, rfl, fun _ => rfl⟩
        case round =>
          obtain ⟨k, hk, rfl, Hd, n, b, rfl, rfl, hn, hb, hv⟩ := hrel
          by_cases hlt : k < s.size
          · have hlk : l[k]'(by omega) = s[k] := by have := HL.out; subst this; rfl
            have hcase : s[k].toNat < 48 ∨ 57 < s[k].toNat ∨ (48 ≤ s[k].toNat ∧ s[k].toNat ≤ 57) := by omega
            have hbadk : digN s[k].toNat = false → numE l = 4 ∧ numV l = 0 := fun hq => numE_bad l (by
              unfold numBad digAll
              rw [show l.all (fun c => digN c.toNat) = false by rw [HL.out]; exact all_at (fun c => digN c.toNat) s k hlt hq]; simp)
            rcases hcase with hc | hc | hc
            · have H := Lib.hid (hbadk (by unfold digN; rw [decide_eq_false (by omega), Bool.false_and]))
              clear hbadk hlk Hd hb hv
              have t2 : decide ((s[k].toNat : Int) < 48) = true := decide_eq_true (by omega)
              go_wp2_with fail
              go_ret2
              exact ⟨ret_nums (by rw [H.out.2]; rfl) (by rw [H.out.1]; rfl), rfl⟩
            · have H := Lib.hid (hbadk (by unfold digN; rw [decide_eq_false (show ¬ s[k].toNat ≤ 57 by omega), Bool.and_false]))
              clear hbadk hlk Hd hb hv
              have t2 : decide ((s[k].toNat : Int) < 48) = false := decide_eq_false (by omega)
              have t3 : decide ((s[k].toNat : Int) > 57) = true := decide_eq_true (by omega)
              go_wp2_with fail
              go_ret2
              exact ⟨ret_nums (by rw [H.out.2]; rfl) (by rw [H.out.1]; rfl), rfl⟩
            · have hst := rnum_step l k n b (by omega) hn hb hv (by rw [hlk]; exact hc)
              rw [hlk] at hst
              have Hd' : Hid (digAll (l.take (k + 1)) = true) := Lib.hid (by
                unfold digAll; rw [List.take_succ_eq_append_getElem (by omega), List.all_append, hlk]
                rw [show (l.take k).all (fun c => digN c.toNat) = true from Hd.out, List.all_cons, digN_mk _ hc.1 hc.2]; rfl)
              obtain ⟨c1, c2⟩ := hc
              have t2 : decide ((s[k].toNat : Int) < 48) = false := decide_eq_false (by omega)
              have t3 : decide ((s[k].toNat : Int) > 57) = false := decide_eq_false (by omega)
              clear hbadk hlk Hd hb hv
              by_cases hbig : 9007199254740991 < n * 10 + (s[k].toNat - 48)
              · have Hn := Lib.hid (hst.1 hbig)
                have t4 : decide ((10 * (n : Int) + (s[k].toNat : Int) - 48) > 9007199254740991) = true := decide_eq_true (by omega)
                clear hst hbig
                go_wp2_with fail
                go_round
                case rel => exact ⟨k + 1, by omega, by go_num, Hd', Hn.out⟩
                case measure => simp [intOf]; omega
              · have Hn := Lib.hid (hst.2 hbig)
                have t4 : decide ((10 * (n : Int) + (s[k].toNat : Int) - 48) > 9007199254740991) = false := decide_eq_false (by omega)
                have Hz : Hid ((10 * (n : Int) + (s[k].toNat : Int) - 48) = ((n * 10 + (s[k].toNat - 48) : Nat) : Int)) := Lib.hid (by omega)
                clear hst hbig
                go_wp2_with fail
                go_round
                case rel => exact ⟨k + 1, by omega, by go_num, Hd', by rw [Hz.out]; exact Hn.out⟩
                case measure => simp [intOf]; omega
          · have hall : l.take k = l := List.take_of_length_le (by omega)
            have hgood : numBad l = false := by
              have := Hd.out
              rw [hall] at this
              unfold numBad; rw [hemp.out, this, hl0.out]; rfl
            rw [hall] at hb hv
            cases b with
            | true =>
              have H := Lib.hid (numE_over l hgood (of_decide_eq_true hb.symm))
              clear hb hv hgood hall Hd
              go_wp2_with fail
              go_ret2
              exact ⟨ret_nums (by rw [H.out.2]; rfl) (by rw [H.out.1]; rfl), rfl⟩
            | false =>
              have H := Lib.hid (numE_ok l hgood (of_decide_eq_false hb.symm))
              have Hv := Lib.hid (hv rfl)
              clear hb hv hgood hall Hd
              go_wp2_with fail
              go_ret2
              exact ⟨ret_nums (by rw [H.out.2, ← Hv.out]) (by rw [H.out.1]; rfl), rfl⟩
end Go.Proofs.YtgaojfebmcmpaaaGreatDoor
