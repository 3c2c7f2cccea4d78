/- What Over and Print of the reference of reply return. What Parse of the reference of reply returns. What the laws' Own and Back make of replies. The small example of the laws of layer 26. What wrong and Told of package ranges, and Told of its reference, return. Plain words: what an origin answers (no program in sight). What Check and sort of package origin, and the replies of both sorts, return. What Answer and Code of package origin return. -/
import Derived.Test.YtfcomhdgpdbnhaaGreatDoorPo9
import Derived.Deep.RegionHeld3
set_option linter.unusedVariables false
namespace Go.Proofs.YtfcomhdgpdbnhaaGreatDoor
open Go.RowKit
theorem below_r3 (w : World) (x y z : Value) : Below w.heap.size w (w.alloc (.cells #[x, y, z] 62)) := (Below.refl _ _).alloc (Nat.le_refl _) _
def overR (fs : List (List UInt8 × List UInt8)) (b : ByteArray) : Bool := overF fs 20 || decide (500 < b.size)
theorem repLines_take (c : Int) (fs : List (List UInt8 × List UInt8)) (n k : Nat) (hk : k < fs.length) : (repLines c fs n).take (k + 1 + 2) = (repLines c fs n).take (k + 2) ++ [printL fs[k].1 fs[k].2] := by
  have h : (repLines c fs n)[k + 2]? = some (printL fs[k].1 fs[k].2) := by unfold repLines; simp [hk]
  rw [show k + 1 + 2 = (k + 2) + 1 by omega, List.take_add_one, h]
  rfl
theorem repLines_two (c : Int) (fs : List (List UInt8 × List UInt8)) (n : Nat) : bs (body ((repLines c fs n).take 2)) = printOf c ++ ⟨#[13, 10, 67, 111, 110, 116, 101, 110, 116, 45, 76, 101, 110, 103, 116, 104, 58, 32]⟩ ++ bs (digL n) ++ ⟨#[13, 10]⟩ := by
  have e1 : (⟨#[13, 10, 67, 111, 110, 116, 101, 110, 116, 45, 76, 101, 110, 103, 116, 104, 58, 32]⟩ : ByteArray) = bs [13, 10, 67, 111, 110, 116, 101, 110, 116, 45, 76, 101, 110, 103, 116, 104, 58, 32] := rfl
  have e2 : (⟨#[13, 10]⟩ : ByteArray) = bs [13, 10] := rfl
  have hp : printL clen (digL n) = [67, 111, 110, 116, 101, 110, 116, 45, 76, 101, 110, 103, 116, 104, 58, 32] ++ digL n := by
    unfold printL tailV
    rw [digL_nat, if_neg (by have := decDigits_ne n; cases h : Go.Lib.decDigits n <;> simp_all), show titL true clen = [67, 111, 110, 116, 101, 110, 116, 45, 76, 101, 110, 103, 116, 104] by decide]
    rfl
  rw [e1, e2]
  conv => rhs; lhs; lhs; lhs; rw [← bs_self (printOf c)]
  rw [bs_cat, bs_cat, bs_cat]
  congr 1
  unfold repLines
  simp [body, hp]
set_option maxRecDepth 100000 in
set_option maxHeartbeats 4000000 in
theorem ref_rprint (c : Int) (fv : Value) (fs : List (List UInt8 × List UInt8)) (b : ByteArray) (w : World) (hc0 : -9223372036854775808 ≤ c) (hc1 : c ≤ 9223372036854775807)
    (hv : HoldsF w fv fs) (hl : fs.length ≤ 1000000) (hf : ∀ f ∈ fs, f.1.length ≤ 1000000 ∧ f.2.length ≤ 1000000) (hb : b.size ≤ 1000000) :
    Calls Tryz.prog 23 #[.agg #[.int .i64 c, fv, .string b]] w (RPost c fs b.data.toList w) := by
  have HS := Lib.hid (fun w => ref_print c w hc0 hc1)
  have B1 := below_r3 w (.int .i64 c) fv (.string b)
  have T1 := Three.new w (.int .i64 c) fv (.string b) 62
  have hv1 := hv.below B1
  have HB1 := Lib.hid B1
  obtain ⟨av, cv, rfl, hcv, hx⟩ := hv1
  have HX := Lib.hid hx
  clear hv B1 hx
  obtain ⟨l1, t0, t1, t2⟩ := T1
  by_cases he : printErr c = 0
  case neg =>
    have HR : Hid (repE c fs = printErr c ∧ repS c fs b.data.toList = []) := Lib.hid (by
      have : repE c fs = printErr c := if_pos he
      exact ⟨this, by unfold repS; rw [if_neg (by rw [this]; exact he)]⟩)
    have tz : ((printErr c : Int) != 0) = true := by rw [bne_iff_ne]; omega
    clear he hf
    go_enter Tryz.func23, Tryz.ntmps23
    go_wp2_with fail
    refine (HS.out _).mono ?_
    rintro e w1 ⟨rfl, hb1⟩
    have HB2 := Lib.hid (bstep HB1.out hb1)
    clear hb1 t0 t1 t2
    go_wp2_with fail
    go_ret2
    exact ⟨by rw [HR.out.1, HR.out.2]; rfl, HB2.out⟩
  have hcl : ¬ (c < 100 ∨ 599 < c) := fun e => by unfold printErr at he; rw [if_pos ((class_iff c).2 e)] at he; exact absurd he (by decide)
  have hps : (printOf c).size ≤ 40 := by
    obtain ⟨n, rfl⟩ : ∃ n : Nat, c = n := ⟨c.toNat, by omega⟩
    rw [printOf_line _ (by omega) (by omega), statusLine_len n (by omega) (by omega)]
    have := reason_size (n : Int)
    omega
  rw [he] at HS
  have hlI : (fs.length : Int) ≤ 1000000 := by omega
  by_cases hm : 15 < fs.length
  · have HR : Hid (repE c fs = 21 ∧ repS c fs b.data.toList = []) := Lib.hid (by
      have : repE c fs = 21 := by unfold repE; rw [if_neg (by rw [he]; simp), if_pos hm]
      exact ⟨this, by unfold repS; rw [if_neg (by rw [this]; simp)]⟩)
    have tm : decide ((fs.length : Int) > 15) = true := decide_eq_true (by omega)
    clear he hf hcl hps
    go_enter Tryz.func23, Tryz.ntmps23
    go_wp2_with fail
    refine (HS.out _).mono ?_
    rintro e w1 ⟨rfl, hb1⟩
    have HB2 := Lib.hid (bstep HB1.out hb1)
    obtain ⟨l2, u0, u1, u2⟩ := Three.below ⟨l1, t0, t1, t2⟩ hb1
    clear hb1 t0 t1 t2
    go_wp2_with fail
    go_ret2
    exact ⟨by rw [HR.out.1, HR.out.2]; rfl, HB2.out⟩
  have tm : decide ((fs.length : Int) > 15) = false := decide_eq_false (by omega)
  have HR : Hid (repE c fs = ownE fs) := Lib.hid (by unfold repE; rw [if_neg (by rw [he]; simp), if_neg hm])
  have hl15 : fs.length ≤ 15 := by omega
  have HD := Lib.hid (fun w => ref_digitsZ (b.size : Int) w (by omega))
  have hdl := digL_len (b.size : Int) (by omega)
  have HT := Lib.hid (repLines_two c fs b.size)
  have HTS := Lib.hid (fun k hk => repLines_take c fs b.size k hk)
  have HLL : Hid ((repLines c fs b.size).length = fs.length + 2) := Lib.hid (by unfold repLines; simp)
  obtain ⟨L, hL⟩ : ∃ L, repLines c fs b.size = L := ⟨_, rfl⟩
  have HL := Lib.hid hL
  rw [hL] at HT HTS HLL
  obtain ⟨D, hD⟩ : ∃ D, bs (digL (b.size : Int)) = D := ⟨_, rfl⟩
  rw [hD] at HD HT
  have hDs : D.size ≤ 20 := by rw [← hD, bs_size]; exact hdl
  obtain ⟨P0, hP0⟩ : ∃ P, printOf c = P := ⟨_, rfl⟩
  rw [hP0] at HS HT hps
  have zz : ∀ X Y : ByteArray, (X ++ Y).size = X.size + Y.size := fun X Y => ByteArray.size_append
  have q1 := fun w => run_string_add_sum (P := Tryz.prog) w P0 ⟨#[13, 10, 67, 111, 110, 116, 101, 110, 116, 45, 76, 101, 110, 103, 116, 104, 58, 32]⟩ (by show _ + 18 ≤ _; omega)
  have q2 := fun w => run_string_add_sum (P := Tryz.prog) w (P0 ++ ⟨#[13, 10, 67, 111, 110, 116, 101, 110, 116, 45, 76, 101, 110, 103, 116, 104, 58, 32]⟩) D (by rw [zz]; show _ + 18 + _ ≤ _; omega)
  have q3 := fun w => run_string_add_sum (P := Tryz.prog) w (P0 ++ ⟨#[13, 10, 67, 111, 110, 116, 101, 110, 116, 45, 76, 101, 110, 103, 116, 104, 58, 32]⟩ ++ D) ⟨#[13, 10]⟩ (by rw [zz, zz]; show _ + 18 + _ + 2 ≤ _; omega)
  have hs0 : (P0 ++ ⟨#[13, 10, 67, 111, 110, 116, 101, 110, 116, 45, 76, 101, 110, 103, 116, 104, 58, 32]⟩ ++ D ++ ⟨#[13, 10]⟩ : ByteArray).size ≤ 200 := by rw [zz, zz, zz]; show _ + 18 + _ + 2 ≤ _; omega
  have HS0 := Lib.hid hs0
  clear he hm hD hP0 hL hcl hdl hs0 zz
  go_enter Tryz.func23, Tryz.ntmps23
  go_wp2_with fail
  refine (HS.out _).mono ?_
  rintro e w1 ⟨rfl, hb1⟩
  have HB2 := Lib.hid (bstep HB1.out hb1)
  obtain ⟨l2, u0, u1, u2⟩ := Three.below ⟨l1, t0, t1, t2⟩ hb1
  have HX1 : Hid (fs ≠ [] → ∃ b o, av = some ⟨b, o, none⟩ ∧ b < w1.heap.size ∧ ∀ j (hj : j < fs.length), w1.cell? ⟨b, o + j * 2, none⟩ = some (.string (bs fs[j].1)) ∧ w1.cell? ⟨b, o + j * 2 + 1, none⟩ = some (.string (bs fs[j].2))) := Lib.hid (fun h => by
    obtain ⟨bb, o, h1, h2, h3⟩ := HX.out h
    exact ⟨bb, o, h1, Nat.lt_of_lt_of_le h2 hb1.size, fun j hj => ⟨(hb1.cell (p := ⟨bb, o + j * 2, none⟩) h2).trans (h3 j hj).1, (hb1.cell (p := ⟨bb, o + j * 2 + 1, none⟩) h2).trans (h3 j hj).2⟩⟩)
  have HU := Lib.hid (And.intro l2 (And.intro u1 u2))
  clear hb1 t0 t1 t2 l1 HB1 HX
  go_wp2_with fail
  refine (HD.out _).mono ?_
  rintro e w' ⟨rfl, hww⟩
  obtain rfl := hww.symm
  go_wp2_with fail
  clear q1 q2 q3 u0 u1 u2
  have HT0 : Hid ((P0 ++ ⟨#[13, 10, 67, 111, 110, 116, 101, 110, 116, 45, 76, 101, 110, 103, 116, 104, 58, 32]⟩ ++ D ++ ⟨#[13, 10]⟩) = bs (body (L.take (0 + 2)))) := Lib.hid HT.out.symm
  generalize (P0 ++ ⟨#[13, 10, 67, 111, 110, 116, 101, 110, 116, 45, 76, 101, 110, 103, 116, 104, 58, 32]⟩ ++ D ++ ⟨#[13, 10]⟩ : ByteArray) = O0 at HS0 HT0 ⊢
  go_loopg [4, 6] fs.length (fun gk s4 s6 wr => ∃ (k : Nat) (O : ByteArray), s4 = .string O ∧ s6 = .int .i64 (k : Int) ∧ k + gk = fs.length ∧ O.size ≤ 200 + k * 260 ∧ Hid (Below w1.heap.size w1 wr) ∧ Hid (O = bs (body (L.take (k + 2)))) ∧ Hid (∀ j (hj : j < fs.length), j < k → fs[j].1 ≠ clen ∧ fieldE fs[j].1 fs[j].2 = 0))
  case atStart => exact ⟨0, _, rfl, by simp, by omega, by have := HS0.out; omega, Lib.hid (Below.refl _ _), HT0, Lib.hid (fun j hj h => absurd h (Nat.not_lt_zero _))⟩
  case round =>
    obtain ⟨k, O, rfl, rfl, hgk, hOs, HBr, HO, HK⟩ := hrel
    have r1 := (HBr.out.cell (p := ⟨w.heap.size, 1, none⟩) HU.out.1).trans HU.out.2.1
    have r2 := (HBr.out.cell (p := ⟨w.heap.size, 2, none⟩) HU.out.1).trans HU.out.2.2
    by_cases hk : k < fs.length
    · obtain ⟨g', rfl⟩ : ∃ g', gk = g' + 1 := ⟨gk - 1, by omega⟩
      have hkI : decide ((k : Int) < (fs.length : Int)) = true := decide_eq_true (by omega)
      obtain ⟨bb, o, rfl, hbl, hcell⟩ := HX1.out (fun e => by rw [e] at hk; exact absurd hk (Nat.not_lt_zero _))
      have c0 := (HBr.out.cell (p := ⟨bb, o + k * 2, none⟩) hbl).trans (hcell k hk).1
      have c1 := (HBr.out.cell (p := ⟨bb, o + k * 2 + 1, none⟩) hbl).trans (hcell k hk).2
      obtain ⟨o1, o2⟩ := ownE_bad fs k hk (fun i hi hik => HK.out i hi hik)
      obtain ⟨y, hy⟩ : ∃ y, fs[k] = y := ⟨_, rfl⟩
      have hyl := hf _ (List.getElem_mem hk)
      have HTk := Lib.hid (HTS.out k hk)
      rw [hy] at c0 c1 o1 o2 hyl HTk
      have HP := Lib.hid (fun w => ref_fprint (bs y.1) (bs y.2) w (by rw [bs_size]; exact hyl.1) (by rw [bs_size]; exact hyl.2))
      rw [bs_data, bs_data] at HP
      have HOE := Lib.hid (And.intro o1 o2)
      have HY := Lib.hid hy
      have hcmp := bs_lit y.1 [99, 111, 110, 116, 101, 110, 116, 45, 108, 101, 110, 103, 116, 104]
      clear hcell o1 o2 hy hyl
      by_cases hnm : y.1 = clen
      · have HF : Hid (repE c fs = 22 ∧ repS c fs b.data.toList = []) := Lib.hid (by
          have : repE c fs = 22 := by rw [HR.out]; exact HOE.out.1 hnm
          exact ⟨this, by unfold repS; rw [if_neg (by rw [this]; simp)]⟩)
        rw [decide_eq_true (show y.1 = [99, 111, 110, 116, 101, 110, 116, 45, 108, 101, 110, 103, 116, 104] from hnm)] at hcmp
        clear hnm HK HY
        go_wp2_with fail
        go_ret2
        exact ⟨by rw [HF.out.1, HF.out.2]; rfl, bstep HB2.out HBr.out⟩
      · have HNM := Lib.hid hnm
        rw [decide_eq_false (show ¬ y.1 = [99, 111, 110, 116, 101, 110, 116, 45, 108, 101, 110, 103, 116, 104] from hnm)] at hcmp
        by_cases hz : fieldE y.1 y.2 = 0
        · have HK2 : Hid (∀ j (hj : j < fs.length), j < k + 1 → fs[j].1 ≠ clen ∧ fieldE fs[j].1 fs[j].2 = 0) := Lib.hid (fun j hj h => by
            by_cases e : j = k
            · subst e; rw [HY.out]; exact ⟨HNM.out, hz⟩
            · exact HK.out j hj (by omega))
          have hfs : fieldS y.1 y.2 = printL y.1 y.2 := if_pos hz
          have hpl : (printL y.1 y.2).length ≤ 256 := (fieldE_zero _ _ hz).2
          rw [hz, hfs] at HP
          obtain ⟨X, hX⟩ : ∃ X, bs (printL y.1 y.2) = X := ⟨_, rfl⟩
          have hXs : X.size ≤ 256 := by rw [← hX, bs_size]; exact hpl
          rw [hX] at HP
          have HOO : Hid (O ++ X ++ ⟨#[13, 10]⟩ = bs (body (L.take (k + 1 + 2)))) := Lib.hid (by
            rw [HO.out, ← hX, show (⟨#[13, 10]⟩ : ByteArray) = bs [13, 10] from rfl, bs_cat, bs_cat, HTk.out, body_append]
            simp [body])
          have hOk : O.size ≤ 200 + 15 * 260 := by omega
          have p1 := fun w => run_string_add_sum (P := Tryz.prog) w O X (by omega)
          have p2 := fun w => run_string_add_sum (P := Tryz.prog) w (O ++ X) ⟨#[13, 10]⟩ (by rw [ByteArray.size_append]; show _ + _ + 2 ≤ _; omega)
          clear hz hfs hpl hX hnm HK HY
          go_wp2_with fail
          refine (HP.out _).mono ?_
          rintro e w3 ⟨rfl, hb3⟩
          have HB3 := Lib.hid (bstep HBr.out hb3)
          clear hb3 c0 c1 r1 r2
          go_wp2_with fail
          go_roundg g'
          case measure => omega
          case rel => exact ⟨k + 1, _, rfl, by simp, by omega, by rw [ByteArray.size_append, ByteArray.size_append]; show _ + _ + 2 ≤ _; omega, HB3, HOO, HK2⟩
        · have HF : Hid (repE c fs = fieldE y.1 y.2 ∧ repS c fs b.data.toList = []) := Lib.hid (by
            have : repE c fs = fieldE y.1 y.2 := by rw [HR.out]; exact HOE.out.2 HNM.out hz
            exact ⟨this, by unfold repS; rw [if_neg (by rw [this]; exact hz)]⟩)
          have tz : ((fieldE y.1 y.2 : Int) != 0) = true := by rw [bne_iff_ne]; omega
          clear hz hnm HK HY
          go_wp2_with fail
          refine (HP.out _).mono ?_
          rintro e w3 ⟨rfl, hb3⟩
          have HB3 := Lib.hid (bstep HB2.out (bstep HBr.out hb3))
          clear hb3 c0 c1 r1 r2
          go_wp2_with fail
          go_ret2
          exact ⟨by rw [HF.out.1, HF.out.2]; rfl, HB3.out⟩
    · obtain rfl : k = fs.length := by omega
      have hkI : decide ((fs.length : Int) < (fs.length : Int)) = false := decide_eq_false (by omega)
      have hrz : repE c fs = 0 := by rw [HR.out]; exact ownE_good fs (fun i hi => HK.out i hi hi)
      have HF : Hid (repE c fs = 0 ∧ repS c fs b.data.toList = body L ++ 13 :: 10 :: b.data.toList) := Lib.hid ⟨hrz, by unfold repS; rw [if_pos hrz]; unfold repL; rw [size_len, HL.out]⟩
      have HOO : Hid (O ++ ⟨#[13, 10]⟩ ++ b = bs (repS c fs b.data.toList)) := Lib.hid (by
        rw [HF.out.2, HO.out, List.take_of_length_le (by rw [HLL.out]; omega), show (⟨#[13, 10]⟩ : ByteArray) = bs [13, 10] from rfl]
        conv => lhs; rhs; rw [← bs_self b]
        rw [bs_cat, bs_cat]
        congr 1
        simp)
      have hOk : O.size ≤ 200 + 15 * 260 := by omega
      have p1 := fun w => run_string_add_sum (P := Tryz.prog) w O ⟨#[13, 10]⟩ (by show _ + 2 ≤ _; omega)
      have p2 := fun w => run_string_add_sum (P := Tryz.prog) w (O ++ ⟨#[13, 10]⟩) b (by rw [ByteArray.size_append]; show _ + 2 + _ ≤ _; omega)
      clear hrz HK
      go_wp2_with fail
      go_ret2
      exact ⟨by rw [HF.out.1, ← HOO.out]; rfl, bstep HB2.out HBr.out⟩
end Go.Proofs.YtfcomhdgpdbnhaaGreatDoor
namespace Go.Proofs.YtfcomhdgpdbnhaaGreatDoor
open Go.RowKit
theorem load_rrep (w : World) (b : Nat) (t : TypeId) (x y z : Value) (h : w.heap[b]? = some (.cells #[x, y, z] t (0, 0))) : (loadVar 62 ⟨b, 0, none⟩).run Tryz.prog w = .ok (.agg #[x, y, z]) w :=
  run_loadVar_row w b t 62 #[x, y, z] (0, 0) _ h Tryz.underlying62 rfl (by kernel_rfl)
/-- the block of a reply of the document's -/
def RqB (w : World) (R : Nat) (c f b : Value) : Prop := w.heap[R]? = some (.cells #[c, f, b] 62 (0, 0))
theorem RqB.below {w w' : World} {R : Nat} {c f b : Value} (k : RqB w R c f b) (hb : Below w.heap.size w w') : RqB w' R c f b :=
  (hb.block R (Array.getElem?_eq_some_iff.1 k).1).trans k
theorem RqB.lt {w : World} {R : Nat} {c f b : Value} (k : RqB w R c f b) : R < w.heap.size := (Array.getElem?_eq_some_iff.1 k).1
theorem RqB.set1 {w : World} {R : Nat} {c f b : Value} (k : RqB w R c f b) (v : Value) : RqB (w.setCell ⟨R, 1, none⟩ v) R c v b := by
  unfold RqB at k ⊢; simp [World.setCell, Array.getElem?_modify, k]
theorem step_appG {ops : Array Oper} {o : Oper} {a : Act} {K : Act → World → Prop} {Q : Exit → Act → World → Prop} {E : Prop} (W : World) (hgd : o.guard = none) (s x : Operand)
    (ho : o.op = .call { callee := .builtin .append, args := #[s, x], argTypes := #[60, 60] })
    (base : Nat) (v : Value) (fs : List (List UInt8 × List UInt8)) (hs : a.eval s = v) (hown : W.ownsRow base 104 2 v fs.length (fcells fs))
    (B : Nat) (f : List UInt8 × List UInt8) (hB : W.heap[B]? = some (.cells #[.string (bs f.1), .string (bs f.2)] 104 (0, 0))) (hx : a.eval x = .slice (some ⟨B, 0, none⟩) 1 1) (hn : fs.length < 2147483648) (hbase : base ≤ W.heap.size)
    (h : ∀ g cap w', w'.ownsRow base 104 2 (.slice (some ⟨g, 0, none⟩) (fs.length + 1) cap) (fs ++ [f]).length (fcells (fs ++ [f])) → W.grownBy w' v.ownBlock → K (a.put o.dst (.slice (some ⟨g, 0, none⟩) (fs.length + 1) cap)) w') :
    if Region.wanted o (yielded ops a.tmps) = true then Oper.wp Tryz.prog o a W K Q else E := by
  obtain ⟨i0, hi, hz0, hz1, hz2⟩ := info_parts info_rfield
  refine step_append_lies W hgd s x 60 ho base 104 i0 _ 2 32 Tryz.underlying60 hi hz0 hz1 hz2 rfl (by decide) v fs.length (fcells fs) hs hown ⟨B, 0, none⟩ 1 1 [.string (bs f.1), .string (bs f.2)] hx rfl (World.news_of_block hB) (by simp [Value.oneCell']) (by decide) (by unfold maxLen; omega) (by omega) hbase _ rfl ?_
  intro g cap w' h1 h2 _ _
  refine h g cap w' ?_ h2
  rw [List.length_append, fcells_append]; exact h1
def AfterAppQ (R : Nat) (W w' : World) (c v b : Value) : Prop := RqB w' R c v b ∧ W.grownBy w' (some R)
theorem step_appQ {ops : Array Oper} {o : Oper} {a : Act} {K : Act → World → Prop} {Q : Exit → Act → World → Prop} {E : Prop} {R base : Nat} (w0 : World) (hw0 : w0.heap.size = base) (hR0 : R < base) {c v b : Value} {W2 : World} {fs : List (List UInt8 × List UInt8)} (W : World) (hgd : o.guard = none) (s z : Operand)
    (ho : o.op = .call { callee := .builtin .append, args := #[s, z], argTypes := #[60, 60] })
    (hR2 : RqB W2 R c v b) (hown : W2.ownsRow base 104 2 v fs.length (fcells fs)) (hg0 : w0.grownBy W2 (some R)) (hs : a.eval s = v) (hn : fs.length < 2147483648) (hbW : Below W2.heap.size W2 W)
    (B : Nat) (f : List UInt8 × List UInt8) (hB : W.heap[B]? = some (.cells #[.string (bs f.1), .string (bs f.2)] 104 (0, 0))) (hx : a.eval z = .slice (some ⟨B, 0, none⟩) 1 1)
    (hK : ∀ g cap w', w'.ownsRow base 104 2 (.slice (some ⟨g, 0, none⟩) (fs.length + 1) cap) (fs ++ [f]).length (fcells (fs ++ [f])) → w'.cell? ⟨R, 1, none⟩ = some v → w'.frozen? ⟨R, 1, none⟩ = false → AfterAppQ R w0 w' c v b → K (a.put o.dst (.slice (some ⟨g, 0, none⟩) (fs.length + 1) cap)) w') :
    if Region.wanted o (yielded ops a.tmps) = true then Oper.wp Tryz.prog o a W K Q else E := by
  have hoW := own_keep hown hbW
  have hlt := hR2.lt
  have hsz := hbW.size
  have hs0 := hg0.size
  refine step_appG W hgd s z ho base v fs hs hoW B f hB hx hn (by omega) (fun g cap w' h1 h2 => ?_)
  have hR3 : RqB w' R c v b := (grow_block h2 hoW hR0 (by omega)).trans (hR2.below hbW)
  have hg1 := hg0.below hbW
  have hb3 : w0.grownBy w' (some R) := ⟨h2.os.trans hg1.os, h2.tape.trans hg1.tape, h2.output.trans hg1.output, Nat.le_trans hg1.size h2.size, fun k hk hne =>
    (h2.block k (Nat.lt_of_lt_of_le hk hg1.size) (fun h => by have := (hoW.lt k h.symm).1; omega)).trans (hg1.block k hk hne)⟩
  obtain ⟨-, k1, -, -, f1, -⟩ := three_facts hR3
  exact hK g cap w' h1 k1 f1 ⟨hR3, hb3⟩
def RefPost (s : ByteArray) (most : Int) (w : World) (e : Ending) (w' : World) : Prop :=
  ∃ fv, e = .returned (RepV s most fv) ∧ (∃ B, w'.ownsRow B 104 2 fv (takF s most).length (fcells (takF s most))) ∧ Below w.heap.size w w'
theorem rparse_bad (s : ByteArray) (most : Int) (e : Nat) (h : takE s most = e) (h0 : e ≠ 0) (w w' : World) (hb : Below w.heap.size w w') :
    RefPost s most w (.returned (.tuple #[.agg #[.int .i64 0, .slice none 0 0, .string ⟨#[]⟩], .int .i64 0, .int .i64 (e : Nat)])) w' := by
  obtain ⟨h1, h2, h3, h4⟩ := tak_bad s most (by rw [h]; exact h0)
  refine ⟨.slice none 0 0, ?_, ?_, hb⟩
  · unfold RepV; rw [h1, h3, h4, h]; rfl
  · rw [h2]; exact ⟨0, World.ownsRow_nil _ _ _ _⟩
theorem rparse_good (s : ByteArray) (most : Int) (h : takE s most = 0) (w w' : World) (fv : Value) (hown : ∃ B, w'.ownsRow B 104 2 fv (takF s most).length (fcells (takF s most))) (hb : Below w.heap.size w w') (C n : Int) (B : ByteArray) (h1 : takC s most = C) (h2 : takN s most = n) (h3 : bs (takB s most) = B) :
    RefPost s most w (.returned (.tuple #[.agg #[.int .i64 C, fv, .string B], .int .i64 n, .int .i64 0])) w' := by
  refine ⟨fv, ?_, hown, hb⟩
  unfold RepV; rw [h1, h2, h3, h]; rfl
theorem res3 {w w1 : World} (hb : Below (w.alloc (.cells #[.int .i64 0, .slice none 0 0, .string ⟨#[]⟩] 62)).heap.size (w.alloc (.cells #[.int .i64 0, .slice none 0 0, .string ⟨#[]⟩] 62)) w1) :
    w1.heap[w.heap.size]? = some (.cells #[.int .i64 0, .slice none 0 0, .string ⟨#[]⟩] 62 (0, 0)) := (hb.block w.heap.size (by simp)).trans (heap_alloc_new w _)
theorem restF_take (fs : List (List UInt8 × List UInt8)) (k : Nat) (hk : k < fs.length) : restF (fs.take (k + 1)) = restF (fs.take k) ++ (if fs[k].1 = clen then [] else [fs[k]]) := by
  unfold restF
  rw [List.take_succ_eq_append_getElem hk, List.filter_append]
  congr 1
  by_cases h : fs[k].1 = clen
  · rw [if_pos h, List.filter_cons_of_neg (by simp [h])]; rfl
  · rw [if_neg h, List.filter_cons_of_pos (by simp [h])]; rfl
theorem restF_len (fs : List (List UInt8 × List UInt8)) : (restF fs).length ≤ fs.length := List.length_filter_le _ _
theorem hdE_split (x : List UInt8) (xs : List (List UInt8)) : hdE (x :: xs) = if (statusOf x).2 ≠ 0 then (statusOf x).2 else if fldE xs ≠ 0 then fldE xs else if getE (fldL xs) clen ≠ 0 then getE (fldL xs) clen else numE (getS (fldL xs) clen) := by
  unfold hdE
  rw [if_neg (by simp)]; rfl
end Go.Proofs.YtfcomhdgpdbnhaaGreatDoor
namespace Go.Proofs.YtfcomhdgpdbnhaaGreatDoor
open Go.RowKit
def OwnR (c : Int) (fs : List (List UInt8 × List UInt8)) (x : ByteArray) (t : TypeId) (w : World) (e : Ending) (w' : World) : Prop :=
  ∃ a cp, e = .returned (.agg #[.int .i64 c, .slice a fs.length cp, .string x]) ∧ w'.ownsRow w.heap.size t 2 (.slice a fs.length cp) fs.length (fcells fs) ∧ Below w.heap.size w w'
end Go.Proofs.YtfcomhdgpdbnhaaGreatDoor
namespace Go.Proofs.YtfcomhdgpdbnhaaGreatDoor
open Go.RowKit
/-- a reply of the program's that lies in a block -/
structure PAt (w : World) (b : Nat) (c : Int) (a : Option Addr) (n cp : Nat) (fs : List (List UInt8 × List UInt8)) (x : ByteArray) : Prop where
  blk : w.heap[b]? = some (.cells #[.int .i64 c, .slice a n cp, .string x] 37 (0, 0))
  own : ∃ B, w.ownsRow B 78 2 (.slice a n cp) n (fcells fs)
theorem PAt.lt {w : World} {b : Nat} {c : Int} {a : Option Addr} {n cp : Nat} {fs : List (List UInt8 × List UInt8)} {x : ByteArray} (h : PAt w b c a n cp fs x) : b < w.heap.size := (Array.getElem?_eq_some_iff.1 h.blk).1
theorem PAt.below {w w' : World} {b : Nat} {c : Int} {a : Option Addr} {n cp : Nat} {fs : List (List UInt8 × List UInt8)} {x : ByteArray} (h : PAt w b c a n cp fs x) (hb : Below w.heap.size w w') : PAt w' b c a n cp fs x :=
  ⟨(hb.block b h.lt).trans h.blk, let ⟨B, hB⟩ := h.own; ⟨B, own_keep hB hb⟩⟩
theorem PAt.alloc {w : World} {b : Nat} {c : Int} {a : Option Addr} {n cp : Nat} {fs : List (List UInt8 × List UInt8)} {x : ByteArray} (h : PAt w b c a n cp fs x) (o : Obj) : PAt (w.alloc o) b c a n cp fs x := h.below ((Below.refl _ _).alloc (Nat.le_refl _) o)
theorem PAt.holds {w : World} {b : Nat} {c : Int} {a : Option Addr} {n cp : Nat} {fs : List (List UInt8 × List UInt8)} {x : ByteArray} (h : PAt w b c a n cp fs x) : HoldsF w (.slice a n cp) fs := let ⟨_, hB⟩ := h.own; HoldsF.of_own hB
theorem PAt.new {w : World} {B : Nat} {c : Int} {a : Option Addr} {n cp : Nat} {fs : List (List UInt8 × List UInt8)} {x : ByteArray} (h : w.ownsRow B 78 2 (.slice a n cp) n (fcells fs)) :
    PAt (w.alloc (.cells #[.int .i64 c, .slice a n cp, .string x] 37)) w.heap.size c a n cp fs x :=
  ⟨heap_alloc_new w _, B, own_keep h ((Below.refl _ _).alloc (Nat.le_refl _) _)⟩
def ParseAt (C n : Int) (F : List (List UInt8 × List UInt8)) (B : ByteArray) (E : Nat) (w : World) (e : Ending) (w' : World) : Prop :=
  ∃ a cp, e = .returned (.tuple #[.agg #[.int .i64 C, .slice a F.length cp, .string B], .int .i64 n, .int .i64 (E : Nat)]) ∧ w'.ownsRow w.heap.size 78 2 (.slice a F.length cp) F.length (fcells F) ∧ Below w.heap.size w w'
theorem parse_is (s : ByteArray) (most : Int) (C n : Int) (F : List (List UInt8 × List UInt8)) (B : ByteArray) (E : Nat) (h : takE s most = E ∧ takC s most = C ∧ takF s most = F ∧ bs (takB s most) = B ∧ takN s most = n) (w : World) (hs : s.size ≤ 1000000) (hE : EnvF w) :
    Calls Tryz.prog 14 #[.string s, .int .i64 most] w (ParseAt C n F B E w) := by
  obtain ⟨rfl, rfl, rfl, rfl, rfl⟩ := h
  refine (reply_parse s most w hs hE).mono ?_
  rintro e w' ⟨fv, rfl, h1, h2⟩
  obtain ⟨a, cp, rfl⟩ := own_fslice h1
  exact ⟨a, cp, rfl, h1, h2⟩
theorem parse_err (s : ByteArray) (most : Int) (E : Nat) (h : takE s most = E) (h0 : E ≠ 0) (w : World) (hs : s.size ≤ 1000000) (hE : EnvF w) :
    Calls Tryz.prog 14 #[.string s, .int .i64 most] w (ParseAt 0 0 [] ⟨#[]⟩ E w) := by
  obtain ⟨h1, h2, h3, h4⟩ := tak_bad s most (by rw [h]; exact h0)
  exact parse_is s most 0 0 [] ⟨#[]⟩ E ⟨h, h1, h2, by rw [h3]; rfl, h4⟩ w hs hE
def PrintAt (S : ByteArray) (E : Nat) (w : World) (e : Ending) (w' : World) : Prop := e = .returned (.tuple #[.string S, .int .i64 (E : Nat)]) ∧ Below w.heap.size w w'
theorem print_is (c : Int) (fv : Value) (fs : List (List UInt8 × List UInt8)) (b : ByteArray) (S : ByteArray) (E : Nat) (h : bs (repS c fs b.data.toList) = S ∧ repE c fs = E) (B : Nat) (w : World) (hE : EnvF w) (hc0 : -9223372036854775808 ≤ c) (hc1 : c ≤ 9223372036854775807)
    (hown : w.ownsRow B 78 2 fv fs.length (fcells fs)) (hl : fs.length ≤ 1000000) (hf : ∀ f ∈ fs, f.1.length ≤ 1000000 ∧ f.2.length ≤ 1000000) (hb : b.size ≤ 1000000) :
    Calls Tryz.prog 21 #[.agg #[.int .i64 c, fv, .string b]] w (PrintAt S E w) := by
  obtain ⟨rfl, rfl⟩ := h
  exact reply_print c fv fs b B w hE hc0 hc1 hown hl hf hb
def aw26 : List UInt8 := [72, 84, 84, 80, 47, 49, 46, 49, 32, 52, 48, 52, 32, 78, 111, 116, 32, 70, 111, 117, 110, 100, 13, 10, 67, 111, 110, 116, 101, 110, 116, 45, 76, 101, 110, 103, 116, 104, 58, 32, 49, 13, 10, 13, 10, 120]
theorem aw_e : repE 404 [] = 0 := by decide +kernel
theorem aw_st : (printOf 404).data.toList = [72, 84, 84, 80, 47, 49, 46, 49, 32, 52, 48, 52, 32, 78, 111, 116, 32, 70, 111, 117, 110, 100] := by
  rw [printOf_line 404 (by decide) (by decide)]
  exact (statusLine_data 404 (by decide) (by decide)).trans (by decide +kernel)
theorem aw_ln : printL clen (digL 1) = [67, 111, 110, 116, 101, 110, 116, 45, 76, 101, 110, 103, 116, 104, 58, 32, 49] := by
  rw [show (1 : Int) = ((1 : Nat) : Int) from rfl, digL_nat, Go.Lib.decDigits_one (by decide)]
  decide +kernel
theorem aw_s : repL 404 [] [120] = aw26 := by
  unfold repL repLines
  rw [aw_st, show (([120] : List UInt8).length : Int) = 1 from rfl, aw_ln]
  decide +kernel
theorem aw_p : bs (repS 404 [] (ByteArray.mk #[120]).data.toList) = bs aw26 ∧ repE 404 [] = 0 := by
  refine ⟨?_, aw_e⟩
  unfold repS
  rw [if_pos aw_e]
  exact congrArg bs aw_s
theorem aw_t : takE (bs aw26 ++ ⟨#[121]⟩) 1 = 0 ∧ takC (bs aw26 ++ ⟨#[121]⟩) 1 = 404 ∧ takF (bs aw26 ++ ⟨#[121]⟩) 1 = [] ∧ bs (takB (bs aw26 ++ ⟨#[121]⟩) 1) = ⟨#[120]⟩ ∧ takN (bs aw26 ++ ⟨#[121]⟩) 1 = 46 := by
  obtain ⟨h1, h2, h3, h4, h5⟩ := rep_take 404 [] [120] [121] (bs aw26 ++ ⟨#[121]⟩) 1 aw_e (by decide) (by rw [aw_s, ByteArray.data_append, Array.toList_append, bs_data]) (by decide)
  refine ⟨h1, h2, h3, by rw [h4]; rfl, ?_⟩
  rw [h5, aw_s]; rfl
theorem aw_l : takE (bs aw26) 0 = 5 := rep_long 404 [] [120] [] (bs aw26) 0 aw_e (by decide) (by rw [aw_s, bs_data, List.append_nil]) (by decide)
theorem aw_h : takE ⟨#[72, 84, 84, 80, 47, 49, 46, 49, 32, 50, 48, 48, 32, 79, 75, 13, 10, 13, 10]⟩ 9 = 6 := by decide +kernel
theorem aw_i : bs (repS 99 [] (ByteArray.mk #[]).data.toList) = ⟨#[]⟩ ∧ repE 99 [] = 8 := ⟨rfl, rfl⟩
theorem aw_same : sameR 404 404 [120] [120] [] [] = true ∧ sameR 404 0 [120] [] [] [] = false := by decide +kernel
theorem aw_sz : (bs aw26).size = 46 := rfl
theorem aw_T (w : World) (hE : EnvF w) : Calls Tryz.prog 14 #[.string (bs aw26 ++ ⟨#[121]⟩), .int .i64 1] w (ParseAt 404 46 [] ⟨#[120]⟩ 0 w) := by
  obtain ⟨h1, h2, h3, h4, h5⟩ := aw_t
  exact parse_is _ _ _ _ _ _ _ ⟨h1, h2, h3, h4, h5⟩ w (by rw [ByteArray.size_append, aw_sz]; decide) hE
theorem nil_own (w : World) : w.ownsRow 0 78 2 (.slice none 0 0) 0 (fcells []) := World.ownsRow_nil _ _ _ _
end Go.Proofs.YtfcomhdgpdbnhaaGreatDoor
namespace Go.Proofs.YtfcomhdgpdbnhaaGreatDoor
open Go.RowKit
theorem box3 (w : World) (x y z : Value) (t : TypeId) : (w.alloc (.cells #[x, y, z] t)).cell? ⟨w.heap.size, 0, none⟩ = some x ∧ (w.alloc (.cells #[x, y, z] t)).cell? ⟨w.heap.size, 1, none⟩ = some y ∧ (w.alloc (.cells #[x, y, z] t)).cell? ⟨w.heap.size, 2, none⟩ = some z :=
  let ⟨h0, h1, h2, _⟩ := three_facts (heap_alloc_new w (.cells #[x, y, z] t)); ⟨h0, h1, h2⟩
set_option maxRecDepth 100000 in
set_option maxHeartbeats 1000000 in
theorem told_wrong (a b t : Int) (w : World) :
    Calls Tryz.prog 34 #[.agg #[.int .i64 a, .int .i64 b, .int .i64 t]] w fun e w' => e = .returned (.int .i64 (toldE a b t : Nat)) ∧ Below w.heap.size w w' := by
  have HC := Lib.hid (fun w => ranges_check a b w)
  obtain ⟨x0, x1, x2⟩ := box3 w (.int .i64 a) (.int .i64 b) (.int .i64 t) 87
  have hB0 := below_agg3 w (.int .i64 a) (.int .i64 b) (.int .i64 t) 87
  have HB0 := Lib.hid hB0
  have hl : w.heap.size < (w.alloc (.cells #[.int .i64 a, .int .i64 b, .int .i64 t] 87)).heap.size := by simp
  have HL := Lib.hid hl
  clear hB0 hl
  by_cases he : rErr a b = 0
  case neg =>
    have h8 := (rErr_no a b he).1
    have HA : Hid (toldE a b t = 8) := Lib.hid (by unfold toldE; rw [if_pos he, h8])
    rw [h8] at HC
    clear he h8
    go_enter Tryz.func34, Tryz.ntmps34
    go_wp2_with fail
    refine (HC.out _).mono ?_
    rintro e w1 ⟨rfl, hb1⟩
    go_wp2_with fail
    go_ret
    exact ⟨by rw [HA.out]; rfl, bstep HB0.out hb1⟩
  rw [he] at HC
  by_cases h1 : t ≤ b
  · have HA : Hid (toldE a b t = 8) := Lib.hid (by unfold toldE; rw [if_neg (fun h => h he), if_pos (.inl h1)])
    have t1 : decide (t ≤ b) = true := decide_eq_true h1
    clear he h1
    go_enter Tryz.func34, Tryz.ntmps34
    go_wp2_with fail
    refine (HC.out _).mono ?_
    rintro e w1 ⟨rfl, hb1⟩
    have y1 := (hb1.cell (p := ⟨w.heap.size, 1, none⟩) HL.out).trans x1
    have y2 := (hb1.cell (p := ⟨w.heap.size, 2, none⟩) HL.out).trans x2
    have HB1 := Lib.hid (bstep HB0.out hb1)
    clear hb1 x0 x1 x2
    go_wp2_with fail
    go_ret
    exact ⟨by rw [HA.out]; rfl, HB1.out⟩
  have t1 : decide (t ≤ b) = false := decide_eq_false h1
  obtain ⟨r, hr⟩ : ∃ r, decide (t > 9007199254740991) = r := ⟨_, rfl⟩
  have HA : Hid (toldE a b t = if r = true then 8 else 0) := Lib.hid (by
    unfold toldE
    rw [if_neg (fun h => h he)]
    cases r with
    | true => rw [if_pos (.inr (of_decide_eq_true hr)), if_pos rfl]
    | false => rw [if_neg (fun h => h.elim h1 (of_decide_eq_false hr)), if_neg (by decide)])
  clear he h1
  cases r
  all_goals
    go_enter Tryz.func34, Tryz.ntmps34
    go_wp2_with fail
    refine (HC.out _).mono ?_
    rintro e w1 ⟨rfl, hb1⟩
    have y1 := (hb1.cell (p := ⟨w.heap.size, 1, none⟩) HL.out).trans x1
    have y2 := (hb1.cell (p := ⟨w.heap.size, 2, none⟩) HL.out).trans x2
    have HB1 := Lib.hid (bstep HB0.out hb1)
    clear hb1 x0 x1 x2
    go_wp2_with fail
    go_ret
    exact ⟨by rw [HA.out]; rfl, HB1.out⟩
theorem told_text (a b t : Int) (h : toldE a b t = 0) (X Y : ByteArray) (hX : bs (textR a b) = X) (hY : bs (digL t) = Y) : ((⟨#[98, 121, 116, 101, 115, 32]⟩ ++ X) ++ ⟨#[47]⟩) ++ Y = bs (toldL a b t) := by
  unfold toldL
  rw [if_pos h, ← hX, ← hY, show (⟨#[98, 121, 116, 101, 115, 32]⟩ : ByteArray) = bs tellsL from rfl, show (⟨#[47]⟩ : ByteArray) = bs [47] from rfl, bs_cat, bs_cat, bs_cat]
  simp
set_option maxRecDepth 100000 in
set_option maxHeartbeats 2000000 in
theorem ranges_told (a b t : Int) (w : World) (hE : EnvF w) :
    Calls Tryz.prog 204 #[.agg #[.int .i64 a, .int .i64 b], .int .i64 t] w fun e w' => e = .returned (.tuple #[.string (bs (toldL a b t)), .int .i64 (toldE a b t : Nat)]) ∧ Below w.heap.size w w' := by
  have HW := Lib.hid (fun w => told_wrong a b t w)
  obtain ⟨r0, r1⟩ := box2 w (.int .i64 a) (.int .i64 b) 44
  have HB0 := Lib.hid (below_agg2 w (.int .i64 a) (.int .i64 b) 44)
  by_cases he : toldE a b t = 0
  case neg =>
    have HA : Hid (toldL a b t = []) := Lib.hid (by unfold toldL; rw [if_neg he])
    have tz : ((toldE a b t : Int) != 0) = true := by rw [bne_iff_ne]; omega
    generalize toldE a b t = E at HW tz ⊢
    clear he
    go_enter Tryz.func204, Tryz.ntmps204
    go_wp2_with fail
    refine (HW.out _).mono ?_
    rintro e w1 ⟨rfl, hb1⟩
    have HB1 := Lib.hid (bstep HB0.out (bstep (below_agg3 _ _ _ _ _) hb1))
    clear hb1
    go_wp2_with fail
    go_ret2
    exact ⟨by rw [HA.out]; rfl, HB1.out⟩
  obtain ⟨g1, g2, g3⟩ := toldE_ok a b t he
  obtain ⟨q1, q2, q3⟩ := rErr_ok a b g1
  have HX := Lib.hid (fun w hE => ranges_text a b w hE (by omega) (by omega) (by omega) (by omega))
  have HD := Lib.hid (fun w hE => fields_digits t (by omega) (by omega) w hE)
  have hxl := textR_len a b (by omega) (by omega)
  have hdl := digL_len t (by omega)
  obtain ⟨X, hX⟩ : ∃ X, bs (textR a b) = X := ⟨_, rfl⟩
  obtain ⟨Y, hY⟩ : ∃ Y, bs (digL t) = Y := ⟨_, rfl⟩
  have HR := Lib.hid (told_text a b t he X Y hX hY)
  have hXs : X.size ≤ 41 := by rw [← hX, bs_size]; exact hxl
  have hYs : Y.size ≤ 20 := by rw [← hY, bs_size]; exact hdl
  rw [hX] at HX
  rw [hY] at HD
  have p1 := fun w => run_string_add_sum (P := Tryz.prog) w ⟨#[98, 121, 116, 101, 115, 32]⟩ X (by show 6 + _ ≤ _; omega)
  have p2 := fun w => run_string_add_sum (P := Tryz.prog) w (⟨#[98, 121, 116, 101, 115, 32]⟩ ++ X) ⟨#[47]⟩ (by rw [ByteArray.size_append]; show 6 + _ + 1 ≤ _; omega)
  have p3 := fun w => run_string_add_sum (P := Tryz.prog) w ((⟨#[98, 121, 116, 101, 115, 32]⟩ ++ X) ++ ⟨#[47]⟩) Y (by rw [ByteArray.size_append, ByteArray.size_append]; show 6 + _ + 1 + _ ≤ _; omega)
  rw [he] at HW ⊢
  have HE := Lib.hid hE
  clear he g1 g2 g3 q1 q2 q3 hxl hdl hX hY hE
  go_enter Tryz.func204, Tryz.ntmps204
  go_wp2_with fail
  refine (HW.out _).mono ?_
  rintro e w1 ⟨rfl, hb1⟩
  have hsz : (w.alloc (.cells #[.int .i64 a, .int .i64 b] 44)).heap.size = w.heap.size + 1 := by simp
  obtain ⟨y0, y1, y2⟩ := box3 (w.alloc (.cells #[.int .i64 a, .int .i64 b] 44)) (.int .i64 a) (.int .i64 b) (.int .i64 t) 87
  rw [hsz] at y0 y1 y2
  have hl : w.heap.size + 1 < ((w.alloc (.cells #[.int .i64 a, .int .i64 b] 44)).alloc (.cells #[.int .i64 a, .int .i64 b, .int .i64 t] 87)).heap.size := by simp
  have z0 := (hb1.cell (p := ⟨w.heap.size + 1, 0, none⟩) hl).trans y0
  have z1 := (hb1.cell (p := ⟨w.heap.size + 1, 1, none⟩) hl).trans y1
  have z2 := (hb1.cell (p := ⟨w.heap.size + 1, 2, none⟩) hl).trans y2
  have hbl : w.heap.size + 1 < w1.heap.size := Nat.lt_of_lt_of_le hl hb1.size
  have HB1 := Lib.hid (bstep HB0.out (bstep (below_agg3 _ _ _ _ _) hb1))
  have HE1 := Lib.hid (HE.out.below HB1.out)
  clear hb1 y0 y1 y2 hl hsz r0 r1
  go_wp2_with fail
  have k0 : ∀ p : BelowOf w1, p.world.cell? ⟨w.heap.size + 1, 0, none⟩ = some (.int .i64 a) := fun p => cell_of p hbl z0
  have k1 : ∀ p : BelowOf w1, p.world.cell? ⟨w.heap.size + 1, 1, none⟩ = some (.int .i64 b) := fun p => cell_of p hbl z1
  have k2 : ∀ p : BelowOf w1, p.world.cell? ⟨w.heap.size + 1, 2, none⟩ = some (.int .i64 t) := fun p => cell_of p hbl z2
  clear z0 z1 z2
  refine wp_region_quiet_below (by kernel_rfl) (by kernel_rfl) ?_
  repeat (go_big_quiet_step (fail))
  go_big_quiet_step ((go_at_call 59; exact below_of (HX.out _ (HE1.out.below (BelowOf.below _)))))
  repeat (go_big_quiet_step (fail))
  go_big_quiet_step ((go_at_call 41; exact below_of (HD.out _ (HE1.out.below (BelowOf.below _)))))
  repeat (go_big_quiet_step (fail))
  refine wpQuiet_nil ?_
  intro W1 hw'
  have hb2 := of_class hw'
  clear hw'
  go_wp2_with fail
  go_ret2
  exact ⟨by rw [← HR.out]; rfl, bstep HB1.out hb2⟩
theorem told_text2 (a b t : Int) (h : toldE a b t = 0) (X Y Z : ByteArray) (hX : bs (digL a) = X) (hY : bs (digL b) = Y) (hZ : bs (digL t) = Z) : ((((⟨#[98, 121, 116, 101, 115, 32]⟩ ++ X) ++ ⟨#[45]⟩) ++ Y) ++ ⟨#[47]⟩) ++ Z = bs (toldL a b t) := by
  unfold toldL textR
  rw [if_pos h, ← hX, ← hY, ← hZ, show (⟨#[98, 121, 116, 101, 115, 32]⟩ : ByteArray) = bs tellsL from rfl, show (⟨#[47]⟩ : ByteArray) = bs [47] from rfl, show (⟨#[45]⟩ : ByteArray) = bs [45] from rfl, bs_cat, bs_cat, bs_cat, bs_cat, bs_cat]
  simp
set_option maxRecDepth 100000 in
set_option maxHeartbeats 2000000 in
theorem ref_told (a b t : Int) (w : World) :
    Calls Tryz.prog 51 #[.agg #[.int .i64 a, .int .i64 b], .int .i64 t] w fun e w' => e = .returned (.tuple #[.string (bs (toldL a b t)), .int .i64 (toldE a b t : Nat)]) ∧ Below w.heap.size w w' := by
  have HC := Lib.hid (fun w => ref_rcheck a b w)
  obtain ⟨r0, r1⟩ := box2 w (.int .i64 a) (.int .i64 b) 41
  have HB0 := Lib.hid (below_agg2 w (.int .i64 a) (.int .i64 b) 41)
  have hl : w.heap.size < (w.alloc (.cells #[.int .i64 a, .int .i64 b] 41)).heap.size := by simp
  have HL := Lib.hid hl
  clear hl
  by_cases hr : rErr a b = 0
  case neg =>
    have h8 := (rErr_no a b hr).1
    have HA : Hid (toldE a b t = 8 ∧ toldL a b t = []) := Lib.hid (by
      have : toldE a b t = 8 := by unfold toldE; rw [if_pos hr, h8]
      exact ⟨this, by unfold toldL; rw [this]; rfl⟩)
    rw [h8] at HC
    clear hr h8
    go_enter Tryz.func51, Tryz.ntmps51
    go_wp2_with fail
    refine (HC.out _).mono ?_
    rintro e w1 ⟨rfl, hb1⟩
    go_wp2_with fail
    go_ret2
    exact ⟨by rw [HA.out.1, HA.out.2]; rfl, bstep HB0.out hb1⟩
  rw [hr] at HC
  by_cases h1 : t ≤ b ∨ 9007199254740991 < t
  · have HA : Hid (toldE a b t = 8 ∧ toldL a b t = []) := Lib.hid (by
      have : toldE a b t = 8 := by unfold toldE; rw [if_neg (fun h => h hr), if_pos h1]
      exact ⟨this, by unfold toldL; rw [this]; rfl⟩)
    by_cases h2 : t ≤ b
    · have t1 : decide (t ≤ b) = true := decide_eq_true h2
      clear hr h1 h2
      go_enter Tryz.func51, Tryz.ntmps51
      go_wp2_with fail
      refine (HC.out _).mono ?_
      rintro e w1 ⟨rfl, hb1⟩
      have y1 := (hb1.cell (p := ⟨w.heap.size, 1, none⟩) HL.out).trans r1
      have HB1 := Lib.hid (bstep HB0.out hb1)
      clear hb1 r0 r1
      go_wp2_with fail
      go_ret2
      exact ⟨by rw [HA.out.1, HA.out.2]; rfl, HB1.out⟩
    · have t1 : decide (t ≤ b) = false := decide_eq_false h2
      have t2 : decide (t > 9007199254740991) = true := decide_eq_true (h1.resolve_left h2)
      clear hr h1 h2
      go_enter Tryz.func51, Tryz.ntmps51
      go_wp2_with fail
      refine (HC.out _).mono ?_
      rintro e w1 ⟨rfl, hb1⟩
      have y1 := (hb1.cell (p := ⟨w.heap.size, 1, none⟩) HL.out).trans r1
      have HB1 := Lib.hid (bstep HB0.out hb1)
      clear hb1 r0 r1
      go_wp2_with fail
      go_ret2
      exact ⟨by rw [HA.out.1, HA.out.2]; rfl, HB1.out⟩
  have he : toldE a b t = 0 := by unfold toldE; rw [if_neg (fun h => h hr), if_neg h1]
  rw [not_or] at h1
  obtain ⟨q1, q2, q3⟩ := rErr_ok a b hr
  have t1 : decide (t ≤ b) = false := decide_eq_false h1.1
  have t2 : decide (t > 9007199254740991) = false := decide_eq_false h1.2
  have HDa := Lib.hid (fun w => ref_digitsZ a w (by omega))
  have HDb := Lib.hid (fun w => ref_digitsZ b w (by omega))
  have HDt := Lib.hid (fun w => ref_digitsZ t w (by omega))
  have hal := digL_len a (by omega)
  have hbl := digL_len b (by omega)
  have htl := digL_len t (by omega)
  obtain ⟨X, hX⟩ : ∃ X, bs (digL a) = X := ⟨_, rfl⟩
  obtain ⟨Y, hY⟩ : ∃ Y, bs (digL b) = Y := ⟨_, rfl⟩
  obtain ⟨Z, hZ⟩ : ∃ Z, bs (digL t) = Z := ⟨_, rfl⟩
  have HR := Lib.hid (told_text2 a b t he X Y Z hX hY hZ)
  have hXs : X.size ≤ 20 := by rw [← hX, bs_size]; exact hal
  have hYs : Y.size ≤ 20 := by rw [← hY, bs_size]; exact hbl
  have hZs : Z.size ≤ 20 := by rw [← hZ, bs_size]; exact htl
  rw [hX] at HDa
  rw [hY] at HDb
  rw [hZ] at HDt
  have p1 := fun w => run_string_add_sum (P := Tryz.prog) w ⟨#[98, 121, 116, 101, 115, 32]⟩ X (by show 6 + _ ≤ _; omega)
  have p2 := fun w => run_string_add_sum (P := Tryz.prog) w (⟨#[98, 121, 116, 101, 115, 32]⟩ ++ X) ⟨#[45]⟩ (by rw [ByteArray.size_append]; show 6 + _ + 1 ≤ _; omega)
  have p3 := fun w => run_string_add_sum (P := Tryz.prog) w ((⟨#[98, 121, 116, 101, 115, 32]⟩ ++ X) ++ ⟨#[45]⟩) Y (by rw [ByteArray.size_append, ByteArray.size_append]; show 6 + _ + 1 + _ ≤ _; omega)
  have p4 := fun w => run_string_add_sum (P := Tryz.prog) w (((⟨#[98, 121, 116, 101, 115, 32]⟩ ++ X) ++ ⟨#[45]⟩) ++ Y) ⟨#[47]⟩ (by rw [ByteArray.size_append, ByteArray.size_append, ByteArray.size_append]; show 6 + _ + 1 + _ + 1 ≤ _; omega)
  have p5 := fun w => run_string_add_sum (P := Tryz.prog) w ((((⟨#[98, 121, 116, 101, 115, 32]⟩ ++ X) ++ ⟨#[45]⟩) ++ Y) ++ ⟨#[47]⟩) Z (by rw [ByteArray.size_append, ByteArray.size_append, ByteArray.size_append, ByteArray.size_append]; show 6 + _ + 1 + _ + 1 + _ ≤ _; omega)
  rw [he]
  clear he hr h1 q1 q2 q3 hal hbl htl hX hY hZ
  go_enter Tryz.func51, Tryz.ntmps51
  go_wp2_with fail
  refine (HC.out _).mono ?_
  rintro e w1 ⟨rfl, hb1⟩
  have y0 := (hb1.cell (p := ⟨w.heap.size, 0, none⟩) HL.out).trans r0
  have y1 := (hb1.cell (p := ⟨w.heap.size, 1, none⟩) HL.out).trans r1
  have hbl : w.heap.size < w1.heap.size := Nat.lt_of_lt_of_le HL.out hb1.size
  have HB1 := Lib.hid (bstep HB0.out hb1)
  clear hb1 r0 r1
  go_wp2_with fail
  have k0 : ∀ p : BelowOf w1, p.world.cell? ⟨w.heap.size, 0, none⟩ = some (.int .i64 a) := fun p => cell_of p hbl y0
  have k1 : ∀ p : BelowOf w1, p.world.cell? ⟨w.heap.size, 1, none⟩ = some (.int .i64 b) := fun p => cell_of p hbl y1
  clear y0 y1
  refine wp_region_quiet_below (by kernel_rfl) (by kernel_rfl) ?_
  repeat (go_big_quiet_step (fail))
  go_big_quiet_step ((go_at_call 47; exact below_same (HDa.out _)))
  repeat (go_big_quiet_step (fail))
  go_big_quiet_step ((go_at_call 47; exact below_same (HDb.out _)))
  repeat (go_big_quiet_step (fail))
  go_big_quiet_step ((go_at_call 47; exact below_same (HDt.out _)))
  repeat (go_big_quiet_step (fail))
  refine wpQuiet_nil ?_
  intro W1 hw'
  have hb2 := of_class hw'
  clear hw'
  go_wp2_with fail
  go_ret2
  exact ⟨by rw [← HR.out]; rfl, bstep HB1.out hb2⟩
end Go.Proofs.YtfcomhdgpdbnhaaGreatDoor
namespace Go.Proofs.YtfcomhdgpdbnhaaGreatDoor
open Go.RowKit
/-- may an origin be? -/
def orgE (h p : List UInt8) : Nat := if pathB p = false ∨ hostB h = false then 2 else 0
theorem orgE_asks (h p : List UInt8) : aErr p h 0 0 = orgE h p := by
  unfold aErr orgE
  split
  · rfl
  · decide
/-- the code of what a server of the file f answers to s -/
def orgC (h p f : List UInt8) (s : ByteArray) : Int :=
  if askE s ≠ 0 ∨ askN s < (s.size : Int) then 400
  else if askPath s ≠ p ∨ askHost s ≠ h then 404
  else if clipE (askA s) (askB s) (f.length : Int) ≠ 0 then 416 else 206
def orgA (f : List UInt8) (s : ByteArray) : Int := clipA (askA s) (askB s) (f.length : Int)
def orgB (f : List UInt8) (s : ByteArray) : Int := clipB (askA s) (askB s) (f.length : Int)
def orgF (h p f : List UInt8) (s : ByteArray) : List (List UInt8 × List UInt8) := if orgC h p f s = 206 then [(crangeK, toldL (orgA f s) (orgB f s) (f.length : Int))] else []
def orgY (h p f : List UInt8) (s : ByteArray) : List UInt8 := if orgC h p f s = 206 then (f.take (orgB f s + 1).toNat).drop (orgA f s).toNat else []
def orgS (h p f : List UInt8) (s : ByteArray) : List UInt8 := if orgE h p = 0 then repS (orgC h p f s) (orgF h p f s) (orgY h p f s) else []
def orgK (h p f : List UInt8) (s : ByteArray) : Int := if orgE h p = 0 then orgC h p f s else 0
theorem orgC_four (h p f : List UInt8) (s : ByteArray) : orgC h p f s = 400 ∨ orgC h p f s = 404 ∨ orgC h p f s = 416 ∨ orgC h p f s = 206 := by
  unfold orgC
  split
  · exact .inl rfl
  · split
    · exact .inr (.inl rfl)
    · split
      · exact .inr (.inr (.inl rfl))
      · exact .inr (.inr (.inr rfl))
theorem orgC_206 (h p f : List UInt8) (s : ByteArray) (hc : orgC h p f s = 206) : askE s = 0 ∧ (s.size : Int) ≤ askN s ∧ askPath s = p ∧ askHost s = h ∧ clipE (askA s) (askB s) (f.length : Int) = 0 := by
  unfold orgC at hc
  split at hc
  · exact absurd hc (by decide)
  · split at hc
    · exact absurd hc (by decide)
    · split at hc
      · exact absurd hc (by decide)
      · rename_i h1 h2 h3
        rw [not_or] at h1 h2
        exact ⟨Decidable.not_not.1 h1.1, by omega, Decidable.not_not.1 h2.1, Decidable.not_not.1 h2.2, Decidable.not_not.1 h3⟩
theorem orgF_other (h p f : List UInt8) (s : ByteArray) (hc : orgC h p f s ≠ 206) : orgF h p f s = [] ∧ orgY h p f s = [] := by
  unfold orgF orgY
  rw [if_neg hc, if_neg hc]
  exact ⟨rfl, rfl⟩
theorem orgF_bd (h p f : List UInt8) (s : ByteArray) : (orgF h p f s).length ≤ 1 ∧ ∀ x ∈ orgF h p f s, x.1.length ≤ 1000000 ∧ x.2.length ≤ 1000000 := by
  unfold orgF
  split
  · refine ⟨Nat.le_refl _, fun x hx => ?_⟩
    obtain rfl := List.mem_singleton.1 hx
    exact ⟨by show crangeK.length ≤ 1000000; decide, Nat.le_trans (toldL_len _ _ _) (by decide)⟩
  · exact ⟨Nat.zero_le _, fun x hx => by cases hx⟩
theorem orgY_len (h p f : List UInt8) (s : ByteArray) : (orgY h p f s).length ≤ f.length := by
  unfold orgY
  split
  · rw [List.length_drop]
    have := List.length_take_le (orgB f s + 1).toNat f
    have := List.length_take_le' (orgB f s + 1).toNat f
    omega
  · exact Nat.zero_le _
theorem err_four (c : Int) (h : c = 400 ∨ c = 404 ∨ c = 416 ∨ c = 206) : printErr c = 0 := by
  rcases h with rfl | rfl | rfl | rfl <;> decide
/-- what is answered may be laid -/
theorem org_good (h p f : List UInt8) (s : ByteArray) (hf : f.length ≤ 1000000) : repE (orgC h p f s) (orgF h p f s) = 0 := by
  unfold repE
  rw [if_neg (by rw [err_four _ (orgC_four h p f s)]; decide)]
  by_cases hc : orgC h p f s = 206
  · obtain ⟨-, -, -, -, h5⟩ := orgC_206 h p f s hc
    have ht := clip_told _ _ _ h5 (by omega)
    have hfe := told_field _ _ _ ht
    unfold orgF
    rw [if_pos hc, if_neg (by simp)]
    show (if crangeK = clen then 22 else if fieldE crangeK (toldL (orgA f s) (orgB f s) (f.length : Int)) ≠ 0 then fieldE crangeK (toldL (orgA f s) (orgB f s) (f.length : Int)) else ownE []) = 0
    unfold orgA orgB
    rw [if_neg (by decide), hfe]
    rfl
  · rw [(orgF_other h p f s hc).1, if_neg (by simp)]
    rfl
theorem orgS_eq (h p f : List UInt8) (s : ByteArray) (hf : f.length ≤ 1000000) (he : orgE h p = 0) : orgS h p f s = repL (orgC h p f s) (orgF h p f s) (orgY h p f s) := by
  unfold orgS repS
  rw [if_pos he, if_pos (org_good h p f s hf)]
end Go.Proofs.YtfcomhdgpdbnhaaGreatDoor
namespace Go.Proofs.YtfcomhdgpdbnhaaGreatDoor
open Go.RowKit
theorem below_o3 (w : World) (x y z : Value) : Below w.heap.size w (w.alloc (.cells #[x, y, z] 26)) := (Below.refl _ _).alloc (Nat.le_refl _) _
set_option maxRecDepth 100000 in
set_option maxHeartbeats 1000000 in
theorem origin_check (h p f : ByteArray) (w : World) :
    Calls Tryz.prog 8 #[.agg #[.string h, .string p, .string f]] w fun e w' => e = .returned (.int .i64 (orgE h.data.toList p.data.toList : Nat)) ∧ Below w.heap.size w w' := by
  have HC := Lib.hid (fun w => asking_check p h 0 0 w)
  rw [orgE_asks] at HC
  generalize orgE h.data.toList p.data.toList = E at HC ⊢
  obtain ⟨x0, x1, x2⟩ := box3 w (.string h) (.string p) (.string f) 26
  have HB0 := Lib.hid (below_o3 w (.string h) (.string p) (.string f))
  go_enter Tryz.func8, Tryz.ntmps8
  go_wp2_with fail
  refine (HC.out _).mono ?_
  rintro e w1 ⟨rfl, hb1⟩
  go_wp2_with fail
  go_ret
  exact ⟨rfl, bstep HB0.out hb1⟩
/-- a code's reply, without fields and body -/
theorem refusal_reply (c : Int) (w : World) :
    Calls Tryz.prog 202 #[.int .i64 c] w fun e w' => e = .returned (.agg #[.int .i64 c, .slice none 0 0, .string ⟨#[]⟩]) ∧ Below w.heap.size w w' := by
  obtain ⟨k0, k1, k2, f0, f1, f2⟩ := three_facts (heap_alloc_new w (.cells #[.int .i64 0, .slice none 0 0, .string ⟨#[]⟩] 37))
  go_enter Tryz.func202, Tryz.ntmps202
  go_wp2_with fail
  refine ret_cell (A := ⟨w.heap.size, 0, none⟩) rfl (load_rep _ _ _ _ _ _ (heap_alloc_new w _)) rfl rfl ?_
  exact ⟨rfl, below_agg3 _ _ _ _ _⟩
/-- a block of one field is a row of it -/
theorem own_one (w : World) (x y : Value) (T : TypeId) : (w.alloc (.cells #[x, y] T)).ownsRow w.heap.size T 2 (.slice (some ⟨w.heap.size, 0, none⟩) 1 1) 1 [x, y] :=
  ⟨rfl, .inr ⟨w.heap.size, 1, #[x, y], rfl, Nat.le_refl _, heap_alloc_new w _, Nat.le_refl _, by unfold maxLen; decide, rfl, rfl⟩⟩
theorem own_one_at (w : World) (g : Nat) (hg : g = w.heap.size) (x y : Value) (T : TypeId) : (w.alloc (.cells #[x, y] T)).ownsRow 0 T 2 (.slice (some ⟨g, 0, none⟩) 1 1) 1 [x, y] := by
  subst hg
  exact own_lowerF (own_one w x y T) (Nat.zero_le _)
/-- what a reply's making hands over -/
def PartPost (c : Int) (fs : List (List UInt8 × List UInt8)) (x : ByteArray) (T : TypeId) (w : World) (e : Ending) (w' : World) : Prop :=
  ∃ a cp, e = .returned (.agg #[.int .i64 c, .slice a fs.length cp, .string x]) ∧ (∃ B, w'.ownsRow B T 2 (.slice a fs.length cp) fs.length (fcells fs)) ∧ Below w.heap.size w w'
set_option maxRecDepth 100000 in
set_option maxHeartbeats 2000000 in
theorem part_reply (a b : Int) (f : ByteArray) (w : World) (hE : EnvF w) (h0 : 0 ≤ a) (h1 : a ≤ b) (h2 : b < (f.size : Int)) (hf : f.size ≤ 1000000) :
    Calls Tryz.prog 203 #[.agg #[.int .i64 a, .int .i64 b, .string f]] w (PartPost 206 [(crangeK, toldL a b (f.size : Int))] (f.extract a.toNat (b + 1).toNat) 78 w) := by
  have HT := Lib.hid (fun w hE => ranges_told a b (f.size : Int) w hE)
  obtain ⟨V, hV⟩ : ∃ V, bs (toldL a b (f.size : Int)) = V := ⟨_, rfl⟩
  rw [hV] at HT
  have HV := Lib.hid hV
  generalize toldE a b (f.size : Int) = E at HT
  obtain ⟨x0, x1, x2⟩ := box3 w (.int .i64 a) (.int .i64 b) (.string f) 102
  have hB0 := below_agg3 w (.int .i64 a) (.int .i64 b) (.string f) 102
  have hB1 := bstep hB0 (below_agg3 _ (.int .i64 0) (.slice none 0 0) (.string ⟨#[]⟩) 37)
  have hsz : ((w.alloc (.cells #[.int .i64 a, .int .i64 b, .string f] 102)).alloc (.cells #[.int .i64 0, .slice none 0 0, .string ⟨#[]⟩] 37)).heap.size = w.heap.size + 1 + 1 := by simp
  have hk0 := heap_alloc2_new w (.cells #[.int .i64 a, .int .i64 b, .string f] 102) (.cells #[.int .i64 0, .slice none 0 0, .string ⟨#[]⟩] 37)
  have hp0 := ((below_agg3 (w.alloc (.cells #[.int .i64 a, .int .i64 b, .string f] 102)) (.int .i64 0) (.slice none 0 0) (.string ⟨#[]⟩) 37).block w.heap.size (by simp)).trans (heap_alloc_new w _)
  have HB1 := Lib.hid hB1
  have HE1 := Lib.hid (hE.below hB1)
  have HK0 := Lib.hid hk0
  have HP0 := Lib.hid hp0
  have HSZ := Lib.hid hsz
  clear hB0 hB1 hk0 hp0 hsz x0 x1 x2 hE hV
  go_enter Tryz.func203, Tryz.ntmps203
  go_wp2_with fail
  generalize ((w.alloc (.cells #[.int .i64 a, .int .i64 b, .string f] 102)).alloc (.cells #[.int .i64 0, .slice none 0 0, .string ⟨#[]⟩] 37)) = W0 at HB1 HE1 HK0 HP0 HSZ ⊢
  obtain ⟨p0, p1, p2, -, -, -⟩ := three_facts HP0.out
  go_wp2_with fail
  refine (HT.out _ HE1.out).mono ?_
  rintro e w1 ⟨rfl, hb1⟩
  have hp1 := (hb1.block w.heap.size (by have := HSZ.out; omega)).trans HP0.out
  have hk1 := (hb1.block (w.heap.size + 1) (by have := HSZ.out; omega)).trans HK0.out
  clear p0 p1 p2
  obtain ⟨p0, p1, p2, -, -, -⟩ := three_facts hp1
  obtain ⟨k0, k1, k2, f0, f1, f2⟩ := three_facts hk1
  have HK1 := Lib.hid hk1
  have HB2 := Lib.hid (bstep HB1.out hb1)
  have hs1 : w.heap.size + 1 < w1.heap.size := by have := hb1.size; have := HSZ.out; omega
  have hs2 : w.heap.size < w1.heap.size := by omega
  clear hp1 hk1 hb1 HT HE1
  go_wp2_with fail
  refine ret_cell (A := ⟨w.heap.size + 1, 0, none⟩) rfl (load_rep _ _ _ _ _ _ ((heap_alloc_old _ _ (by simp; omega)).trans (three_set HK1.out _ _ _))) rfl rfl ?_
  refine ⟨_, _, rfl, ⟨0, ?_⟩, ?_⟩
  · have := own_one_at (((w1.setCell ⟨w.heap.size + 1, 0, none⟩ (.int .i64 206)).setCell ⟨w.heap.size + 1, 1, none⟩ (.slice (some ⟨w1.heap.size, 0, none⟩) 1 1)).setCell ⟨w.heap.size + 1, 2, none⟩ (.string (f.extract a.toNat (b + 1).toNat))) w1.heap.size (by simp) (.string (bs crangeK)) (.string (bs (toldL a b (f.size : Int)))) 78
    rw [HV.out] at this
    have e : fcells [(crangeK, toldL a b (f.size : Int))] = [.string (bs crangeK), .string V] := by rw [← HV.out]; rfl
    rw [e]
    exact this
  · exact (three_below HB2.out _ (by omega) _ _ _).alloc (by have := HB2.out.size; simp; omega) _
/-- the sort of answer, as an interface's value -/
def sortV (h p f s : ByteArray) : Value := if orgC h.data.toList p.data.toList f.data.toList s = 206 then .iface 102 (.agg #[.int .i64 (orgA f.data.toList s), .int .i64 (orgB f.data.toList s), .string f]) else .iface 98 (.int .i64 (orgC h.data.toList p.data.toList f.data.toList s))
set_option maxRecDepth 100000 in
set_option maxHeartbeats 4000000 in
theorem origin_sort (h p f s : ByteArray) (w : World) (hE : EnvF w) (hs : s.size ≤ 1000000) (hf : f.size ≤ 1000000) :
    Calls Tryz.prog 22 #[.agg #[.string h, .string p, .string f], .string s] w fun e w' => e = .returned (sortV h p f s) ∧ Below w.heap.size w w' := by
  have HA := Lib.hid (fun w hE => asking_parse s w hs hE)
  have hB0 := below_o3 w (.string h) (.string p) (.string f)
  have HE0 := Lib.hid (hE.below hB0)
  have HB0 := Lib.hid hB0
  have HP0 := Lib.hid (heap_alloc_new w (.cells #[.string h, .string p, .string f] 26))
  have hsz : (w.alloc (.cells #[.string h, .string p, .string f] 26)).heap.size = w.heap.size + 1 := by simp
  have HSZ := Lib.hid hsz
  unfold askV at HA
  have hn0 : askE s ≠ 0 → askN s = 0 := fun hh => (ask_bad s hh).2.2.2.2
  have hnb : askE s = 0 → 0 < askN s ∧ askN s ≤ (s.size : Int) := fun hh => let ⟨_, h1, h2, _⟩ := ask_again s hh; ⟨h1, h2⟩
  obtain ⟨P, hP⟩ : ∃ P, bs (askPath s) = P := ⟨_, rfl⟩
  obtain ⟨Q, hQ⟩ : ∃ Q, bs (askHost s) = Q := ⟨_, rfl⟩
  obtain ⟨a, ha⟩ : ∃ a, askA s = a := ⟨_, rfl⟩
  obtain ⟨b, hb⟩ : ∃ b, askB s = b := ⟨_, rfl⟩
  obtain ⟨n, hn⟩ : ∃ n, askN s = n := ⟨_, rfl⟩
  obtain ⟨E, hE1⟩ : ∃ E, askE s = E := ⟨_, rfl⟩
  have hPd : askPath s = P.data.toList := by rw [← hP, bs_data]
  have hQd : askHost s = Q.data.toList := by rw [← hQ, bs_data]
  obtain ⟨C, hC⟩ : ∃ C, orgC h.data.toList p.data.toList f.data.toList s = C := ⟨_, rfl⟩
  have hCC : C = if E ≠ 0 ∨ n < (s.size : Int) then 400 else if P.data.toList ≠ p.data.toList ∨ Q.data.toList ≠ h.data.toList then 404 else if clipE a b (f.size : Int) ≠ 0 then 416 else 206 := by
    rw [← hC]; unfold orgC; rw [hE1, hn, hPd, hQd, ha, hb, size_len]
  have hV : sortV h p f s = if C = 206 then .iface 102 (.agg #[.int .i64 (clipA a b (f.size : Int)), .int .i64 (clipB a b (f.size : Int)), .string f]) else .iface 98 (.int .i64 C) := by
    unfold sortV orgA orgB; rw [hC, ha, hb, size_len]
  obtain ⟨V, hVV⟩ : ∃ V, sortV h p f s = V := ⟨_, rfl⟩
  rw [hVV] at hV ⊢
  have HV := Lib.hid hV
  rw [hP, hQ, ha, hb, hn, hE1] at HA
  have HCC := Lib.hid hCC
  clear hE hP hQ hPd hQd hC hCC hV hVV hB0 hsz hn0 hnb
  by_cases h1 : E = 0
  case neg =>
    have HR : Hid (C = 400) := Lib.hid (by rw [HCC.out, if_pos (.inl h1)])
    have tz : ((E : Int) != 0) = true := by rw [bne_iff_ne]; omega
    clear h1 hE1 hn ha hb
    go_enter Tryz.func22, Tryz.ntmps22
    go_wp2_with fail
    refine (HA.out _ HE0.out).mono ?_
    rintro e w1 ⟨rfl, hb1⟩
    have hp1 := (hb1.block w.heap.size (by have := HSZ.out; omega)).trans HP0.out
    have HB1 := Lib.hid (bstep HB0.out hb1)
    have hs1 : w.heap.size < w1.heap.size := by have := hb1.size; have := HSZ.out; omega
    obtain ⟨o0, o1, o2, -, -, -⟩ := three_facts hp1
    obtain ⟨q0, q1, q2, q3⟩ := box4 w1 (.string P) (.string Q) (.int .i64 a) (.int .i64 b) 46
    clear hp1 hb1 HE0 HP0
    go_wp2_with fail
    go_ret
    exact ⟨by rw [HV.out, HR.out]; rfl, HB1.out.alloc HB1.out.size _⟩
  subst h1
  by_cases h2 : n < (s.size : Int)
  · have HR : Hid (C = 400) := Lib.hid (by rw [HCC.out, if_pos (.inr h2)])
    have t2 : decide (n < (s.size : Int)) = true := decide_eq_true h2
    clear h2 hE1 hn ha hb
    go_enter Tryz.func22, Tryz.ntmps22
    go_wp2_with fail
    refine (HA.out _ HE0.out).mono ?_
    rintro e w1 ⟨rfl, hb1⟩
    have hp1 := (hb1.block w.heap.size (by have := HSZ.out; omega)).trans HP0.out
    have HB1 := Lib.hid (bstep HB0.out hb1)
    have hs1 : w.heap.size < w1.heap.size := by have := hb1.size; have := HSZ.out; omega
    obtain ⟨o0, o1, o2, -, -, -⟩ := three_facts hp1
    obtain ⟨q0, q1, q2, q3⟩ := box4 w1 (.string P) (.string Q) (.int .i64 a) (.int .i64 b) 46
    clear hp1 hb1 HE0 HP0
    go_wp2_with fail
    go_ret
    exact ⟨by rw [HV.out, HR.out]; rfl, HB1.out.alloc HB1.out.size _⟩
  have t2 : decide (n < (s.size : Int)) = false := decide_eq_false h2
  by_cases h3 : P.data.toList = p.data.toList
  case neg =>
    have HR : Hid (C = 404) := Lib.hid (by rw [HCC.out, if_neg (fun e => e.elim (fun e => e rfl) h2), if_pos (.inl h3)])
    have t3 : ¬ P.toList = p.toList := by rw [ByteArray.toList_eq, ByteArray.toList_eq]; exact h3
    clear h2 h3 hE1 hn ha hb
    go_enter Tryz.func22, Tryz.ntmps22
    go_wp2_with fail
    refine (HA.out _ HE0.out).mono ?_
    rintro e w1 ⟨rfl, hb1⟩
    have hp1 := (hb1.block w.heap.size (by have := HSZ.out; omega)).trans HP0.out
    have HB1 := Lib.hid (bstep HB0.out hb1)
    have hs1 : w.heap.size < w1.heap.size := by have := hb1.size; have := HSZ.out; omega
    obtain ⟨o0, o1, o2, -, -, -⟩ := three_facts hp1
    obtain ⟨q0, q1, q2, q3⟩ := box4 w1 (.string P) (.string Q) (.int .i64 a) (.int .i64 b) 46
    clear hp1 hb1 HE0 HP0
    go_wp2_with fail
    go_ret
    exact ⟨by rw [HV.out, HR.out]; rfl, HB1.out.alloc HB1.out.size _⟩
  have t3 : P.toList = p.toList := by rw [ByteArray.toList_eq, ByteArray.toList_eq]; exact h3
  by_cases h4 : Q.data.toList = h.data.toList
  case neg =>
    have HR : Hid (C = 404) := Lib.hid (by rw [HCC.out, if_neg (fun e => e.elim (fun e => e rfl) h2), if_pos (.inr h4)])
    have t4 : ¬ Q.toList = h.toList := by rw [ByteArray.toList_eq, ByteArray.toList_eq]; exact h4
    have t4b : (Q.toList == h.toList) = false := by rw [beq_eq_false_iff_ne]; exact t4
    clear h2 h3 h4 hE1 hn ha hb
    go_enter Tryz.func22, Tryz.ntmps22
    go_wp2_with fail
    refine (HA.out _ HE0.out).mono ?_
    rintro e w1 ⟨rfl, hb1⟩
    have hp1 := (hb1.block w.heap.size (by have := HSZ.out; omega)).trans HP0.out
    have HB1 := Lib.hid (bstep HB0.out hb1)
    have hs1 : w.heap.size < w1.heap.size := by have := hb1.size; have := HSZ.out; omega
    obtain ⟨o0, o1, o2, -, -, -⟩ := three_facts hp1
    obtain ⟨q0, q1, q2, q3⟩ := box4 w1 (.string P) (.string Q) (.int .i64 a) (.int .i64 b) 46
    clear hp1 hb1 HE0 HP0
    go_wp2_with fail
    go_ret
    exact ⟨by rw [HV.out, HR.out]; rfl, HB1.out.alloc HB1.out.size _⟩
  have t4 : Q.toList = h.toList := by rw [ByteArray.toList_eq, ByteArray.toList_eq]; exact h4
  have HCl := Lib.hid (fun w => ranges_clip a b (f.size : Int) w (by omega) (by omega))
  obtain ⟨K, hK⟩ : ∃ K, clipE a b (f.size : Int) = K := ⟨_, rfl⟩
  have HCK : Hid (C = if K ≠ 0 then 416 else 206) := Lib.hid (by
    rw [HCC.out, if_neg (fun e => e.elim (fun e => e rfl) h2), if_neg (fun e => e.elim (fun e => e h3) (fun e => e h4)), hK])
  rw [hK] at HCl
  generalize clipA a b (f.size : Int) = A at HCl HV
  generalize clipB a b (f.size : Int) = B at HCl HV
  by_cases h5 : K = 0
  case neg =>
    have HR : Hid (C = 416) := Lib.hid (by rw [HCK.out, if_pos h5])
    have tz : ((K : Int) != 0) = true := by rw [bne_iff_ne]; omega
    clear h2 h3 h4 h5 hK hE1 hn ha hb
    go_enter Tryz.func22, Tryz.ntmps22
    go_wp2_with fail
    refine (HA.out _ HE0.out).mono ?_
    rintro e w1 ⟨rfl, hb1⟩
    have hp1 := (hb1.block w.heap.size (by have := HSZ.out; omega)).trans HP0.out
    have HB1 := Lib.hid (bstep HB0.out hb1)
    have hs1 : w.heap.size < w1.heap.size := by have := hb1.size; have := HSZ.out; omega
    obtain ⟨o0, o1, o2, -, -, -⟩ := three_facts hp1
    obtain ⟨q0, q1, q2, q3⟩ := box4 w1 (.string P) (.string Q) (.int .i64 a) (.int .i64 b) 46
    clear hp1 hb1 HE0 HP0
    go_wp2_with fail
    refine (HCl.out _).mono ?_
    rintro e w2 ⟨rfl, hb2⟩
    have HB2 := Lib.hid (bstep HB1.out (bstep (below_agg4 _ _ _ _ _ _) hb2))
    clear hb2
    go_wp2_with fail
    go_ret
    exact ⟨by rw [HV.out, HR.out]; rfl, HB2.out.alloc HB2.out.size _⟩
  subst h5
  have HR : Hid (C = 206) := Lib.hid (by rw [HCK.out, if_neg (fun e => e rfl)])
  clear h2 h3 h4 hK hE1 hn ha hb
  go_enter Tryz.func22, Tryz.ntmps22
  go_wp2_with fail
  refine (HA.out _ HE0.out).mono ?_
  rintro e w1 ⟨rfl, hb1⟩
  have hp1 := (hb1.block w.heap.size (by have := HSZ.out; omega)).trans HP0.out
  have HB1 := Lib.hid (bstep HB0.out hb1)
  have hs1 : w.heap.size < w1.heap.size := by have := hb1.size; have := HSZ.out; omega
  obtain ⟨o0, o1, o2, -, -, -⟩ := three_facts hp1
  obtain ⟨q0, q1, q2, q3⟩ := box4 w1 (.string P) (.string Q) (.int .i64 a) (.int .i64 b) 46
  clear hp1 hb1 HE0 HP0
  go_wp2_with fail
  refine (HCl.out _).mono ?_
  rintro e w2 ⟨rfl, hb2⟩
  have hx : w.heap.size < (w1.alloc (.cells #[.string P, .string Q, .int .i64 a, .int .i64 b] 46)).heap.size := by simp; omega
  have o2' := (hb2.cell (p := ⟨w.heap.size, 2, none⟩) hx).trans (((below_agg4 w1 (.string P) (.string Q) (.int .i64 a) (.int .i64 b) 46).cell (p := ⟨w.heap.size, 2, none⟩) hs1).trans o2)
  have HB2 := Lib.hid (bstep HB1.out (bstep (below_agg4 _ _ _ _ _ _) hb2))
  have hs2 : w.heap.size < w2.heap.size := Nat.lt_of_lt_of_le hx hb2.size
  obtain ⟨k0, k1⟩ := box2 w2 (.int .i64 A) (.int .i64 B) 44
  clear hb2 hx o0 o1 o2 q0 q1 q2 q3
  go_wp2_with fail
  go_ret
  exact ⟨by rw [HV.out, HR.out]; rfl, HB2.out.alloc HB2.out.size _⟩
end Go.Proofs.YtfcomhdgpdbnhaaGreatDoor
namespace Go.Proofs.YtfcomhdgpdbnhaaGreatDoor
open Go.RowKit
/-- what is answered with bytes -/
theorem org_part (h p f : List UInt8) (s : ByteArray) (hc : orgC h p f s = 206) (hf : f.length ≤ 1000000) : 0 ≤ orgA f s ∧ orgA f s ≤ orgB f s ∧ orgB f s < (f.length : Int) ∧ orgF h p f s = [(crangeK, toldL (orgA f s) (orgB f s) (f.length : Int))] ∧ orgY h p f s = (f.take (orgB f s + 1).toNat).drop (orgA f s).toNat := by
  obtain ⟨-, -, -, -, h5⟩ := orgC_206 h p f s hc
  obtain ⟨q1, q2, q3, q4⟩ := clip_ok _ _ _ h5
  obtain ⟨r1, r2, r3⟩ := rErr_ok _ _ q1
  unfold orgA orgB orgF orgY
  rw [q3, q4, if_pos hc, if_pos hc]
  unfold orgA orgB
  rw [q3, q4]
  refine ⟨r1, ?_, ?_, rfl, rfl⟩ <;> split <;> omega
theorem meth_refusal (v : Value) (w : World) : (Go.method 376 98 v "gazetteer/origin.reply").run Tryz.prog w = .ok (202, v) w := by kernel_rfl
theorem meth_part (v : Value) (w : World) : (Go.method 376 102 v "gazetteer/origin.reply").run Tryz.prog w = .ok (203, v) w := by kernel_rfl
theorem field_code (c : Int) (y z : Value) (w : World) : (Instr.field 37 (.agg #[.int .i64 c, y, z]) 0).run Tryz.prog w = .ok (.int .i64 c) w := by kernel_rfl
set_option maxRecDepth 100000 in
set_option maxHeartbeats 4000000 in
theorem origin_answer (h p f s : ByteArray) (w : World) (hE : EnvF w) (hs : s.size ≤ 1000000) (hf : f.size ≤ 1000000) :
    Calls Tryz.prog 10 #[.agg #[.string h, .string p, .string f], .string s] w fun e w' => e = .returned (.string (bs (orgS h.data.toList p.data.toList f.data.toList s))) ∧ Below w.heap.size w w' := by
  have HC := Lib.hid (fun w => origin_check h p f w)
  have HS := Lib.hid (fun w hE => origin_sort h p f s w hE hs hf)
  have hB0 := below_o3 w (.string h) (.string p) (.string f)
  have HE0 := Lib.hid (hE.below hB0)
  have HB0 := Lib.hid hB0
  have HP0 := Lib.hid (heap_alloc_new w (.cells #[.string h, .string p, .string f] 26))
  have hsz : (w.alloc (.cells #[.string h, .string p, .string f] 26)).heap.size = w.heap.size + 1 := by simp
  have HSZ := Lib.hid hsz
  obtain ⟨o0, o1, o2, -, -, -⟩ := three_facts HP0.out
  clear hE hB0 hsz
  by_cases he : orgE h.data.toList p.data.toList = 0
  case neg =>
    have HR : Hid (orgS h.data.toList p.data.toList f.data.toList s = []) := Lib.hid (by unfold orgS; rw [if_neg he])
    have tz : ((orgE h.data.toList p.data.toList : Int) != 0) = true := by rw [bne_iff_ne]; omega
    generalize orgE h.data.toList p.data.toList = E at HC tz
    clear he
    go_enter Tryz.func10, Tryz.ntmps10
    go_wp2_with fail
    refine (HC.out _).mono ?_
    rintro e w1 ⟨rfl, hb1⟩
    go_wp2_with fail
    go_ret
    exact ⟨by rw [HR.out]; rfl, bstep HB0.out hb1⟩
  rw [he] at HC
  by_cases hc : orgC h.data.toList p.data.toList f.data.toList s = 206
  · have hV : sortV h p f s = .iface 102 (.agg #[.int .i64 (orgA f.data.toList s), .int .i64 (orgB f.data.toList s), .string f]) := if_pos hc
    rw [hV] at HS
    obtain ⟨g1, g2, g3, g4, g5⟩ := org_part h.data.toList p.data.toList f.data.toList s hc (by rw [size_len]; exact hf)
    have HR : Hid (orgS h.data.toList p.data.toList f.data.toList s = repS 206 (orgF h.data.toList p.data.toList f.data.toList s) (orgY h.data.toList p.data.toList f.data.toList s)) := Lib.hid (by unfold orgS; rw [if_pos he, hc])
    rw [size_len] at g3 g4
    have hex : bs (orgY h.data.toList p.data.toList f.data.toList s) = f.extract (orgA f.data.toList s).toNat (orgB f.data.toList s + 1).toNat := by rw [extract_bs, g5]
    have hYl := orgY_len h.data.toList p.data.toList f.data.toList s
    rw [size_len] at hYl
    generalize orgY h.data.toList p.data.toList f.data.toList s = Y at HR g5 hex hYl
    have HPa := Lib.hid (fun W hE => part_reply (orgA f.data.toList s) (orgB f.data.toList s) f W hE g1 g2 g3 hf)
    rw [← g4, ← hex] at HPa
    have hFb : ∀ x ∈ orgF h.data.toList p.data.toList f.data.toList s, x.1.length ≤ 1000000 ∧ x.2.length ≤ 1000000 := by
      rw [g4]
      intro x hx
      obtain rfl := List.mem_singleton.1 hx
      exact ⟨by show crangeK.length ≤ 1000000; decide, Nat.le_trans (toldL_len _ _ _) (by decide)⟩
    have hFl : (orgF h.data.toList p.data.toList f.data.toList s).length ≤ 1000000 := by rw [g4]; show 1 ≤ 1000000; decide
    generalize orgF h.data.toList p.data.toList f.data.toList s = F at HR HPa g4 hFb hFl
    generalize orgA f.data.toList s = A at HS HPa
    generalize orgB f.data.toList s = B at HS HPa
    have HPr := Lib.hid (fun W fv BB hE hO => reply_print 206 fv F (bs Y) BB W hE (by decide) (by decide) hO hFl hFb (by rw [bs_size]; omega))
    rw [bs_data] at HPr
    unfold RPost at HPr
    unfold PartPost at HPa
    generalize bs Y = YB at HPa HPr
    have hm := meth_part
    clear hV hc he g1 g2 g3 g4 g5 hex hYl hFb hFl
    go_enter Tryz.func10, Tryz.ntmps10
    go_wp2_with fail
    refine (HC.out _).mono ?_
    rintro e w1 ⟨rfl, hb1⟩
    have hp1 := (hb1.block w.heap.size (by have := HSZ.out; omega)).trans HP0.out
    have HB1 := Lib.hid (bstep HB0.out hb1)
    have HE1 := Lib.hid (HE0.out.below hb1)
    clear hb1 o0 o1 o2
    obtain ⟨o0, o1, o2, -, -, -⟩ := three_facts hp1
    clear hp1
    go_wp2_with fail
    refine (HS.out _ HE1.out).mono ?_
    rintro e w2 ⟨rfl, hb2⟩
    have HB2 := Lib.hid (bstep HB1.out hb2)
    have HE2 := Lib.hid (HE1.out.below hb2)
    clear hb2 o0 o1 o2
    go_wp2_with fail
    refine (HPa.out _ HE2.out).mono ?_
    rintro e w3 ⟨a3, c3, rfl, ⟨BB, hO⟩, hb3⟩
    have HB3 := Lib.hid (bstep HB2.out hb3)
    have HE3 := Lib.hid (HE2.out.below hb3)
    have HO := Lib.hid hO
    clear hb3 hO
    go_wp2_with fail
    refine (HPr.out _ _ _ HE3.out HO.out).mono ?_
    rintro e w4 ⟨rfl, hb4⟩
    go_wp2_with fail
    go_ret
    exact ⟨by rw [HR.out]; rfl, bstep HB3.out hb4⟩
  · have hV : sortV h p f s = .iface 98 (.int .i64 (orgC h.data.toList p.data.toList f.data.toList s)) := if_neg hc
    rw [hV] at HS
    obtain ⟨e1, e2⟩ := orgF_other h.data.toList p.data.toList f.data.toList s hc
    have HR : Hid (orgS h.data.toList p.data.toList f.data.toList s = repS (orgC h.data.toList p.data.toList f.data.toList s) [] []) := Lib.hid (by unfold orgS; rw [if_pos he, e1, e2])
    have hc4 := orgC_four h.data.toList p.data.toList f.data.toList s
    generalize orgC h.data.toList p.data.toList f.data.toList s = C at HS HR hc hc4
    have HPr := Lib.hid (fun W hE => reply_print C (.slice none 0 0) [] ⟨#[]⟩ 0 W hE (by omega) (by omega) (nil_own W) (by decide) (fun f hf => by simp at hf) (by decide))
    have HRe := Lib.hid (fun W => refusal_reply C W)
    have hm := meth_refusal
    unfold RPost at HPr
    clear hV e1 e2 hc hc4 he
    go_enter Tryz.func10, Tryz.ntmps10
    go_wp2_with fail
    refine (HC.out _).mono ?_
    rintro e w1 ⟨rfl, hb1⟩
    have hp1 := (hb1.block w.heap.size (by have := HSZ.out; omega)).trans HP0.out
    have HB1 := Lib.hid (bstep HB0.out hb1)
    have HE1 := Lib.hid (HE0.out.below hb1)
    clear hb1 o0 o1 o2
    obtain ⟨o0, o1, o2, -, -, -⟩ := three_facts hp1
    clear hp1
    go_wp2_with fail
    refine (HS.out _ HE1.out).mono ?_
    rintro e w2 ⟨rfl, hb2⟩
    have HB2 := Lib.hid (bstep HB1.out hb2)
    have HE2 := Lib.hid (HE1.out.below hb2)
    clear hb2 o0 o1 o2
    go_wp2_with fail
    refine (HRe.out _).mono ?_
    rintro e w3 ⟨rfl, hb3⟩
    have HB3 := Lib.hid (bstep HB2.out hb3)
    have HE3 := Lib.hid (HE2.out.below hb3)
    clear hb3
    go_wp2_with fail
    refine (HPr.out _ HE3.out).mono ?_
    rintro e w4 ⟨rfl, hb4⟩
    go_wp2_with fail
    go_ret
    exact ⟨by rw [HR.out]; rfl, bstep HB3.out hb4⟩
set_option maxRecDepth 100000 in
set_option maxHeartbeats 4000000 in
theorem origin_code (h p f s : ByteArray) (w : World) (hE : EnvF w) (hs : s.size ≤ 1000000) (hf : f.size ≤ 1000000) :
    Calls Tryz.prog 12 #[.agg #[.string h, .string p, .string f], .string s] w fun e w' => e = .returned (.int .i64 (orgK h.data.toList p.data.toList f.data.toList s)) ∧ Below w.heap.size w w' := by
  have HC := Lib.hid (fun w => origin_check h p f w)
  have HS := Lib.hid (fun w hE => origin_sort h p f s w hE hs hf)
  have hB0 := below_o3 w (.string h) (.string p) (.string f)
  have HE0 := Lib.hid (hE.below hB0)
  have HB0 := Lib.hid hB0
  have HP0 := Lib.hid (heap_alloc_new w (.cells #[.string h, .string p, .string f] 26))
  have hsz : (w.alloc (.cells #[.string h, .string p, .string f] 26)).heap.size = w.heap.size + 1 := by simp
  have HSZ := Lib.hid hsz
  obtain ⟨o0, o1, o2, -, -, -⟩ := three_facts HP0.out
  clear hE hB0 hsz
  by_cases he : orgE h.data.toList p.data.toList = 0
  case neg =>
    have HR : Hid (orgK h.data.toList p.data.toList f.data.toList s = 0) := Lib.hid (by unfold orgK; rw [if_neg he])
    have tz : ((orgE h.data.toList p.data.toList : Int) != 0) = true := by rw [bne_iff_ne]; omega
    generalize orgE h.data.toList p.data.toList = E at HC tz
    clear he
    go_enter Tryz.func12, Tryz.ntmps12
    go_wp2_with fail
    refine (HC.out _).mono ?_
    rintro e w1 ⟨rfl, hb1⟩
    go_wp2_with fail
    go_ret
    exact ⟨by rw [HR.out]; rfl, bstep HB0.out hb1⟩
  rw [he] at HC
  by_cases hc : orgC h.data.toList p.data.toList f.data.toList s = 206
  · have hV : sortV h p f s = .iface 102 (.agg #[.int .i64 (orgA f.data.toList s), .int .i64 (orgB f.data.toList s), .string f]) := if_pos hc
    rw [hV] at HS
    obtain ⟨g1, g2, g3, g4, g5⟩ := org_part h.data.toList p.data.toList f.data.toList s hc (by rw [size_len]; exact hf)
    have HR : Hid (orgK h.data.toList p.data.toList f.data.toList s = 206) := Lib.hid (by unfold orgK; rw [if_pos he, hc])
    rw [size_len] at g3 g4
    have hex : bs (orgY h.data.toList p.data.toList f.data.toList s) = f.extract (orgA f.data.toList s).toNat (orgB f.data.toList s + 1).toNat := by rw [extract_bs, g5]
    have hYl := orgY_len h.data.toList p.data.toList f.data.toList s
    rw [size_len] at hYl
    generalize orgY h.data.toList p.data.toList f.data.toList s = Y at g5 hex hYl
    have HPa := Lib.hid (fun W hE => part_reply (orgA f.data.toList s) (orgB f.data.toList s) f W hE g1 g2 g3 hf)
    rw [← g4, ← hex] at HPa
    have hFb : ∀ x ∈ orgF h.data.toList p.data.toList f.data.toList s, x.1.length ≤ 1000000 ∧ x.2.length ≤ 1000000 := by
      rw [g4]
      intro x hx
      obtain rfl := List.mem_singleton.1 hx
      exact ⟨by show crangeK.length ≤ 1000000; decide, Nat.le_trans (toldL_len _ _ _) (by decide)⟩
    have hFl : (orgF h.data.toList p.data.toList f.data.toList s).length ≤ 1000000 := by rw [g4]; show 1 ≤ 1000000; decide
    generalize orgF h.data.toList p.data.toList f.data.toList s = F at HPa g4 hFb hFl
    generalize orgA f.data.toList s = A at HS HPa
    generalize orgB f.data.toList s = B at HS HPa
    unfold PartPost at HPa
    generalize bs Y = YB at HPa
    have hm := meth_part
    have hfc := field_code
    clear hV hc he g1 g2 g3 g4 g5 hex hYl hFb hFl
    go_enter Tryz.func12, Tryz.ntmps12
    go_wp2_with fail
    refine (HC.out _).mono ?_
    rintro e w1 ⟨rfl, hb1⟩
    have hp1 := (hb1.block w.heap.size (by have := HSZ.out; omega)).trans HP0.out
    have HB1 := Lib.hid (bstep HB0.out hb1)
    have HE1 := Lib.hid (HE0.out.below hb1)
    clear hb1 o0 o1 o2
    obtain ⟨o0, o1, o2, -, -, -⟩ := three_facts hp1
    clear hp1
    go_wp2_with fail
    refine (HS.out _ HE1.out).mono ?_
    rintro e w2 ⟨rfl, hb2⟩
    have HB2 := Lib.hid (bstep HB1.out hb2)
    have HE2 := Lib.hid (HE1.out.below hb2)
    clear hb2 o0 o1 o2
    go_wp2_with fail
    refine (HPa.out _ HE2.out).mono ?_
    rintro e w3 ⟨a3, c3, rfl, -, hb3⟩
    have HB3 := Lib.hid (bstep HB2.out hb3)
    clear hb3
    go_wp2_with fail
    go_ret
    exact ⟨by rw [HR.out]; rfl, HB3.out⟩
  · have hV : sortV h p f s = .iface 98 (.int .i64 (orgC h.data.toList p.data.toList f.data.toList s)) := if_neg hc
    rw [hV] at HS
    obtain ⟨e1, e2⟩ := orgF_other h.data.toList p.data.toList f.data.toList s hc
    have HR : Hid (orgK h.data.toList p.data.toList f.data.toList s = orgC h.data.toList p.data.toList f.data.toList s) := Lib.hid (by unfold orgK; rw [if_pos he])
    have hc4 := orgC_four h.data.toList p.data.toList f.data.toList s
    generalize orgC h.data.toList p.data.toList f.data.toList s = C at HS HR hc hc4
    have HRe := Lib.hid (fun W => refusal_reply C W)
    have hm := meth_refusal
    have hfc := field_code
    clear hV e1 e2 hc hc4 he
    go_enter Tryz.func12, Tryz.ntmps12
    go_wp2_with fail
    refine (HC.out _).mono ?_
    rintro e w1 ⟨rfl, hb1⟩
    have hp1 := (hb1.block w.heap.size (by have := HSZ.out; omega)).trans HP0.out
    have HB1 := Lib.hid (bstep HB0.out hb1)
    have HE1 := Lib.hid (HE0.out.below hb1)
    clear hb1 o0 o1 o2
    obtain ⟨o0, o1, o2, -, -, -⟩ := three_facts hp1
    clear hp1
    go_wp2_with fail
    refine (HS.out _ HE1.out).mono ?_
    rintro e w2 ⟨rfl, hb2⟩
    have HB2 := Lib.hid (bstep HB1.out hb2)
    have HE2 := Lib.hid (HE1.out.below hb2)
    clear hb2 o0 o1 o2
    go_wp2_with fail
    refine (HRe.out _).mono ?_
    rintro e w3 ⟨rfl, hb3⟩
    have HB3 := Lib.hid (bstep HB2.out hb3)
    clear hb3
    go_wp2_with fail
    go_ret
    exact ⟨by rw [HR.out]; rfl, HB3.out⟩
end Go.Proofs.YtfcomhdgpdbnhaaGreatDoor
