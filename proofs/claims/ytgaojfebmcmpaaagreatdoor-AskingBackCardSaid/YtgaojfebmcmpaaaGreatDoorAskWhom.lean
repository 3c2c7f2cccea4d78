/- What whom and what of package asking return. -/
import Derived.Test.YtgaojfebmcmpaaaGreatDoorAskNamed
namespace Go.Proofs.YtgaojfebmcmpaaaGreatDoor
open Go.RowKit

def hostK : List UInt8 := [104, 111, 115, 116]
def rangeK : List UInt8 := [114, 97, 110, 103, 101]
def whoE (fs : List (List UInt8 × List UInt8)) : Nat := if getE fs hostK ≠ 0 then getE fs hostK else if hostB (getS fs hostK) = false then 2 else 0
def whatE (fs : List (List UInt8 × List UInt8)) : Nat := if getE fs rangeK ≠ 0 then getE fs rangeK else askedE (getS fs rangeK)
def WhomPost (R : Nat) (w : World) (lv fv p a b : Value) (fs : List (List UInt8 × List UInt8)) (e : Ending) (w' : World) : Prop :=
  e = .returned (.int .i64 (whoE fs : Nat)) ∧ RdB w' R lv fv p (.string (bs (getS fs hostK))) a b ∧ w.grownBy w' (some R)
def WhatPost (R : Nat) (w : World) (lv fv p h : Value) (fs : List (List UInt8 × List UInt8)) (e : Ending) (w' : World) : Prop :=
  e = .returned (.int .i64 (whatE fs : Nat)) ∧ (∃ a b, RdB w' R lv fv p h a b ∧ (whatE fs = 0 → a = .int .i64 (askedA (getS fs rangeK)) ∧ b = .int .i64 (askedB (getS fs rangeK)))) ∧ w.grownBy w' (some R)
theorem get_k (v : Value) (fs : List (List UInt8 × List UInt8)) (n : ByteArray) (k : List UInt8) (hk : n.data.toList = k) (w : World) (hv : HoldsF w v fs) (hlen : fs.length ≤ 1000000) :
    Calls Tryz.prog 41 #[v, .string n] w fun e w' => e = .returned (.tuple #[.string (bs (getS fs k)), .int .i64 (getE fs k)]) ∧ Below w.heap.size w w' := by
  subst hk; exact fields_get v fs n w hv hlen
set_option maxRecDepth 100000 in
set_option maxHeartbeats 2000000 in
theorem ask_whom (R : Nat) (w : World) (lv fv p a b : Value) (h0 : ByteArray) (fs : List (List UInt8 × List UInt8)) (hR : RdB w R lv fv p (.string h0) a b) (hf : HoldsF w fv fs) (hlen : fs.length ≤ 1000000) :
    Calls Tryz.prog 61 #[.pointer (some ⟨R, 0, none⟩)] w (WhomPost R w lv fv p a b fs) := by
  obtain ⟨-, k1, -, -, -, -⟩ := hR.cells
  have HG := Lib.hid (get_k fv fs ⟨#[104, 111, 115, 116]⟩ hostK rfl w hf hlen)
  obtain ⟨H, hH⟩ : ∃ H, bs (getS fs hostK) = H := ⟨_, rfl⟩
  have hHd : H.data.toList = getS fs hostK := by rw [← hH, bs_data]
  have HH := Lib.hid (fun w => asking_host H w)
  rw [hHd] at HH
  rw [hH] at HG
  have HHH := Lib.hid hH
  have HR := Lib.hid hR
  have hRl := hR.lt
  clear hR hf hH hHd
  by_cases hg : getE fs hostK = 0
  · rw [hg] at HG
    cases hb : hostB (getS fs hostK) with
    | false =>
      rw [hb] at HH
      have HE : Hid (whoE fs = 2) := Lib.hid (by unfold whoE; rw [if_neg (fun h => h hg), if_pos hb])
      clear hg hb
      go_enter Tryz.func61, Tryz.ntmps61
      go_wp2_with fail
      refine HG.out.mono ?_
      rintro e w1 ⟨rfl, hb1⟩
      have HR1 := Lib.hid (HR.out.below hb1)
      obtain ⟨-, -, -, k3, -, -⟩ := HR1.out.cells
      obtain ⟨-, -, -, f3, -, -⟩ := HR1.out.free
      have HB1 := Lib.hid hb1
      clear hb1 k1
      go_wp2_with fail
      have HR2 := Lib.hid (HR1.out.set3 (.string H))
      have HB2 := Lib.hid (((GR.refl R w).below HB1.out).set 3 (.string H))
      generalize w1.setCell ⟨R, 3, none⟩ (.string H) = w2 at HR2 HB2 ⊢
      refine (HH.out _).mono ?_
      rintro e w3 ⟨rfl, hb3⟩
      go_wp2_with fail
      go_ret
      exact ⟨by rw [HE.out]; rfl, by rw [HHH.out]; exact HR2.out.below hb3, HB2.out.below hb3⟩
    | true =>
      rw [hb] at HH
      have HE : Hid (whoE fs = 0) := Lib.hid (by unfold whoE; rw [if_neg (fun h => h hg), if_neg (by rw [hb]; decide)])
      clear hg hb
      go_enter Tryz.func61, Tryz.ntmps61
      go_wp2_with fail
      refine HG.out.mono ?_
      rintro e w1 ⟨rfl, hb1⟩
      have HR1 := Lib.hid (HR.out.below hb1)
      obtain ⟨-, -, -, k3, -, -⟩ := HR1.out.cells
      obtain ⟨-, -, -, f3, -, -⟩ := HR1.out.free
      have HB1 := Lib.hid hb1
      clear hb1 k1
      go_wp2_with fail
      have HR2 := Lib.hid (HR1.out.set3 (.string H))
      have HB2 := Lib.hid (((GR.refl R w).below HB1.out).set 3 (.string H))
      generalize w1.setCell ⟨R, 3, none⟩ (.string H) = w2 at HR2 HB2 ⊢
      refine (HH.out _).mono ?_
      rintro e w3 ⟨rfl, hb3⟩
      go_wp2_with fail
      go_ret
      exact ⟨by rw [HE.out]; rfl, by rw [HHH.out]; exact HR2.out.below hb3, HB2.out.below hb3⟩
  · have HE : Hid (whoE fs = getE fs hostK) := Lib.hid (by unfold whoE; rw [if_pos hg])
    have tz : ((getE fs hostK : Int) != 0) = true := by rw [bne_iff_ne]; omega
    generalize getE fs hostK = Z at HG HE tz
    clear hg
    go_enter Tryz.func61, Tryz.ntmps61
    go_wp2_with fail
    refine HG.out.mono ?_
    rintro e w1 ⟨rfl, hb1⟩
    have HR1 := Lib.hid (HR.out.below hb1)
    obtain ⟨-, -, -, k3, -, -⟩ := HR1.out.cells
    obtain ⟨-, -, -, f3, -, -⟩ := HR1.out.free
    have HB1 := Lib.hid hb1
    clear hb1 k1
    go_wp2_with fail
    go_ret
    exact ⟨by rw [HE.out]; rfl, by rw [HHH.out]; exact HR1.out.set3 _, ((GR.refl R w).below HB1.out).set 3 _⟩
set_option maxRecDepth 100000 in
set_option maxHeartbeats 2000000 in
theorem ask_what (R : Nat) (w : World) (lv fv p h : Value) (a0 b0 : Int) (fs : List (List UInt8 × List UInt8)) (hR : RdB w R lv fv p h (.int .i64 a0) (.int .i64 b0)) (hf : HoldsF w fv fs) (hlen : fs.length ≤ 1000000) (hs : (getS fs rangeK).length ≤ 1000000) (hA : Anchor R w) :
    Calls Tryz.prog 62 #[.pointer (some ⟨R, 0, none⟩)] w (WhatPost R w lv fv p h fs) := by
  obtain ⟨-, k1, -, -, -, -⟩ := hR.cells
  have HG := Lib.hid (get_k fv fs ⟨#[114, 97, 110, 103, 101]⟩ rangeK rfl w hf hlen)
  obtain ⟨H, hH⟩ : ∃ H, bs (getS fs rangeK) = H := ⟨_, rfl⟩
  have hHd : H.data.toList = getS fs rangeK := by rw [← hH, bs_data]
  have HH := Lib.hid (fun w hE => ranges_asked H w (by rw [← hH, bs_size]; exact hs) hE)
  rw [hHd] at HH
  rw [hH] at HG
  have HR := Lib.hid hR
  have HE := Lib.hid hA.env
  have hRl := hR.lt
  clear hR hf hH hHd hs hA
  by_cases hg : getE fs rangeK = 0
  · rw [hg] at HG
    have HW : Hid (whatE fs = askedE (getS fs rangeK)) := Lib.hid (by unfold whatE; rw [if_neg (fun h => h hg)])
    clear hg
    go_enter Tryz.func62, Tryz.ntmps62
    go_wp2_with fail
    refine HG.out.mono ?_
    rintro e w1 ⟨rfl, hb1⟩
    have HR1 := Lib.hid (HR.out.below hb1)
    have HB1 := Lib.hid hb1
    have HE1 := Lib.hid (HE.out.below hb1)
    clear hb1 k1
    go_wp2_with fail
    refine (HH.out _ HE1.out).mono ?_
    rintro e w2 ⟨rfl, hb2⟩
    have HR2 := Lib.hid (HR1.out.below hb2)
    obtain ⟨-, -, -, -, k4, k5⟩ := HR2.out.cells
    obtain ⟨-, -, -, -, f4, f5⟩ := HR2.out.free
    have HB2 := Lib.hid (bstep HB1.out hb2)
    clear hb2
    go_wp2_with fail
    go_ret
    exact ⟨by rw [HW.out]; rfl, ⟨_, _, HR2.out.set45 _ _, fun _ => ⟨rfl, rfl⟩⟩, (((GR.refl R w).below HB2.out).set 4 _).set 5 _⟩
  · have HW : Hid (whatE fs = getE fs rangeK ∧ whatE fs ≠ 0) := Lib.hid (by unfold whatE; rw [if_pos hg]; exact ⟨rfl, hg⟩)
    have tz : ((getE fs rangeK : Int) != 0) = true := by rw [bne_iff_ne]; omega
    generalize getE fs rangeK = Z at HG HW tz
    clear hg
    go_enter Tryz.func62, Tryz.ntmps62
    go_wp2_with fail
    refine HG.out.mono ?_
    rintro e w1 ⟨rfl, hb1⟩
    have HR1 := Lib.hid (HR.out.below hb1)
    have HB1 := Lib.hid hb1
    clear hb1 k1
    go_wp2_with fail
    go_ret
    exact ⟨by rw [HW.out.1]; rfl, ⟨_, _, HR1.out, fun h => absurd h HW.out.2⟩, (GR.refl R w).below HB1.out⟩
end Go.Proofs.YtgaojfebmcmpaaaGreatDoor
