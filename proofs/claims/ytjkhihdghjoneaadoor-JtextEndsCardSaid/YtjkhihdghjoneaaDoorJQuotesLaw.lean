/- The law function JtextQuotes. -/
import Derived.Test.YtjkhihdghjoneaaDoorJRefWalk3
import Derived.Test.YtjkhihdghjoneaaDoorJAwake
namespace Go.Proofs.YtjkhihdghjoneaaDoor
open Go.RowKit Go.Lib

set_option maxRecDepth 100000 in
set_option maxHeartbeats 2000000 in
theorem jtextQuotes_walk (s : ByteArray) (w : World) (hU : U8 w) (hs : s.size ≤ 9223372036854775807) :
    Calls Tryd.prog 3 #[.string s] w fun e w' => e = .returned (.bool true) ∧ Below w.heap.size w w' := by
  have HU := Lib.hid hU
  clear hU
  by_cases h1 : (300 : Int) < (s.size : Int)
  · go_enter Tryd.func3, Tryd.ntmps3
    go_wp2_with fail
    refine (awake16 _ HU.out).mono ?_
    rintro e w1 ⟨rfl, hb⟩
    go_wp2_with fail
    go_ret
    exact ⟨rfl, hb⟩
  have cQ := Lib.hid (fun w (hu : U8 w) => quote s w (by omega) hu)
  have cR := Lib.hid (fun w => ref_quote s w (by omega))
  have cC := Lib.hid (fun w (hu : U8 w) => count s w (by omega) hu)
  have cD := Lib.hid (fun w => ref_count s w (by omega))
  have cV := Lib.hid (fun w (hu : U8 w) => valid s w (by omega) hu)
  generalize bs (if valR s.data.toList = true then quoL s.data.toList else []) = Q at cQ cR
  have hE : ∃ E : Int, (if valR s.data.toList = true then (0 : Int) else 4) = E := ⟨_, rfl⟩
  obtain ⟨E, hE⟩ := hE
  rw [hE] at cQ cR
  have hcv : decide (cntR s.data.toList ≥ 0) = valR s.data.toList := by
    unfold cntR; cases valR s.data.toList
    · rfl
    · simp
  obtain ⟨C, hC⟩ : ∃ C, cntR s.data.toList = C := ⟨_, rfl⟩
  rw [hC] at cC cD hcv
  obtain ⟨V, hV⟩ : ∃ V, valR s.data.toList = V := ⟨_, rfl⟩
  rw [hV] at cV hcv
  rw [← hcv] at cV
  clear hE hC hV hcv
  cases hd : decide (C ≥ 0)
  all_goals
    rw [hd] at cV
    go_enter Tryd.func3, Tryd.ntmps3
    go_wp2_with fail
    refine (cQ.out _ HU.out).mono ?_
    rintro e w1 ⟨rfl, hb1⟩
    have HU1 := Lib.hid (HU.out.below hb1)
    go_wp2_with fail
    refine (cR.out _).mono ?_
    rintro e w2 ⟨rfl, hb2⟩
    have HU2 := Lib.hid (HU1.out.below hb2)
    go_wp2_with fail
    refine (cC.out _ HU2.out).mono ?_
    rintro e w3 ⟨rfl, hb3⟩
    have HU3 := Lib.hid (HU2.out.below hb3)
    go_wp2_with fail
    refine (cD.out _).mono ?_
    rintro e w4 ⟨rfl, hb4⟩
    have HU4 := Lib.hid (HU3.out.below hb4)
    go_wp2_with fail
    refine (cV.out _ HU4.out).mono ?_
    rintro e w5 ⟨rfl, hb5⟩
    have HU5 := Lib.hid (HU4.out.below hb5)
    go_wp2_with fail
    refine (cD.out _).mono ?_
    rintro e w6 ⟨rfl, hb6⟩
    have HU6 := Lib.hid (HU5.out.below hb6)
    go_wp2_with fail
    refine (awake16 _ HU6.out).mono ?_
    rintro e w7 ⟨rfl, hb7⟩
    go_wp2_with fail
    go_ret
    exact ⟨rfl, bstep hb1 (bstep hb2 (bstep hb3 (bstep hb4 (bstep hb5 (bstep hb6 hb7)))))⟩
end Go.Proofs.YtjkhihdghjoneaaDoor
