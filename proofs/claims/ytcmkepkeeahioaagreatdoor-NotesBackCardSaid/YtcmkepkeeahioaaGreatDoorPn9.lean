/- The law NotesEnds returns true. The law function NotesEnds, as the row's proof takes it. How long the JSON of what is taken is: plain words. The law NotesBack returns true (printed by wip/genback17.py). The law function NotesBack, as the row's proof takes it. -/
import Derived.Test.YtcmkepkeeahioaaGreatDoorPn8
set_option linter.unusedVariables false
set_option linter.unusedSimpArgs false
namespace Go.Proofs.YtcmkepkeeahioaaGreatDoor
open Go.RowKit
/-- Take at a text -/
theorem take_is (X : ByteArray) (a b : Nat) (h : (takeV X.data.toList).2 = (a, b)) (W : World) (hE : NEnv W) (hX : X.size ≤ 1000000) :
    Calls Tryz.prog 20 #[.string X] W fun e w' => ∃ x, e = .returned (.tuple #[x, .int .i64 (a : Nat), .int .i64 (b : Nat)]) ∧ Below W.heap.size W w' := by
  refine (n_take X W hE hX).mono ?_
  rintro e w' ⟨x, h1, h2, -, -⟩
  rw [h] at h1
  exact ⟨x, h1, h2⟩
set_option maxRecDepth 100000 in
set_option maxHeartbeats 8000000 in
theorem notesEnds_walk (v : ND) (cut : Nat) (c : UInt8) (x0 x1 x2 x3 x4 : Value) (w : World) (hv : NAt w v x0 x1 x2 x3 x4) (hw : wfN v) (hcut : cut ≤ 65535) (hE : NEnv w) :
    Calls Tryz.prog 5 #[.agg #[x0, x1, x2, x3, x4], .int .u16 (cut : Int), .int .u8 (c.toNat : Int)] w fun e w' => e = .returned (.bool true) ∧ Below w.heap.size w w' := by
  have hNB := NB.new w x0 x1 x2 x3 x4 25
  have HNB := Lib.hid hNB
  have HL := Lib.hid (ref_light v x0 x1 x2 x3 x4 200 _ (hv.below hNB.b) hw (by decide) (by decide))
  have HE : Hid (∀ W, Below w.heap.size w W → NEnv W) := Lib.hid (fun W hW => hE.below hW)
  have HAW : Hid (∀ W, Below w.heap.size w W → Calls Tryz.prog 7 #[] W fun e w' => e = .returned (.bool true) ∧ Below W.heap.size W w') := Lib.hid (fun W hW => law_awake W (hE.below hW))
  obtain ⟨b0, lt0, c0, c1, c2, c3, c4⟩ := hNB
  clear b0
  by_cases hlight : weighN v 200 ≥ 0
  case neg =>
    rw [decide_eq_false hlight] at HL
    clear hv hw hE hlight
    go_enter Tryz.func5, Tryz.ntmps5
    go_wp2_with fail
    refine HL.out.mono ?_
    rintro e w1 ⟨rfl, hb1⟩
    have HB1 := Lib.hid (bstep HNB.out.b hb1)
    clear hb1
    go_wp2_with fail
    refine (HAW.out _ HB1.out).mono ?_
    rintro e w2 ⟨rfl, hb2⟩
    have HB2 := Lib.hid (bstep HB1.out hb2)
    clear hb2
    go_wp2_with fail
    go_ret
    exact ⟨rfl, HB2.out⟩
  rw [decide_eq_true hlight] at HL
  obtain ⟨hg, hz⟩ := light_good v hlight
  have hsm := small_of v hg hz hw
  have hjs := json_of v hg hz
  have HOWN : Hid (∀ W, Below w.heap.size w W → Calls Tryz.prog 8 #[.agg #[x0, x1, x2, x3, x4]] W fun e w' => ∃ y S, e = .returned y ∧ AV S w' (valN v) y ∧ (∀ i, S i → i < w'.heap.size) ∧ Below W.heap.size W w') := Lib.hid (fun W hW => (own_of v x0 x1 x2 x3 x4 W (hv.below hW) hg hz hw).mono (fun e w' ⟨y, S, h1, h2, h3, h4⟩ => ⟨y, S, h1, h2, fun i hi => (h3 i hi).2, h4⟩))
  have HPUT : Hid (∀ (S : Nat → Prop) x W, Below w.heap.size w W → AV S W (valN v) x → (∀ i, S i → i < W.heap.size) → Calls Tryz.prog 9 #[x] W fun e w' => e = .returned (.tuple #[.string (bs (putT (valN v))), .int .i64 (putF (valN v) : Nat)]) ∧ Below W.heap.size W w') := Lib.hid (fun S x W hW hx hS => n_Put (valN v) x W S hsm hx hS (hE.below hW) (fun h => by have := hjs h; omega))
  cases v with
  | mk k n s names kids =>
  have hk0 : x0 = .int .u8 k := by rw [NAt] at hv; exact hv.1
  subst hk0
  by_cases hk5 : k < 5
  · have t5 : decide (k < 5) = true := decide_eq_true hk5
    clear hv hw hE hlight hg hz hsm hjs
    go_enter Tryz.func5, Tryz.ntmps5
    go_wp2_with fail
    refine HL.out.mono ?_
    rintro e w1 ⟨rfl, hb1⟩
    have HB1 := Lib.hid (bstep HNB.out.b hb1)
    obtain ⟨-, lt1, a0, a1, a2, a3, a4⟩ := HNB.out.below hb1
    clear hb1
    go_wp2_with fail
    refine (HAW.out _ HB1.out).mono ?_
    rintro e w2 ⟨rfl, hb2⟩
    have HB2 := Lib.hid (bstep HB1.out hb2)
    clear hb2
    go_wp2_with fail
    go_ret
    exact ⟨rfl, HB2.out⟩
  have t5 : decide (k < 5) = false := decide_eq_false hk5
  have hkv := kind_val k n s names kids (by omega)
  generalize valN (.mk k n s names kids) = J at HPUT HOWN hsm hjs hkv
  clear hv hw hlight hg hz hsm hk5
  by_cases hf : putF J = 0
  case neg =>
    rw [putF_some hf] at HPUT
    generalize putF J = F at HPUT hf
    have tf : ((F : Int) != 0) = true := by rw [bne_iff_ne]; omega
    have tf2 : ((F : Int) == 0) = false := by rw [beq_eq_false_iff_ne]; omega
    clear hf hjs hkv hE
    go_enter Tryz.func5, Tryz.ntmps5
    go_wp2_with fail
    refine HL.out.mono ?_
    rintro e w1 ⟨rfl, hb1⟩
    have HB1 := Lib.hid (bstep HNB.out.b hb1)
    obtain ⟨-, lt1, a0, a1, a2, a3, a4⟩ := HNB.out.below hb1
    clear hb1
    go_wp2_with fail
    refine (HOWN.out _ HB1.out).mono ?_
    rintro e w2 ⟨x, S, rfl, hx, hS, hb2⟩
    have HB2 := Lib.hid (bstep HB1.out hb2)
    have HP2 := Lib.hid (HPUT.out S x w2 HB2.out hx hS)
    clear hb2 hx hS
    go_wp2_with fail
    refine HP2.out.mono ?_
    rintro e w3 ⟨rfl, hb3⟩
    have HB3 := Lib.hid (bstep HB2.out hb3)
    clear hb3
    have hnil : (bs ([] : List UInt8)) = ⟨#[]⟩ := rfl
    rw [hnil]
    clear hnil
    go_wp2_with fail
    refine (HAW.out _ HB3.out).mono ?_
    rintro e w4 ⟨rfl, hb4⟩
    have HB4 := Lib.hid (bstep HB3.out hb4)
    clear hb4
    go_wp2_with fail
    go_ret
    exact ⟨rfl, HB4.out⟩
  obtain ⟨hc, hlen, hT⟩ := putF_zero hf
  rw [hf, hT] at HPUT
  obtain ⟨h2, hnn⟩ := json_two (hkv hc)
  have hkv := hkv hc
  by_cases h96 : (json J).length = 4096
  · have hzz : (bs (json J)).size = 4096 := by rw [bs_size]; exact h96
    generalize bs (json J) = Z at HPUT hzz
    have n1 : ¬ Z.size = 0 := by omega
    have n2 : 4096 ≤ Z.size := by omega
    have q1 : ((Z.size : Int) == 0) = false := by rw [beq_eq_false_iff_ne]; omega
    have q2 : decide ((Z.size : Int) ≥ 4096) = true := decide_eq_true (by omega)
    have q3 : (Z.toList == []) = false := by
      rw [beq_eq_false_iff_ne, ByteArray.toList_eq]
      intro e
      have := congrArg List.length e
      rw [size_len, List.length_nil] at this
      omega
    clear hf hc hlen hT h2 hnn hkv h96 hjs hE hzz
    go_enter Tryz.func5, Tryz.ntmps5
    go_wp2_with fail
    refine HL.out.mono ?_
    rintro e w1 ⟨rfl, hb1⟩
    have HB1 := Lib.hid (bstep HNB.out.b hb1)
    obtain ⟨-, lt1, a0, a1, a2, a3, a4⟩ := HNB.out.below hb1
    clear hb1
    go_wp2_with fail
    refine (HOWN.out _ HB1.out).mono ?_
    rintro e w2 ⟨x, S, rfl, hx, hS, hb2⟩
    have HB2 := Lib.hid (bstep HB1.out hb2)
    have HP2 := Lib.hid (HPUT.out S x w2 HB2.out hx hS)
    clear hb2 hx hS
    go_wp2_with fail
    refine HP2.out.mono ?_
    rintro e w3 ⟨rfl, hb3⟩
    have HB3 := Lib.hid (bstep HB2.out hb3)
    clear hb3
    go_wp2_with fail
    refine (HAW.out _ HB3.out).mono ?_
    rintro e w4 ⟨rfl, hb4⟩
    have HB4 := Lib.hid (bstep HB3.out hb4)
    clear hb4
    go_wp2_with fail
    go_ret
    exact ⟨rfl, HB4.out⟩
  obtain ⟨T, hTT⟩ : ∃ T, json J = T := ⟨_, rfl⟩
  have hL : T.length < 4096 := by rw [← hTT]; omega
  have hL2 : 2 ≤ T.length := by rw [← hTT]; exact h2
  obtain ⟨m, hm⟩ : ∃ m, cut % T.length = m := ⟨_, rfl⟩
  have hmL : m < T.length := by rw [← hm]; exact Nat.mod_lt _ (by omega)
  obtain ⟨r, hr⟩ : ∃ r, cut % 4096 = r := ⟨_, rfl⟩
  have hr4 : r < 4096 := by rw [← hr]; exact Nat.mod_lt _ (by decide)
  have k1 := take_cut2 J m hc hkv (by rw [hTT]; exact hmL) hlen
  have k2 : blankB c = false → (takeV (T ++ [c])).2 = (T.length, 4) := fun h => by rw [← hTT]; exact take_more2 J c hc hnn h (by rw [hTT]; exact hL)
  rw [hTT] at k1 HPUT
  obtain ⟨Z, hZ⟩ : ∃ Z, bs T = Z := ⟨_, rfl⟩
  have hZd : Z.data.toList = T := by rw [← hZ, bs_data]
  have hZs : T.length = Z.size := by rw [← hZ, bs_size]
  rw [hZ] at HPUT
  obtain ⟨R1, hR1⟩ : ∃ R1, bs (List.replicate r 32) = R1 := ⟨_, rfl⟩
  obtain ⟨R2, hR2⟩ : ∃ R2, bs (List.replicate (4097 - T.length) 32) = R2 := ⟨_, rfl⟩
  have r1s : R1.size = r := by rw [← hR1, bs_size, List.length_replicate]
  have r2s : R2.size = 4097 - T.length := by rw [← hR2, bs_size, List.length_replicate]
  have HT1 : Hid (∀ W, Below w.heap.size w W → Calls Tryz.prog 20 #[.string (Z.extract 0 m)] W fun e w' => ∃ x a b, e = .returned (.tuple #[x, .int .i64 (a : Nat), .int .i64 (b : Nat)]) ∧ ((a = m ∧ b = 3) ∨ b = 4) ∧ Below W.heap.size W w') := Lib.hid (fun W hW => by
    have hd : (Z.extract 0 m).data.toList = T.take m := by rw [← hZd]; simp
    refine (n_take (Z.extract 0 m) W (hE.below hW) (by rw [ByteArray.size_extract]; omega)).mono ?_
    rintro e w' ⟨x, h1, h2, -, -⟩
    rw [hd] at h1
    refine ⟨x, _, _, h1, ?_, h2⟩
    rcases k1 with h | h
    · rw [h]; exact .inl ⟨rfl, rfl⟩
    · exact .inr h)
  have HT2 : Hid (blankB c = false → ∀ W, Below w.heap.size w W → Calls Tryz.prog 20 #[.string (Z ++ bs [c])] W fun e w' => ∃ x, e = .returned (.tuple #[x, .int .i64 (Z.size : Nat), .int .i64 (4 : Nat)]) ∧ Below W.heap.size W w') := Lib.hid (fun h W hW => take_is (Z ++ bs [c]) Z.size 4 (by rw [← hZs, ← k2 h, cat_data, hZd, bs_data]) W (hE.below hW) (by rw [ByteArray.size_append, bs_size]; simp; omega))
  have HT3 : Hid (∀ W, Below w.heap.size w W → Calls Tryz.prog 20 #[.string R1] W fun e w' => ∃ x, e = .returned (.tuple #[x, .int .i64 (r : Nat), .int .i64 (3 : Nat)]) ∧ Below W.heap.size W w') := Lib.hid (fun W hW => take_is R1 r 3 (by rw [← hR1, bs_data, take_blank _ (blank_rep r) (by rw [List.length_replicate]; omega), List.length_replicate]) W (hE.below hW) (by omega))
  have HT4 : Hid (∀ W, Below w.heap.size w W → Calls Tryz.prog 20 #[.string (Z ++ R2)] W fun e w' => ∃ x, e = .returned (.tuple #[x, .int .i64 (0 : Nat), .int .i64 (5 : Nat)]) ∧ Below W.heap.size W w') := Lib.hid (fun W hW => take_is (Z ++ R2) 0 5 (take_long _ (by rw [size_len, ByteArray.size_append]; omega)) W (hE.below hW) (by rw [ByteArray.size_append]; omega))
  have HR1 : Hid (∀ W, Calls Tryz.prog 21 #[.string ⟨#[32]⟩, .int .i64 (r : Nat)] W fun e w' => e = .returned (.string R1) ∧ Below W.heap.size W w') := Lib.hid (fun W => by rw [← hR1]; exact c_repeat r W (by omega))
  have HR2 : Hid (∀ W, Calls Tryz.prog 21 #[.string ⟨#[32]⟩, .int .i64 ((4097 - Z.size : Nat) : Int)] W fun e w' => e = .returned (.string R2) ∧ Below W.heap.size W w') := Lib.hid (fun W => by rw [← hR2, ← hZs]; exact c_repeat (4097 - T.length) W (by omega))
  rw [hZs] at hL hL2 hm hmL
  have padd1 := fun w => run_string_add_sum (P := Tryz.prog) w Z (bs [c]) (by rw [bs_size]; simp; omega)
  have padd2 := fun w => run_string_add_sum (P := Tryz.prog) w Z R2 (by omega)
  have n1 : ¬ Z.size = 0 := by omega
  have n2 : ¬ 4096 ≤ Z.size := by omega
  have q0 : ((Z.size : Int)) ≠ 0 := by omega
  have q1 : ((Z.size : Int) == 0) = false := by rw [beq_eq_false_iff_ne]; omega
  have q2 : decide ((Z.size : Int) ≥ 4096) = false := decide_eq_false (by omega)
  have q4 : Int.tmod (cut : Int) (Z.size : Int) = (m : Int) := by rw [← hm]; exact (Int.ofNat_tmod cut Z.size).symm
  have q5 : Int.tmod (cut : Int) 4096 = (r : Int) := by rw [← hr]; exact (Int.ofNat_tmod cut 4096).symm
  have q6 : IntKind.i64.wrap (4097 - (Z.size : Int)) = ((4097 - Z.size : Nat) : Int) := by rw [IntKind.wrap_i64]; omega
  have q7 : IntKind.i64.wrap (m : Int) = (m : Int) := by rw [IntKind.wrap_i64]; omega
  have q8 : IntKind.i64.wrap (r : Int) = (r : Int) := by rw [IntKind.wrap_i64]; omega
  have q9 : IntKind.i64.wrap (cut : Int) = (cut : Int) := by rw [IntKind.wrap_i64]; omega
  have hmZ : m ≤ Z.size := by omega
  have kc := fun W => bytes_one c W
  clear hf hc hlen hT h2 hnn hkv h96 hjs hE hZd hZs r1s r2s hTT hm hr k1 k2 hZ hR1 hR2
  go_enter Tryz.func5, Tryz.ntmps5
  go_wp2_with fail
  refine HL.out.mono ?_
  rintro e w1 ⟨rfl, hb1⟩
  have HB1 := Lib.hid (bstep HNB.out.b hb1)
  obtain ⟨-, lt1, a0, a1, a2, a3, a4⟩ := HNB.out.below hb1
  clear hb1
  go_wp2_with fail
  refine (HOWN.out _ HB1.out).mono ?_
  rintro e w2 ⟨x, S, rfl, hx, hS, hb2⟩
  have HB2 := Lib.hid (bstep HB1.out hb2)
  have HP2 := Lib.hid (HPUT.out S x w2 HB2.out hx hS)
  clear hb2 hx hS
  go_wp2_with fail
  refine HP2.out.mono ?_
  rintro e w3 ⟨rfl, hb3⟩
  have HB3 := Lib.hid (bstep HB2.out hb3)
  clear hb3
  go_wp2_with fail
  refine (HT1.out _ HB3.out).mono ?_
  rintro e w4 ⟨xa, a, b, rfl, hab, hb4⟩
  have HB4 := Lib.hid (bstep HB3.out hb4)
  clear hb4
  by_cases hcb : c = 32 ∨ c = 9 ∨ c = 10 ∨ c = 13
  · have hcc : (c.toNat : Int) = 32 ∨ (c.toNat : Int) = 9 ∨ (c.toNat : Int) = 10 ∨ (c.toNat : Int) = 13 := by rcases hcb with h | h | h | h <;> rw [h] <;> simp
    generalize (c.toNat : Int) = C at hcc ⊢
    clear hcb HT2 padd1 kc
    rcases hab with ⟨rfl, rfl⟩ | rfl
    all_goals
      rcases hcc with rfl | rfl | rfl | rfl
      all_goals
        go_wp2_with fail
        refine (HR1.out _).mono ?_
        rintro e w5 ⟨rfl, hb5⟩
        have HB5 := Lib.hid (bstep HB4.out hb5)
        clear hb5
        go_wp2_with fail
        refine (HT3.out _ HB5.out).mono ?_
        rintro e w6 ⟨xb, rfl, hb6⟩
        have HB6 := Lib.hid (bstep HB5.out hb6)
        clear hb6
        go_wp2_with fail
        refine (HR2.out _).mono ?_
        rintro e w7 ⟨rfl, hb7⟩
        have HB7 := Lib.hid (bstep HB6.out hb7)
        clear hb7
        go_wp2_with fail
        refine (HT4.out _ HB7.out).mono ?_
        rintro e w8 ⟨xc, rfl, hb8⟩
        have HB8 := Lib.hid (bstep HB7.out hb8)
        clear hb8
        go_wp2_with fail
        refine (HAW.out _ HB8.out).mono ?_
        rintro e w9 ⟨rfl, hb9⟩
        have HB9 := Lib.hid (bstep HB8.out hb9)
        clear hb9
        go_wp2_with fail
        go_ret
        exact ⟨rfl, HB9.out⟩
  · have hbl : blankB c = false := by
      unfold blankB
      simp only [not_or] at hcb
      simp [hcb.1, hcb.2.1, hcb.2.2.1, hcb.2.2.2]
    have HTT := Lib.hid (HT2.out hbl)
    have c1 : ((c.toNat : Int) != 32) = true := by
      rw [bne_iff_ne]; intro e; exact hcb (.inl (UInt8.toNat_inj.1 (by rw [show (32 : UInt8).toNat = 32 from rfl]; omega)))
    have c2 : ((c.toNat : Int) != 9) = true := by
      rw [bne_iff_ne]; intro e; exact hcb (.inr (.inl (UInt8.toNat_inj.1 (by rw [show (9 : UInt8).toNat = 9 from rfl]; omega))))
    have c3 : ((c.toNat : Int) != 10) = true := by
      rw [bne_iff_ne]; intro e; exact hcb (.inr (.inr (.inl (UInt8.toNat_inj.1 (by rw [show (10 : UInt8).toNat = 10 from rfl]; omega)))))
    have c4 : ((c.toNat : Int) != 13) = true := by
      rw [bne_iff_ne]; intro e; exact hcb (.inr (.inr (.inr (UInt8.toNat_inj.1 (by rw [show (13 : UInt8).toNat = 13 from rfl]; omega)))))
    clear hcb hbl HT2
    rcases hab with ⟨rfl, rfl⟩ | rfl
    all_goals
      go_wp2_with fail
      refine (HTT.out _ (HB4.out.alloc HB4.out.size _)).mono ?_
      rintro e wt ⟨xt, rfl, hbt⟩
      have HBT := Lib.hid (bstep (HB4.out.alloc HB4.out.size (.cells #[.int .u8 (c.toNat : Int)] 5)) hbt)
      clear hbt
      go_wp2_with fail
      refine (HR1.out _).mono ?_
      rintro e w5 ⟨rfl, hb5⟩
      have HB5 := Lib.hid (bstep HBT.out hb5)
      clear hb5
      go_wp2_with fail
      refine (HT3.out _ HB5.out).mono ?_
      rintro e w6 ⟨xb, rfl, hb6⟩
      have HB6 := Lib.hid (bstep HB5.out hb6)
      clear hb6
      go_wp2_with fail
      refine (HR2.out _).mono ?_
      rintro e w7 ⟨rfl, hb7⟩
      have HB7 := Lib.hid (bstep HB6.out hb7)
      clear hb7
      go_wp2_with fail
      refine (HT4.out _ HB7.out).mono ?_
      rintro e w8 ⟨xc, rfl, hb8⟩
      have HB8 := Lib.hid (bstep HB7.out hb8)
      clear hb8
      go_wp2_with fail
      refine (HAW.out _ HB8.out).mono ?_
      rintro e w9 ⟨rfl, hb9⟩
      have HB9 := Lib.hid (bstep HB8.out hb9)
      clear hb9
      go_wp2_with fail
      go_ret
      exact ⟨rfl, HB9.out⟩
end Go.Proofs.YtcmkepkeeahioaaGreatDoor
namespace Go.Proofs.YtcmkepkeeahioaaGreatDoor
open Go.RowKit
theorem notesEnds_go (c0 c1 c2 c3 c4 : Value) (a1 a2 : Int) (W : World) (hn : ∃ nd, NAt W nd c0 c1 c2 c3 c4 ∧ wfN nd) (w1 : (Lit.int .u16 a1).wf = true) (w2 : (Lit.int .u8 a2).wf = true) (hL : laidMetH Tryz.prog Rows.notesEndsRow.laid W) (_ : W.ShapedOpen Tryz.prog) :
    Calls Tryz.prog 5 #[.agg #[c0, c1, c2, c3, c4], .int .u16 a1, .int .u8 a2] W fun e W' => e = .returned (.bool true) ∧ Below W.heap.size W W' := by
  rw [MakeChecks.laidMetH_plain _ _ _ (by kernel_rfl)] at hL
  obtain ⟨nd, h1, h2⟩ := hn
  obtain ⟨b1, b2⟩ := bounds_u8 w2
  obtain ⟨b3, b4⟩ := bounds_u16 w1
  have e2 : a2 = ((UInt8.ofNat a2.toNat).toNat : Int) := by rw [UInt8.toNat_ofNat']; omega
  have e1 : a1 = ((a1.toNat : Nat) : Int) := by omega
  rw [e1, e2]
  exact notesEnds_walk nd a1.toNat (UInt8.ofNat a2.toNat) c0 c1 c2 c3 c4 W h1 h2 (by omega) (env17 hL)
end Go.Proofs.YtcmkepkeeahioaaGreatDoor
namespace Go.Proofs.YtcmkepkeeahioaaGreatDoor
open Go.RowKit
theorem jsonL_snoc (b : Bool) (acc : List JV) (x : JV) : (jsonL b (acc ++ [x])).length ≤ (jsonL b acc).length + 1 + (json x).length := by
  induction acc generalizing b with
  | nil =>
    rw [List.nil_append, jsonL, jsonL, jsonL]
    cases b <;> simp <;> omega
  | cons v t ih =>
    rw [List.cons_append, jsonL, jsonL]
    have := ih false
    simp only [List.length_append] at this ⊢
    omega
theorem jsonO_snoc (b : Bool) (acc : List (List UInt8 × JV)) (k : List UInt8) (x : JV) : (jsonO b (acc ++ [(k, x)])).length ≤ (jsonO b acc).length + 2 + (quoL k).length + (json x).length := by
  induction acc generalizing b with
  | nil =>
    rw [List.nil_append, jsonO, jsonO, jsonO]
    cases b <;> simp <;> omega
  | cons v t ih =>
    obtain ⟨a, u⟩ := v
    rw [List.cons_append, jsonO, jsonO]
    have := ih false
    simp only [List.length_append, List.length_cons] at this ⊢
    omega
theorem word_len (c : UInt8) (t w : List UInt8) (v : JV) (hv : (json v).length ≤ 5) (hw : 1 ≤ w.length) (v' : JV) (r' : List UInt8) (h : wordV (c :: t) w v = (v', r', 0)) : (json v').length + 24010 * r'.length ≤ 24010 * (t.length + 1) := by
  unfold wordV at h
  split at h
  · cases h
    rw [List.length_drop, List.length_cons]
    omega
  · split at h
    · cases h
    · cases h
theorem txt_less (r : List UInt8) (h : (txtV r).2.2 = 0) : (txtV r).2.1.length + 1 ≤ r.length := by
  unfold txtV at h ⊢
  by_cases e : (takeP r 0).2.2 = 0
  · rw [if_pos e]
    obtain ⟨n, hn, _, h2, h3, _⟩ := take0_ok r (takeP r 0).1 (takeP r 0).2.1 (by rw [← e])
    show (r.drop (takeP r 0).2.1.toNat).length + 1 ≤ _
    rw [hn, List.length_drop]
    omega
  · rw [if_neg e] at h; exact absurd h e
theorem num_head (c : UInt8) (h : c = 45 ∨ digB c = true) : numCh c = true := by
  unfold numCh
  rcases h with h | h
  · rw [h]; decide
  · rw [h]; simp
set_option maxHeartbeats 1000000 in
theorem len_all : ∀ f : Nat, (∀ d r v r', valV f d r = (v, r', 0) → r.length ≤ 1000 → (json v).length + 24010 * r'.length ≤ 24010 * r.length) ∧
    (∀ d n r acc v r', lstV f d n r acc = (v, r', 0) → r.length ≤ 1000 → (json v).length + 24010 * r'.length ≤ 24010 * r.length + (jsonL true acc).length) ∧
    (∀ d n r acc v r', objV f d n r acc = (v, r', 0) → r.length ≤ 1000 → (json v).length + 24010 * r'.length ≤ 24010 * r.length + (jsonO true acc).length) := by
  intro f
  induction f with
  | zero =>
    refine ⟨fun d r v r' h => ?_, fun d n r acc v r' h => ?_, fun d n r acc v r' h => ?_⟩
    · rw [valV] at h; cases h
    · rw [lstV] at h; cases h
    · rw [objV] at h; cases h
  | succ f ih =>
    obtain ⟨ihv, ihl, iho⟩ := ih
    refine ⟨fun d r v r' h hr => ?_, fun d n r acc v r' h hr => ?_, fun d n r acc v r' h hr => ?_⟩
    · cases r with
      | nil => rw [valV] at h; cases h
      | cons c t =>
        have hsl := (skipB_suf t).length_le
        rw [List.length_cons] at hr ⊢
        rw [valV] at h
        by_cases c1 : c = 110
        · rw [if_pos c1] at h; exact word_len _ _ _ _ (by rw [json]; decide) (by decide) v r' h
        rw [if_neg c1] at h
        by_cases c2 : c = 102
        · rw [if_pos c2] at h; exact word_len _ _ _ _ (by rw [json]; decide) (by decide) v r' h
        rw [if_neg c2] at h
        by_cases c3 : c = 116
        · rw [if_pos c3] at h; exact word_len _ _ _ _ (by rw [json]; decide) (by decide) v r' h
        rw [if_neg c3] at h
        by_cases c4 : c = 34
        · rw [if_pos c4] at h
          by_cases e : (txtV (c :: t)).2.2 = 0
          · rw [if_pos e] at h
            cases h
            rw [json]
            have := txtV_len (c :: t)
            have h3 := quo_le (txtV (c :: t)).1
            have h4 := txt_less _ e
            rw [List.length_cons] at this h4
            omega
          · rw [if_neg e] at h
            exact absurd (congrArg (fun x : Res => x.2.2) h) e
        rw [if_neg c4] at h
        by_cases c5 : c = 91
        · rw [if_pos c5] at h
          by_cases e : 4 < d
          · rw [if_pos e] at h; cases h
          rw [if_neg e] at h
          by_cases e2 : (skipB t).head? = some 93
          · rw [if_pos e2] at h
            cases h
            rw [json, jsonL, List.length_tail]
            simp only [List.length_cons, List.length_append, List.length_nil]
            omega
          · rw [if_neg e2] at h
            have := ihl d 0 _ [] v r' h (by omega)
            rw [jsonL, List.length_nil] at this
            omega
        rw [if_neg c5] at h
        by_cases c6 : c = 123
        · rw [if_pos c6] at h
          by_cases e : 4 < d
          · rw [if_pos e] at h; cases h
          rw [if_neg e] at h
          by_cases e2 : (skipB t).head? = some 125
          · rw [if_pos e2] at h
            cases h
            rw [json, jsonO, List.length_tail]
            simp only [List.length_cons, List.length_append, List.length_nil]
            omega
          · rw [if_neg e2] at h
            have := iho d 0 _ [] v r' h (by omega)
            rw [jsonO, List.length_nil] at this
            omega
        rw [if_neg c6] at h
        by_cases c7 : c = 45 ∨ digB c = true
        · rw [if_pos c7] at h
          unfold numV at h
          by_cases e : (numT ((c :: t).takeWhile numCh)).2 = 0
          · rw [if_pos e] at h
            cases h
            rw [json]
            have h1 := itoa_le _ (numT_good _ e)
            have h2 : ((c :: t).dropWhile numCh).length ≤ t.length := by
              rw [List.dropWhile_cons, if_pos (num_head c c7)]
              exact (List.dropWhile_suffix _).length_le
            omega
          · rw [if_neg e] at h
            exact absurd (congrArg (fun x : Res => x.2.2) h) e
        · rw [if_neg c7] at h; cases h
    · have hok := (ok_all f).1 (d + 1) r
      rw [lstV] at h
      by_cases e0 : n = 64 ∧ r ≠ []
      · rw [if_pos e0] at h; cases h
      rw [if_neg e0] at h
      by_cases e1 : (valV f (d + 1) r).2.2 = 0
      · rw [if_neg (fun e => e e1)] at h
        have hv := ihv (d + 1) r (valV f (d + 1) r).1 (valV f (d + 1) r).2.1 (by rw [← e1]) hr
        have hc2 := jsonL_snoc true acc (valV f (d + 1) r).1
        have hl1 := hok.1.length_le
        have hl2 := (skipB_suf (valV f (d + 1) r).2.1).length_le
        cases hs : skipB (valV f (d + 1) r).2.1 with
        | nil => rw [hs] at h; cases h
        | cons c t =>
          rw [hs] at h hl2
          rw [List.length_cons] at hl2
          simp only [] at h
          by_cases c1 : c = 93
          · rw [if_pos c1] at h
            cases h
            rw [json]
            simp only [List.length_cons, List.length_append, List.length_nil]
            omega
          rw [if_neg c1] at h
          by_cases c2 : c = 44
          · rw [if_pos c2] at h
            have hl3 := (skipB_suf t).length_le
            have := ihl d (n + 1) _ _ v r' h (by omega)
            omega
          · rw [if_neg c2] at h; cases h
      · rw [if_pos e1] at h
        exact absurd (congrArg (fun x : Res => x.2.2) h) e1
    · rw [objV] at h
      by_cases e0 : n = 64 ∧ r ≠ []
      · rw [if_pos e0] at h; cases h
      rw [if_neg e0] at h
      by_cases t1 : (txtV r).2.2 = 0
      · rw [if_neg (fun e => e t1)] at h
        by_cases t2 : (txtV r).1 ∈ acc.map (·.1)
        · rw [if_pos t2] at h; cases h
        rw [if_neg t2] at h
        have hl1 := (txtV_suf r).length_le
        have hl2 := (skipB_suf (txtV r).2.1).length_le
        cases hs0 : skipB (txtV r).2.1 with
        | nil => rw [hs0] at h; cases h
        | cons c0 t0 =>
          rw [hs0] at h hl2
          rw [List.length_cons] at hl2
          simp only [] at h
          by_cases c0' : c0 = 58
          · rw [if_neg (fun e => e c0')] at h
            have hl3 := (skipB_suf t0).length_le
            have hok := (ok_all f).1 (d + 1) (skipB t0)
            by_cases e1 : (valV f (d + 1) (skipB t0)).2.2 = 0
            · rw [if_neg (fun e => e e1)] at h
              have hv := ihv (d + 1) _ (valV f (d + 1) (skipB t0)).1 (valV f (d + 1) (skipB t0)).2.1 (by rw [← e1]) (by omega)
              have hc2 := jsonO_snoc true acc (txtV r).1 (valV f (d + 1) (skipB t0)).1
              have hq1 := txtV_len r
              have hq2 := quo_le (txtV r).1
              have hl4 := hok.1.length_le
              have hl5 := (skipB_suf (valV f (d + 1) (skipB t0)).2.1).length_le
              cases hs : skipB (valV f (d + 1) (skipB t0)).2.1 with
              | nil => rw [hs] at h; cases h
              | cons c t =>
                rw [hs] at h hl5
                rw [List.length_cons] at hl5
                simp only [] at h
                by_cases c1 : c = 125
                · rw [if_pos c1] at h
                  cases h
                  rw [json]
                  simp only [List.length_cons, List.length_append, List.length_nil]
                  omega
                rw [if_neg c1] at h
                by_cases c2 : c = 44
                · rw [if_pos c2] at h
                  have hl6 := (skipB_suf t).length_le
                  have := iho d (n + 1) _ _ v r' h (by omega)
                  omega
                · rw [if_neg c2] at h; cases h
            · rw [if_pos e1] at h
              exact absurd (congrArg (fun x : Res => x.2.2) h) e1
          · rw [if_pos c0'] at h; cases h
      · rw [if_pos t1] at h
        exact absurd (congrArg (fun x : Res => x.2.2) h) t1
/-- the JSON of what is taken of a short text -/
theorem take_json (l : List UInt8) (hl : l.length ≤ 1000) (h : (takeV l).2.2 = 0) : (json (takeV l).1).length ≤ 24010000 := by
  unfold takeV at h ⊢
  split at h
  · exact absurd h (by decide)
  rename_i h0
  rw [if_neg h0]
  simp only [] at h ⊢
  split at h
  · rename_i h1; exact absurd h h1
  rename_i h1
  rw [if_neg h1]
  split at h
  · exact absurd h (by show ¬ (4 = 0); decide)
  rename_i h2
  rw [if_neg h2]
  have h3 := Classical.not_not.1 h1
  have hs := (skipB_suf l).length_le
  have := (len_all (2 * l.length + 2)).1 1 (skipB l) (valV (2 * l.length + 2) 1 (skipB l)).1 (valV (2 * l.length + 2) 1 (skipB l)).2.1 (by rw [← h3]) (by omega)
  show (json (valV (2 * l.length + 2) 1 (skipB l)).1).length ≤ _
  omega
end Go.Proofs.YtcmkepkeeahioaaGreatDoor
namespace Go.Proofs.YtcmkepkeeahioaaGreatDoor
open Go.RowKit
theorem take_to (X : ByteArray) (J : JV) (a : Nat) (h : takeV X.data.toList = (J, a, 0)) (W : World) (hE : NEnv W) (hX : X.size ≤ 1000000) :
    Calls Tryz.prog 20 #[.string X] W fun e w' => ∃ x, e = .returned (.tuple #[x, .int .i64 (a : Nat), .int .i64 0]) ∧ Below W.heap.size W w' ∧ AV (fun i => W.heap.size ≤ i ∧ i < w'.heap.size) w' J x := by
  refine (n_take X W hE hX).mono ?_
  rintro e w' ⟨x, h1, h2, -, h4⟩
  rw [h] at h1 h4
  exact ⟨x, h1, h2, h4 rfl⟩
theorem take_no (X : ByteArray) (a b : Nat) (h : (takeV X.data.toList).2 = (a, b)) (hb : b ≠ 0) (W : World) (hE : NEnv W) (hX : X.size ≤ 1000000) :
    Calls Tryz.prog 20 #[.string X] W fun e w' => e = .returned (.tuple #[.nilIface, .int .i64 (a : Nat), .int .i64 (b : Nat)]) ∧ Below W.heap.size W w' := by
  refine (n_take X W hE hX).mono ?_
  rintro e w' ⟨x, h1, h2, h3, -⟩
  rw [h] at h1 h3
  rw [h3 hb] at h1
  exact ⟨h1, h2⟩
theorem same_self {J : JV} (h : chk J 1 = 0) : sameJ J J = true := by unfold sameJ; rw [h]; simp
/-- two values in one world -/
theorem av_two {A B C D : World} {J : JV} {x y : Value} (hx : AV (fun i => A.heap.size ≤ i ∧ i < B.heap.size) B J x) (hb : Below B.heap.size B D) (hy : AV (fun i => C.heap.size ≤ i ∧ i < D.heap.size) D J y) (_ : B.heap.size ≤ C.heap.size) :
    AV (fun i => i < D.heap.size) D J x ∧ AV (fun i => i < D.heap.size) D J y ∧ ∀ i, i < D.heap.size → i < D.heap.size :=
  ⟨(hx.kept (fun _ h => h) (KeptS.of_below hb (fun i hi => hi.2))).kept (fun i hi => Nat.lt_of_lt_of_le hi.2 hb.size) (KeptS.refl _ _), hy.kept (fun i hi => hi.2) (KeptS.refl _ _), fun _ h => h⟩
set_option maxRecDepth 100000 in
set_option maxHeartbeats 8000000 in
theorem notesBack_walk (v : ND) (s : ByteArray) (x0 x1 x2 x3 x4 : Value) (w : World) (hv : NAt w v x0 x1 x2 x3 x4) (hw : wfN v) (hs : s.size ≤ 9223372036854775807) (hE : NEnv w) :
    Calls Tryz.prog 4 #[.agg #[x0, x1, x2, x3, x4], .string s] w fun e w' => e = .returned (.bool true) ∧ Below w.heap.size w w' := by
  have hNB := NB.new w x0 x1 x2 x3 x4 25
  have HNB := Lib.hid hNB
  have HL := Lib.hid (ref_light v x0 x1 x2 x3 x4 200 _ (hv.below hNB.b) hw (by decide) (by decide))
  have HAW : Hid (∀ W, Below w.heap.size w W → Calls Tryz.prog 7 #[] W fun e w' => e = .returned (.bool true) ∧ Below W.heap.size W w') := Lib.hid (fun W hW => law_awake W (hE.below hW))
  obtain ⟨b0, lt0, c0, c1, c2, c3, c4⟩ := hNB
  clear b0
  by_cases hlight : weighN v 200 ≥ 0
  case neg =>
    rw [decide_eq_false hlight] at HL
    clear hv hw hE hlight hs
    go_enter Tryz.func4, Tryz.ntmps4
    go_wp2_with fail
    refine HL.out.mono ?_
    rintro e w1 ⟨rfl, hb1⟩
    have HB1 := Lib.hid (bstep HNB.out.b hb1)
    clear hb1
    go_wp2_with fail
    refine (HAW.out _ HB1.out).mono ?_
    rintro e z1 ⟨rfl, hbz1⟩
    have HBZ := Lib.hid (bstep HB1.out hbz1)
    clear hbz1
    go_wp2_with fail
    go_ret
    exact ⟨rfl, HBZ.out⟩
  rw [decide_eq_true hlight] at HL
  by_cases hs1 : 1000 < s.size
  · have ts : decide ((s.size : Int) > 1000) = true := decide_eq_true (by omega)
    clear hv hw hE hlight hs
    go_enter Tryz.func4, Tryz.ntmps4
    go_wp2_with fail
    refine HL.out.mono ?_
    rintro e w1 ⟨rfl, hb1⟩
    have HB1 := Lib.hid (bstep HNB.out.b hb1)
    clear hb1
    go_wp2_with fail
    refine (HAW.out _ HB1.out).mono ?_
    rintro e z1 ⟨rfl, hbz1⟩
    have HBZ := Lib.hid (bstep HB1.out hbz1)
    clear hbz1
    go_wp2_with fail
    go_ret
    exact ⟨rfl, HBZ.out⟩
  have ts : decide ((s.size : Int) > 1000) = false := decide_eq_false (by omega)
  obtain ⟨hg, hz⟩ := light_good v hlight
  have hsm := small_of v hg hz hw
  have hjs := json_of v hg hz
  have HEN : Hid (∀ W, Below w.heap.size w W → NEnv W) := Lib.hid (fun W hW => hE.below hW)
  have HS2 : Hid ((∃ a b : Nat, b ≠ 0 ∧ ∀ W, Below w.heap.size w W → Calls Tryz.prog 20 #[.string s] W fun e w' => e = .returned (.tuple #[.nilIface, .int .i64 (a : Nat), .int .i64 (b : Nat)]) ∧ Below W.heap.size W w') ∨ (∃ (J2 : JV) (a : Nat), (∀ W, Below w.heap.size w W → Calls Tryz.prog 20 #[.string s] W fun e w' => ∃ x, e = .returned (.tuple #[x, .int .i64 (a : Nat), .int .i64 0]) ∧ Below W.heap.size W w' ∧ AV (fun i => W.heap.size ≤ i ∧ i < w'.heap.size) w' J2 x) ∧ (((∀ W (S : Nat → Prop) x, Below w.heap.size w W → AV S W J2 x → (∀ i, S i → i < W.heap.size) → Calls Tryz.prog 9 #[x] W fun e w' => e = .returned (.tuple #[.string ⟨#[]⟩, .int .i64 5]) ∧ Below W.heap.size W w')) ∨ (∃ (Z2 : ByteArray) (b2 : Nat), (∀ W (S : Nat → Prop) x, Below w.heap.size w W → AV S W J2 x → (∀ i, S i → i < W.heap.size) → Calls Tryz.prog 9 #[x] W fun e w' => e = .returned (.tuple #[.string Z2, .int .i64 0]) ∧ Below W.heap.size W w') ∧ (∀ W, Below w.heap.size w W → Calls Tryz.prog 20 #[.string Z2] W fun e w' => ∃ x, e = .returned (.tuple #[x, .int .i64 (b2 : Nat), .int .i64 0]) ∧ Below W.heap.size W w' ∧ AV (fun i => W.heap.size ≤ i ∧ i < w'.heap.size) w' J2 x) ∧ (∀ W (S : Nat → Prop) x y, Below w.heap.size w W → AV S W J2 x → AV S W J2 y → (∀ i, S i → i < W.heap.size) → Calls Tryz.prog 17 #[x, y] W fun e w' => e = .returned (.bool true) ∧ Below W.heap.size W w'))))) := Lib.hid (by
    have hl : s.data.toList.length ≤ 1000 := by rw [size_len]; omega
    by_cases hf : (takeV s.data.toList).2.2 = 0
    · refine .inr ⟨(takeV s.data.toList).1, (takeV s.data.toList).2.1, fun W hW => take_to s _ _ (by rw [← hf]) W (HEN.out W hW) (by omega), ?_⟩
      have hc := take_good _ hf
      have hsj := take_small _ hf
      have hjl := take_json _ hl hf
      generalize (takeV s.data.toList).1 = J2 at hc hsj hjl
      by_cases hp : putF J2 = 0
      · obtain ⟨-, q2, q3⟩ := putF_zero hp
        refine .inr ⟨bs (json J2), (json J2).length, fun W S x hW hx hS => ?_, fun W hW => take_to _ _ _ ?_ W (HEN.out W hW) (by rw [bs_size]; omega), fun W S x y hW hx hy hS => ?_⟩
        · have h := n_Put J2 x W S hsj hx hS (HEN.out W hW) (fun _ => by omega)
          rw [hp, q3] at h
          exact h
        · rw [bs_data]
          have h := take_back2 J2 [] [] hc (fun _ h => by cases h) (fun _ h => by cases h) (by simpa using q2)
          simpa using h
        · have h := n_Same J2 J2 x y W S hsj hsj hx hy hS (HEN.out W hW) (fun _ => by omega) (fun _ => by omega)
          rw [same_self hc] at h
          exact h
      · refine .inl (fun W S x hW hx hS => ?_)
        have h := n_Put J2 x W S hsj hx hS (HEN.out W hW) (fun _ => by omega)
        have hp5 : putF J2 = 5 := by
          unfold putF at hp ⊢
          rw [if_neg (by simp [hc])] at hp ⊢
          by_cases h1 : 4096 < (json J2).length
          · rw [if_pos h1]
          · rw [if_neg h1] at hp; exact absurd rfl hp
        rw [putF_some hp, hp5] at h
        exact h
    · exact .inl ⟨(takeV s.data.toList).2.1, (takeV s.data.toList).2.2, hf, fun W hW => take_no s _ _ rfl hf W (HEN.out W hW) (by omega)⟩)
  have HOWN : Hid (∀ W, Below w.heap.size w W → Calls Tryz.prog 8 #[.agg #[x0, x1, x2, x3, x4]] W fun e w' => ∃ y S, e = .returned y ∧ AV S w' (valN v) y ∧ (∀ i, S i → i < w'.heap.size) ∧ Below W.heap.size W w') := Lib.hid (fun W hW => (own_of v x0 x1 x2 x3 x4 W (hv.below hW) hg hz hw).mono (fun e w' ⟨y, S, h1, h2, h3, h4⟩ => ⟨y, S, h1, h2, fun i hi => (h3 i hi).2, h4⟩))
  have HPUT : Hid (∀ W (S : Nat → Prop) x, Below w.heap.size w W → AV S W (valN v) x → (∀ i, S i → i < W.heap.size) → Calls Tryz.prog 9 #[x] W fun e w' => e = .returned (.tuple #[.string (bs (putT (valN v))), .int .i64 (putF (valN v) : Nat)]) ∧ Below W.heap.size W w') := Lib.hid (fun W S x hW hx hS => n_Put (valN v) x W S hsm hx hS (hE.below hW) (fun h => by have := hjs h; omega))
  have HEQ : Hid (∀ W (S : Nat → Prop) x, Below w.heap.size w W → AV S W (valN v) x → (∀ i, S i → i < W.heap.size) → Calls Tryz.prog 16 #[x, .agg #[x0, x1, x2, x3, x4]] W fun e w' => e = .returned (.bool true) ∧ Below W.heap.size W w') := Lib.hid (fun W S x hW hx hS => law_equal 200 v hz (by decide) hg hw x S x0 x1 x2 x3 x4 W (hv.below hW) hx hS)
  have HSM : Hid (chk (valN v) 1 = 0 → ∀ W (S : Nat → Prop) x y, Below w.heap.size w W → AV S W (valN v) x → AV S W (valN v) y → (∀ i, S i → i < W.heap.size) → Calls Tryz.prog 17 #[x, y] W fun e w' => e = .returned (.bool true) ∧ Below W.heap.size W w') := Lib.hid (fun hc W S x y hW hx hy hS => by
    have h := n_Same (valN v) (valN v) x y W S hsm hsm hx hy hS (HEN.out W hW) (fun h => by have := hjs h; omega) (fun h => by have := hjs h; omega)
    rw [same_self hc] at h
    exact h)
  generalize valN v = J at HPUT HOWN HEQ HSM hsm hjs
  clear hv hw hlight hg hz hsm hs
  by_cases hf : putF J = 0
  case neg =>
    rw [putF_some hf] at HPUT
    generalize putF J = F at HPUT hf
    have tf : ((F : Int) != 0) = true := by rw [bne_iff_ne]; omega
    have tf2 : ((F : Int) == 0) = false := by rw [beq_eq_false_iff_ne]; omega
    clear hf hjs hE HEN HEQ HSM
    go_enter Tryz.func4, Tryz.ntmps4
    go_wp2_with fail
    refine HL.out.mono ?_
    rintro e w1 ⟨rfl, hb1⟩
    have HB1 := Lib.hid (bstep HNB.out.b hb1)
    have HN1 := Lib.hid (HNB.out.below hb1)
    obtain ⟨-, lt1, a0, a1, a2, a3, a4⟩ := HN1.out
    clear hb1
    go_wp2_with fail
    refine (HOWN.out _ HB1.out).mono ?_
    rintro e w2 ⟨x, S, rfl, hx, hS, hb2⟩
    have HB2 := Lib.hid (bstep HB1.out hb2)
    have HN2 := Lib.hid (HN1.out.below hb2)
    have HP2 := Lib.hid (HPUT.out w2 S x HB2.out hx hS)
    clear hb2 hx hS
    go_wp2_with fail
    refine HP2.out.mono ?_
    rintro e w3 ⟨rfl, hb3⟩
    have HB3 := Lib.hid (bstep HB2.out hb3)
    have HN3 := Lib.hid (HN2.out.below hb3)
    clear hb3
    go_wp2_with fail
    rcases HS2.out with ⟨a, b, hb0, hA⟩ | ⟨J2, a, hT, ⟨hP⟩ | ⟨Z2, b2, hP, hT2, hSm⟩⟩
    · have HA := Lib.hid hA
      have tb : ((b : Int) != 0) = true := by rw [bne_iff_ne]; omega
      clear hA hb0
      refine (HA.out _ HB3.out).mono ?_
      rintro e u1 ⟨rfl, hu1⟩
      have HU1 := Lib.hid (bstep HB3.out hu1)
      clear hu1
      go_wp2_with fail
      refine (HAW.out _ HU1.out).mono ?_
      rintro e z1 ⟨rfl, hbz1⟩
      have HBZ := Lib.hid (bstep HU1.out hbz1)
      clear hbz1
      go_wp2_with fail
      go_ret
      exact ⟨rfl, HBZ.out⟩
    · have HT2 := Lib.hid hT
      have HP4 := Lib.hid hP
      clear hT hP
      refine (HT2.out _ HB3.out).mono ?_
      rintro e u1 ⟨xx, rfl, hu1, hxx⟩
      have HU1 := Lib.hid (bstep HB3.out hu1)
      have HPX := Lib.hid (HP4.out _ _ xx HU1.out hxx (fun i hi => hi.2))
      clear hu1 hxx
      go_wp2_with fail
      refine HPX.out.mono ?_
      rintro e u2 ⟨rfl, hu2⟩
      have HU2 := Lib.hid (bstep HU1.out hu2)
      clear hu2
      go_wp2_with fail
      refine (HAW.out _ HU2.out).mono ?_
      rintro e z1 ⟨rfl, hbz1⟩
      have HBZ := Lib.hid (bstep HU2.out hbz1)
      clear hbz1
      go_wp2_with fail
      go_ret
      exact ⟨rfl, HBZ.out⟩
    · have HT2 := Lib.hid hT
      have HP4 := Lib.hid hP
      have HT5 := Lib.hid hT2
      have HSM2 := Lib.hid hSm
      clear hT hP hT2 hSm
      refine (HT2.out _ HB3.out).mono ?_
      rintro e u1 ⟨xx, rfl, hu1, hxx⟩
      have HU1 := Lib.hid (bstep HB3.out hu1)
      have HPX := Lib.hid (HP4.out _ _ xx HU1.out hxx (fun i hi => hi.2))
      have HXX := Lib.hid hxx
      clear hu1 hxx
      go_wp2_with fail
      refine HPX.out.mono ?_
      rintro e u2 ⟨rfl, hu2⟩
      have HU2 := Lib.hid (bstep HU1.out hu2)
      have HV2 := Lib.hid hu2
      clear hu2
      go_wp2_with fail
      refine (HT5.out _ HU2.out).mono ?_
      rintro e u3 ⟨yy, rfl, hu3, hyy⟩
      have HU3 := Lib.hid (bstep HU2.out hu3)
      have HS3 := Lib.hid (av_two HXX.out (bstep HV2.out hu3) hyy (Nat.le_trans HV2.out.size (Nat.le_refl _)))
      clear hu3 hyy
      go_wp2_with fail
      refine (HSM2.out _ _ xx yy HU3.out HS3.out.1 HS3.out.2.1 HS3.out.2.2).mono ?_
      rintro e u4 ⟨rfl, hu4⟩
      have HU4 := Lib.hid (bstep HU3.out hu4)
      clear hu4
      go_wp2_with fail
      refine (HAW.out _ HU4.out).mono ?_
      rintro e z1 ⟨rfl, hbz1⟩
      have HBZ := Lib.hid (bstep HU4.out hbz1)
      clear hbz1
      go_wp2_with fail
      go_ret
      exact ⟨rfl, HBZ.out⟩
  obtain ⟨hc, hlen, hT⟩ := putF_zero hf
  rw [hf, hT] at HPUT
  have HSM := Lib.hid (HSM.out hc)
  obtain ⟨T, hTT⟩ : ∃ T, json J = T := ⟨_, rfl⟩
  obtain ⟨Z, hZ⟩ : ∃ Z, bs T = Z := ⟨_, rfl⟩
  have hZd : Z.data.toList = T := by rw [← hZ, bs_data]
  have hZs : T.length = Z.size := by rw [← hZ, bs_size]
  rw [hTT] at HPUT hlen
  rw [hZ] at HPUT
  have HT1 : Hid (∀ W, Below w.heap.size w W → Calls Tryz.prog 20 #[.string Z] W fun e w' => ∃ x, e = .returned (.tuple #[x, .int .i64 (Z.size : Nat), .int .i64 0]) ∧ Below W.heap.size W w' ∧ AV (fun i => W.heap.size ≤ i ∧ i < w'.heap.size) w' J x) := Lib.hid (fun W hW => take_to Z J Z.size (by
    rw [hZd, ← hZs]
    have h := take_back2 J [] [] hc (fun _ h => by cases h) (fun _ h => by cases h) (by rw [hTT]; simpa using hlen)
    rw [hTT] at h
    simpa using h) W (HEN.out W hW) (by omega))
  by_cases h3 : T.length + 3 ≤ 4096
  · have HT3 : Hid (∀ W, Below w.heap.size w W → Calls Tryz.prog 20 #[.string (⟨#[32, 10]⟩ ++ Z ++ ⟨#[9]⟩)] W fun e w' => ∃ x, e = .returned (.tuple #[x, .int .i64 ((Z.size + 3) : Nat), .int .i64 0]) ∧ Below W.heap.size W w' ∧ AV (fun i => W.heap.size ≤ i ∧ i < w'.heap.size) w' J x) := Lib.hid (fun W hW => take_to _ J (Z.size + 3) (by
      have h := take_back2 J [32, 10] [9] hc (by decide) (by decide) (by rw [hTT]; simp; omega)
      rw [hTT] at h
      rw [cat_data, cat_data, hZd, ← hZs]
      have e1 : (ByteArray.mk #[32, 10]).data.toList ++ T ++ (ByteArray.mk #[9]).data.toList = [32, 10] ++ (T ++ [9]) := by simp
      rw [e1, h]
      simp) W (HEN.out W hW) (by rw [ByteArray.size_append, ByteArray.size_append]; show 2 + _ + 1 ≤ _; omega))
    have padd1 := fun w => run_string_add_sum (P := Tryz.prog) w ⟨#[32, 10]⟩ Z (by show 2 + _ ≤ _; omega)
    have padd2 := fun w => run_string_add_sum (P := Tryz.prog) w (⟨#[32, 10]⟩ ++ Z) ⟨#[9]⟩ (by rw [ByteArray.size_append]; show 2 + _ + 1 ≤ _; omega)
    have q1 : IntKind.i64.wrap ((Z.size : Int) + 3) = (Z.size : Int) + 3 := by rw [IntKind.wrap_i64]; omega
    have q2 : decide ((Z.size : Int) + 3 ≤ 4096) = true := decide_eq_true (by omega)
    have n2 : Z.size + 3 ≤ 4096 := by omega
    clear hf hc hlen hT hjs hE HEN hTT hZ hZd hZs h3
    go_enter Tryz.func4, Tryz.ntmps4
    go_wp2_with fail
    refine HL.out.mono ?_
    rintro e w1 ⟨rfl, hb1⟩
    have HB1 := Lib.hid (bstep HNB.out.b hb1)
    have HN1 := Lib.hid (HNB.out.below hb1)
    obtain ⟨-, lt1, a0, a1, a2, a3, a4⟩ := HN1.out
    clear hb1
    go_wp2_with fail
    refine (HOWN.out _ HB1.out).mono ?_
    rintro e w2 ⟨x, S, rfl, hx, hS, hb2⟩
    have HB2 := Lib.hid (bstep HB1.out hb2)
    have HN2 := Lib.hid (HN1.out.below hb2)
    have HP2 := Lib.hid (HPUT.out w2 S x HB2.out hx hS)
    clear hb2 hx hS
    go_wp2_with fail
    refine HP2.out.mono ?_
    rintro e w3 ⟨rfl, hb3⟩
    have HB3 := Lib.hid (bstep HB2.out hb3)
    have HN3 := Lib.hid (HN2.out.below hb3)
    clear hb3
    go_wp2_with fail
    refine (HT1.out _ HB3.out).mono ?_
    rintro e w4 ⟨x5, rfl, hb4, hx5⟩
    have HB4 := Lib.hid (bstep HB3.out hb4)
    have HX5 := Lib.hid hx5
    have HE5 := Lib.hid (HEQ.out _ _ x5 HB4.out hx5 (fun i hi => hi.2))
    have HN4 := Lib.hid (HN3.out.below hb4)
    obtain ⟨-, lt4, d0, d1, d2, d3, d4⟩ := HN4.out
    clear hb4 hx5
    go_wp2_with fail
    refine HE5.out.mono ?_
    rintro e w5 ⟨rfl, hb5⟩
    have HB5 := Lib.hid (bstep HB4.out hb5)
    have HV5 := Lib.hid hb5
    clear hb5
    go_wp2_with fail
    refine (HT3.out _ HB5.out).mono ?_
    rintro e w6 ⟨y6, rfl, hb6, hy6⟩
    have HB6 := Lib.hid (bstep HB5.out hb6)
    have HS6 := Lib.hid (av_two HX5.out (bstep HV5.out hb6) hy6 HV5.out.size)
    clear hb6 hy6
    go_wp2_with fail
    refine (HSM.out _ _ x5 y6 HB6.out HS6.out.1 HS6.out.2.1 HS6.out.2.2).mono ?_
    rintro e w7 ⟨rfl, hb7⟩
    have HB7 := Lib.hid (bstep HB6.out hb7)
    clear hb7
    go_wp2_with fail
    rcases HS2.out with ⟨a, b, hb0, hA⟩ | ⟨J2, a, hT, ⟨hP⟩ | ⟨Z2, b2, hP, hT2, hSm⟩⟩
    · have HA := Lib.hid hA
      have tb : ((b : Int) != 0) = true := by rw [bne_iff_ne]; omega
      clear hA hb0
      refine (HA.out _ HB7.out).mono ?_
      rintro e u1 ⟨rfl, hu1⟩
      have HU1 := Lib.hid (bstep HB7.out hu1)
      clear hu1
      go_wp2_with fail
      refine (HAW.out _ HU1.out).mono ?_
      rintro e z1 ⟨rfl, hbz1⟩
      have HBZ := Lib.hid (bstep HU1.out hbz1)
      clear hbz1
      go_wp2_with fail
      go_ret
      exact ⟨rfl, HBZ.out⟩
    · have HT2 := Lib.hid hT
      have HP4 := Lib.hid hP
      clear hT hP
      refine (HT2.out _ HB7.out).mono ?_
      rintro e u1 ⟨xx, rfl, hu1, hxx⟩
      have HU1 := Lib.hid (bstep HB7.out hu1)
      have HPX := Lib.hid (HP4.out _ _ xx HU1.out hxx (fun i hi => hi.2))
      clear hu1 hxx
      go_wp2_with fail
      refine HPX.out.mono ?_
      rintro e u2 ⟨rfl, hu2⟩
      have HU2 := Lib.hid (bstep HU1.out hu2)
      clear hu2
      go_wp2_with fail
      refine (HAW.out _ HU2.out).mono ?_
      rintro e z1 ⟨rfl, hbz1⟩
      have HBZ := Lib.hid (bstep HU2.out hbz1)
      clear hbz1
      go_wp2_with fail
      go_ret
      exact ⟨rfl, HBZ.out⟩
    · have HT2 := Lib.hid hT
      have HP4 := Lib.hid hP
      have HT5 := Lib.hid hT2
      have HSM2 := Lib.hid hSm
      clear hT hP hT2 hSm
      refine (HT2.out _ HB7.out).mono ?_
      rintro e u1 ⟨xx, rfl, hu1, hxx⟩
      have HU1 := Lib.hid (bstep HB7.out hu1)
      have HPX := Lib.hid (HP4.out _ _ xx HU1.out hxx (fun i hi => hi.2))
      have HXX := Lib.hid hxx
      clear hu1 hxx
      go_wp2_with fail
      refine HPX.out.mono ?_
      rintro e u2 ⟨rfl, hu2⟩
      have HU2 := Lib.hid (bstep HU1.out hu2)
      have HV2 := Lib.hid hu2
      clear hu2
      go_wp2_with fail
      refine (HT5.out _ HU2.out).mono ?_
      rintro e u3 ⟨yy, rfl, hu3, hyy⟩
      have HU3 := Lib.hid (bstep HU2.out hu3)
      have HS3 := Lib.hid (av_two HXX.out (bstep HV2.out hu3) hyy (Nat.le_trans HV2.out.size (Nat.le_refl _)))
      clear hu3 hyy
      go_wp2_with fail
      refine (HSM2.out _ _ xx yy HU3.out HS3.out.1 HS3.out.2.1 HS3.out.2.2).mono ?_
      rintro e u4 ⟨rfl, hu4⟩
      have HU4 := Lib.hid (bstep HU3.out hu4)
      clear hu4
      go_wp2_with fail
      refine (HAW.out _ HU4.out).mono ?_
      rintro e z1 ⟨rfl, hbz1⟩
      have HBZ := Lib.hid (bstep HU4.out hbz1)
      clear hbz1
      go_wp2_with fail
      go_ret
      exact ⟨rfl, HBZ.out⟩
  · have q1 : IntKind.i64.wrap ((Z.size : Int) + 3) = (Z.size : Int) + 3 := by rw [IntKind.wrap_i64]; omega
    have q2 : decide ((Z.size : Int) + 3 ≤ 4096) = false := decide_eq_false (by omega)
    have n2 : ¬ Z.size + 3 ≤ 4096 := by omega
    clear hf hc hlen hT hjs hE HEN hTT hZ hZd hZs h3
    go_enter Tryz.func4, Tryz.ntmps4
    go_wp2_with fail
    refine HL.out.mono ?_
    rintro e w1 ⟨rfl, hb1⟩
    have HB1 := Lib.hid (bstep HNB.out.b hb1)
    have HN1 := Lib.hid (HNB.out.below hb1)
    obtain ⟨-, lt1, a0, a1, a2, a3, a4⟩ := HN1.out
    clear hb1
    go_wp2_with fail
    refine (HOWN.out _ HB1.out).mono ?_
    rintro e w2 ⟨x, S, rfl, hx, hS, hb2⟩
    have HB2 := Lib.hid (bstep HB1.out hb2)
    have HN2 := Lib.hid (HN1.out.below hb2)
    have HP2 := Lib.hid (HPUT.out w2 S x HB2.out hx hS)
    clear hb2 hx hS
    go_wp2_with fail
    refine HP2.out.mono ?_
    rintro e w3 ⟨rfl, hb3⟩
    have HB3 := Lib.hid (bstep HB2.out hb3)
    have HN3 := Lib.hid (HN2.out.below hb3)
    clear hb3
    go_wp2_with fail
    refine (HT1.out _ HB3.out).mono ?_
    rintro e w4 ⟨x5, rfl, hb4, hx5⟩
    have HB4 := Lib.hid (bstep HB3.out hb4)
    have HE5 := Lib.hid (HEQ.out _ _ x5 HB4.out hx5 (fun i hi => hi.2))
    have HN4 := Lib.hid (HN3.out.below hb4)
    obtain ⟨-, lt4, d0, d1, d2, d3, d4⟩ := HN4.out
    clear hb4 hx5
    go_wp2_with fail
    refine HE5.out.mono ?_
    rintro e w5 ⟨rfl, hb5⟩
    have HB5 := Lib.hid (bstep HB4.out hb5)
    clear hb5
    go_wp2_with fail
    rcases HS2.out with ⟨a, b, hb0, hA⟩ | ⟨J2, a, hT, ⟨hP⟩ | ⟨Z2, b2, hP, hT2, hSm⟩⟩
    · have HA := Lib.hid hA
      have tb : ((b : Int) != 0) = true := by rw [bne_iff_ne]; omega
      clear hA hb0
      refine (HA.out _ HB5.out).mono ?_
      rintro e u1 ⟨rfl, hu1⟩
      have HU1 := Lib.hid (bstep HB5.out hu1)
      clear hu1
      go_wp2_with fail
      refine (HAW.out _ HU1.out).mono ?_
      rintro e z1 ⟨rfl, hbz1⟩
      have HBZ := Lib.hid (bstep HU1.out hbz1)
      clear hbz1
      go_wp2_with fail
      go_ret
      exact ⟨rfl, HBZ.out⟩
    · have HT2 := Lib.hid hT
      have HP4 := Lib.hid hP
      clear hT hP
      refine (HT2.out _ HB5.out).mono ?_
      rintro e u1 ⟨xx, rfl, hu1, hxx⟩
      have HU1 := Lib.hid (bstep HB5.out hu1)
      have HPX := Lib.hid (HP4.out _ _ xx HU1.out hxx (fun i hi => hi.2))
      clear hu1 hxx
      go_wp2_with fail
      refine HPX.out.mono ?_
      rintro e u2 ⟨rfl, hu2⟩
      have HU2 := Lib.hid (bstep HU1.out hu2)
      clear hu2
      go_wp2_with fail
      refine (HAW.out _ HU2.out).mono ?_
      rintro e z1 ⟨rfl, hbz1⟩
      have HBZ := Lib.hid (bstep HU2.out hbz1)
      clear hbz1
      go_wp2_with fail
      go_ret
      exact ⟨rfl, HBZ.out⟩
    · have HT2 := Lib.hid hT
      have HP4 := Lib.hid hP
      have HT5 := Lib.hid hT2
      have HSM2 := Lib.hid hSm
      clear hT hP hT2 hSm
      refine (HT2.out _ HB5.out).mono ?_
      rintro e u1 ⟨xx, rfl, hu1, hxx⟩
      have HU1 := Lib.hid (bstep HB5.out hu1)
      have HPX := Lib.hid (HP4.out _ _ xx HU1.out hxx (fun i hi => hi.2))
      have HXX := Lib.hid hxx
      clear hu1 hxx
      go_wp2_with fail
      refine HPX.out.mono ?_
      rintro e u2 ⟨rfl, hu2⟩
      have HU2 := Lib.hid (bstep HU1.out hu2)
      have HV2 := Lib.hid hu2
      clear hu2
      go_wp2_with fail
      refine (HT5.out _ HU2.out).mono ?_
      rintro e u3 ⟨yy, rfl, hu3, hyy⟩
      have HU3 := Lib.hid (bstep HU2.out hu3)
      have HS3 := Lib.hid (av_two HXX.out (bstep HV2.out hu3) hyy (Nat.le_trans HV2.out.size (Nat.le_refl _)))
      clear hu3 hyy
      go_wp2_with fail
      refine (HSM2.out _ _ xx yy HU3.out HS3.out.1 HS3.out.2.1 HS3.out.2.2).mono ?_
      rintro e u4 ⟨rfl, hu4⟩
      have HU4 := Lib.hid (bstep HU3.out hu4)
      clear hu4
      go_wp2_with fail
      refine (HAW.out _ HU4.out).mono ?_
      rintro e z1 ⟨rfl, hbz1⟩
      have HBZ := Lib.hid (bstep HU4.out hbz1)
      clear hbz1
      go_wp2_with fail
      go_ret
      exact ⟨rfl, HBZ.out⟩
end Go.Proofs.YtcmkepkeeahioaaGreatDoor
namespace Go.Proofs.YtcmkepkeeahioaaGreatDoor
open Go.RowKit
theorem notesBack_go (c0 c1 c2 c3 c4 : Value) (a1 : ByteArray) (W : World) (hn : ∃ nd, NAt W nd c0 c1 c2 c3 c4 ∧ wfN nd) (w1 : a1.size ≤ maxLen) (hL : laidMetH Tryz.prog Rows.notesBackRow.laid W) (_ : W.ShapedOpen Tryz.prog) :
    Calls Tryz.prog 4 #[.agg #[c0, c1, c2, c3, c4], .string a1] W fun e W' => e = .returned (.bool true) ∧ Below W.heap.size W W' := by
  rw [MakeChecks.laidMetH_plain _ _ _ (by kernel_rfl)] at hL
  obtain ⟨nd, h1, h2⟩ := hn
  exact notesBack_walk nd a1 c0 c1 c2 c3 c4 W h1 h2 (by unfold maxLen at w1; omega) (env17 hL)
end Go.Proofs.YtcmkepkeeahioaaGreatDoor
