/- The law function FieldsNames. -/
import Derived.Test.YtnfadmdndefanaaGreatDoorFieldsLinesLaw
import Derived.Lib.Case
import Derived.Lib.IndexMore
namespace Go.Proofs.YtnfadmdndefanaaGreatDoor
open Go.RowKit

theorem index_infix (t a b : List UInt8) : 0 ≤ Go.Lib.index (a ++ t ++ b) t := by
  induction a with
  | nil =>
    have hp : t.isPrefixOf (t ++ b) = true := by rw [List.isPrefixOf_iff_prefix]; exact List.prefix_append t b
    show 0 ≤ Go.Lib.index (t ++ b) t
    cases hx : t ++ b with
    | nil =>
      rw [hx] at hp
      unfold Go.Lib.index
      cases t with
      | nil => decide
      | cons c r => exact absurd hp (by simp [List.isPrefixOf])
    | cons c r => rw [hx] at hp; unfold Go.Lib.index; rw [if_pos hp]; decide
  | cons c r ih =>
    show 0 ≤ Go.Lib.index (c :: (r ++ t ++ b)) t
    unfold Go.Lib.index
    split
    · decide
    · rw [if_neg (by rw [beq_iff_eq]; omega)]; omega
theorem lower_named (l : List UInt8) (h : ∀ c ∈ l, namedN c.toNat = true) : Go.Lib.toLowerA l = l := by
  unfold Go.Lib.toLowerA
  conv => rhs; rw [← List.map_id l]
  refine List.map_congr_left (fun c hc => ?_)
  have := namedN_bd _ (h c hc)
  unfold Go.Lib.lowerB Go.Lib.isUpperB
  rw [if_neg (by simp [UInt8.le_iff_toNat_le]; omega)]; rfl
theorem c_lower (s : ByteArray) (w : World) (hs : s.size ≤ 1000000) (h : ∀ c ∈ s.data.toList, namedN c.toNat = true) :
    Calls Tryz.prog 12 #[.string s] w fun e w' => e = .returned (.string s) ∧ Below w.heap.size w w' := by
  have := Tryz.strings_ToLower_ascii s w (by omega) (fun j b hb => by
    have := namedN_bd _ (h b (List.mem_of_getElem? hb)); omega)
  rw [lower_named _ h] at this
  have e : (⟨s.data.toList.toArray⟩ : ByteArray) = s := bs_self s
  rw [e] at this
  exact this
theorem c_contains (s t : ByteArray) (w : World) (hs : s.size ≤ 1000000) (hE : EnvF w) (h : ∃ a b, s.data.toList = a ++ t.data.toList ++ b) :
    Calls Tryz.prog 14 #[.string s, .string t] w fun e w' => e = .returned (.bool true) ∧ w' = w := by
  obtain ⟨m, hm⟩ := hE.m
  have := Tryz.strings_Contains s t m w (by omega) hm
  rw [show Go.Lib.contains s.data.toList t.data.toList = true by
    obtain ⟨a, b, e⟩ := h
    unfold Go.Lib.contains; rw [e]; exact decide_eq_true (index_infix _ a b)] at this
  exact this

theorem notEmpty_of (s : ByteArray) (h : s.data.toList ≠ []) : s.toList.isEmpty = false := by
  rw [ByteArray.toList_eq, Bool.eq_false_iff, Ne, List.isEmpty_iff]; exact h

set_option maxRecDepth 100000 in
set_option maxHeartbeats 4000000 in
theorem fieldsNames_walk (s : ByteArray) (w : World) (hE : EnvF w) (hs : s.size ≤ 9223372036854775807) :
    Calls Tryz.prog 4 #[.string s] w fun e w' => e = .returned (.bool true) ∧ Below w.heap.size w w' := by
  have HE := Lib.hid hE
  clear hE
  by_cases hl : (400 : Int) < (s.size : Int)
  · go_enter Tryz.func4, Tryz.ntmps4
    go_wp2_with fail
    refine (awake22 _ HE.out).mono ?_
    rintro e w1 ⟨rfl, hb⟩
    go_wp2_with fail
    go_ret
    exact ⟨rfl, hb⟩
  · have hgd := guard_field
    by_cases hpe : parseE s.data.toList = 0
    · obtain ⟨N, hN⟩ : ∃ N, N = bs (parseN s.data.toList) := ⟨_, rfl⟩
      obtain ⟨V, hV⟩ : ∃ V, V = bs (parseV s.data.toList) := ⟨_, rfl⟩
      have hP := fun w hE => fields_parse s w (by omega) hE
      rw [hpe, ← hN, ← hV] at hP
      have hok := parse_print s.data.toList hpe
      have hNd : N.data.toList = parseN s.data.toList := by rw [hN, bs_data]
      have hVd : V.data.toList = parseV s.data.toList := by rw [hV, bs_data]
      rw [← hNd, ← hVd] at hok
      obtain ⟨o1, o2, o3⟩ := printOk_and _ _ hok
      obtain ⟨n1, n2, n3⟩ := nameL_all _ o1
      have hNs : N.size ≤ 32 := by rw [← size_len]; exact n3
      have hVs : V.size ≤ s.size := by
        obtain ⟨a, b, e⟩ := parse_infix _ hpe
        have := congrArg List.length e
        rw [← hVd, List.length_append, List.length_append, size_len, size_len] at this
        omega
      have hinf : ∃ a b, s.data.toList = a ++ V.data.toList ++ b := by rw [hVd]; exact parse_infix _ hpe
      have HLow := Lib.hid (fun w => c_lower N w (by omega) n1)
      have HCon := Lib.hid (fun w hE => c_contains s V w (by omega) hE hinf)
      have htr : bs (Go.Lib.trimS V.data.toList gapL) = V := by rw [(trimS_iff _).2 o3, bs_self]
      have hTr := fun w => c_trim V w (by omega)
      rw [htr] at hTr
      have HTr := Lib.hid hTr
      have hemp := notEmpty_of N n2
      have hA := fun w => fields_print N V w (by omega) (by omega)
      obtain ⟨S, hS⟩ : ∃ S, S = bs (fieldS N.data.toList V.data.toList) := ⟨_, rfl⟩
      rw [← hS] at hA
      have hY := fieldE_yes _ _ hok
      have hpp := print_parse _ _ hok
      have HP := Lib.hid hP
      have heq := eq_field N V N V
      clear hP hN hV hpe hNd hVd o1 o2 o3 n1 n2 n3 hinf htr hTr
      by_cases hlong : 256 < (printL N.data.toList V.data.toList).length
      · rw [(hY.1 hlong).1] at hA
        have HA := Lib.hid hA
        clear hA hS hY hpp hlong hok
        go_enter Tryz.func4, Tryz.ntmps4
        go_wp2_with fail
        refine (HP.out _ HE.out).mono ?_
        rintro e w1 ⟨rfl, g1⟩
        have HE1 := Lib.hid (HE.out.below g1)
        obtain ⟨l0, k0, k1⟩ := Two2.new w1 (.string N) (.string V) 27
        go_wp2_with fail
        refine (HA.out _).mono ?_
        rintro e w2 ⟨rfl, g2⟩
        have T := Two2.below ⟨l0, k0, k1⟩ g2
        have HE2 := Lib.hid ((HE1.out.below (below_new _ _)).below g2)
        have hb2 := bstep g1 (bstep (below_new _ _) g2)
        clear g1 g2 k0 k1 l0 HE1
        go_wp2_with fail
        have k0 : ∀ p : BelowOf w2, p.world.cell? ⟨w1.heap.size, 0, none⟩ = some (.string N) := fun p => cell_of p T.1 T.2.1
        have k1 : ∀ p : BelowOf w2, p.world.cell? ⟨w1.heap.size, 1, none⟩ = some (.string V) := fun p => cell_of p T.1 T.2.2
        have T' := Lib.hid T
        clear T
        refine wp_region_quiet_below (by kernel_rfl) (by kernel_rfl) ?_
        repeat (go_big_quiet_step ((first
          | (go_at_call 12; exact below_of (HLow.out _))
          | (go_at_call 13; exact below_of (HTr.out _))
          | (go_at_call 14; exact below_same (HCon.out _ (HE2.out.below (BelowOf.below _)))))))
        refine wpQuiet_nil ?_
        intro W3 hw'
        have g3 := of_class hw'
        clear hw' k0 k1
        go_wp2_with fail
        refine (awake22 _ (HE2.out.below g3)).mono ?_
        rintro e w4 ⟨rfl, g4⟩
        go_wp2_with fail
        go_ret
        exact ⟨rfl, bstep hb2 (bstep g3 g4)⟩
      · rw [(hY.2 (by omega)).1] at hA
        have hSd : S.data.toList = printL N.data.toList V.data.toList := by rw [hS, bs_data]; exact (hY.2 (by omega)).2
        have hSs : S.size ≤ 256 := by rw [← size_len, hSd]; omega
        have hP2 := fun w hE => fields_parse S w (by omega) hE
        rw [hSd, hpp.1, hpp.2.1, hpp.2.2, bs_self, bs_self] at hP2
        have HP2 := Lib.hid hP2
        have HA := Lib.hid hA
        clear hA hS hY hpp hlong hok hSd hP2
        go_enter Tryz.func4, Tryz.ntmps4
        go_wp2_with fail
        refine (HP.out _ HE.out).mono ?_
        rintro e w1 ⟨rfl, g1⟩
        have HE1 := Lib.hid (HE.out.below g1)
        obtain ⟨l0, k0, k1⟩ := Two2.new w1 (.string N) (.string V) 27
        go_wp2_with fail
        refine (HA.out _).mono ?_
        rintro e w2 ⟨rfl, g2⟩
        have T := Two2.below ⟨l0, k0, k1⟩ g2
        have HE2 := Lib.hid ((HE1.out.below (below_new _ _)).below g2)
        have hb2 := bstep g1 (bstep (below_new _ _) g2)
        clear g1 g2 k0 k1 l0 HE1
        go_wp2_with fail
        have k0 : ∀ p : BelowOf w2, p.world.cell? ⟨w1.heap.size, 0, none⟩ = some (.string N) := fun p => cell_of p T.1 T.2.1
        have k1 : ∀ p : BelowOf w2, p.world.cell? ⟨w1.heap.size, 1, none⟩ = some (.string V) := fun p => cell_of p T.1 T.2.2
        have T' := Lib.hid T
        clear T
        refine wp_region_quiet_below (by kernel_rfl) (by kernel_rfl) ?_
        repeat (go_big_quiet_step ((first
          | (go_at_call 12; exact below_of (HLow.out _))
          | (go_at_call 13; exact below_of (HTr.out _))
          | (go_at_call 14; exact below_same (HCon.out _ (HE2.out.below (BelowOf.below _)))))))
        refine wpQuiet_nil ?_
        intro W3 hw'
        have g3 := of_class hw'
        clear hw' k0 k1
        go_wp2_with fail
        refine (HP2.out _ (HE2.out.below g3)).mono ?_
        rintro e w4 ⟨rfl, g4⟩
        obtain ⟨l0, k0, k1⟩ := (T'.out.below (bstep g3 g4)).alloc (.cells #[.string N, .string V] 27)
        obtain ⟨l1, j0, j1⟩ := Two2.new w4 (.string N) (.string V) 27
        have HE3 := Lib.hid ((HE2.out.below (bstep g3 g4)).below (below_new w4 (.cells #[.string N, .string V] 27)))
        have hb3 := bstep hb2 (bstep (bstep g3 g4) (below_new w4 (.cells #[.string N, .string V] 27)))
        clear g3 g4 HE2 hb2
        go_wp2_with fail
        refine (awake22 _ HE3.out).mono ?_
        rintro e w5 ⟨rfl, g5⟩
        go_wp2_with fail
        go_ret
        exact ⟨rfl, bstep hb3 g5⟩
    · obtain ⟨p1, p2, p3⟩ := parse_four _ hpe
      have hP := fun w hE => fields_parse s w (by omega) hE
      rw [p1, p2, p3] at hP
      have HP := Lib.hid hP
      have heq := eq_field
      clear hP p1 p2 p3 hpe
      go_enter Tryz.func4, Tryz.ntmps4
      go_wp2_with fail
      refine (HP.out _ HE.out).mono ?_
      rintro e w1 ⟨rfl, g1⟩
      have HE1 := Lib.hid ((HE.out.below g1).below (below_new _ (.cells #[.string (bs []), .string (bs [])] 27)))
      obtain ⟨l0, k0, k1⟩ := Two2.new w1 (.string (bs [])) (.string (bs [])) 27
      have ebs : (bs []).toList = [] := by rw [ByteArray.toList_eq]; rfl
      go_wp2_with fail
      refine (awake22 _ HE1.out).mono ?_
      rintro e w2 ⟨rfl, g2⟩
      go_wp2_with fail
      go_ret
      exact ⟨rfl, bstep g1 (bstep (below_new _ _) g2)⟩
end Go.Proofs.YtnfadmdndefanaaGreatDoor
