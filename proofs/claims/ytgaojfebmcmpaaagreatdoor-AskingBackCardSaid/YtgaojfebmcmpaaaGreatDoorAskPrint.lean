/- What Print of package asking returns. -/
import Derived.Test.YtgaojfebmcmpaaaGreatDoorAskCheck
import Derived.Test.YtgaojfebmcmpaaaGreatDoorLinesBackPlain
import Derived.Test.YtgaojfebmcmpaaaGreatDoorFieldsPlain4
import Derived.Deep.RegionWith
import Derived.Deep.RegionHeld3
namespace Go.Proofs.YtgaojfebmcmpaaaGreatDoor
open Go.RowKit

/-- a request's lines -/
def line1 (p : List UInt8) : List UInt8 := [71, 69, 84, 32] ++ p ++ [32, 72, 84, 84, 80, 47, 49, 46, 49]
def line2 (h : List UInt8) : List UInt8 := [72, 111, 115, 116, 58, 32] ++ h
def line3 (a b : Int) : List UInt8 := [82, 97, 110, 103, 101, 58, 32] ++ askL a b
def reqL (p h : List UInt8) (a b : Int) : List UInt8 := body [line1 p, line2 h, line3 a b] ++ [13, 10]
def lines4 (p h : List UInt8) (a b : Int) : List (List UInt8) := [line1 p, line2 h, line3 a b, []]
def aPrint (p h : List UInt8) (a b : Int) : List UInt8 := if aErr p h a b = 0 then reqL p h a b else []
theorem aErr_zero (p h : List UInt8) (a b : Int) (he : aErr p h a b = 0) : pathB p = true ∧ hostB h = true ∧ rErr a b = 0 := by
  unfold aErr at he
  split at he
  · exact absurd he (by decide)
  · rename_i hn
    refine ⟨?_, ?_, he⟩
    · cases e : pathB p with
      | false => exact absurd (.inl e) hn
      | true => rfl
    · cases e : hostB h with
      | false => exact absurd (.inr e) hn
      | true => rfl
theorem pathB_and (p : List UInt8) (h : pathB p = true) : p.length ≤ 64 ∧ (∀ c ∈ p, pathN c.toNat = true) ∧ p ≠ [] := by
  unfold pathB at h
  simp only [Bool.and_eq_true, decide_eq_true_eq, List.all_eq_true] at h
  refine ⟨h.1.2, h.2, ?_⟩
  intro e; rw [e] at h; exact absurd h.1.1 (by decide)
theorem hostB_and (p : List UInt8) (h : hostB p = true) : p.length ≤ 32 ∧ (∀ c ∈ p, hostN c.toNat = true) ∧ p ≠ [] := by
  unfold hostB at h
  simp only [Bool.and_eq_true, decide_eq_true_eq, List.all_eq_true, Bool.not_eq_true', List.isEmpty_eq_false_iff] at h
  exact ⟨h.1.2, h.2, h.1.1⟩
theorem pathN_plain (x : Nat) (h : pathN x = true) : plainB x = true ∧ x ≠ 32 := by
  unfold pathN at h
  simp only [Bool.and_eq_true, decide_eq_true_eq] at h
  exact ⟨plainB_of x (by omega) (by omega), by omega⟩
theorem hostN_plain (x : Nat) (h : hostN x = true) : plainB x = true ∧ x ≠ 32 := by
  unfold hostN letN digN at h
  simp only [Bool.or_eq_true, Bool.and_eq_true, decide_eq_true_eq, beq_iff_eq] at h
  exact ⟨plainB_of x (by omega) (by omega), by omega⟩
theorem put_of (l : List UInt8) (h : plainL l) (hl : l.length ≤ 256) : putErr l = 0 := by
  unfold putErr
  rw [if_neg (by rw [List.all_eq_true.2 h]; decide), if_neg (by omega)]
theorem digL_plain (n : Int) : plainL (digL n) := by
  intro c hc
  unfold digL at hc
  split at hc
  · simp at hc
  · have := List.all_eq_true.1 (decDigits_all n.toNat) c hc
    unfold digN at this
    simp only [Bool.and_eq_true, decide_eq_true_eq] at this
    exact plainB_of _ (by omega) (by omega)
theorem line1_put (p : List UInt8) (h : pathB p = true) : putErr (line1 p) = 0 := by
  obtain ⟨h1, h2, -⟩ := pathB_and p h
  refine put_of _ ?_ (by unfold line1; simp; omega)
  intro c hc
  unfold line1 at hc
  rw [List.mem_append, List.mem_append] at hc
  rcases hc with (hc | hc) | hc
  · exact (show ∀ d ∈ ([71, 69, 84, 32] : List UInt8), plainB d.toNat = true by decide) c hc
  · exact (pathN_plain _ (h2 c hc)).1
  · exact (show ∀ d ∈ ([32, 72, 84, 84, 80, 47, 49, 46, 49] : List UInt8), plainB d.toNat = true by decide) c hc
theorem line2_put (p : List UInt8) (h : hostB p = true) : putErr (line2 p) = 0 := by
  obtain ⟨h1, h2, -⟩ := hostB_and p h
  refine put_of _ ?_ (by unfold line2; simp; omega)
  intro c hc
  unfold line2 at hc
  rw [List.mem_append] at hc
  rcases hc with hc | hc
  · exact (show ∀ d ∈ ([72, 111, 115, 116, 58, 32] : List UInt8), plainB d.toNat = true by decide) c hc
  · exact (hostN_plain _ (h2 c hc)).1
theorem askL_len (a b : Int) (ha : a ≤ 9223372036854775807) (hb : b ≤ 9223372036854775807) : (askL a b).length ≤ 47 := by
  unfold askL
  split
  · rw [List.length_append]; have := textR_len a b ha hb; have e : asksL.length = 6 := rfl; omega
  · exact Nat.zero_le _
theorem askL_plain (a b : Int) : plainL (askL a b) := by
  unfold askL
  split
  · intro c hc
    unfold textR at hc
    rw [List.mem_append, List.mem_append, List.mem_cons] at hc
    rcases hc with hc | hc | hc | hc
    · exact (show ∀ d ∈ asksL, plainB d.toNat = true by decide) c hc
    · exact digL_plain a c hc
    · subst hc; decide
    · exact digL_plain b c hc
  · intro c hc; simp at hc
theorem line3_put (a b : Int) (ha : a ≤ 9223372036854775807) (hb : b ≤ 9223372036854775807) : putErr (line3 a b) = 0 := by
  refine put_of _ ?_ (by unfold line3; have := askL_len a b ha hb; simp; omega)
  intro c hc
  unfold line3 at hc
  rw [List.mem_append] at hc
  rcases hc with hc | hc
  · exact (show ∀ d ∈ ([82, 97, 110, 103, 101, 58, 32] : List UInt8), plainB d.toNat = true by decide) c hc
  · exact askL_plain a b c hc
/-- what laying a line that may be laid returns -/
theorem put_good (s : ByteArray) (w : World) (hs : s.size ≤ 256) (h : putErr s.data.toList = 0) :
    Calls Tryz.prog 57 #[.string s] w fun e w' => e = .returned (.tuple #[.string (s ++ ⟨#[13, 10]⟩), .int .i64 0]) ∧ w' = w := by
  have := lines_put s w (by omega)
  unfold putLine at this
  rw [if_pos h, h] at this
  exact this
theorem c_join3 (B : Nat) (x y z : ByteArray) (W : World) (hx : x.size ≤ 1000000) (hy : y.size ≤ 1000000) (hz : z.size ≤ 1000000) (h0 : W.cell? ⟨B, 0, none⟩ = some (.string x)) (h1 : W.cell? ⟨B, 1, none⟩ = some (.string y)) (h2 : W.cell? ⟨B, 2, none⟩ = some (.string z)) (hB : B < W.heap.size) :
    Calls Tryz.prog 56 #[.slice (some ⟨B, 0, none⟩) 3 3, .string ⟨#[32]⟩] W fun e w' => e = .returned (.string (bs (x.data.toList ++ 32 :: (y.data.toList ++ 32 :: z.data.toList)))) ∧ Below W.heap.size W w' := by
  have hj : Lib.join ([x, y, z].map (·.data.toList)) (ByteArray.mk #[32]).data.toList = x.data.toList ++ 32 :: (y.data.toList ++ 32 :: z.data.toList) := by
    simp [Lib.join]
  have := Tryz.strings_Join B 0 3 [x, y, z] ⟨#[32]⟩ W (fun j u hj => by
    match j, hj with
    | 0, hj => simp at hj; subst hj; exact h0
    | 1, hj => simp at hj; subst hj; exact h1
    | 2, hj => simp at hj; subst hj; exact h2) hB (by simp) (by simp) (by
      rw [hj]; simp only [List.length_append, List.length_cons, size_len]; omega)
  rw [hj] at this
  exact this
theorem c_join3n (x y z : ByteArray) (W : World) (hx : x.size ≤ 1000000) (hy : y.size ≤ 1000000) (hz : z.size ≤ 1000000) :
    Calls Tryz.prog 56 #[.slice (some ⟨W.heap.size, 0, none⟩) 3 3, .string ⟨#[32]⟩] (W.alloc (.cells #[.string x, .string y, .string z] 9)).drew fun e w' => e = .returned (.string (bs (x.data.toList ++ 32 :: (y.data.toList ++ 32 :: z.data.toList)))) ∧ Below (W.alloc (.cells #[.string x, .string y, .string z] 9)).drew.heap.size (W.alloc (.cells #[.string x, .string y, .string z] 9)).drew w' := by
  have hh : (W.alloc (.cells #[.string x, .string y, .string z] 9)).drew.heap[W.heap.size]? = some (.cells #[.string x, .string y, .string z] 9 (0, 0)) := heap_alloc_new W _
  refine c_join3 W.heap.size x y z _ hx hy hz ?_ ?_ ?_ (by simp) <;> (unfold World.cell?; rw [hh]; rfl)
set_option maxRecDepth 100000 in
set_option maxHeartbeats 4000000 in
theorem asking_print (p h : ByteArray) (a b : Int) (w : World) (hE : EnvF w) (ha0 : -9223372036854775808 ≤ a) (ha : a ≤ 9223372036854775807) (hb0 : -9223372036854775808 ≤ b) (hb : b ≤ 9223372036854775807) :
    Calls Tryz.prog 16 #[.agg #[.string p, .string h, .int .i64 a, .int .i64 b]] w fun e w' => e = .returned (.tuple #[.string (bs (aPrint p.data.toList h.data.toList a b)), .int .i64 (aErr p.data.toList h.data.toList a b : Nat)]) ∧ Below w.heap.size w w' := by
  have HC := Lib.hid (fun w => asking_check p h a b w)
  have HA := Lib.hid (fun w hE => ranges_ask a b w hE ha0 ha hb0 hb)
  have HE := Lib.hid (hE.below (below_agg4 w (.string p) (.string h) (.int .i64 a) (.int .i64 b) 32))
  clear hE
  by_cases he : aErr p.data.toList h.data.toList a b = 0
  · obtain ⟨z1, z2, hr⟩ := aErr_zero _ _ _ _ he
    have hp : p.size ≤ 64 := by have := (pathB_and _ z1).1; rwa [size_len] at this
    have hh : h.size ≤ 32 := by have := (hostB_and _ z2).1; rwa [size_len] at this
    have o1 := line1_put _ z1
    have o2 := line2_put _ z2
    have o3 := line3_put a b ha hb
    have HRQ : Hid (aPrint p.data.toList h.data.toList a b = reqL p.data.toList h.data.toList a b) := Lib.hid (if_pos he)
    rw [he] at HC ⊢
    rw [hr] at HA
    obtain ⟨Q, hQ⟩ : ∃ Q, bs (askL a b) = Q := ⟨_, rfl⟩
    rw [hQ] at HA
    have hQs : Q.size ≤ 47 := by rw [← hQ, bs_size]; exact askL_len a b ha hb
    have p1 := fun w => run_string_add_sum (P := Tryz.prog) w ⟨#[72, 111, 115, 116, 58, 32]⟩ h (by show 6 + _ ≤ _; omega)
    have p2 := fun w => run_string_add_sum (P := Tryz.prog) w ⟨#[82, 97, 110, 103, 101, 58, 32]⟩ Q (by show 7 + _ ≤ _; omega)
    obtain ⟨L1, hL1⟩ : ∃ L1, bs (line1 p.data.toList) = L1 := ⟨_, rfl⟩
    have e2 : (⟨#[72, 111, 115, 116, 58, 32]⟩ : ByteArray) ++ h = bs (line2 h.data.toList) := by
      rw [show (⟨#[72, 111, 115, 116, 58, 32]⟩ : ByteArray) = bs [72, 111, 115, 116, 58, 32] from rfl]
      conv => lhs; rw [← bs_self h]
      rw [bs_cat]; rfl
    have e3 : (⟨#[82, 97, 110, 103, 101, 58, 32]⟩ : ByteArray) ++ Q = bs (line3 a b) := by
      rw [show (⟨#[82, 97, 110, 103, 101, 58, 32]⟩ : ByteArray) = bs [82, 97, 110, 103, 101, 58, 32] from rfl, ← hQ, bs_cat]; rfl
    have s1 : L1.size ≤ 77 := by rw [← hL1, bs_size]; unfold line1; have := size_len p; simp only [List.length_append, List.length_cons, List.length_nil]; omega
    have HX : Hid (∀ (W : World) (B : Nat), (W.cell? ⟨B, 0, none⟩ = some (.string L1) ∧ W.cell? ⟨B, 1, none⟩ = some (.string (⟨#[72, 111, 115, 116, 58, 32]⟩ ++ h)) ∧ W.cell? ⟨B, 2, none⟩ = some (.string (⟨#[82, 97, 110, 103, 101, 58, 32]⟩ ++ Q)) ∧ W.cell? ⟨B, 3, none⟩ = some (.string ⟨#[]⟩)) → ∀ k, k < 4 → ∀ O, O = bs (body ((lines4 p.data.toList h.data.toList a b).take k)) →
        ∃ X, W.cell? ⟨B, k, none⟩ = some (.string X) ∧ X.size ≤ 100 ∧ (∀ w, Calls Tryz.prog 57 #[.string X] w fun e w' => e = .returned (.tuple #[.string (X ++ ⟨#[13, 10]⟩), .int .i64 0]) ∧ w' = w) ∧ O ++ (X ++ ⟨#[13, 10]⟩) = bs (body ((lines4 p.data.toList h.data.toList a b).take (k + 1)))) := Lib.hid (by
      intro W B hc k hk O hO
      obtain ⟨c0, c1, c2, c3⟩ := hc
      have hb : ∀ (O : ByteArray) (X : ByteArray) (A : List (List UInt8)) (x : List UInt8), O = bs (body A) → X = bs x → O ++ (X ++ ⟨#[13, 10]⟩) = bs (body (A ++ [x])) := by
        intro O X A x h1 h2
        rw [h1, h2, show (⟨#[13, 10]⟩ : ByteArray) = bs [13, 10] from rfl, bs_cat, bs_cat, body_append]
        rfl
      match k, hk with
      | 0, _ => exact ⟨L1, c0, by omega, fun w => put_good L1 w (by omega) (by rw [← hL1, bs_data]; exact o1), hb _ _ [] _ hO hL1.symm⟩
      | 1, _ => exact ⟨_, c1, by rw [ByteArray.size_append]; show 6 + _ ≤ _; omega, fun w => put_good _ w (by rw [ByteArray.size_append]; show 6 + _ ≤ _; omega) (by rw [e2, bs_data]; exact o2), hb _ _ [line1 p.data.toList] _ hO e2⟩
      | 2, _ => exact ⟨_, c2, by rw [ByteArray.size_append]; show 7 + _ ≤ _; omega, fun w => put_good _ w (by rw [ByteArray.size_append]; show 7 + _ ≤ _; omega) (by rw [e3, bs_data]; exact o3), hb _ _ [line1 p.data.toList, line2 h.data.toList] _ hO e3⟩
      | 3, _ => exact ⟨_, c3, by decide, fun w => put_good _ w (by decide) (by decide), hb _ _ [line1 p.data.toList, line2 h.data.toList, line3 a b] [] hO rfl⟩)
    clear e2 e3 o1 o2 o3 z1 z2
    have hl1 : (⟨#[71, 69, 84]⟩ : ByteArray).data.toList ++ 32 :: (p.data.toList ++ 32 :: (⟨#[72, 84, 84, 80, 47, 49, 46, 49]⟩ : ByteArray).data.toList) = line1 p.data.toList := by unfold line1; simp
    have hJ := fun W => c_join3n ⟨#[71, 69, 84]⟩ p ⟨#[72, 84, 84, 80, 47, 49, 46, 49]⟩ W (by decide) (by omega) (by decide)
    rw [hl1, hL1] at hJ
    have HJ := Lib.hid hJ
    clear hl1 hJ
    go_enter Tryz.func16, Tryz.ntmps16
    go_wp2_with fail
    refine (HC.out _).mono ?_
    rintro e w1 ⟨rfl, hb1⟩
    obtain ⟨c0, c1, c2, c3⟩ := box_four hb1
    have HB1 := Lib.hid hb1
    have HE1 := Lib.hid (HE.out.below hb1)
    clear hb1
    go_wp2_with fail
    refine (HA.out _ HE1.out).mono ?_
    rintro e w2 ⟨rfl, hb2⟩
    have HB2 := Lib.hid (bstep HB1.out hb2)
    have HE2 := Lib.hid (HE1.out.below hb2)
    obtain ⟨c0, c1, c2, c3⟩ := box_four HB2.out
    have hlt : w.heap.size < w2.heap.size := by have := HB2.out.size; simp at this; omega
    clear hb2
    go_wp2_with fail
    go_region_with (first
      | (go_at_call 56; go_loud (refine (HJ.out _).mono ?_; rintro e wx ⟨rfl, hbx⟩; obtain ⟨hcx, hfx⟩ := kcell hbx; have hsx := hbx.size)))
    all_goals
      have hbx' : Below w2.heap.size w2 wx := bstep (((Below.refl _ _).alloc (Nat.le_refl _) _).drew) hbx
      have HB3 := Lib.hid (bstep HB2.out (bstep hbx' ((Below.refl _ _).alloc (Nat.le_refl _) (.cells #[.string L1, .string (⟨#[72, 111, 115, 116, 58, 32]⟩ ++ h), .string (⟨#[82, 97, 110, 103, 101, 58, 32]⟩ ++ Q), .string ⟨#[]⟩] 9))))
      have HK := Lib.hid (box4 wx (.string L1) (.string (⟨#[72, 111, 115, 116, 58, 32]⟩ ++ h)) (.string (⟨#[82, 97, 110, 103, 101, 58, 32]⟩ ++ Q)) (.string ⟨#[]⟩) 9)
      clear hbx hbx' hcx hfx hsx c0 c1 c2 c3 hlt p1 p2
      generalize hN : wx.alloc (.cells #[.string L1, .string (⟨#[72, 111, 115, 116, 58, 32]⟩ ++ h), .string (⟨#[82, 97, 110, 103, 101, 58, 32]⟩ ++ Q), .string ⟨#[]⟩] 9) = wn at HB3 HK ⊢
      clear hN
      go_wp2_with fail
      go_simp
      go_loopg [7, 34] 4 (fun gk s7 s34 wy => ∃ (k : Nat) (O : ByteArray), s7 = .string O ∧ s34 = .int .i64 (k : Int) ∧ wy = wn ∧ k + gk = 4 ∧ O.size ≤ k * 200 ∧ Hid (O = bs (body ((lines4 p.data.toList h.data.toList a b).take k))))
      case atStart => exact ⟨0, ⟨#[]⟩, rfl, by simp, rfl, by omega, by decide, Lib.hid rfl⟩
      case round =>
        obtain ⟨k, O, rfl, rfl, rfl, hgk, hOs, HO⟩ := hrel
        by_cases hk : k < 4
        · obtain ⟨g', rfl⟩ : ∃ g', gk = g' + 1 := ⟨gk - 1, by omega⟩
          have tk : decide ((k : Int) < 4) = true := decide_eq_true (by omega)
          obtain ⟨X, hc, hXs, HP, HO2⟩ := HX.out wr wx.heap.size HK.out k hk O HO.out
          have padd := fun w => run_string_add_sum (P := Tryz.prog) w O (X ++ ⟨#[13, 10]⟩) (by rw [ByteArray.size_append]; show _ + (_ + 2) ≤ _; omega)
          have HPP := Lib.hid HP
          have HOO := Lib.hid HO2
          clear HP HO2
          go_wp2_with fail
          refine (HPP.out _).mono ?_
          rintro e w' ⟨rfl, rfl⟩
          go_wp2_with fail
          go_roundg g'
          case measure => omega
          case rel => exact ⟨k + 1, _, rfl, by simp, rfl, by omega, by rw [ByteArray.size_append, ByteArray.size_append]; show _ + (_ + 2) ≤ _; omega, Lib.hid HOO.out⟩
        · obtain rfl : k = 4 := by omega
          have HR : Hid (O = bs (reqL p.data.toList h.data.toList a b)) := Lib.hid (by rw [HO.out]; congr 1; unfold reqL lines4; simp [body])
          go_wp2_with fail
          go_ret2
          exact ⟨by rw [HRQ.out, ← HR.out]; rfl, bstep (below_agg4 w _ _ _ _ _) HB3.out⟩
  · have HR : Hid (aPrint p.data.toList h.data.toList a b = []) := Lib.hid (if_neg he)
    obtain ⟨Z, hZ⟩ : ∃ Z, aErr p.data.toList h.data.toList a b = Z := ⟨_, rfl⟩
    rw [hZ] at HC he ⊢
    have tz : ((Z : Int) != 0) = true := by rw [bne_iff_ne]; omega
    clear hZ
    go_enter Tryz.func16, Tryz.ntmps16
    go_wp2_with fail
    refine (HC.out _).mono ?_
    rintro e w1 ⟨rfl, hb1⟩
    go_wp2_with fail
    go_ret2
    exact ⟨by rw [HR.out]; rfl, bstep (below_agg4 w _ _ _ _ _) hb1⟩
end Go.Proofs.YtgaojfebmcmpaaaGreatDoor
