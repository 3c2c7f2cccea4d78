/- What Path and Host of the reference of asking return. Results that lie in a block. What Check of package asking, and of its reference, and the law's Own return. A text cut at its blanks: the words (no program in sight). The words of a line: what lines.Words and the reference's Words return; ref.Same. The lines of a head: what lines.Head and the reference's Head return. Lines laid one behind the other read as a head; cut anywhere they are too short (no program in sight). Plain laws: trimming blanks and tabs byte by byte; what a field is printed as (no program in sight). Plain laws: a printed field is parsed as it was; a parsed one is printed again (no program in sight). What Print of package asking returns. What Print of the reference of asking returns. What cutting a line at its blanks returns. -/
import Derived.Test.YtfjdppngeillcaaGreatDoorPs3
import Derived.BigQuiet
import Derived.Outline
import Derived.Deep.RegionWith
import Derived.Deep.RegionHeld3
set_option linter.unusedVariables false
namespace Go.Proofs.YtfjdppngeillcaaGreatDoor
open Go.RowKit

theorem all_iff (l : List UInt8) (p : Nat → Bool) (h : ∀ j (hj : j < l.length), p l[j].toNat = true) : l.all (fun c => p c.toNat) = true := by
  rw [List.all_eq_true]
  intro c hc
  obtain ⟨j, hj, rfl⟩ := List.getElem_of_mem hc
  exact h j hj
theorem all_not (l : List UInt8) (p : Nat → Bool) (j : Nat) (hj : j < l.length) (h : p l[j].toNat = false) : l.all (fun c => p c.toNat) = false := by
  rw [List.all_eq_false]
  exact ⟨l[j], List.getElem_mem hj, by rw [h]; decide⟩
theorem slash_iff (s : ByteArray) (h : 0 < s.size) : [47].isPrefixOf s.data.toList = (s[0] == 47) := by
  have := List.drop_eq_getElem_cons (l := s.data.toList) (i := 0) (by rw [size_len]; exact h)
  rw [List.drop_zero] at this
  rw [this]
  show ((47 : UInt8) == s[0] && true) = _
  rw [Bool.and_true, Bool.eq_iff_iff, beq_iff_eq, beq_iff_eq]
  exact ⟨fun e => e.symm, fun e => e.symm⟩
set_option maxRecDepth 100000 in
set_option maxHeartbeats 2000000 in
theorem ref_path (s : ByteArray) (w : World) (hs : s.size ≤ 9223372036854775807) :
    Calls Tryz.prog 24 #[.string s] w fun e w' => e = .returned (.bool (pathB s.data.toList)) ∧ w' = w := by
  obtain ⟨ANS, hANS⟩ : ∃ ANS, pathB s.data.toList = ANS := ⟨_, rfl⟩
  rw [hANS]
  have HANS := Lib.hid hANS
  clear hANS
  go_enter Tryz.func24, Tryz.ntmps24
  go_wp2_with fail
  go_loopg [3] s.size (fun gk s3 wx => ∃ k : Nat, s3 = .int .i64 (k : Int) ∧ wx = w ∧ k + gk = s.size ∧ Hid (∀ j (hj : j < s.data.toList.length), j < k → pathN s.data.toList[j].toNat = true))
  case atStart => exact ⟨0, by simp, rfl, by omega, Lib.hid (fun j hj h => absurd h (Nat.not_lt_zero _))⟩
  case round =>
    obtain ⟨k, rfl, rfl, hgk, HK⟩ := hrel
    by_cases hk : k < s.size
    · have tk : decide ((k : Int) < (s.size : Int)) = true := decide_eq_true (by omega)
      have hkl : k < s.data.toList.length := by rw [size_len]; exact hk
      have hge : s.data.toList[k] = s[k] := rfl
      by_cases hb : 33 ≤ s[k].toNat ∧ s[k].toNat ≤ 126
      · have t1 : decide ((s[k].toNat : Int) < 33) = false := decide_eq_false (by omega)
        have t2 : decide ((s[k].toNat : Int) > 126) = false := decide_eq_false (by omega)
        have HK2 : Hid (∀ j (hj : j < s.data.toList.length), j < k + 1 → pathN s.data.toList[j].toNat = true) := Lib.hid (fun j hj h => by
          by_cases e : j = k
          · subst e; rw [hge]; unfold pathN; rw [decide_eq_true hb.1, decide_eq_true hb.2]; rfl
          · exact HK.out j hj (by omega))
        obtain ⟨g', rfl⟩ : ∃ g', gk = g' + 1 := ⟨gk - 1, by omega⟩
        clear hge hb
        go_wp2_with fail
        go_roundg g'
        case measure => omega
        case rel => exact ⟨k + 1, by simp, rfl, by omega, HK2⟩
      · have HR : Hid (ANS = false) := Lib.hid (by
          rw [← HANS.out]; unfold pathB
          rw [all_not _ pathN k hkl (by
            rw [hge]; unfold pathN
            by_cases h1 : 33 ≤ s[k].toNat
            · rw [decide_eq_false (show ¬ s[k].toNat ≤ 126 from fun h => hb ⟨h1, h⟩), Bool.and_false]
            · rw [decide_eq_false h1]; rfl), Bool.and_false])
        by_cases h1 : s[k].toNat < 33
        · have t1 : decide ((s[k].toNat : Int) < 33) = true := decide_eq_true (by omega)
          clear hge hb
          go_wp2_with fail
          go_ret
          exact ⟨by rw [HR.out]; rfl, rfl⟩
        · have t1 : decide ((s[k].toNat : Int) < 33) = false := decide_eq_false (by omega)
          have t2 : decide ((s[k].toNat : Int) > 126) = true := decide_eq_true (by omega)
          clear hge hb
          go_wp2_with fail
          go_ret
          exact ⟨by rw [HR.out]; rfl, rfl⟩
    · obtain rfl : k = s.size := by omega
      have tk : decide ((s.size : Int) < (s.size : Int)) = false := decide_eq_false (by omega)
      have hall := all_iff s.data.toList pathN (fun j hj => HK.out j hj (by rw [size_len] at hj; exact hj))
      have hR : ANS = ([47].isPrefixOf s.data.toList && decide (s.size ≤ 64)) := by
        rw [← HANS.out]; unfold pathB; rw [hall, Bool.and_true, size_len]
      by_cases h0 : 0 < s.size
      · have t0 : decide ((s.size : Int) ≥ 1) = true := decide_eq_true (by omega)
        rw [slash_iff s h0] at hR
        by_cases h64 : s.size ≤ 64
        · have t64 : decide ((s.size : Int) ≤ 64) = true := decide_eq_true (by omega)
          rw [decide_eq_true h64, Bool.and_true] at hR
          have hq : ((s[0].toNat : Int) == 47) = ANS := by
            rw [hR, Bool.eq_iff_iff, beq_iff_eq, beq_iff_eq, ← UInt8.toNat_inj]
            exact ⟨fun h => by show _ = 47; omega, fun h => by have : s[0].toNat = 47 := h; omega⟩
          clear hR hall HK
          cases ANS
          all_goals
            go_wp2_with fail
            go_ret
            exact ⟨rfl, rfl⟩
        · have t64 : decide ((s.size : Int) ≤ 64) = false := decide_eq_false (by omega)
          rw [decide_eq_false h64, Bool.and_false] at hR
          have HR := Lib.hid hR
          clear hR hall HK
          go_wp2_with fail
          go_ret
          exact ⟨by rw [HR.out]; rfl, rfl⟩
      · have t0 : decide ((s.size : Int) ≥ 1) = false := decide_eq_false (by omega)
        have HR : Hid (ANS = false) := Lib.hid (by
          have hn : s.data.toList = [] := List.length_eq_zero_iff.1 (by rw [size_len]; omega)
          rw [hR, hn]; rfl)
        clear hR hall HK
        go_wp2_with fail
        go_ret
        exact ⟨by rw [HR.out]; rfl, rfl⟩
theorem dec_lt (x k : Nat) (a : Bool) (h : decide (k ≤ x) = a) : decide ((x : Int) < (k : Int)) = !a := by
  rw [← h, ← decide_not]; exact decide_eq_decide.2 (by omega)
theorem dec_gt (x k : Nat) (a : Bool) (h : decide (x ≤ k) = a) : decide ((x : Int) > (k : Int)) = !a := by
  rw [← h, ← decide_not]; exact decide_eq_decide.2 (by omega)
theorem bne_cast (x k : Nat) (a : Bool) (h : (x == k) = a) : ((x : Int) != (k : Int)) = !a := by
  rw [← beq_cast x k a h]; rfl
set_option maxRecDepth 100000 in
set_option maxHeartbeats 16000000 in
theorem ref_host (s : ByteArray) (w : World) (hs : s.size ≤ 9223372036854775807) :
    Calls Tryz.prog 25 #[.string s] w fun e w' => e = .returned (.bool (hostB s.data.toList)) ∧ w' = w := by
  obtain ⟨ANS, hANS⟩ : ∃ ANS, hostB s.data.toList = ANS := ⟨_, rfl⟩
  rw [hANS]
  have HANS := Lib.hid hANS
  clear hANS
  go_enter Tryz.func25, Tryz.ntmps25
  go_wp2_with fail
  go_loopg [3] s.size (fun gk s3 wx => ∃ k : Nat, s3 = .int .i64 (k : Int) ∧ wx = w ∧ k + gk = s.size ∧ Hid (∀ j (hj : j < s.data.toList.length), j < k → hostN s.data.toList[j].toNat = true))
  case atStart => exact ⟨0, by simp, rfl, by omega, Lib.hid (fun j hj h => absurd h (Nat.not_lt_zero _))⟩
  case round =>
    obtain ⟨k, rfl, rfl, hgk, HK⟩ := hrel
    by_cases hk : k < s.size
    · have tk : decide ((k : Int) < (s.size : Int)) = true := decide_eq_true (by omega)
      have hkl : k < s.data.toList.length := by rw [size_len]; exact hk
      have hge : s.data.toList[k] = s[k] := rfl
      obtain ⟨g', rfl⟩ : ∃ g', gk = g' + 1 := ⟨gk - 1, by omega⟩
      have HG : Hid (hostN s[k].toNat = true → ∀ j (hj : j < s.data.toList.length), j < k + 1 → hostN s.data.toList[j].toNat = true) := Lib.hid (fun hb j hj h => by
        by_cases e : j = k
        · subst e; rw [hge]; exact hb
        · exact HK.out j hj (by omega))
      have HF : Hid (hostN s[k].toNat = false → ANS = false) := Lib.hid (fun hb => by
        rw [← HANS.out]; unfold hostB
        rw [all_not _ hostN k hkl (by rw [hge]; exact hb), Bool.and_false])
      clear hge
      cases h1 : decide (97 ≤ s[k].toNat) <;> cases h2 : decide (s[k].toNat ≤ 122) <;> cases h3 : decide (48 ≤ s[k].toNat) <;> cases h4 : decide (s[k].toNat ≤ 57) <;> cases h5 : (s[k].toNat == 45) <;> cases h6 : (s[k].toNat == 46)
      all_goals
        have H := Lib.hid (hostN_of s[k].toNat _ _ _ _ _ _ h1 h2 h3 h4 h5 h6)
        have t1 : decide ((s[k].toNat : Int) < 97) = _ := dec_lt _ 97 _ h1
        have t2 : decide ((s[k].toNat : Int) > 122) = _ := dec_gt _ 122 _ h2
        have t3 : decide ((s[k].toNat : Int) < 48) = _ := dec_lt _ 48 _ h3
        have t4 : decide ((s[k].toNat : Int) > 57) = _ := dec_gt _ 57 _ h4
        have t5 : ((s[k].toNat : Int) != 45) = _ := bne_cast _ 45 _ h5
        have t6 : ((s[k].toNat : Int) != 46) = _ := bne_cast _ 46 _ h6
        simp only [Bool.not_false, Bool.not_true] at t1 t2 t3 t4 t5 t6
        clear h1 h2 h3 h4 h5 h6
        go_wp2_with fail
        first
          | (go_ret; exact ⟨by rw [HF.out (by rw [H.out]; rfl)]; rfl, rfl⟩)
          | skip
      all_goals
        go_roundg g'
        case measure => omega
        case rel => exact ⟨k + 1, by simp, rfl, by omega, Lib.hid (HG.out (by rw [H.out]; rfl))⟩
    · obtain rfl : k = s.size := by omega
      have tk : decide ((s.size : Int) < (s.size : Int)) = false := decide_eq_false (by omega)
      have hall := all_iff s.data.toList hostN (fun j hj => HK.out j hj (by rw [size_len] at hj; exact hj))
      have hR : ANS = (!s.data.toList.isEmpty && decide (s.size ≤ 32)) := by
        rw [← HANS.out]; unfold hostB; rw [hall, Bool.and_true, size_len]
      by_cases h0 : 0 < s.size
      · have t0 : decide ((s.size : Int) ≥ 1) = true := decide_eq_true (by omega)
        have hne : s.data.toList.isEmpty = false := by
          rw [List.isEmpty_eq_false_iff]; intro e; have := congrArg List.length e; rw [size_len, List.length_nil] at this; omega
        rw [hne] at hR
        by_cases h32 : s.size ≤ 32
        · have t32 : decide ((s.size : Int) ≤ 32) = true := decide_eq_true (by omega)
          rw [decide_eq_true h32] at hR
          have HR : Hid (ANS = true) := Lib.hid hR
          clear hR hall HK hne
          go_wp2_with fail
          go_ret
          exact ⟨by rw [HR.out]; rfl, rfl⟩
        · have t32 : decide ((s.size : Int) ≤ 32) = false := decide_eq_false (by omega)
          rw [decide_eq_false h32] at hR
          have HR : Hid (ANS = false) := Lib.hid hR
          clear hR hall HK hne
          go_wp2_with fail
          go_ret
          exact ⟨by rw [HR.out]; rfl, rfl⟩
      · have t0 : decide ((s.size : Int) ≥ 1) = false := decide_eq_false (by omega)
        have HR : Hid (ANS = false) := Lib.hid (by
          have hn : s.data.toList = [] := List.length_eq_zero_iff.1 (by rw [size_len]; omega)
          rw [hR, hn]; rfl)
        clear hR hall HK
        go_wp2_with fail
        go_ret
        exact ⟨by rw [HR.out]; rfl, rfl⟩
end Go.Proofs.YtfjdppngeillcaaGreatDoor
namespace Go.Proofs.YtfjdppngeillcaaGreatDoor
open Go.RowKit

theorem kcell {W w1 : World} (hb : Below W.heap.size W w1) : (∀ b o, b < W.heap.size → w1.cell? ⟨b, o, none⟩ = W.cell? ⟨b, o, none⟩) ∧ (∀ b o, b < W.heap.size → w1.frozen? ⟨b, o, none⟩ = W.frozen? ⟨b, o, none⟩) :=
  ⟨fun b o h => hb.cell (p := ⟨b, o, none⟩) h, fun b o h => hb.frozen (p := ⟨b, o, none⟩) h⟩
theorem ret_cell {fn : Func} {R : Ending → World → Prop} {a : Act} {w : World} {A : Addr} {V : Value} {p : Tmp} {ty : TypeId} (hres : fn.results = #[.cell p ty])
    (hload : (loadVar ty A).run Tryz.prog w = .ok V w)
    (hp : a.tmps.getD p undef = .pointer (some A)) (hdef : a.defers = [])
    (hR : R (.returned V) w) : bodyPost Tryz.prog fn R .ret a w := by
  refine bodyPost_ret_by (v := V) ?_ hdef hR
  have hp' : a.tmps[p]?.getD undef = .pointer (some A) := by simpa using hp
  simp [results, hres, hp', asAddr, hload]
theorem ret_cell2 {fn : Func} {R : Ending → World → Prop} {a : Act} {w : World} {A : Addr} {V E : Value} {p u : Tmp} {ty : TypeId} (hres : fn.results = #[.cell p ty, .tmp u])
    (hload : (loadVar ty A).run Tryz.prog w = .ok V w)
    (hp : a.tmps.getD p undef = .pointer (some A)) (hE : a.tmps.getD u undef = E) (hdef : a.defers = [])
    (hR : R (.returned (.tuple #[V, E])) w) : bodyPost Tryz.prog fn R .ret a w := by
  refine bodyPost_ret_by (v := .tuple #[V, E]) ?_ hdef hR
  rw [results_cell_tmp hres, hp, hE]
  simp [asAddr, hload, Result.andThen]
theorem ret_cell3 {fn : Func} {R : Ending → World → Prop} {a : Act} {w : World} {A : Addr} {V E F : Value} {p u v : Tmp} {ty : TypeId} (hres : fn.results = #[.cell p ty, .tmp u, .tmp v])
    (hload : (loadVar ty A).run Tryz.prog w = .ok V w)
    (hp : a.tmps.getD p undef = .pointer (some A)) (hE : a.tmps.getD u undef = E) (hF : a.tmps.getD v undef = F) (hdef : a.defers = [])
    (hR : R (.returned (.tuple #[V, E, F])) w) : bodyPost Tryz.prog fn R .ret a w := by
  refine bodyPost_ret_by (v := .tuple #[V, E, F]) ?_ hdef hR
  have hp' : a.tmps[p]?.getD undef = .pointer (some A) := by simpa using hp
  have hE' : a.tmps[u]?.getD undef = E := by simpa using hE
  have hF' : a.tmps[v]?.getD undef = F := by simpa using hF
  simp [results, hres, hp', hE', hF', asAddr, hload, Result.andThen]
end Go.Proofs.YtfjdppngeillcaaGreatDoor
namespace Go.Proofs.YtfjdppngeillcaaGreatDoor
open Go.RowKit

/-- may a request be? -/
def aErr (p h : List UInt8) (a b : Int) : Nat := if pathB p = false ∨ hostB h = false then 2 else rErr a b
theorem box4 (w : World) (x y z u : Value) (t : TypeId) : (w.alloc (.cells #[x, y, z, u] t)).cell? ⟨w.heap.size, 0, none⟩ = some x ∧ (w.alloc (.cells #[x, y, z, u] t)).cell? ⟨w.heap.size, 1, none⟩ = some y ∧ (w.alloc (.cells #[x, y, z, u] t)).cell? ⟨w.heap.size, 2, none⟩ = some z ∧ (w.alloc (.cells #[x, y, z, u] t)).cell? ⟨w.heap.size, 3, none⟩ = some u := by
  have hh := heap_alloc_new w (.cells #[x, y, z, u] t)
  refine ⟨?_, ?_, ?_, ?_⟩ <;> (unfold World.cell?; rw [hh]; rfl)
theorem below_agg4 (w : World) (x y z u : Value) (t : TypeId) : Below w.heap.size w (w.alloc (.cells #[x, y, z, u] t)) := (Below.refl _ _).alloc (Nat.le_refl _) _
theorem box_four {w w1 : World} {x y z u : Value} {t : TypeId} (hb : Below (w.alloc (.cells #[x, y, z, u] t)).heap.size (w.alloc (.cells #[x, y, z, u] t)) w1) : w1.cell? ⟨w.heap.size, 0, none⟩ = some x ∧ w1.cell? ⟨w.heap.size, 1, none⟩ = some y ∧ w1.cell? ⟨w.heap.size, 2, none⟩ = some z ∧ w1.cell? ⟨w.heap.size, 3, none⟩ = some u := by
  obtain ⟨a, b, c, d⟩ := box4 w x y z u t
  exact ⟨(hb.cell (p := ⟨w.heap.size, 0, none⟩) (by simp)).trans a, (hb.cell (p := ⟨w.heap.size, 1, none⟩) (by simp)).trans b, (hb.cell (p := ⟨w.heap.size, 2, none⟩) (by simp)).trans c, (hb.cell (p := ⟨w.heap.size, 3, none⟩) (by simp)).trans d⟩
set_option maxRecDepth 100000 in
set_option maxHeartbeats 1000000 in
theorem asking_check (p h : ByteArray) (a b : Int) (w : World) :
    Calls Tryz.prog 40 #[.agg #[.string p, .string h, .int .i64 a, .int .i64 b]] w fun e w' => e = .returned (.int .i64 (aErr p.data.toList h.data.toList a b : Nat)) ∧ Below w.heap.size w w' := by
  have HP := Lib.hid (fun w => asking_path p w)
  have HH := Lib.hid (fun w => asking_host h w)
  have HC := Lib.hid (fun w => ranges_check a b w)
  cases hp : pathB p.data.toList with
  | false =>
    have HR : Hid (aErr p.data.toList h.data.toList a b = 2) := Lib.hid (if_pos (.inl hp))
    rw [hp] at HP
    clear hp
    go_enter Tryz.func40, Tryz.ntmps40
    go_wp2_with fail
    refine (HP.out _).mono ?_
    rintro e w1 ⟨rfl, hb1⟩
    go_wp2_with fail
    go_ret
    exact ⟨by rw [HR.out]; rfl, bstep (below_agg4 w _ _ _ _ _) hb1⟩
  | true =>
    rw [hp] at HP
    cases hh : hostB h.data.toList with
    | false =>
      have HR : Hid (aErr p.data.toList h.data.toList a b = 2) := Lib.hid (if_pos (.inr hh))
      rw [hh] at HH
      clear hp hh
      go_enter Tryz.func40, Tryz.ntmps40
      go_wp2_with fail
      refine (HP.out _).mono ?_
      rintro e w1 ⟨rfl, hb1⟩
      obtain ⟨c0, c1, c2, c3⟩ := box_four hb1
      have HB1 := Lib.hid (bstep (below_agg4 w _ _ _ _ _) hb1)
      clear hb1
      go_wp2_with fail
      refine (HH.out _).mono ?_
      rintro e w2 ⟨rfl, hb2⟩
      go_wp2_with fail
      go_ret
      exact ⟨by rw [HR.out]; rfl, bstep HB1.out hb2⟩
    | true =>
      have HR : Hid (aErr p.data.toList h.data.toList a b = rErr a b) := Lib.hid (if_neg (fun e => e.elim (fun e => by rw [hp] at e; exact absurd e (by decide)) (fun e => by rw [hh] at e; exact absurd e (by decide))))
      rw [hh] at HH
      clear hp hh
      go_enter Tryz.func40, Tryz.ntmps40
      go_wp2_with fail
      refine (HP.out _).mono ?_
      rintro e w1 ⟨rfl, hb1⟩
      obtain ⟨c0, c1, c2, c3⟩ := box_four hb1
      have HB1 := Lib.hid hb1
      clear hb1
      go_wp2_with fail
      refine (HH.out _).mono ?_
      rintro e w2 ⟨rfl, hb2⟩
      have HB2 := Lib.hid (bstep HB1.out hb2)
      obtain ⟨c0, c1, c2, c3⟩ := box_four HB2.out
      clear hb2
      go_wp2_with fail
      refine (HC.out _).mono ?_
      rintro e w3 ⟨rfl, hb3⟩
      go_wp2_with fail
      go_ret
      exact ⟨by rw [HR.out]; rfl, bstep (below_agg4 w _ _ _ _ _) (bstep HB2.out hb3)⟩
set_option maxRecDepth 100000 in
set_option maxHeartbeats 1000000 in
theorem ref_acheck (p h : ByteArray) (a b : Int) (w : World) (hps : p.size ≤ 9223372036854775807) (hhs : h.size ≤ 9223372036854775807) :
    Calls Tryz.prog 32 #[.agg #[.string p, .string h, .int .i64 a, .int .i64 b]] w fun e w' => e = .returned (.int .i64 (aErr p.data.toList h.data.toList a b : Nat)) ∧ Below w.heap.size w w' := by
  have HP := Lib.hid (fun w => ref_path p w hps)
  have HH := Lib.hid (fun w => ref_host h w hhs)
  have HC := Lib.hid (fun w => ref_rcheck a b w)
  cases hp : pathB p.data.toList with
  | false =>
    have HR : Hid (aErr p.data.toList h.data.toList a b = 2) := Lib.hid (if_pos (.inl hp))
    rw [hp] at HP
    clear hp
    go_enter Tryz.func32, Tryz.ntmps32
    go_wp2_with fail
    refine (HP.out _).mono ?_
    rintro e w' ⟨rfl, rfl⟩
    go_wp2_with fail
    go_ret
    exact ⟨by rw [HR.out]; rfl, below_agg4 w _ _ _ _ _⟩
  | true =>
    rw [hp] at HP
    cases hh : hostB h.data.toList with
    | false =>
      have HR : Hid (aErr p.data.toList h.data.toList a b = 2) := Lib.hid (if_pos (.inr hh))
      rw [hh] at HH
      clear hp hh
      go_enter Tryz.func32, Tryz.ntmps32
      go_wp2_with fail
      refine (HP.out _).mono ?_
      rintro e w' ⟨rfl, rfl⟩
      go_wp2_with fail
      refine (HH.out _).mono ?_
      rintro e w' ⟨rfl, rfl⟩
      go_wp2_with fail
      go_ret
      exact ⟨by rw [HR.out]; rfl, below_agg4 w _ _ _ _ _⟩
    | true =>
      have HR : Hid (aErr p.data.toList h.data.toList a b = rErr a b) := Lib.hid (if_neg (fun e => e.elim (fun e => by rw [hp] at e; exact absurd e (by decide)) (fun e => by rw [hh] at e; exact absurd e (by decide))))
      rw [hh] at HH
      clear hp hh
      go_enter Tryz.func32, Tryz.ntmps32
      go_wp2_with fail
      refine (HP.out _).mono ?_
      rintro e w' ⟨rfl, rfl⟩
      go_wp2_with fail
      refine (HH.out _).mono ?_
      rintro e w' ⟨rfl, rfl⟩
      go_wp2_with fail
      refine (HC.out _).mono ?_
      rintro e w3 ⟨rfl, hb3⟩
      go_wp2_with fail
      go_ret
      exact ⟨by rw [HR.out]; rfl, bstep (below_agg4 w _ _ _ _ _) hb3⟩
theorem load_req (w : World) (b : Nat) (t : TypeId) (x y z u : Value) (h : w.heap[b]? = some (.cells #[x, y, z, u] t (0, 0))) : (loadVar 71 ⟨b, 0, none⟩).run Tryz.prog w = .ok (.agg #[x, y, z, u]) w :=
  run_loadVar_row w b t 71 #[x, y, z, u] (0, 0) _ h Tryz.underlying71 rfl (by kernel_rfl)
theorem load_rreq (w : World) (b : Nat) (t : TypeId) (x y z u : Value) (h : w.heap[b]? = some (.cells #[x, y, z, u] t (0, 0))) : (loadVar 48 ⟨b, 0, none⟩).run Tryz.prog w = .ok (.agg #[x, y, z, u]) w :=
  run_loadVar_row w b t 48 #[x, y, z, u] (0, 0) _ h Tryz.underlying48 rfl (by kernel_rfl)
theorem four_set {w : World} {b : Nat} {x y z u : Value} {t : TypeId} (h : w.heap[b]? = some (.cells #[x, y, z, u] t (0, 0))) (x' y' z' u' : Value) :
    ((((w.setCell ⟨b, 0, none⟩ x').setCell ⟨b, 1, none⟩ y').setCell ⟨b, 2, none⟩ z').setCell ⟨b, 3, none⟩ u').heap[b]? = some (.cells #[x', y', z', u'] t (0, 0)) := by
  simp [World.setCell, Array.getElem?_modify, h]
theorem four_below {B : Nat} {w0 w : World} (h : Below B w0 w) (b : Nat) (hB : B ≤ b) (x' y' z' u' : Value) : Below B w0 ((((w.setCell ⟨b, 0, none⟩ x').setCell ⟨b, 1, none⟩ y').setCell ⟨b, 2, none⟩ z').setCell ⟨b, 3, none⟩ u') :=
  (((h.setCell (p := ⟨b, 0, none⟩) hB _).setCell (p := ⟨b, 1, none⟩) hB _).setCell (p := ⟨b, 2, none⟩) hB _).setCell (p := ⟨b, 3, none⟩) hB _
end Go.Proofs.YtfjdppngeillcaaGreatDoor
namespace Go.Proofs.YtfjdppngeillcaaGreatDoor

def words : List UInt8 → List (List UInt8)
  | [] => [[]]
  | c :: r => if c = 32 then [] :: words r else match words r with
    | w :: ws => (c :: w) :: ws
    | [] => [[c]]

theorem words_ne (l : List UInt8) : words l ≠ [] := by
  cases l with
  | nil => simp [words]
  | cons c r =>
    unfold words
    split
    · simp
    · split <;> simp

/-- bytes put ahead of the first word -/
def addPre (p : List UInt8) : List (List UInt8) → List (List UInt8)
  | [] => [p]
  | w :: t => (p ++ w) :: t

theorem addPre_nil (l : List UInt8) : addPre [] (words l) = words l := by
  cases h : words l with
  | nil => exact absurd h (words_ne l)
  | cons w t => rfl

theorem addPre_blank (p r : List UInt8) : addPre p (words (32 :: r)) = p :: words r := by
  rw [words, if_pos rfl]; simp [addPre]

theorem addPre_other (p r : List UInt8) (c : UInt8) (hc : c ≠ 32) : addPre p (words (c :: r)) = addPre (p ++ [c]) (words r) := by
  rw [words, if_neg hc]
  cases h : words r with
  | nil => exact absurd h (words_ne r)
  | cons w t => simp [addPre]

open Go.Lib in
theorem index_cons (c : UInt8) (r : List UInt8) : index (c :: r) [32] = if c = 32 then 0 else if index r [32] == -1 then -1 else index r [32] + 1 := by
  by_cases h : c = 32
  · subst h
    unfold index
    simp
  · rw [if_neg h]
    have h0 : [(32 : UInt8)].isPrefixOf (c :: r) = false := by simp [List.isPrefixOf]; exact fun e => h e.symm
    rw [index.eq_def]
    simp only [h0]
    rfl

open Go.Lib in
theorem split_words (l : List UInt8) : split l [32] = words l := by
  induction l with
  | nil => rfl
  | cons c r ih =>
    by_cases hc : c = 32
    · have hi : index (c :: r) [32] = (0 : Nat) := by rw [index_cons, if_pos hc]; rfl
      unfold split
      rw [count_hit (by simp) hi, Nat.add_comm, splitK, if_neg (by rw [hi]; decide), hi, words, if_pos hc, ← ih]
      rfl
    · rw [words, if_neg hc]
      rcases index_spec r [32] with ⟨hm, _⟩ | ⟨i, hi, _⟩
      · have h1 : index (c :: r) [32] = -1 := by rw [index_cons, if_neg hc, hm]; rfl
        have e1 : split (c :: r) [32] = [c :: r] := by unfold split; rw [count_miss h1]; rfl
        have e2 : split r [32] = [r] := by unfold split; rw [count_miss hm]; rfl
        rw [e1, ← ih, e2]
      · have h1 : index (c :: r) [32] = ((i + 1 : Nat) : Int) := by
          rw [index_cons, if_neg hc, hi, if_neg (by simp <;> omega)]; rfl
        have e1 : split (c :: r) [32] = (c :: r.take i) :: splitK [32] 0 (count (r.drop (i + 1)) [32]) (r.drop (i + 1)) := by
          unfold split
          rw [count_hit (by simp) h1, Nat.add_comm, splitK, if_neg (by rw [h1]; simp <;> omega), h1]
          rfl
        have e2 : split r [32] = (r.take i) :: splitK [32] 0 (count (r.drop (i + 1)) [32]) (r.drop (i + 1)) := by
          unfold split
          rw [count_hit (by simp) hi, Nat.add_comm, splitK, if_neg (by rw [hi]; simp <;> omega), hi]
          rfl
        rw [e1, ← ih, e2]

open Go.Lib in
/-- what strings.Split lays, cut at a blank. -/
theorem splitB_words (s : ByteArray) : (splitB ⟨#[32]⟩ 0 (countB s ⟨#[32]⟩) s).map Value.string = strs (words s.data.toList) := by
  have h := splitB_data ⟨#[32]⟩ 0 (countB s ⟨#[32]⟩) s
  have h2 : splitK (⟨#[32]⟩ : ByteArray).data.toList 0 (countB s ⟨#[32]⟩) s.data.toList = words s.data.toList := split_words s.data.toList
  rw [h2] at h
  unfold strs
  rw [← h, List.map_map]
  apply List.map_congr_left
  intro x _
  simp only [Function.comp_apply, bs_self]

open Go.Lib in
theorem countB_words (s : ByteArray) : countB s ⟨#[32]⟩ + 1 = (words s.data.toList).length := by
  have h := splitB_words s
  have h2 := congrArg List.length h
  rw [strs_length, List.length_map] at h2
  rw [← h2]
  have h3 := splitB_data ⟨#[32]⟩ 0 (countB s ⟨#[32]⟩) s
  have key : ∀ l : List UInt8, (split l [32]).length = count l [32] + 1 := by
    intro l
    induction l with
    | nil => rfl
    | cons c r ih =>
      rcases index_spec (c :: r) [32] with ⟨hm, _⟩ | ⟨i, hi, _⟩
      · have e1 : split (c :: r) [32] = [c :: r] := by unfold split; rw [count_miss hm]; rfl
        rw [e1, count_miss hm]; rfl
      · by_cases hc : c = 32
        · have hi0 : index (c :: r) [32] = (0 : Nat) := by rw [index_cons, if_pos hc]; rfl
          have e2 : split (c :: r) [32] = [] :: split r [32] := by
            unfold split
            rw [count_hit (by simp) hi0, Nat.add_comm, splitK, if_neg (by rw [hi0]; decide), hi0]; rfl
          rw [e2, count_hit (by simp) hi0, List.length_cons, ih]
          show _ = 1 + count r [32] + 1
          omega
        · rcases index_spec r [32] with ⟨hm, _⟩ | ⟨j, hj, _⟩
          · have h1 : index (c :: r) [32] = -1 := by rw [index_cons, if_neg hc, hm]; rfl
            rw [h1] at hi; omega
          · have h1 : index (c :: r) [32] = ((j + 1 : Nat) : Int) := by
              rw [index_cons, if_neg hc, hj, if_neg (by simp <;> omega)]; rfl
            have e1 : split (c :: r) [32] = (c :: r.take j) :: splitK [32] 0 (count (r.drop (j + 1)) [32]) (r.drop (j + 1)) := by
              unfold split
              rw [count_hit (by simp) h1, Nat.add_comm, splitK, if_neg (by rw [h1]; simp <;> omega), h1]
              rfl
            have e2 : split r [32] = (r.take j) :: splitK [32] 0 (count (r.drop (j + 1)) [32]) (r.drop (j + 1)) := by
              unfold split
              rw [count_hit (by simp) hj, Nat.add_comm, splitK, if_neg (by rw [hj]; simp <;> omega), hj]
              rfl
            have e3 : count (c :: r) [32] = count r [32] := by
              rw [count_hit (by simp) h1, count_hit (by simp) hj]; rfl
            rw [e1, e3, ← ih, e2]; rfl
  have h4 := key s.data.toList
  have h5 := congrArg List.length h3
  rw [List.length_map] at h5
  rw [h5]
  exact h4.symm
end Go.Proofs.YtfjdppngeillcaaGreatDoor
namespace Go.Proofs.YtfjdppngeillcaaGreatDoor
open Go.RowKit

theorem words_blank (l : List UInt8) (a i : Nat) (hi : i < l.length) (h : l[i] = 32) (xs : List (List UInt8)) (hw : words l = xs ++ addPre ((l.take i).drop a) (words (l.drop i))) :
    words l = (xs ++ [(l.take i).drop a]) ++ addPre ((l.take (i + 1)).drop (i + 1)) (words (l.drop (i + 1))) := by
  rw [List.drop_eq_getElem_cons hi, h, addPre_blank] at hw
  rw [hw, show (l.take (i + 1)).drop (i + 1) = [] from List.drop_of_length_le (List.length_take_le _ _), addPre_nil]
  simp
theorem words_other (l : List UInt8) (a i : Nat) (ha : a ≤ i) (hi : i < l.length) (h : l[i] ≠ 32) (xs : List (List UInt8)) (hw : words l = xs ++ addPre ((l.take i).drop a) (words (l.drop i))) :
    words l = xs ++ addPre ((l.take (i + 1)).drop a) (words (l.drop (i + 1))) := by
  rw [List.drop_eq_getElem_cons hi, addPre_other _ _ _ h] at hw
  rw [hw, List.take_succ_eq_append_getElem hi, List.drop_append_of_le_length (by simp; omega)]
theorem words_end (l : List UInt8) (a : Nat) (xs : List (List UInt8)) (hw : words l = xs ++ addPre ((l.take l.length).drop a) (words (l.drop l.length))) : words l = xs ++ [l.drop a] := by
  rw [List.drop_length, List.take_length] at hw
  rw [hw]; simp [words, addPre]

set_option maxRecDepth 100000 in
set_option maxHeartbeats 2000000 in
theorem ref_words (s : ByteArray) (w : World) (hs : s.size < 1073741824) :
    Calls Tryz.prog 42 #[.string s] w fun e w' => ∃ v, e = .returned v ∧ w'.ownsRow w.heap.size 9 1 v (words s.data.toList).length (strs (words s.data.toList)) ∧ Below w.heap.size w w' := by
  obtain ⟨l, hl⟩ : ∃ l, l = s.data.toList := ⟨_, rfl⟩
  have hlen : l.length = s.size := by rw [hl]; simp
  rw [← hl]
  go_enter Tryz.func42, Tryz.ntmps42
  go_wp2_with fail
  go_loopw [3, 4, 5] (fun v f j wr => ∃ (i a : Nat) (xs : List (List UInt8)), a ≤ i ∧ i ≤ s.size ∧ xs.length ≤ i ∧ f = .int .i64 a ∧ j = .int .i64 i ∧ wr.ownsRow w.heap.size 9 1 v xs.length (strs xs) ∧ Below w.heap.size w wr ∧ Hid (words l = xs ++ addPre ((l.take i).drop a) (words (l.drop i)))) (fun _ _ j _ => s.size - (intOf j).toNat)
  case atStart =>
    exact ⟨0, 0, [], by omega, by omega, by simp, rfl, rfl, World.ownsRow_nil _ _ _ _, Below.refl _ _, Lib.hid (by simp [addPre_nil])⟩
  case round =>
    obtain ⟨i, a, xs, ha, hi, hx, rfl, rfl, hown, hb, Hw⟩ := hrel
    by_cases hlt : i < s.size
    · by_cases h32 : s[i] = 32
      · have h32' : s[i].toNat = 32 := by rw [h32]; rfl
        have hli : l[i]'(by omega) = 32 := by subst hl; exact h32
        have H := Lib.hid (words_blank l a i (by omega) hli xs Hw.out)
        have he := extract_bs s a i
        rw [← hl] at he
        have He := Lib.hid he
        clear he hli h32
        go_wp2_with (at_builtin; go_loud (refine append_str wr (by rfl) _ _ (by rfl) w.heap.size _ xs (by rfl) hown (s.extract a i) ((l.take i).drop a) He.out (by rfl) (by omega) hb.size ?_); intro v' w1 hown1 hg1 hne1)
        have hb1 := below_own hb hg1 hown (Nat.le_refl _) hb.size
        go_roundw
        case rel => exact ⟨i + 1, i + 1, xs ++ [(l.take i).drop a], by omega, by omega, by simp; omega, by go_num, by go_num, hown1, hb1, H⟩
        case measure => simp [intOf]; omega
      · have h32' : ((s[i].toNat : Int) == 32) = false := by
          rw [beq_eq_false_iff_ne]; intro h; exact h32 (UInt8.toNat_inj.1 (by show _ = 32; omega))
        have hli : l[i]'(by omega) ≠ 32 := by subst hl; exact h32
        have H := Lib.hid (words_other l a i ha (by omega) hli xs Hw.out)
        clear hli h32
        go_wp2_with fail
        go_roundw
        case rel => exact ⟨i + 1, a, xs, by omega, by omega, by omega, rfl, by go_num, hown, hb, H⟩
        case measure => simp [intOf]; omega
    · obtain rfl : i = s.size := by omega
      have hw2 := Hw.out
      rw [← hlen] at hw2
      have H := Lib.hid (words_end l a xs hw2)
      clear hw2
      have he := extract_bs s a s.size
      rw [← hl, ← hlen, List.take_length, hlen] at he
      have He := Lib.hid he
      clear he
      go_wp2_with (at_builtin; refine append_str wr (by rfl) _ _ (by rfl) w.heap.size _ xs (by rfl) hown (s.extract a s.size) (l.drop a) He.out (by rfl) (by omega) hb.size ?_; intro v' w1 hown1 hg1 hne1)
      have hb1 := below_own hb hg1 hown (Nat.le_refl _) hb.size
      go_ret
      refine ⟨_, rfl, ?_, hb1⟩
      rw [H.out]
      exact hown1
end Go.Proofs.YtfjdppngeillcaaGreatDoor
namespace Go.Proofs.YtfjdppngeillcaaGreatDoor
open Go.RowKit

def headR : Nat → ByteArray → Int → List (List UInt8) → List (List UInt8) × Int × Nat
  | 0, _, _, _ => ([], 0, 21)
  | f + 1, s, a, xs => if takeErr s a ≠ 0 then ([], 0, takeErr s a) else if (takeLine s a).toList.isEmpty = true then (xs, takeNext s a, 0)
      else if xs.length = 17 then ([], 0, 21) else headR f s (takeNext s a) (xs ++ [(takeLine s a).data.toList])
/-- the lines of a head, the place behind it, and the error. -/
def headOf (s : ByteArray) : List (List UInt8) × Int × Nat := headR 18 s 0 []

theorem headR_err (f : Nat) (s : ByteArray) (a : Int) (xs : List (List UInt8)) (h : takeErr s a ≠ 0) : headR (f + 1) s a xs = ([], 0, takeErr s a) := by rw [headR, if_pos h]
theorem headR_end (f : Nat) (s : ByteArray) (a : Int) (xs : List (List UInt8)) (h : takeErr s a = 0) (h2 : (takeLine s a).toList.isEmpty = true) : headR (f + 1) s a xs = (xs, takeNext s a, 0) := by
  rw [headR, if_neg (by simp [h]), if_pos h2]
theorem headR_many (f : Nat) (s : ByteArray) (a : Int) (xs : List (List UInt8)) (h : takeErr s a = 0) (h2 : (takeLine s a).toList.isEmpty = false) (h3 : xs.length = 17) : headR (f + 1) s a xs = ([], 0, 21) := by
  rw [headR, if_neg (by simp [h]), if_neg (by simp [h2]), if_pos h3]
theorem headR_more (f : Nat) (s : ByteArray) (a : Int) (xs : List (List UInt8)) (h : takeErr s a = 0) (h2 : (takeLine s a).toList.isEmpty = false) (h3 : xs.length ≠ 17) : headR (f + 1) s a xs = headR f s (takeNext s a) (xs ++ [(takeLine s a).data.toList]) := by
  rw [headR, if_neg (by simp [h]), if_neg (by simp [h2]), if_neg h3]

/-- the answer of a head, as it lies in memory. -/
def HeadPost (s : ByteArray) (w : World) (e : Ending) (w' : World) : Prop :=
  ∃ v, e = .returned (.tuple #[v, .int .i64 (headOf s).2.1, .int .i64 (headOf s).2.2]) ∧ w'.ownsRow w.heap.size 9 1 v (headOf s).1.length (strs (headOf s).1) ∧ Below w.heap.size w w'

def HeadRel (s : ByteArray) (w : World) (v j : Value) (wr : World) : Prop :=
  ∃ (a : Int) (xs : List (List UInt8)), xs.length ≤ 17 ∧ j = .int .i64 a ∧ wr.ownsRow w.heap.size 9 1 v xs.length (strs xs) ∧ Below w.heap.size w wr ∧ headR (18 - xs.length) s a xs = headOf s

theorem head_fin (s : ByteArray) (w w' : World) (v : Value) (n : Int) (e : Nat) (xs : List (List UInt8)) (h : headOf s = (xs, n, e)) (hown : w'.ownsRow w.heap.size 9 1 v xs.length (strs xs)) (hb : Below w.heap.size w w') :
    HeadPost s w (.returned (.tuple #[v, .int .i64 n, .int .i64 e])) w' := by
  unfold HeadPost
  rw [h]
  exact ⟨v, rfl, hown, hb⟩

theorem slice_of_own {w : World} {base n : Nat} {e : TypeId} {size : Nat} {v : Value} {xs : List Value} (h : w.ownsRow base e size v n xs) : ∃ a c, v = .slice a n c := by
  rcases h.2 with ⟨rfl, rfl⟩ | ⟨g, cap, cur, rfl, _⟩
  · exact ⟨_, _, rfl⟩
  · exact ⟨_, _, rfl⟩

def headM (v : Value) : Nat := match v with
  | .slice _ n _ => 18 - n
  | _ => 0

set_option maxRecDepth 100000 in
set_option maxHeartbeats 2000000 in
theorem lines_head (s : ByteArray) (w : World) (hs : s.size ≤ 9223372036854775807) :
    Calls Tryz.prog 49 #[.string s] w (HeadPost s w) := by
  go_enter Tryz.func49, Tryz.ntmps49
  go_wp2_with fail
  go_loopw [2, 5] (fun v j wr => HeadRel s w v j wr) (fun v _ _ => headM v)
  case atStart => exact ⟨0, [], by simp, rfl, World.ownsRow_nil _ _ _ _, Below.refl _ _, rfl⟩
  case round =>
    obtain ⟨a, xs, hx, rfl, hown, hb, hr⟩ := hrel
    obtain ⟨av, cv, rfl⟩ := slice_of_own hown
    obtain ⟨f, hf⟩ : ∃ f, 18 - xs.length = f + 1 := ⟨17 - xs.length, by omega⟩
    rw [hf] at hr
    by_cases he : takeErr s a = 0
    · have he' : ((takeErr s a : Nat) : Int) = 0 := by omega
      by_cases hl : (takeLine s a).toList.isEmpty = true
      · have H := Lib.hid ((headR_end f s a xs he hl).symm.trans hr)
        have Hf := Lib.hid hf
        clear hr hf he
        go_wp2_with (go_at_call 79; refine (lines_take _ _ _ hs).mono ?_; rintro e w' ⟨rfl, rfl⟩)
        go_ret3
        exact head_fin s w _ _ _ 0 xs H.out.symm hown hb
      · have hl' : (takeLine s a).toList.isEmpty = false := by simpa using hl
        clear hl
        by_cases h17 : xs.length = 17
        · have H := Lib.hid ((headR_many f s a xs he hl' h17).symm.trans hr)
          have Hf := Lib.hid hf
          have hd : 16 < xs.length := by omega
          have H17 := Lib.hid h17
          clear hr hf he h17
          go_wp2_with (go_at_call 79; refine (lines_take _ _ _ hs).mono ?_; rintro e w' ⟨rfl, rfl⟩)
          go_ret3
          exact head_fin s w _ _ _ 21 [] H.out.symm (World.ownsRow_nil _ _ _ _) hb
        · have H := Lib.hid ((headR_more f s a xs he hl' h17).symm.trans hr)
          have Hf := Lib.hid hf
          have hd : xs.length < 17 := by omega
          have hd2 : xs.length ≤ 16 := by omega
          clear hr hf he h17
          have He := Lib.hid (bs_self (takeLine s a)).symm
          go_wp2_with (first
            | (go_at_call 79; refine (lines_take _ _ _ hs).mono ?_; rintro e w' ⟨rfl, rfl⟩)
            | (at_builtin; refine append_str _ (by rfl) _ _ (by rfl) w.heap.size _ xs (by rfl) hown (takeLine s a) (takeLine s a).data.toList He.out (by rfl) (by omega) hb.size ?_; intro v' w1 hown1 hg1 hne1))
          have hb1 := below_own hb hg1 hown (Nat.le_refl _) hb.size
          have hlen : (xs ++ [(takeLine s a).data.toList]).length = xs.length + 1 := by simp
          obtain ⟨av', cv', rfl⟩ := slice_of_own hown1
          go_roundw
          case rel => exact ⟨takeNext s a, xs ++ [(takeLine s a).data.toList], by omega, rfl, hown1, hb1, by rw [← H.out, hlen]; congr 1; have := Hf.out; omega⟩
          case measure => simp [headM]; omega
    · have he' : (((takeErr s a : Nat) : Int) != 0) = true := by rw [bne_iff_ne]; omega
      have H := Lib.hid ((headR_err f s a xs he).symm.trans hr)
      have Hf := Lib.hid hf
      clear hr hf he
      go_wp2_with (go_at_call 79; refine (lines_take _ _ _ hs).mono ?_; rintro e w' ⟨rfl, rfl⟩)
      go_ret3
      exact head_fin s w _ _ _ _ [] H.out.symm (World.ownsRow_nil _ _ _ _) hb

set_option maxRecDepth 100000 in
set_option maxHeartbeats 2000000 in
theorem ref_head (s : ByteArray) (w : World) (hs : s.size ≤ 9223372036854775807) :
    Calls Tryz.prog 41 #[.string s] w (HeadPost s w) := by
  go_enter Tryz.func41, Tryz.ntmps41
  go_wp2_with fail
  go_loopw [5, 6] (fun v j wr => HeadRel s w v j wr) (fun v _ _ => headM v)
  case atStart => exact ⟨0, [], by simp, rfl, World.ownsRow_nil _ _ _ _, Below.refl _ _, rfl⟩
  case round =>
    obtain ⟨a, xs, hx, rfl, hown, hb, hr⟩ := hrel
    obtain ⟨av, cv, rfl⟩ := slice_of_own hown
    obtain ⟨f, hf⟩ : ∃ f, 18 - xs.length = f + 1 := ⟨17 - xs.length, by omega⟩
    rw [hf] at hr
    by_cases he : takeErr s a = 0
    · have he' : ((takeErr s a : Nat) : Int) = 0 := by omega
      by_cases hl : (takeLine s a).toList.isEmpty = true
      · have H := Lib.hid ((headR_end f s a xs he hl).symm.trans hr)
        have Hf := Lib.hid hf
        clear hr hf he
        go_wp2_with (go_at_call 71; refine (ref_take _ _ _ hs).mono ?_; rintro e w' ⟨rfl, rfl⟩)
        go_ret3
        exact head_fin s w _ _ _ 0 xs H.out.symm hown hb
      · have hl' : (takeLine s a).toList.isEmpty = false := by simpa using hl
        clear hl
        by_cases h17 : xs.length = 17
        · have H := Lib.hid ((headR_many f s a xs he hl' h17).symm.trans hr)
          have Hf := Lib.hid hf
          have hd : 16 < xs.length := by omega
          have H17 := Lib.hid h17
          clear hr hf he h17
          go_wp2_with (go_at_call 71; refine (ref_take _ _ _ hs).mono ?_; rintro e w' ⟨rfl, rfl⟩)
          go_ret3
          exact head_fin s w _ _ _ 21 [] H.out.symm (World.ownsRow_nil _ _ _ _) hb
        · have H := Lib.hid ((headR_more f s a xs he hl' h17).symm.trans hr)
          have Hf := Lib.hid hf
          have hd : xs.length < 17 := by omega
          have hd2 : xs.length ≤ 16 := by omega
          clear hr hf he h17
          have He := Lib.hid (bs_self (takeLine s a)).symm
          go_wp2_with (first
            | (go_at_call 71; refine (ref_take _ _ _ hs).mono ?_; rintro e w' ⟨rfl, rfl⟩)
            | (at_builtin; refine append_str _ (by rfl) _ _ (by rfl) w.heap.size _ xs (by rfl) hown (takeLine s a) (takeLine s a).data.toList He.out (by rfl) (by omega) hb.size ?_; intro v' w1 hown1 hg1 hne1))
          have hb1 := below_own hb hg1 hown (Nat.le_refl _) hb.size
          have hlen : (xs ++ [(takeLine s a).data.toList]).length = xs.length + 1 := by simp
          obtain ⟨av', cv', rfl⟩ := slice_of_own hown1
          go_roundw
          case rel => exact ⟨takeNext s a, xs ++ [(takeLine s a).data.toList], by omega, rfl, hown1, hb1, by rw [← H.out, hlen]; congr 1; have := Hf.out; omega⟩
          case measure => simp [headM]; omega
    · have he' : (((takeErr s a : Nat) : Int) != 0) = true := by rw [bne_iff_ne]; omega
      have H := Lib.hid ((headR_err f s a xs he).symm.trans hr)
      have Hf := Lib.hid hf
      clear hr hf he
      go_wp2_with (go_at_call 71; refine (ref_take _ _ _ hs).mono ?_; rintro e w' ⟨rfl, rfl⟩)
      go_ret3
      exact head_fin s w _ _ _ _ [] H.out.symm (World.ownsRow_nil _ _ _ _) hb
end Go.Proofs.YtfjdppngeillcaaGreatDoor
namespace Go.Proofs.YtfjdppngeillcaaGreatDoor
open Go.RowKit

def plainL (x : List UInt8) : Prop := ∀ c ∈ x, plainB c.toNat = true
/-- the lines, each with its end. -/
def body : List (List UInt8) → List UInt8
  | [] => []
  | x :: t => x ++ 13 :: 10 :: body t
theorem body_append (l m : List (List UInt8)) : body (l ++ m) = body l ++ body m := by
  induction l with
  | nil => rfl
  | cons x t ih => simp [body, ih]

theorem plain_not13 : plainB 13 = false := by decide

theorem scan_line (x rest : List UInt8) : ∀ n, plainL x → n + x.length ≤ 256 → scan (x ++ 13 :: 10 :: rest) n = (n + x.length, 0) := by
  induction x with
  | nil => intro n _ _; rw [List.nil_append, scan, if_neg (by simp), if_pos (by simp)]; rfl
  | cons c t ih =>
    intro n hp hl
    have hc := hp c (List.mem_cons_self ..)
    have h13 : c ≠ 13 := fun e => by rw [e] at hc; exact absurd hc (by decide)
    rw [List.cons_append, scan, if_neg (by simp [h13]), if_neg (by simp [h13]), if_neg (by simp [hc]), if_neg (by simp at hl; omega), ih (n + 1) (fun c h => hp c (List.mem_cons_of_mem _ h)) (by simp at hl; omega)]
    simp; omega

/-- a proper beginning of a line with its end is too short. -/
theorem scan_cut (x : List UInt8) : ∀ n k, plainL x → n + x.length ≤ 256 → k < x.length + 2 → (scan ((x ++ [13, 10]).take k) n).2 = 3 := by
  induction x with
  | nil =>
    intro n k _ _ hk
    match k, hk with
    | 0, _ => simp [scan]
    | 1, _ => simp [scan]
  | cons c t ih =>
    intro n k hp hl hk
    cases k with
    | zero => simp [scan]
    | succ k =>
      have hc := hp c (List.mem_cons_self ..)
      have h13 : c ≠ 13 := fun e => by rw [e] at hc; exact absurd hc (by decide)
      rw [List.cons_append, List.take_succ_cons, scan, if_neg (by simp [h13]), if_neg (by simp [h13]), if_neg (by simp [hc]), if_neg (by simp at hl; omega)]
      exact ih (n + 1) k (fun c h => hp c (List.mem_cons_of_mem _ h)) (by simp at hl; omega) (by simp at hk; omega)

theorem take_line (s : ByteArray) (pre x rest : List UInt8) (hs : s.data.toList = pre ++ (x ++ 13 :: 10 :: rest)) (hp : plainL x) (hl : x.length ≤ 256) :
    takeErr s (pre.length : Int) = 0 ∧ takeLine s (pre.length : Int) = bs x ∧ takeNext s (pre.length : Int) = ((pre ++ (x ++ [13, 10])).length : Int) := by
  have hsz : pre.length ≤ s.size := by rw [← size_len, hs]; simp
  have hsc : scanAt s.data.toList pre.length 0 = (x.length, 0) := by
    unfold scanAt
    rw [hs, List.drop_left, scan_line x rest 0 hp (by omega)]; simp
  have he : takeErr s (pre.length : Int) = 0 := by rw [takeErr_in s _ hsz, hsc]
  refine ⟨he, ?_, ?_⟩
  · unfold takeLine
    rw [if_pos he, Int.toNat_natCast, hsc, extract_bs, hs]
    congr 1
    rw [← List.append_assoc, ← List.length_append, List.take_left, List.drop_left]
  · unfold takeNext
    rw [if_pos he, Int.toNat_natCast, hsc]
    simp; omega

theorem take_cut (s : ByteArray) (pre x : List UInt8) (k : Nat) (hs : s.data.toList = pre ++ (x ++ [13, 10]).take k) (hk : k < x.length + 2) (hp : plainL x) (hl : x.length ≤ 256) : takeErr s (pre.length : Int) = 3 := by
  have hsz : pre.length ≤ s.size := by rw [← size_len, hs]; simp
  rw [takeErr_in s _ hsz]
  unfold scanAt
  rw [hs, List.drop_left]
  exact scan_cut x 0 k hp (by omega) hk

theorem isEmpty_bs (x : List UInt8) : (bs x).toList.isEmpty = x.isEmpty := by rw [ByteArray.toList_eq, bs_data]

def goodLine (x : List UInt8) : Prop := x ≠ [] ∧ plainL x ∧ x.length ≤ 256

theorem head_ok (s : ByteArray) (rest : List UInt8) : ∀ (ls : List (List UInt8)) (pre : List UInt8) (xs : List (List UInt8)) (f : Nat), (∀ x ∈ ls, goodLine x) → xs.length + ls.length ≤ 17 → f + xs.length = 18 →
    s.data.toList = pre ++ (body ls ++ 13 :: 10 :: rest) → headR f s (pre.length : Int) xs = (xs ++ ls, ((pre ++ body ls).length : Int) + 2, 0) := by
  intro ls
  induction ls with
  | nil =>
    intro pre xs f _ hle hf hs
    obtain ⟨f, rfl⟩ : ∃ g, f = g + 1 := ⟨f - 1, by simp at hle; omega⟩
    obtain ⟨h1, h2, h3⟩ := take_line s pre [] rest (by simpa [body] using hs) (fun c h => by simp at h) (by simp)
    rw [headR_end f s _ xs h1 (by rw [h2, isEmpty_bs]; rfl), h3]
    simp [body]
  | cons x t ih =>
    intro pre xs f hg hle hf hs
    obtain ⟨hx0, hxp, hxl⟩ := hg x (List.mem_cons_self ..)
    obtain ⟨f, rfl⟩ : ∃ g, f = g + 1 := ⟨f - 1, by simp at hle; omega⟩
    have hs' : s.data.toList = pre ++ (x ++ 13 :: 10 :: (body t ++ 13 :: 10 :: rest)) := by rw [hs]; simp [body]
    obtain ⟨h1, h2, h3⟩ := take_line s pre x _ hs' hxp hxl
    rw [headR_more f s _ xs h1 (by rw [h2, isEmpty_bs]; cases x <;> simp_all) (by simp at hle; omega), h3, h2, bs_data]
    rw [ih (pre ++ (x ++ [13, 10])) (xs ++ [x]) f (fun y hy => hg y (List.mem_cons_of_mem _ hy)) (by simp at hle ⊢; omega) (by simp; omega) (by rw [hs']; simp)]
    simp [body]

theorem head_many (s : ByteArray) (rest : List UInt8) : ∀ (ls : List (List UInt8)) (pre : List UInt8) (xs : List (List UInt8)) (f : Nat), (∀ x ∈ ls, goodLine x) → 17 < xs.length + ls.length → xs.length ≤ 17 → f + xs.length = 18 →
    s.data.toList = pre ++ (body ls ++ 13 :: 10 :: rest) → headR f s (pre.length : Int) xs = ([], 0, 21) := by
  intro ls
  induction ls with
  | nil => intro pre xs f _ hle h2 _ _; simp at hle; omega
  | cons x t ih =>
    intro pre xs f hg hle h17 hf hs
    obtain ⟨hx0, hxp, hxl⟩ := hg x (List.mem_cons_self ..)
    obtain ⟨f, rfl⟩ : ∃ g, f = g + 1 := ⟨f - 1, by omega⟩
    have hs' : s.data.toList = pre ++ (x ++ 13 :: 10 :: (body t ++ 13 :: 10 :: rest)) := by rw [hs]; simp [body]
    obtain ⟨h1, h2, h3⟩ := take_line s pre x _ hs' hxp hxl
    have he : (takeLine s (pre.length : Int)).toList.isEmpty = false := by rw [h2, isEmpty_bs]; cases x <;> simp_all
    by_cases h : xs.length = 17
    · exact headR_many f s _ xs h1 he h
    · rw [headR_more f s _ xs h1 he h, h3, h2, bs_data]
      exact ih (pre ++ (x ++ [13, 10])) (xs ++ [x]) f (fun y hy => hg y (List.mem_cons_of_mem _ hy)) (by simp at hle ⊢; omega) (by simp; omega) (by simp; omega) (by rw [hs']; simp)

theorem head_cut (s : ByteArray) : ∀ (ls : List (List UInt8)) (pre : List UInt8) (xs : List (List UInt8)) (f k : Nat), (∀ x ∈ ls, goodLine x) → xs.length + ls.length ≤ 17 → f + xs.length = 18 →
    k < (body ls).length + 2 → s.data.toList = pre ++ (body ls ++ [13, 10]).take k → headR f s (pre.length : Int) xs = ([], 0, 3) := by
  intro ls
  induction ls with
  | nil =>
    intro pre xs f k _ hle hf hk hs
    obtain ⟨f, rfl⟩ : ∃ g, f = g + 1 := ⟨f - 1, by simp at hle; omega⟩
    have h := take_cut s pre [] k (by simpa [body] using hs) (by simpa [body] using hk) (fun c h => by simp at h) (by simp)
    rw [headR_err f s _ xs (by rw [h]; decide), h]
  | cons x t ih =>
    intro pre xs f k hg hle hf hk hs
    obtain ⟨hx0, hxp, hxl⟩ := hg x (List.mem_cons_self ..)
    obtain ⟨f, rfl⟩ : ∃ g, f = g + 1 := ⟨f - 1, by simp at hle; omega⟩
    have hb : body (x :: t) ++ [13, 10] = (x ++ [13, 10]) ++ (body t ++ [13, 10]) := by simp [body]
    rw [hb] at hs
    by_cases hkx : k < x.length + 2
    · rw [List.take_append_of_le_length (by simp; omega)] at hs
      have h := take_cut s pre x k hs hkx hxp hxl
      rw [headR_err f s _ xs (by rw [h]; decide), h]
    · have hlen : (x ++ [13, 10]).length ≤ k := by simp; omega
      rw [List.take_append, List.take_of_length_le hlen] at hs
      have hs' : s.data.toList = pre ++ (x ++ 13 :: 10 :: (body t ++ [13, 10]).take (k - (x ++ [13, 10]).length)) := by rw [hs]; simp
      obtain ⟨h1, h2, h3⟩ := take_line s pre x _ hs' hxp hxl
      rw [headR_more f s _ xs h1 (by rw [h2, isEmpty_bs]; cases x <;> simp_all) (by simp at hle; omega), h3, h2, bs_data]
      exact ih (pre ++ (x ++ [13, 10])) (xs ++ [x]) f (k - (x ++ [13, 10]).length) (fun y hy => hg y (List.mem_cons_of_mem _ hy)) (by simp at hle ⊢; omega) (by simp; omega) (by simp [body] at hk ⊢; omega) (by rw [hs]; simp)

theorem putErr_good (x : List UInt8) (h : putErr x = 0) : plainL x ∧ x.length ≤ 256 := by
  unfold putErr at h
  split at h
  · cases h
  · rename_i h1
    split at h
    · cases h
    · refine ⟨fun c hc => ?_, by omega⟩
      have h2 : (x.all fun c => plainB c.toNat) = true := by simpa using h1
      exact List.all_eq_true.1 h2 c hc
theorem putLine_bs (x : List UInt8) (h : putErr x = 0) : putLine (bs x) = bs (x ++ [13, 10]) := by
  unfold putLine
  rw [bs_data, if_pos h]
  have : (bs x ++ ⟨#[13, 10]⟩ : ByteArray).data.toList = x ++ [13, 10] := by simp [bs]
  rw [← this, bs_self]
theorem putLine_bad (x : List UInt8) (h : putErr x ≠ 0) : putLine (bs x) = ⟨#[]⟩ := by
  unfold putLine
  rw [bs_data, if_neg h]
end Go.Proofs.YtfjdppngeillcaaGreatDoor
namespace Go.Proofs.YtfjdppngeillcaaGreatDoor
open Go.RowKit

theorem gapL_contains (c : UInt8) : gapL.contains c = gapB c := by
  unfold gapL gapB
  simp only [List.contains, List.elem]
  cases (c == 32) <;> cases (c == 9) <;> rfl
theorem trimS_cons (g : UInt8) (X : List UInt8) (h : gapB g = true) : Go.Lib.trimS (g :: X) gapL = Go.Lib.trimS X gapL := by
  have hg : gapL.contains g = true := (gapL_contains g).trans h
  unfold Go.Lib.trimS Go.Lib.trimRightS Go.Lib.trimLeftS
  rw [List.reverse_cons, List.dropWhile_append]
  split
  · rename_i he
    rw [List.isEmpty_iff] at he
    rw [he, List.dropWhile_cons_of_pos hg]; rfl
  · rw [List.reverse_append]
    show List.dropWhile _ (g :: _) = _
    rw [List.dropWhile_cons_of_pos hg]; rfl
theorem trimS_snoc (X : List UInt8) (g : UInt8) (h : gapB g = true) : Go.Lib.trimS (X ++ [g]) gapL = Go.Lib.trimS X gapL := by
  have hg : gapL.contains g = true := (gapL_contains g).trans h
  unfold Go.Lib.trimS Go.Lib.trimRightS
  rw [List.reverse_append]
  show Go.Lib.trimLeftS (List.dropWhile _ (g :: _)).reverse _ = _
  rw [List.dropWhile_cons_of_pos hg]; rfl
theorem trimS_le (X : List UInt8) : (Go.Lib.trimS X gapL).length ≤ X.length := by
  unfold Go.Lib.trimS Go.Lib.trimRightS Go.Lib.trimLeftS
  refine Nat.le_trans (List.dropWhile_suffix _).length_le ?_
  rw [List.length_reverse]
  refine Nat.le_trans (List.dropWhile_suffix _).length_le ?_
  rw [List.length_reverse]; exact Nat.le_refl _
def headGap (X : List UInt8) : Bool := match X with | [] => false | c :: _ => gapB c
def noGap (X : List UInt8) : Bool := !headGap X && !headGap X.reverse
theorem trimS_done (X : List UInt8) (h1 : headGap X = false) (h2 : headGap X.reverse = false) : Go.Lib.trimS X gapL = X := by
  have key : ∀ Y : List UInt8, headGap Y = false → Y.dropWhile (gapL.contains ·) = Y := by
    intro Y h
    cases Y with
    | nil => rfl
    | cons c t => exact List.dropWhile_cons_of_neg (by rw [gapL_contains]; show ¬ gapB c = true; rw [show gapB c = false from h]; decide)
  unfold Go.Lib.trimS Go.Lib.trimRightS Go.Lib.trimLeftS
  rw [key _ h2, List.reverse_reverse, key _ h1]
theorem trimS_iff (X : List UInt8) : Go.Lib.trimS X gapL = X ↔ noGap X = true := by
  unfold noGap
  constructor
  · intro h
    have a : headGap X = false := by
      cases X with
      | nil => rfl
      | cons c t =>
        rw [Bool.eq_false_iff]
        intro hc
        have := trimS_le t
        rw [← trimS_cons c t hc, h] at this
        simp at this
        omega
    have b : headGap X.reverse = false := by
      cases hr : X.reverse with
      | nil => rfl
      | cons c t =>
        rw [Bool.eq_false_iff]
        intro hc
        have e : X = t.reverse ++ [c] := by rw [← List.reverse_reverse X, hr, List.reverse_cons]
        have := trimS_le t.reverse
        rw [← trimS_snoc t.reverse c hc, ← e, h, e] at this
        simp at this
        omega
    rw [a, b]; rfl
  · intro h
    simp only [Bool.and_eq_true, Bool.not_eq_true'] at h
    exact trimS_done X h.1 h.2

/-- what stands behind a name's colon -/
def tailV (v : List UInt8) : List UInt8 := if v.isEmpty then [] else 32 :: v
def printL (n v : List UInt8) : List UInt8 := titL true n ++ 58 :: tailV v
def printOk (n v : List UInt8) : Bool := nameL n && plainAll v && noGap v
def fieldE (n v : List UInt8) : Nat := if printOk n v = true then (if 256 < (printL n v).length then 5 else 0) else 4
def fieldS (n v : List UInt8) : List UInt8 := if fieldE n v = 0 then printL n v else []

theorem titL_append (b : Bool) (x y : List UInt8) : titL b (x ++ y) = titL b x ++ titL (match x.getLast? with | none => b | some c => stB c) y := by
  induction x generalizing b with
  | nil => rfl
  | cons c t ih =>
    show UInt8.ofNat _ :: titL (stB c) (t ++ y) = (UInt8.ofNat _ :: titL (stB c) t) ++ _
    rw [ih, List.cons_append, List.getLast?_cons]
    congr 2
    cases t.getLast? <;> rfl
theorem titL_len (b : Bool) (l : List UInt8) : (titL b l).length = l.length := by
  induction l generalizing b with
  | nil => rfl
  | cons c t ih => simp [titL, ih]
/-- trimming the end of a printed name, colon, blank and value: the blank goes just where there is no value -/
theorem trimR_print (t v : List UInt8) (h : noGap v = true) : Go.Lib.trimRightS (t ++ [58, 32] ++ v) gapL = t ++ 58 :: tailV v := by
  unfold Go.Lib.trimRightS tailV
  cases hv : v with
  | nil =>
    simp only [List.isEmpty_nil, if_true]
    have e : (t ++ [58, 32] ++ []).reverse = 32 :: 58 :: t.reverse := by simp
    rw [e, List.dropWhile_cons_of_pos (by decide), List.dropWhile_cons_of_neg (by decide)]
    simp
  | cons a r =>
    rw [← hv]
    have hb : headGap v.reverse = false := by
      unfold noGap at h; simp only [Bool.and_eq_true, Bool.not_eq_true'] at h; exact h.2
    have e : (t ++ [58, 32] ++ v).reverse = v.reverse ++ (32 :: 58 :: t.reverse) := by simp
    rw [e]
    cases hr : v.reverse with
    | nil => rw [List.reverse_eq_nil_iff.1 hr] at hv; exact absurd hv (by simp)
    | cons c u =>
      rw [hr] at hb
      rw [List.cons_append, List.dropWhile_cons_of_neg (by rw [gapL_contains]; rw [show gapB c = false from hb]; decide), ← List.cons_append, ← hr, List.reverse_append]
      simp [hv]
end Go.Proofs.YtfjdppngeillcaaGreatDoor
namespace Go.Proofs.YtfjdppngeillcaaGreatDoor
open Go.RowKit

theorem ahead_of (m t : List UInt8) (h : ∀ c ∈ m, c ≠ 58) : ahead (m ++ 58 :: t) = m := by
  unfold ahead
  rw [List.takeWhile_append_of_pos (fun c hc => by simpa using h c hc), List.takeWhile_cons_of_neg (by decide), List.append_nil]
theorem parse_of (m n v t : List UInt8) (h : ∀ c ∈ m, c ≠ 58) (hm : plainAll m = true) (ht : plainAll t = true) (hn : nameL n = true) (e : m.map smallB = n) (hv : Go.Lib.trimS t gapL = v) :
    parseN (m ++ 58 :: t) = n ∧ parseV (m ++ 58 :: t) = v ∧ parseE (m ++ 58 :: t) = 0 := by
  have ha := ahead_of m t h
  have hname : parseName (m ++ 58 :: t) = n := by unfold parseName; rw [ha, e]
  have hval : parseVal (m ++ 58 :: t) = v := by
    unfold parseVal; rw [ha]
    rw [show (m ++ 58 :: t).drop (m.length + 1) = t by
      rw [← List.drop_drop, List.drop_left]; rfl]
    exact hv
  have hok : parseOk (m ++ 58 :: t) = true := by
    unfold parseOk
    rw [hname, hn, ha]
    have hp : plainAll (m ++ 58 :: t) = true := by
      unfold plainAll at hm ht ⊢
      rw [List.all_append, hm, List.all_cons, ht]; rfl
    rw [hp, decide_eq_true (by simp)]; rfl
  unfold parseN parseV parseE
  rw [hok]
  exact ⟨hname, hval, rfl⟩

theorem namedN_bd (n : Nat) (h : namedN n = true) : (97 ≤ n ∧ n ≤ 122) ∨ (48 ≤ n ∧ n ≤ 57) ∨ n = 45 := by
  rcases named_cases n with ⟨a, b, _⟩ | ⟨a, b, _⟩ | ⟨a, _⟩ | ⟨_, _, c⟩ | ⟨_, _, c⟩ | ⟨_, c⟩
  · exact .inl ⟨a, b⟩
  · exact .inr (.inl ⟨a, b⟩)
  · exact .inr (.inr a)
  · rw [c] at h; exact absurd h (by decide)
  · rw [c] at h; exact absurd h (by decide)
  · rw [c] at h; exact absurd h (by decide)
theorem letN_iff (n : Nat) : letN n = true ↔ 97 ≤ n ∧ n ≤ 122 := by
  unfold letN; simp
theorem titN_named (b : Bool) (n : Nat) (h : namedN n = true) : titN b n = n ∨ (97 ≤ n ∧ n ≤ 122 ∧ titN b n = n - 32) := by
  unfold titN
  split
  · rename_i hb
    simp only [Bool.and_eq_true] at hb
    have := (letN_iff n).1 hb.2
    exact .inr ⟨this.1, this.2, rfl⟩
  · exact .inl rfl
theorem tit_byte (b : Bool) (c : UInt8) (h : namedN c.toNat = true) : (UInt8.ofNat (titN b c.toNat)).toNat = titN b c.toNat := by
  rw [UInt8.toNat_ofNat']
  have := namedN_bd _ h
  rcases titN_named b _ h with e | ⟨_, _, e⟩ <;> rw [e] <;> omega
theorem tit_small (b : Bool) (c : UInt8) (h : namedN c.toNat = true) : smallB (UInt8.ofNat (titN b c.toNat)) = c := by
  unfold smallB
  rw [tit_byte b c h]
  have hb := namedN_bd _ h
  apply UInt8.toNat_inj.1
  rw [UInt8.toNat_ofNat']
  unfold smallN
  rcases titN_named b _ h with e | ⟨a1, a2, e⟩
  · rw [e, if_neg (by omega)]; omega
  · rw [e, if_pos (by omega)]; omega
theorem plainB_of (n : Nat) (h1 : 32 ≤ n) (h2 : n ≤ 126) : plainB n = true := by
  unfold plainB; rw [decide_eq_true h1, decide_eq_true h2]; simp
theorem tit_plain (b : Bool) (c : UInt8) (h : namedN c.toNat = true) : plainB (UInt8.ofNat (titN b c.toNat)).toNat = true ∧ UInt8.ofNat (titN b c.toNat) ≠ 58 := by
  rw [tit_byte b c h]
  have hb := namedN_bd _ h
  rcases titN_named b _ h with e | ⟨a1, a2, e⟩
  · refine ⟨by rw [e]; exact plainB_of _ (by omega) (by omega), fun he => ?_⟩
    have := congrArg UInt8.toNat he
    rw [tit_byte b c h, e] at this
    have : (58 : UInt8).toNat = 58 := rfl
    omega
  · refine ⟨by rw [e]; exact plainB_of _ (by omega) (by omega), fun he => ?_⟩
    have := congrArg UInt8.toNat he
    rw [tit_byte b c h, e] at this
    have : (58 : UInt8).toNat = 58 := rfl
    omega
theorem titL_small (b : Bool) (l : List UInt8) (h : ∀ c ∈ l, namedN c.toNat = true) : (titL b l).map smallB = l := by
  induction l generalizing b with
  | nil => rfl
  | cons c t ih =>
    show smallB _ :: (titL _ t).map smallB = c :: t
    rw [tit_small b c (h c (List.mem_cons_self ..)), ih _ (fun d hd => h d (List.mem_cons_of_mem _ hd))]
theorem titL_plain (b : Bool) (l : List UInt8) (h : ∀ c ∈ l, namedN c.toNat = true) : plainAll (titL b l) = true ∧ ∀ c ∈ titL b l, c ≠ 58 := by
  induction l generalizing b with
  | nil => exact ⟨rfl, fun c hc => by simp [titL] at hc⟩
  | cons c t ih =>
    have h1 := tit_plain b c (h c (List.mem_cons_self ..))
    have h2 := ih (stB c) (fun d hd => h d (List.mem_cons_of_mem _ hd))
    constructor
    · show plainAll (_ :: _) = true
      unfold plainAll at h2 ⊢
      rw [List.all_cons, h1.1, h2.1]; rfl
    · intro d hd
      change d ∈ UInt8.ofNat (titN b c.toNat) :: titL (stB c) t at hd
      rcases List.mem_cons.1 hd with rfl | hd
      · exact h1.2
      · exact h2.2 d hd
theorem nameL_all (n : List UInt8) (h : nameL n = true) : (∀ c ∈ n, namedN c.toNat = true) ∧ n ≠ [] ∧ n.length ≤ 32 := by
  unfold nameL at h
  simp only [Bool.and_eq_true, Bool.not_eq_true', decide_eq_true_eq, List.all_eq_true] at h
  exact ⟨h.2, fun e => by rw [e] at h; exact absurd h.1.1 (by decide), h.1.2⟩
theorem printOk_and (n v : List UInt8) (h : printOk n v = true) : nameL n = true ∧ plainAll v = true ∧ noGap v = true := by
  unfold printOk at h; simp only [Bool.and_eq_true] at h; exact ⟨h.1.1, h.1.2, h.2⟩
theorem fieldE_zero (n v : List UInt8) (h : fieldE n v = 0) : printOk n v = true ∧ (printL n v).length ≤ 256 := by
  unfold fieldE at h
  split at h
  · split at h
    · exact absurd h (by decide)
    · exact ⟨by assumption, by omega⟩
  · exact absurd h (by decide)
theorem tailV_plain (v : List UInt8) (h : plainAll v = true) : plainAll (tailV v) = true := by
  unfold tailV; split
  · rfl
  · unfold plainAll at h ⊢; rw [List.all_cons, h]; rfl
theorem trimS_tail (v : List UInt8) (h : noGap v = true) : Go.Lib.trimS (tailV v) gapL = v := by
  unfold tailV
  split
  · rename_i he; rw [List.isEmpty_iff] at he; rw [he]; rfl
  · rw [trimS_cons 32 v (by decide)]; exact (trimS_iff v).2 h
/-- a printed field, parsed -/
theorem print_parse (n v : List UInt8) (h : printOk n v = true) : parseN (printL n v) = n ∧ parseV (printL n v) = v ∧ parseE (printL n v) = 0 := by
  obtain ⟨h1, h2, h3⟩ := printOk_and n v h
  obtain ⟨ha, hne, hlen⟩ := nameL_all n h1
  obtain ⟨p1, p2⟩ := titL_plain true n ha
  exact parse_of _ n v _ p2 p1 (tailV_plain v h2) h1 (titL_small true n ha) (trimS_tail v h3)
theorem print_put (n v : List UInt8) (h : fieldE n v = 0) : putErr (printL n v) = 0 := by
  obtain ⟨hk, hl⟩ := fieldE_zero n v h
  obtain ⟨h1, h2, h3⟩ := printOk_and n v hk
  obtain ⟨ha, hne, hlen⟩ := nameL_all n h1
  obtain ⟨p1, p2⟩ := titL_plain true n ha
  have hp : plainAll (printL n v) = true := by
    have ht := tailV_plain v h2
    unfold printL
    unfold plainAll at p1 ht ⊢
    rw [List.all_append, p1, List.all_cons, ht]; rfl
  unfold putErr
  unfold plainAll at hp
  rw [hp, if_neg (by decide), if_neg (by omega)]
/-- in great letters -/
def greatB (c : UInt8) : UInt8 := if 97 ≤ c.toNat ∧ c.toNat ≤ 122 then UInt8.ofNat (c.toNat - 32) else c
theorem great_byte (c : UInt8) (h : namedN c.toNat = true) : smallB (greatB c) = c ∧ plainB (greatB c).toNat = true ∧ greatB c ≠ 58 := by
  have hb := namedN_bd _ h
  unfold greatB
  split
  · rename_i hl
    have e : (UInt8.ofNat (c.toNat - 32)).toNat = c.toNat - 32 := by rw [UInt8.toNat_ofNat']; omega
    refine ⟨?_, by rw [e]; exact plainB_of _ (by omega) (by omega), fun he => ?_⟩
    · unfold smallB; rw [e]; apply UInt8.toNat_inj.1; rw [UInt8.toNat_ofNat']; unfold smallN; rw [if_pos (by omega)]; omega
    · have := congrArg UInt8.toNat he
      rw [e] at this
      have : (58 : UInt8).toNat = 58 := rfl
      omega
  · refine ⟨?_, plainB_of _ (by omega) (by omega), fun he => ?_⟩
    · unfold smallB; apply UInt8.toNat_inj.1; rw [UInt8.toNat_ofNat']; unfold smallN; rw [if_neg (by omega)]; omega
    · have := congrArg UInt8.toNat he
      have : (58 : UInt8).toNat = 58 := rfl
      omega
theorem great_all (n : List UInt8) (h : ∀ c ∈ n, namedN c.toNat = true) : (n.map greatB).map smallB = n ∧ plainAll (n.map greatB) = true ∧ ∀ c ∈ n.map greatB, c ≠ 58 := by
  refine ⟨?_, ?_, ?_⟩
  · rw [List.map_map]; conv => rhs; rw [← List.map_id n]
    exact List.map_congr_left (fun c hc => (great_byte c (h c hc)).1)
  · unfold plainAll; rw [List.all_map, List.all_eq_true]; intro c hc; exact (great_byte c (h c hc)).2.1
  · intro c hc
    obtain ⟨d, hd, rfl⟩ := List.mem_map.1 hc
    exact (great_byte d (h d hd)).2.2
theorem trimS_pre (g : UInt8) (hg : gapB g = true) (k : Nat) (t : List UInt8) : Go.Lib.trimS (List.replicate k g ++ t) gapL = Go.Lib.trimS t gapL := by
  induction k with
  | zero => rfl
  | succ k ih => rw [List.replicate_succ, List.cons_append, trimS_cons g _ hg, ih]
theorem trimS_post (g : UInt8) (hg : gapB g = true) (k : Nat) (t : List UInt8) : Go.Lib.trimS (t ++ List.replicate k g) gapL = Go.Lib.trimS t gapL := by
  induction k with
  | zero => rw [List.replicate_zero, List.append_nil]
  | succ k ih => rw [List.replicate_succ', ← List.append_assoc, trimS_snoc _ g hg, ih]
theorem gaps_plain (g : UInt8) (hg : gapB g = true) (k : Nat) : plainAll (List.replicate k g) = true := by
  unfold plainAll
  rw [List.all_eq_true]
  intro c hc
  rw [(List.mem_replicate.1 hc).2]
  unfold gapB at hg
  simp only [Bool.or_eq_true, beq_iff_eq] at hg
  rcases hg with rfl | rfl <;> rfl
def greatLine (n v : List UInt8) (a b c : Nat) : List UInt8 := n.map greatB ++ 58 :: (List.replicate a 32 ++ (List.replicate b 9 ++ (v ++ List.replicate c 32)))
theorem great_parse (n v : List UInt8) (h : printOk n v = true) (a b c : Nat) : parseN (greatLine n v a b c) = n ∧ parseV (greatLine n v a b c) = v ∧ parseE (greatLine n v a b c) = 0 := by
  obtain ⟨h1, h2, h3⟩ := printOk_and n v h
  obtain ⟨ha, hne, hlen⟩ := nameL_all n h1
  obtain ⟨q1, q2, q3⟩ := great_all n ha
  refine parse_of _ n v _ q3 q2 ?_ h1 q1 ?_
  · have g1 := gaps_plain 32 (by decide) a
    have g2 := gaps_plain 9 (by decide) b
    have g3 := gaps_plain 32 (by decide) c
    unfold plainAll at h2 g1 g2 g3 ⊢
    rw [List.all_append, List.all_append, List.all_append, g1, g2, h2, g3]; rfl
  · rw [trimS_pre 32 (by decide), trimS_pre 9 (by decide), trimS_post 32 (by decide)]
    exact (trimS_iff v).2 h3

/-- what was parsed is a field that may be printed, unless that is too long -/
theorem trimS_idem (l : List UInt8) : noGap (Go.Lib.trimS l gapL) = true := by
  suffices h : ∀ k (l : List UInt8), l.length ≤ k → noGap (Go.Lib.trimS l gapL) = true from h _ l (Nat.le_refl _)
  intro k
  induction k with
  | zero => intro l hl; rw [List.length_eq_zero_iff.1 (Nat.le_zero.1 hl)]; rfl
  | succ k ih =>
    intro l hl
    by_cases h1 : headGap l = true
    · cases l with
      | nil => rfl
      | cons c t => rw [trimS_cons c t h1]; exact ih t (by simp at hl; omega)
    · by_cases h2 : headGap l.reverse = true
      · cases hr : l.reverse with
        | nil => rw [hr] at h2; exact absurd h2 (by decide)
        | cons c t =>
          have e : l = t.reverse ++ [c] := by rw [← List.reverse_reverse l, hr, List.reverse_cons]
          rw [hr] at h2
          rw [e, trimS_snoc _ c h2]
          exact ih _ (by rw [e] at hl; simp at hl; rw [List.length_reverse]; omega)
      · have e := trimS_done l (by simpa using h1) (by simpa using h2)
        rw [e]; unfold noGap; simp at h1 h2; rw [h1, h2]; rfl
theorem trimS_infix (l : List UInt8) : ∃ a b, l = a ++ Go.Lib.trimS l gapL ++ b := by
  unfold Go.Lib.trimS
  obtain ⟨b, hb⟩ : ∃ b, l = Go.Lib.trimRightS l gapL ++ b := by
    unfold Go.Lib.trimRightS
    obtain ⟨t, ht⟩ := List.dropWhile_suffix (l := l.reverse) (gapL.contains ·)
    refine ⟨t.reverse, ?_⟩
    have := congrArg List.reverse ht
    rw [List.reverse_append, List.reverse_reverse] at this
    exact this.symm
  obtain ⟨a, ha⟩ : ∃ a, Go.Lib.trimRightS l gapL = a ++ Go.Lib.trimLeftS (Go.Lib.trimRightS l gapL) gapL := by
    obtain ⟨t, ht⟩ := List.dropWhile_suffix (l := Go.Lib.trimRightS l gapL) (gapL.contains ·)
    exact ⟨t, ht.symm⟩
  exact ⟨a, b, by rw [← ha]; exact hb⟩
theorem parse_zero (l : List UInt8) (h : parseE l = 0) : parseOk l = true ∧ parseN l = parseName l ∧ parseV l = parseVal l := by
  unfold parseE at h
  split at h
  · rename_i hk; exact ⟨hk, if_pos hk, if_pos hk⟩
  · exact absurd h (by decide)
theorem parse_four (l : List UInt8) (h : parseE l ≠ 0) : parseE l = 4 ∧ parseN l = [] ∧ parseV l = [] := by
  unfold parseE parseN parseV at *
  split at h
  · exact absurd rfl h
  · rename_i hk; rw [if_neg hk, if_neg hk, if_neg hk]; exact ⟨rfl, rfl, rfl⟩
theorem parse_infix (l : List UInt8) (h : parseE l = 0) : ∃ a b, l = a ++ parseV l ++ b := by
  obtain ⟨_, _, hv⟩ := parse_zero l h
  rw [hv]
  unfold parseVal
  obtain ⟨a, b, e⟩ := trimS_infix (l.drop ((ahead l).length + 1))
  exact ⟨l.take ((ahead l).length + 1) ++ a, b, by rw [List.append_assoc, List.append_assoc, ← List.append_assoc a, ← e, List.take_append_drop]⟩
theorem parse_print (l : List UInt8) (h : parseE l = 0) : printOk (parseN l) (parseV l) = true := by
  obtain ⟨hk, hn, hv⟩ := parse_zero l h
  obtain ⟨a, b, e⟩ := parse_infix l h
  have hp : plainAll l = true ∧ nameL (parseName l) = true := by
    unfold parseOk at hk; simp only [Bool.and_eq_true] at hk; exact ⟨hk.1.1, hk.2⟩
  unfold printOk
  rw [hn, hp.2]
  have h1 : plainAll (parseV l) = true := by
    have := hp.1
    rw [e] at this
    unfold plainAll at this ⊢
    rw [List.all_append, List.all_append] at this
    simp only [Bool.and_eq_true] at this
    exact this.1.2
  have h2 : noGap (parseV l) = true := by rw [hv]; exact trimS_idem _
  rw [h1, h2]; rfl
end Go.Proofs.YtfjdppngeillcaaGreatDoor
namespace Go.Proofs.YtfjdppngeillcaaGreatDoor
open Go.RowKit

/-- a request's lines -/
def line1 (p : List UInt8) : List UInt8 := [71, 69, 84, 32] ++ p ++ [32, 72, 84, 84, 80, 47, 49, 46, 49]
def line2 (h : List UInt8) : List UInt8 := [72, 111, 115, 116, 58, 32] ++ h
def line3 (a b : Int) : List UInt8 := [82, 97, 110, 103, 101, 58, 32] ++ askL a b
def reqL (p h : List UInt8) (a b : Int) : List UInt8 := body [line1 p, line2 h, line3 a b] ++ [13, 10]
def lines4 (p h : List UInt8) (a b : Int) : List (List UInt8) := [line1 p, line2 h, line3 a b, []]
def aPrint (p h : List UInt8) (a b : Int) : List UInt8 := if aErr p h a b = 0 then reqL p h a b else []
theorem aErr_zero (p h : List UInt8) (a b : Int) (he : aErr p h a b = 0) : pathB p = true ∧ hostB h = true ∧ rErr a b = 0 := by
  unfold aErr at he
  split at he
  · exact absurd he (by decide)
  · rename_i hn
    refine ⟨?_, ?_, he⟩
    · cases e : pathB p with
      | false => exact absurd (.inl e) hn
      | true => rfl
    · cases e : hostB h with
      | false => exact absurd (.inr e) hn
      | true => rfl
theorem pathB_and (p : List UInt8) (h : pathB p = true) : p.length ≤ 64 ∧ (∀ c ∈ p, pathN c.toNat = true) ∧ p ≠ [] := by
  unfold pathB at h
  simp only [Bool.and_eq_true, decide_eq_true_eq, List.all_eq_true] at h
  refine ⟨h.1.2, h.2, ?_⟩
  intro e; rw [e] at h; exact absurd h.1.1 (by decide)
theorem hostB_and (p : List UInt8) (h : hostB p = true) : p.length ≤ 32 ∧ (∀ c ∈ p, hostN c.toNat = true) ∧ p ≠ [] := by
  unfold hostB at h
  simp only [Bool.and_eq_true, decide_eq_true_eq, List.all_eq_true, Bool.not_eq_true', List.isEmpty_eq_false_iff] at h
  exact ⟨h.1.2, h.2, h.1.1⟩
theorem pathN_plain (x : Nat) (h : pathN x = true) : plainB x = true ∧ x ≠ 32 := by
  unfold pathN at h
  simp only [Bool.and_eq_true, decide_eq_true_eq] at h
  exact ⟨plainB_of x (by omega) (by omega), by omega⟩
theorem hostN_plain (x : Nat) (h : hostN x = true) : plainB x = true ∧ x ≠ 32 := by
  unfold hostN letN digN at h
  simp only [Bool.or_eq_true, Bool.and_eq_true, decide_eq_true_eq, beq_iff_eq] at h
  exact ⟨plainB_of x (by omega) (by omega), by omega⟩
theorem put_of (l : List UInt8) (h : plainL l) (hl : l.length ≤ 256) : putErr l = 0 := by
  unfold putErr
  rw [if_neg (by rw [List.all_eq_true.2 h]; decide), if_neg (by omega)]
theorem digL_plain (n : Int) : plainL (digL n) := by
  intro c hc
  unfold digL at hc
  split at hc
  · simp at hc
  · have := List.all_eq_true.1 (decDigits_all n.toNat) c hc
    unfold digN at this
    simp only [Bool.and_eq_true, decide_eq_true_eq] at this
    exact plainB_of _ (by omega) (by omega)
theorem line1_put (p : List UInt8) (h : pathB p = true) : putErr (line1 p) = 0 := by
  obtain ⟨h1, h2, -⟩ := pathB_and p h
  refine put_of _ ?_ (by unfold line1; simp; omega)
  intro c hc
  unfold line1 at hc
  rw [List.mem_append, List.mem_append] at hc
  rcases hc with (hc | hc) | hc
  · exact (show ∀ d ∈ ([71, 69, 84, 32] : List UInt8), plainB d.toNat = true by decide) c hc
  · exact (pathN_plain _ (h2 c hc)).1
  · exact (show ∀ d ∈ ([32, 72, 84, 84, 80, 47, 49, 46, 49] : List UInt8), plainB d.toNat = true by decide) c hc
theorem line2_put (p : List UInt8) (h : hostB p = true) : putErr (line2 p) = 0 := by
  obtain ⟨h1, h2, -⟩ := hostB_and p h
  refine put_of _ ?_ (by unfold line2; simp; omega)
  intro c hc
  unfold line2 at hc
  rw [List.mem_append] at hc
  rcases hc with hc | hc
  · exact (show ∀ d ∈ ([72, 111, 115, 116, 58, 32] : List UInt8), plainB d.toNat = true by decide) c hc
  · exact (hostN_plain _ (h2 c hc)).1
theorem askL_len (a b : Int) (ha : a ≤ 9223372036854775807) (hb : b ≤ 9223372036854775807) : (askL a b).length ≤ 47 := by
  unfold askL
  split
  · rw [List.length_append]; have := textR_len a b ha hb; have e : asksL.length = 6 := rfl; omega
  · exact Nat.zero_le _
theorem askL_plain (a b : Int) : plainL (askL a b) := by
  unfold askL
  split
  · intro c hc
    unfold textR at hc
    rw [List.mem_append, List.mem_append, List.mem_cons] at hc
    rcases hc with hc | hc | hc | hc
    · exact (show ∀ d ∈ asksL, plainB d.toNat = true by decide) c hc
    · exact digL_plain a c hc
    · subst hc; decide
    · exact digL_plain b c hc
  · intro c hc; simp at hc
theorem line3_put (a b : Int) (ha : a ≤ 9223372036854775807) (hb : b ≤ 9223372036854775807) : putErr (line3 a b) = 0 := by
  refine put_of _ ?_ (by unfold line3; have := askL_len a b ha hb; simp; omega)
  intro c hc
  unfold line3 at hc
  rw [List.mem_append] at hc
  rcases hc with hc | hc
  · exact (show ∀ d ∈ ([82, 97, 110, 103, 101, 58, 32] : List UInt8), plainB d.toNat = true by decide) c hc
  · exact askL_plain a b c hc
/-- what laying a line that may be laid returns -/
theorem put_good (s : ByteArray) (w : World) (hs : s.size ≤ 256) (h : putErr s.data.toList = 0) :
    Calls Tryz.prog 63 #[.string s] w fun e w' => e = .returned (.tuple #[.string (s ++ ⟨#[13, 10]⟩), .int .i64 0]) ∧ w' = w := by
  have := lines_put s w (by omega)
  unfold putLine at this
  rw [if_pos h, h] at this
  exact this
end Go.Proofs.YtfjdppngeillcaaGreatDoor
namespace Go.Proofs.YtfjdppngeillcaaGreatDoor
open Go.RowKit

theorem bs_of (s : ByteArray) (l : List UInt8) (h : s.data.toList = l) : s = bs l := by rw [← h, bs_self]
set_option maxRecDepth 100000 in
set_option maxHeartbeats 2000000 in
theorem ref_aprint (p h : ByteArray) (a b : Int) (w : World) (ha : a ≤ 9223372036854775807) (hb : b ≤ 9223372036854775807) (hps : p.size ≤ 9223372036854775807) (hhs : h.size ≤ 9223372036854775807) :
    Calls Tryz.prog 17 #[.agg #[.string p, .string h, .int .i64 a, .int .i64 b]] w fun e w' => e = .returned (.tuple #[.string (bs (aPrint p.data.toList h.data.toList a b)), .int .i64 (aErr p.data.toList h.data.toList a b : Nat)]) ∧ Below w.heap.size w w' := by
  have HC := Lib.hid (fun w => ref_acheck p h a b w hps hhs)
  have HA := Lib.hid (fun w => ref_ask a b w ha hb)
  by_cases he : aErr p.data.toList h.data.toList a b = 0
  · obtain ⟨z1, z2, hr⟩ := aErr_zero _ _ _ _ he
    have hp : p.size ≤ 64 := by have := (pathB_and _ z1).1; rwa [size_len] at this
    have hh : h.size ≤ 32 := by have := (hostB_and _ z2).1; rwa [size_len] at this
    have HRQ : Hid (aPrint p.data.toList h.data.toList a b = reqL p.data.toList h.data.toList a b) := Lib.hid (if_pos he)
    rw [he] at HC ⊢
    rw [hr] at HA
    obtain ⟨Q, hQ⟩ : ∃ Q, bs (askL a b) = Q := ⟨_, rfl⟩
    rw [hQ] at HA
    have hQs : Q.size ≤ 47 := by rw [← hQ, bs_size]; exact askL_len a b ha hb
    have zz : ∀ X Y : ByteArray, (X ++ Y).size = X.size + Y.size := fun X Y => ByteArray.size_append
    have y1 : (⟨#[71, 69, 84, 32]⟩ : ByteArray).size = 4 := rfl
    have y2 : (⟨#[32, 72, 84, 84, 80, 47, 49, 46, 49, 13, 10, 72, 111, 115, 116, 58, 32]⟩ : ByteArray).size = 17 := rfl
    have y3 : (⟨#[13, 10, 82, 97, 110, 103, 101, 58, 32]⟩ : ByteArray).size = 9 := rfl
    have y4 : (⟨#[13, 10, 13, 10]⟩ : ByteArray).size = 4 := rfl
    have p1 := fun w => run_string_add_sum (P := Tryz.prog) w ⟨#[71, 69, 84, 32]⟩ p (by rw [y1]; omega)
    have p2 := fun w => run_string_add_sum (P := Tryz.prog) w (⟨#[71, 69, 84, 32]⟩ ++ p) ⟨#[32, 72, 84, 84, 80, 47, 49, 46, 49, 13, 10, 72, 111, 115, 116, 58, 32]⟩ (by rw [zz, y1, y2]; omega)
    have p3 := fun w => run_string_add_sum (P := Tryz.prog) w (⟨#[71, 69, 84, 32]⟩ ++ p ++ ⟨#[32, 72, 84, 84, 80, 47, 49, 46, 49, 13, 10, 72, 111, 115, 116, 58, 32]⟩) h (by rw [zz, zz, y1, y2]; omega)
    have p4 := fun w => run_string_add_sum (P := Tryz.prog) w (⟨#[71, 69, 84, 32]⟩ ++ p ++ ⟨#[32, 72, 84, 84, 80, 47, 49, 46, 49, 13, 10, 72, 111, 115, 116, 58, 32]⟩ ++ h) ⟨#[13, 10, 82, 97, 110, 103, 101, 58, 32]⟩ (by rw [zz, zz, zz, y1, y2, y3]; omega)
    have p5 := fun w => run_string_add_sum (P := Tryz.prog) w (⟨#[71, 69, 84, 32]⟩ ++ p ++ ⟨#[32, 72, 84, 84, 80, 47, 49, 46, 49, 13, 10, 72, 111, 115, 116, 58, 32]⟩ ++ h ++ ⟨#[13, 10, 82, 97, 110, 103, 101, 58, 32]⟩) Q (by rw [zz, zz, zz, zz, y1, y2, y3]; omega)
    have p6 := fun w => run_string_add_sum (P := Tryz.prog) w (⟨#[71, 69, 84, 32]⟩ ++ p ++ ⟨#[32, 72, 84, 84, 80, 47, 49, 46, 49, 13, 10, 72, 111, 115, 116, 58, 32]⟩ ++ h ++ ⟨#[13, 10, 82, 97, 110, 103, 101, 58, 32]⟩ ++ Q) ⟨#[13, 10, 13, 10]⟩ (by rw [zz, zz, zz, zz, zz, y1, y2, y3, y4]; omega)
    have HR : Hid (⟨#[71, 69, 84, 32]⟩ ++ p ++ ⟨#[32, 72, 84, 84, 80, 47, 49, 46, 49, 13, 10, 72, 111, 115, 116, 58, 32]⟩ ++ h ++ ⟨#[13, 10, 82, 97, 110, 103, 101, 58, 32]⟩ ++ Q ++ ⟨#[13, 10, 13, 10]⟩ = bs (reqL p.data.toList h.data.toList a b)) := Lib.hid (by
      refine bs_of _ _ ?_
      have hq : Q.data.toList = askL a b := by rw [← hQ, bs_data]
      rw [data_cat, data_cat, data_cat, data_cat, data_cat, data_cat, hq]
      unfold reqL line1 line2 line3
      simp [body])
    clear zz y1 y2 y3 y4 z1 z2 he hr hQ
    go_enter Tryz.func17, Tryz.ntmps17
    go_wp2_with fail
    refine (HC.out _).mono ?_
    rintro e w1 ⟨rfl, hb1⟩
    obtain ⟨c0, c1, c2, c3⟩ := box_four hb1
    have HB1 := Lib.hid hb1
    clear hb1
    go_wp2_with fail
    refine (HA.out _).mono ?_
    rintro e w2 ⟨rfl, hb2⟩
    have HB2 := Lib.hid (bstep HB1.out hb2)
    obtain ⟨c0, c1, c2, c3⟩ := box_four HB2.out
    clear hb2
    go_wp2_with fail
    go_ret2
    exact ⟨by rw [HRQ.out, ← HR.out]; rfl, bstep (below_agg4 w _ _ _ _ _) HB2.out⟩
  · have HR : Hid (aPrint p.data.toList h.data.toList a b = []) := Lib.hid (if_neg he)
    obtain ⟨Z, hZ⟩ : ∃ Z, aErr p.data.toList h.data.toList a b = Z := ⟨_, rfl⟩
    rw [hZ] at HC he ⊢
    have tz : ((Z : Int) != 0) = true := by rw [bne_iff_ne]; omega
    clear hZ
    go_enter Tryz.func17, Tryz.ntmps17
    go_wp2_with fail
    refine (HC.out _).mono ?_
    rintro e w1 ⟨rfl, hb1⟩
    go_wp2_with fail
    go_ret2
    exact ⟨by rw [HR.out]; rfl, bstep (below_agg4 w _ _ _ _ _) hb1⟩
end Go.Proofs.YtfjdppngeillcaaGreatDoor
namespace Go.Proofs.YtfjdppngeillcaaGreatDoor
open Go.RowKit

def MaxLenIs (w : World) (m : Int) : Prop := w.cell? ⟨0, 0, none⟩ = some (.int .i64 m)
theorem MaxLenIs.pos {w : World} {m : Int} (h : MaxLenIs w m) : 0 < w.heap.size := World.block_lt_of_cell? _ _ h
theorem MaxLenIs.below {w w' : World} {m : Int} (h : MaxLenIs w m) (hb : Below w.heap.size w w') : MaxLenIs w' m := (hb.cell (p := ⟨0, 0, none⟩) h.pos).trans h

theorem lines_words (s : ByteArray) (m : Int) (w : World) (hs : s.size < 1073741824) (hm : MaxLenIs w m) :
    Calls Tryz.prog 80 #[.string s] w fun e w' => ∃ v, e = .returned v ∧ w'.ownsRow w.heap.size 9 1 v (words s.data.toList).length (strs (words s.data.toList)) ∧ Below w.heap.size w w' := by
  have Hm := Lib.hid hm
  clear hm
  go_enter Tryz.func80, Tryz.ntmps80
  go_wp2_with (go_at_call 112; refine (Tryz.strings_Split s _ m _ (by omega) Hm.out (by decide)).mono ?_; rintro e w' ⟨rfl, rfl⟩)
  go_ret
  refine ⟨_, rfl, ?_, (Below.refl _ _).alloc (Nat.le_refl _) _⟩
  rw [splitB_words, countB_words]
  exact own_alloc w _ _ rfl (by rw [← countB_words]; have := Go.Lib.count_le s.data.toList [32]; have h2 : Go.Lib.countB s ⟨#[32]⟩ ≤ s.size + 1 := by simpa using this
                                unfold maxLen; omega)

/-! what the functions tell of the texts of awake -/
def t1 : ByteArray := ⟨#[97, 32, 98, 13, 10, 99]⟩
theorem aw1 : takeLine t1 0 = ⟨#[97, 32, 98]⟩ := by decide +kernel
theorem aw2 : takeNext t1 0 = 5 := by decide +kernel
theorem aw3 : takeErr t1 0 = 0 := by decide +kernel
theorem aw4 : takeNext t1 5 = 5 := by decide +kernel
theorem aw5 : takeErr t1 5 = 3 := by decide +kernel
theorem aw6 : takeErr ⟨#[97, 10]⟩ 0 = 4 := by decide +kernel
theorem aw7 : putLine ⟨#[120]⟩ = ⟨#[120, 13, 10]⟩ := by decide +kernel
theorem aw8 : putErr [120] = 0 := by decide +kernel
theorem aw9 : headOf ⟨#[97, 13, 10, 98, 13, 10, 13, 10, 99]⟩ = ([[97], [98]], 8, 0) := by decide +kernel
theorem aw10 : words [32, 97] = [[], [97]] := by decide +kernel
end Go.Proofs.YtfjdppngeillcaaGreatDoor
