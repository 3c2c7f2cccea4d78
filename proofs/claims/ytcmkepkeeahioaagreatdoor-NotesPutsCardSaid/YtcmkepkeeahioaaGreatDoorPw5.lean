/- What each of the reader does, whatever its function does. What a object that is being taken holds. Slices and pairs built of values that are one cell each. A region whose last operation writes what the region loads: loads are taken first where the last operation waits for them. What object's function for one does. What object of the reader does. (Printed by wip/genobj2.py.) What a list that is being taken holds. What list of the reader does. -/
import Derived.Test.YtcmkepkeeahioaaGreatDoorPw4
import Derived.OrdersHeld
import Derived.RegionTactic
set_option linter.unusedVariables false
set_option linter.unusedSimpArgs false
namespace Go.Proofs.YtcmkepkeeahioaaGreatDoor
open Go.RowKit Go.Lib
/-- parts one behind the other, by a function for one: what was had, what is left, the fault -/
def eachG {α : Type} (close : UInt8) (step : Nat → List UInt8 → List α → List α × List UInt8 × Nat) : Nat → Nat → List UInt8 → List α → List α × List UInt8 × Nat
  | 0, _, r, acc => (acc, r, 99)
  | f + 1, n, r, acc =>
    if n = 64 ∧ r ≠ [] then (acc, r, 21)
    else if (step f r acc).2.2 ≠ 0 then step f r acc
    else match skipB (step f r acc).2.1 with
      | [] => ((step f r acc).1, [], 3)
      | c :: t => if c = close then ((step f r acc).1, t, 0) else if c = 44 then eachG close step f (n + 1) (skipB t) (step f r acc).1 else ((step f r acc).1, c :: t, 4)
/-- what each takes, from its first sign on -/
def eachQ {α : Type} (close : UInt8) (step : Nat → List UInt8 → List α → List α × List UInt8 × Nat) (F d : Nat) (c : UInt8) (t : List UInt8) (acc : List α) : List α × List UInt8 × Nat :=
  if 4 < d then (acc, c :: t, 20) else if (skipB t).head? = some close then (acc, (skipB t).tail, 0) else eachG close step F 0 (skipB t) acc
/-- the frame of a list that is taken from the block base on -/
abbrev FrK (b base : Nat) (w w' : World) : Prop := Touch (fun i => i = b ∨ base ≤ i) w w'
theorem frK_of {b base : Nat} {w w' : World} (h : Touch (fun i => i = b) w w') : FrK b base w w' := h.mono (fun _ h => .inl h)
theorem frK_trans {b base : Nat} {w w1 w2 : World} (h : FrK b base w w1) (k : FrK b base w1 w2) : FrK b base w w2 := h.trans k (fun _ h => .inl h)
def OnePost {α : Type} (b base : Nat) (s : ByteArray) (J : World → Prop) (I : World → List α → Prop) (q : List α × List UInt8 × Nat) (w : World) (e : Ending) (w' : World) : Prop :=
  e = .returned (.tuple #[]) ∧ RL b s q.2.1 q.2.2 w' ∧ (FrK b base w w' ∧ J w') ∧ (q.2.2 = 0 → I w' q.1)
set_option maxRecDepth 100000 in
set_option maxHeartbeats 4000000 in
theorem rd_each {α : Type} (close from_ : UInt8) (step : Nat → List UInt8 → List α → List α × List UInt8 × Nat) (g : Nat) (lb : Array Value) (eg : ∀ args w, (callFunc g args).run Tryz.prog w = .ok (.enter g args) w)
    (b base : Nat) (s : ByteArray) (F d : Nat) (J : World → Prop) (hJ : ∀ W W', J W → Touch (fun i => i = b) W W' → J W') (I : World → List α → Prop) (hI : ∀ W W' acc, I W acc → Touch (fun i => i = b) W W' → I W' acc)
    (hlen : ∀ f r acc, (step f r acc).2.2 = 0 → (step f r acc).1.length = acc.length + 1)
    (hone : ∀ f, f < F → ∀ (n : Nat) r acc W, acc.length = n → n ≤ F → RL b s r 0 W → J W → I W acc → (step f r acc).2.2 ≠ 99 → Calls Tryz.prog g (#[.int .i64 (n : Int)] ++ lb) W (OnePost b base s J I (step f r acc) W))
    (t : List UInt8) (w : World) (h : RL b s (from_ :: t) 0 w) (hj : J w) (hi : I w []) (hs : s.size ≤ 1000000) (hF : F ≤ 1000000) (hd : d ≤ 100) (h99 : (eachQ close step F d from_ t []).2.2 ≠ 99) :
    Calls Tryz.prog 69 #[.pointer (some ⟨b, 0, none⟩), .int .i64 (d : Int), .int .u8 (from_.toNat : Int), .int .u8 (close.toNat : Int), .func (.func g) #[] lb] w (OnePost b base s J I (eachQ close step F d from_ t []) w) := by
  obtain ⟨Q, hQ⟩ : ∃ Q, eachQ close step F d from_ t [] = Q := ⟨_, rfl⟩
  rw [hQ] at h99 ⊢
  unfold eachQ at hQ
  have HH := Lib.hid h
  obtain ⟨c0, c1, c2, f1, f2⟩ := h.1.cells
  by_cases h4 : 4 < d
  · rw [if_pos h4] at hQ
    have HQ := Lib.hid hQ
    have t4 : decide ((d : Int) > 4) = true := decide_eq_true (by omega)
    obtain ⟨n, hn⟩ : ∃ n, s.size - (from_ :: t).length = n := ⟨_, rfl⟩
    rw [hn] at c1
    have HF := Lib.hid (hn ▸ rd_fail b _ (s.size - (from_ :: t).length) 20 s w h.1 : Calls Tryz.prog 31 #[.pointer (some ⟨b, 0, none⟩), .int .i64 (n : Int), .int .i64 ((20 : Nat) : Int)] w (FailPost b s n 20 w))
    have HN := Lib.hid hn
    clear hQ h hn hone hI h99 hlen
    go_enter Tryz.func69, Tryz.ntmps69
    go_wp2_with fail
    refine HF.out.mono ?_
    rintro e w1 ⟨rfl, h1, t1⟩
    go_wp2_with fail
    first | go_end0 | (simp only [Exit.inBlock, Exit.then]; refine bodyPost_ret (results_none rfl _ _ _) rfl ?_) | refine bodyPost_ret (results_none rfl _ _ _) rfl ?_
    refine ⟨rfl, ?_, ⟨frK_of t1, hJ _ _ hj t1⟩, ?_⟩
    · rw [← HQ.out]; exact ⟨by rw [HN.out]; exact h1, HH.out.2⟩
    · rw [← HQ.out]; exact fun h => absurd h (by show ¬ (20 = 0); decide)
  · rw [if_neg h4] at hQ
    have t4 : decide ((d : Int) > 4) = false := decide_eq_false (by omega)
    have HSG := Lib.hid (rd_sign b s (from_ :: t) from_ w h hs)
    have HI := Lib.hid hI
    have Hi := Lib.hid hi
    have HJ := Lib.hid hJ
    have Hj := Lib.hid hj
    have kj : Hid (∀ {w1 w2 : World}, (FrK b base w w1 ∧ J w1) → Touch (fun i => i = b) w1 w2 → FrK b base w w2 ∧ J w2) := Lib.hid (fun h t => ⟨frK_trans h.1 (frK_of t), hJ _ _ h.2 t⟩)
    have HONE := Lib.hid hone
    have HL := Lib.hid hlen
    clear h hI hi hone hlen hJ hj h4 c0 c1 c2 f1 f2
    go_enter Tryz.func69, Tryz.ntmps69
    go_wp2_with fail
    refine HSG.out.mono ?_
    rintro e w1 ⟨tt1, ⟨t', ht', rfl, h1⟩ | ⟨hne, -, -⟩⟩
    case inr => exact absurd rfl hne
    obtain rfl : t = t' := by injection ht'
    have HK1 : Hid (FrK b base w w1 ∧ J w1) := Lib.hid ⟨frK_of tt1, HJ.out _ _ Hj.out tt1⟩
    have HI1 := Lib.hid (HI.out _ _ _ Hi.out tt1)
    clear ht' tt1
    go_wp2_with fail
    refine (rd_end b s (skipB t) close _ h1 hs).mono ?_
    rintro e w2 ⟨tt2, ⟨u, hu, rfl, h2⟩ | ⟨hne, rfl, h2⟩⟩
    · have HQ : Hid (Q = ([], u, 0)) := Lib.hid (by rw [← hQ, hu]; simp)
      go_wp2_with fail
      first | go_end0 | (simp only [Exit.inBlock, Exit.then]; refine bodyPost_ret (results_none rfl _ _ _) rfl ?_) | refine bodyPost_ret (results_none rfl _ _ _) rfl ?_
      rw [HQ.out]
      exact ⟨rfl, h2, kj.out HK1.out tt2, fun _ => HI.out _ _ _ HI1.out tt2⟩
    · rw [if_neg hne] at hQ
      have HQ := Lib.hid hQ
      have HK2 := Lib.hid (kj.out HK1.out tt2)
      have HI2 := Lib.hid (HI.out _ _ _ HI1.out tt2)
      have HR2 := Lib.hid h2
      clear hQ tt2 h1 HI1 HK1 h2 hne
      go_wp2_with fail
      go_loopg [10] F (fun gk s10 wx => ∃ (n k : Nat) (rq : List UInt8), s10 = .int .i64 (n : Int) ∧ n + gk = F ∧ Hid (RL b s rq k wx) ∧ Hid (FrK b base w wx ∧ J wx) ∧ ((k = 0 ∧ Hid (∃ acc, acc.length = n ∧ I wx acc ∧ eachG close step gk n rq acc = Q)) ∨ (k ≠ 0 ∧ Hid (Q.2.1 = rq ∧ Q.2.2 = k))))
      case atStart => exact ⟨0, 0, skipB t, by simp, by omega, HR2, HK2, .inl ⟨rfl, Lib.hid ⟨[], rfl, HI2.out, HQ.out⟩⟩⟩
      case round =>
        obtain ⟨n, k, rq, rfl, hgk, HRQ, HKQ, ⟨rfl, HA⟩ | ⟨hk, HA⟩⟩ := hrel
        · obtain ⟨acc1, hal, hi1, hq1⟩ := HA.out
          obtain ⟨c0, c1, c2, f1, f2⟩ := HRQ.out.1.cells
          have c2' : wr.cell? ⟨b, 2, none⟩ = some (.int .i64 0) := c2
          cases gk with
          | zero => exact absurd (by rw [← hq1, eachG]) h99
          | succ f =>
            rw [eachG] at hq1
            obtain ⟨m, hm⟩ : ∃ m, s.size - rq.length = m := ⟨_, rfl⟩
            rw [hm] at c1
            have hle := suf_le HRQ.out.2
            by_cases h64 : n = 64 ∧ rq ≠ []
            · rw [if_pos h64] at hq1
              have HQ1 := Lib.hid hq1
              have hpos := List.length_pos_iff.2 h64.2
              have t64 : ((n : Int) == 64) = true := by rw [beq_iff_eq]; omega
              have tm : decide ((m : Int) < (s.size : Int)) = true := decide_eq_true (by omega)
              have tm2 : m < s.size := by omega
              have HFL := Lib.hid (fun j => (hm ▸ rd_fail b _ (s.size - rq.length) 21 s (wr.drewN j) (HRQ.out.1.drewN j) : Calls Tryz.prog 31 #[.pointer (some ⟨b, 0, none⟩), .int .i64 (m : Int), .int .i64 ((21 : Nat) : Int)] (wr.drewN j) (FailPost b s m 21 (wr.drewN j))))
              have HM := Lib.hid hm
              clear hq1 h64 hm hpos hle c2 hi1 hal
              go_wp2_with fail
              go_quiet (fail)
              go_wp2_with fail
              refine (HFL.out _).mono ?_
              rintro e w3 ⟨rfl, h3, t3⟩
              go_wp2_with fail
              first | go_end0 | (simp only [Exit.inBlock, Exit.then]; refine bodyPost_ret (results_none rfl _ _ _) rfl ?_) | refine bodyPost_ret (results_none rfl _ _ _) rfl ?_
              refine ⟨rfl, ?_, kj.out HKQ.out (touch2 ((Touch.refl _ _).drewN _) t3), ?_⟩
              · rw [← HQ1.out]; exact ⟨by rw [HM.out]; exact h3, HRQ.out.2⟩
              · rw [← HQ1.out]; exact fun h => absurd h (by show ¬ (21 = 0); decide)
            · rw [if_neg h64] at hq1
              have hst99 : (step f rq acc1).2.2 ≠ 99 := by
                intro e
                rw [if_pos (by rw [e]; decide)] at hq1
                exact h99 (by rw [← hq1]; exact e)
              have HC := Lib.hid (fun j => HONE.out f (by omega) n rq acc1 (wr.drewN j) hal (by omega) (HRQ.out.drewN j) (HJ.out _ _ HKQ.out.2 ((Touch.refl _ _).drewN j)) (HI.out _ _ _ hi1 ((Touch.refl _ _).drewN j)) hst99)
              obtain ⟨q, hqq⟩ : ∃ q, step f rq acc1 = q := ⟨_, rfl⟩
              have HLEN := Lib.hid (fun h => (HL.out f rq acc1 h).trans (by rw [hal]))
              rw [hqq] at hq1 HC HLEN
              have HQ1 := Lib.hid hq1
              have HCC : Hid (∃ m2 : Nat, m2 = n) := Lib.hid ⟨n, rfl⟩
              by_cases h64' : n = 64
              case' pos =>
                have hrn : rq = [] := Classical.byContradiction fun e => h64 ⟨h64', e⟩
                have t64 : ((n : Int) == 64) = true := by rw [beq_iff_eq]; omega
                have hms : s.size = m := by rw [hrn] at hm; simpa using hm
                rw [← hms] at c1
                have tm : decide ((s.size : Int) < (s.size : Int)) = false := decide_eq_false (by omega)
                clear hms
              case' neg =>
                have t64 : ((n : Int) == 64) = false := by rw [beq_eq_false_iff_ne]; omega
              all_goals
                clear hq1 h64 h64' hm hle c2 hi1 hst99 hqq hal
                try clear hrn
                go_wp2_with fail
                go_quiet (fail)
                go_wp2_with fail
                refine (HC.out _).mono ?_
                rintro e w3 ⟨rfl, h3, k3, i3⟩
                obtain ⟨c0, c1, c2, f1, f2⟩ := h3.1.cells
                have HK3 : Hid (FrK b base w w3 ∧ J w3) := Lib.hid ⟨frK_trans HKQ.out.1 (frK_trans (frK_of ((Touch.refl _ _).drewN _)) k3.1), k3.2⟩
                have H3 := Lib.hid h3
                have HI3 := Lib.hid i3
                clear h3 k3 i3
                obtain ⟨q1, q2, q3⟩ := q
                by_cases he : q3 = 0
                · subst he
                  have c2'' : w3.cell? ⟨b, 2, none⟩ = some (.int .i64 0) := c2
                  clear c2
                  go_wp2_with fail
                  refine (rd_blank b s q2 0 _ H3.out hs).mono ?_
                  rintro e w4 ⟨rfl, h4, t4⟩
                  go_wp2_with fail
                  refine (rd_end b s (skipB q2) close _ h4 hs).mono ?_
                  rintro e w5 ⟨t5, ⟨u, hu, rfl, h5⟩ | ⟨hne, rfl, h5⟩⟩
                  · have HR : Hid (Q = (q1, u, 0)) := Lib.hid (by
                      rw [← HQ1.out]
                      show (if (0 : Nat) ≠ 0 then _ else _) = _
                      rw [if_neg (by decide)]
                      show (match skipB q2 with | [] => _ | c :: t => _) = _
                      rw [hu]; simp)
                    go_wp2_with fail
                    first | go_end0 | (simp only [Exit.inBlock, Exit.then]; refine bodyPost_ret (results_none rfl _ _ _) rfl ?_) | refine bodyPost_ret (results_none rfl _ _ _) rfl ?_
                    rw [HR.out]
                    exact ⟨rfl, h5, kj.out HK3.out (touch2 t4 t5), fun _ => HI.out _ _ _ (HI3.out trivial) (touch2 t4 t5)⟩
                  · go_wp2_with fail
                    refine (rd_sign b s (skipB q2) 44 _ h5 hs).mono ?_
                    rintro e w6 ⟨t6, ⟨u, hu, rfl, h6⟩ | ⟨hne2, rfl, h6⟩⟩
                    · have HR : Hid (eachG close step f (n + 1) (skipB u) q1 = Q) := Lib.hid (by
                        rw [← HQ1.out]
                        show _ = (if (0 : Nat) ≠ 0 then _ else _)
                        rw [if_neg (by decide)]
                        show _ = (match skipB q2 with | [] => _ | c :: t => _)
                        rw [hu]
                        show _ = if (44 : UInt8) = close then _ else _
                        rw [if_neg (fun e => hne (by rw [hu, e]; rfl)), if_pos rfl])
                      clear hne
                      go_wp2_with fail
                      go_roundg f
                      case measure => omega
                      case rel => exact ⟨n + 1, 0, skipB u, by simp, by omega, Lib.hid h6, Lib.hid (kj.out HK3.out (touch2 (touch2 t4 t5) t6)), .inl ⟨rfl, Lib.hid ⟨q1, HLEN.out trivial, HI.out _ _ _ (HI3.out trivial) (touch2 (touch2 t4 t5) t6), HR.out⟩⟩⟩
                    · have HR : Hid (Q = (q1, skipB q2, wrongE (skipB q2))) := Lib.hid (by
                        rw [← HQ1.out]
                        show (if (0 : Nat) ≠ 0 then _ else _) = _
                        rw [if_neg (by decide)]
                        show (match skipB q2 with | [] => _ | c :: t => _) = _
                        cases hsk : skipB q2 with
                        | nil => rfl
                        | cons c t =>
                          rw [hsk] at hne hne2
                          simp only []
                          rw [if_neg (fun e => hne (by rw [e]; rfl)), if_neg (fun e => hne2 (by rw [e]; rfl))]
                          rfl)
                      have hwe : wrongE (skipB q2) ≠ 0 := by unfold wrongE; split <;> decide
                      clear hne hne2
                      go_wp2_with fail
                      refine (rd_wrong b s (skipB q2) _ h6 hs).mono ?_
                      rintro e w7 ⟨rfl, h7, t7⟩
                      go_wp2_with fail
                      go_roundg f
                      case measure => omega
                      case rel => exact ⟨n + 1, wrongE (skipB q2), skipB q2, by simp, by omega, Lib.hid h7, Lib.hid (kj.out HK3.out (touch2 (touch2 (touch2 t4 t5) t6) t7)), .inr ⟨hwe, Lib.hid (by rw [HR.out]; exact ⟨rfl, rfl⟩)⟩⟩
                · have tq : ((q3 : Int) != 0) = true := by rw [bne_iff_ne]; omega
                  have HR : Hid (Q = (q1, q2, q3)) := Lib.hid (by rw [← HQ1.out, if_pos he])
                  go_wp2_with fail
                  first | go_end0 | (simp only [Exit.inBlock, Exit.then]; refine bodyPost_ret (results_none rfl _ _ _) rfl ?_) | refine bodyPost_ret (results_none rfl _ _ _) rfl ?_
                  rw [HR.out]
                  exact ⟨rfl, H3.out, HK3.out, fun h => absurd h he⟩
        · obtain ⟨c0, c1, c2, f1, f2⟩ := HRQ.out.1.cells
          have tk : ((k : Int) == 0) = false := by rw [beq_eq_false_iff_ne]; omega
          go_wp2_with fail
          go_end0
          refine ⟨rfl, by rw [HA.out.1, HA.out.2]; exact HRQ.out, HKQ.out, fun h => absurd (HA.out.2 ▸ h) hk⟩
end Go.Proofs.YtcmkepkeeahioaaGreatDoor
namespace Go.Proofs.YtcmkepkeeahioaaGreatDoor
open Go.RowKit
/-- append of one element at a step of a region that draws -/
theorem step_append2 {ops : Array Oper} {o : Oper} {a : Act} {K : Act → World → Prop} {Q : Exit → Act → World → Prop} {E : Prop} (W : World) (hgd : o.guard = none) (s x : Operand)
    (ho : o.op = .call { callee := .builtin .append, args := #[s, x], argTypes := #[58, 58] })
    (base : Nat) (v : Value) (n : Nat) (xs : List Value) (hs : a.eval s = v) (hown : W.ownsRow base 56 2 v n xs)
    (B : Nat) (x1 x2 : Value) (hB : W.heap[B]? = some (.cells #[x1, x2] 56 (0, 0))) (h1 : ∀ u ∈ [x1, x2], u.oneCell' = true) (hx : a.eval x = .slice (some ⟨B, 0, none⟩) 1 1) (hn : n < 2147483648) (hbase : base ≤ W.heap.size)
    (h : ∀ g cap w', w'.ownsRow base 56 2 (.slice (some ⟨g, 0, none⟩) (n + 1) cap) (n + 1) (xs ++ [x1, x2]) → W.grownBy w' v.ownBlock → (v.ownBlock = some g ∨ g = W.heap.size) → K (a.put o.dst (.slice (some ⟨g, 0, none⟩) (n + 1) cap)) w') :
    if Region.wanted o (yielded ops a.tmps) = true then Oper.wp Tryz.prog o a W K Q else E := by
  obtain ⟨i0, hi, hz0, hz1, hz2⟩ := info_parts info_pair
  refine step_append_lies W hgd s x 58 ho base 56 i0 _ 2 32 Tryz.underlying58 hi hz0 hz1 hz2 rfl (by decide) v n xs hs hown ⟨B, 0, none⟩ 1 1 [x1, x2] hx rfl (World.news_of_block hB) h1 (by decide) (by unfold maxLen; omega) (by omega) hbase _ rfl ?_
  intro g cap w' h1 h2 h3 _
  exact h g cap w' h1 h2 h3
def SBO (W : World) (base Bl : Nat) (v : Value) (i : Nat) : Prop := base ≤ i ∧ i < W.heap.size ∧ i ≠ Bl ∧ v.ownBlock ≠ some i
/-- the boxes of a object that is being taken: the row so far, the reader, how deep -/
structure LIO (w0 : World) (b Bl Br Bd base d : Nat) (W : World) (acc : List (List UInt8 × JV)) (v : Value) : Prop where
  box : W.heap[Bl]? = some (.cells #[v] 58 (0, 0))
  rd : W.heap[Br]? = some (.cells #[.pointer (some ⟨b, 0, none⟩)] 70 (0, 0))
  dp : W.heap[Bd]? = some (.cells #[.int .i64 (d : Int)] 3 (0, 0))
  own : OwnO (SBO W base Bl v) W base v acc
  b0 : Below w0.heap.size w0 W
  lb : b < base
  ll : base ≤ Bl
  lr : base ≤ Br
  ld : base ≤ Bd
  lo : w0.heap.size ≤ b
theorem LIO.cells {w0 W : World} {b Bl Br Bd base d : Nat} {acc : List (List UInt8 × JV)} {v : Value} (h : LIO w0 b Bl Br Bd base d W acc v) : W.cell? ⟨Bl, 0, none⟩ = some v ∧ W.cell? ⟨Br, 0, none⟩ = some (.pointer (some ⟨b, 0, none⟩)) ∧ W.cell? ⟨Bd, 0, none⟩ = some (.int .i64 (d : Int)) ∧ W.frozen? ⟨Bl, 0, none⟩ = false := by
  refine ⟨?_, ?_, ?_, ?_⟩
  · unfold World.cell?; rw [h.box]; rfl
  · unfold World.cell?; rw [h.rd]; rfl
  · unfold World.cell?; rw [h.dp]; rfl
  · unfold World.frozen?; rw [h.box]; rfl
theorem LIO.touch {w0 W W' : World} {b Bl Br Bd base d : Nat} {acc : List (List UInt8 × JV)} {v : Value} (h : LIO w0 b Bl Br Bd base d W acc v) (t : Touch (fun i => i = b) W W') : LIO w0 b Bl Br Bd base d W' acc v := by
  have lt : ∀ {B : Nat} {o : Obj}, W.heap[B]? = some o → B < W.heap.size := fun h => (Array.getElem?_eq_some_iff.1 h).1
  have hb := h.lb
  have k : ∀ i, base ≤ i → i < W.heap.size → W'.heap[i]? = W.heap[i]? := fun i hi hs => t.block i hs (by omega)
  refine ⟨(k _ h.ll (lt h.box)).trans h.box, (k _ h.lr (lt h.rd)).trans h.rd, (k _ h.ld (lt h.dp)).trans h.dp, ?_, stay h.b0 t h.lo, h.lb, h.ll, h.lr, h.ld, h.lo⟩
  obtain ⟨xs, ho, hx⟩ := h.own
  exact OwnO.keep ⟨xs, ho, hx⟩ (fun i hi => ⟨hi.1, Nat.lt_of_lt_of_le hi.2.1 t.size, hi.2.2.1, hi.2.2.2⟩) (fun i hi => k i hi.1 hi.2.1) (fun g hg => k g (ho.lt g hg).1 (ho.lt g hg).2)
theorem LIO.cellsB {w0 W W' : World} {b Bl Br Bd base d : Nat} {acc : List (List UInt8 × JV)} {v : Value} (h : LIO w0 b Bl Br Bd base d W acc v) (hb : Below W.heap.size W W') : W'.cell? ⟨Bl, 0, none⟩ = some v ∧ W'.cell? ⟨Br, 0, none⟩ = some (.pointer (some ⟨b, 0, none⟩)) ∧ W'.cell? ⟨Bd, 0, none⟩ = some (.int .i64 (d : Int)) := by
  have lt : ∀ {B : Nat} {o : Obj}, W.heap[B]? = some o → B < W.heap.size := fun h => (Array.getElem?_eq_some_iff.1 h).1
  obtain ⟨c0, c1, c2, -⟩ := h.cells
  exact ⟨(hb.cell (p := ⟨Bl, 0, none⟩) (lt h.box)).trans c0, (hb.cell (p := ⟨Br, 0, none⟩) (lt h.rd)).trans c1, (hb.cell (p := ⟨Bd, 0, none⟩) (lt h.dp)).trans c2⟩
/-- behind the append and the store of the row -/
theorem LIO.push {w0 W W1 W3 W4 : World} {b Bl Br Bd base d : Nat} {acc : List (List UInt8 × JV)} {v : Value} (h : LIO w0 b Bl Br Bd base d W1 acc v) (hW : Bl < W.heap.size ∧ (∀ g, v.ownBlock = some g → g < W.heap.size) ∧ W.heap.size ≤ W1.heap.size) {xs : List Value} (hown : W1.ownsRow base 56 2 v acc.length xs) (hel : ∀ (j : Nat) (hj : j < acc.length), xs[2 * j]? = some (.string (bs acc[j].1)) ∧ ∃ x, xs[2 * j + 1]? = some x ∧ AV (SBO W1 base Bl v) W1 acc[j].2 x)
    {q : List UInt8} {u : JV} {x : Value} {E : Prop} (hx : E → AV (fun i => W.heap.size ≤ i ∧ i < W1.heap.size) W1 u x) (h3 : Below W1.heap.size W1 W3) {g cap : Nat} (ho : W4.ownsRow base 56 2 (.slice (some ⟨g, 0, none⟩) (acc.length + 1) cap) (acc.length + 1) (xs ++ [.string (bs q), x])) (hg : W3.grownBy W4 v.ownBlock) (hg2 : v.ownBlock = some g ∨ g = W3.heap.size) :
    (W4.cell? ⟨Bl, 0, none⟩ = some v ∧ W4.cell? ⟨Br, 0, none⟩ = some (.pointer (some ⟨b, 0, none⟩)) ∧ W4.cell? ⟨Bd, 0, none⟩ = some (.int .i64 (d : Int))) ∧ W4.frozen? ⟨Bl, 0, none⟩ = false ∧ (E → LIO w0 b Bl Br Bd base d (W4.setCell ⟨Bl, 0, none⟩ (.slice (some ⟨g, 0, none⟩) (acc.length + 1) cap)) (acc ++ [(q, u)]) (.slice (some ⟨g, 0, none⟩) (acc.length + 1) cap)) ∧ FrK b base W1 (W4.setCell ⟨Bl, 0, none⟩ (.slice (some ⟨g, 0, none⟩) (acc.length + 1) cap)) ∧ (∀ i, i < base → W4.heap[i]? = W1.heap[i]?) ∧ (W4.setCell ⟨Bl, 0, none⟩ (.slice (some ⟨g, 0, none⟩) (acc.length + 1) cap)).heap[Bl]? = some (.cells #[.slice (some ⟨g, 0, none⟩) (acc.length + 1) cap] 58 (0, 0)) := by
  have lt : ∀ {B : Nat} {o : Obj}, W1.heap[B]? = some o → B < W1.heap.size := fun h => (Array.getElem?_eq_some_iff.1 h).1
  have hll := h.ll
  have hlb := h.lb
  have hb1 := h.b0.size
  have n1 : v.ownBlock ≠ some Bl := own_not_row hown h.box (by decide)
  have n2 : v.ownBlock ≠ some Br := own_not_row hown h.rd (by decide)
  have n3 : v.ownBlock ≠ some Bd := own_not_row hown h.dp (by decide)
  have d1 : Br ≠ Bl := fun e => by
    have h1 := h.box; rw [← e, h.rd] at h1
    simp only [Option.some.injEq, Obj.cells.injEq] at h1
    exact absurd h1.2.1 (by decide)
  have d2 : Bd ≠ Bl := fun e => by
    have h1 := h.box; rw [← e, h.dp] at h1
    simp only [Option.some.injEq, Obj.cells.injEq] at h1
    exact absurd h1.2.1 (by decide)
  have k : ∀ i, i < W1.heap.size → v.ownBlock ≠ some i → W4.heap[i]? = W1.heap[i]? := fun i hi hn =>
    (hg.block i (Nat.lt_of_lt_of_le hi h3.size) (fun e => hn e.symm)).trans (h3.block i hi)
  have hbox := (k Bl (lt h.box) n1).trans h.box
  have hs4 : W1.heap.size ≤ W4.heap.size := Nat.le_trans h3.size hg.size
  have hgW : g < W4.heap.size := (ho.lt g rfl).2
  have hgb : base ≤ g := (ho.lt g rfl).1
  have e5 : ∀ i, i ≠ Bl → (W4.setCell ⟨Bl, 0, none⟩ (.slice (some ⟨g, 0, none⟩) (acc.length + 1) cap)).heap[i]? = W4.heap[i]? := fun i hi => set_far hi
  have hgl : g ≠ Bl := fun e => own_not_row ho hbox (by decide) (congrArg some e)
  have hlow : ∀ i, i < base → W4.heap[i]? = W1.heap[i]? := fun i hi => k i (Nat.lt_of_lt_of_le hi (Nat.le_of_lt (Nat.lt_of_le_of_lt hll (lt h.box)))) (fun e => by have := (hown.lt i e).1; omega)
  have T4 : FrK b base W1 W4 := ⟨hg.os.trans h3.os, hg.tape.trans h3.tape, hg.output.trans h3.output, hs4, fun i hi hn => hlow i (Nat.lt_of_not_le fun e => hn (.inr e))⟩
  refine ⟨?_, ?_, fun hE => ⟨?_, ?_, ?_, ?_, ?_, h.lb, h.ll, h.lr, h.ld, h.lo⟩, frK_trans T4 (touch_set _ (Touch.refl _ _) (.inl (.inr h.ll))), hlow, by simp [World.setCell, Array.getElem?_modify, hbox]⟩
  · refine ⟨?_, ?_, ?_⟩
    · unfold World.cell?; rw [hbox]; rfl
    · unfold World.cell?; rw [k Br (lt h.rd) n2, h.rd]; rfl
    · unfold World.cell?; rw [k Bd (lt h.dp) n3, h.dp]; rfl
  · unfold World.frozen?; rw [hbox]; rfl
  · simp [World.setCell, Array.getElem?_modify, hbox]
  · exact (e5 _ d1).trans ((k Br (lt h.rd) n2).trans h.rd)
  · exact (e5 _ d2).trans ((k Bd (lt h.dp) n3).trans h.dp)
  · have hS : ∀ i, SBO W1 base Bl v i → SBO (W4.setCell ⟨Bl, 0, none⟩ (.slice (some ⟨g, 0, none⟩) (acc.length + 1) cap)) base Bl (.slice (some ⟨g, 0, none⟩) (acc.length + 1) cap) i := fun i hi => by
      have h31 := h3.size
      refine ⟨hi.1, by have := hi.2.1; rw [set_size1]; omega, hi.2.2.1, fun e => ?_⟩
      have e' : g = i := by injection e
      rcases hg2 with h' | h'
      · exact hi.2.2.2 (e' ▸ h')
      · have := hi.2.1; omega
    have hxx : AV (SBO W1 base Bl v) W1 u x := (hx hE).kept (fun i hi => ⟨by omega, hi.2, by omega, fun e => by have := hW.2.1 i e; omega⟩) (KeptS.refl _ _)
    have hown5 : (W4.setCell ⟨Bl, 0, none⟩ (.slice (some ⟨g, 0, none⟩) (acc.length + 1) cap)).ownsRow base 56 2 (.slice (some ⟨g, 0, none⟩) (acc.length + 1) cap) (acc.length + 1) (xs ++ [.string (bs q), x]) := own_of_block ho (fun g' hg' => e5 _ (fun e => hgl (by
      have : g = g' := by injection hg'
      rw [this, e])))
    have hl : xs.length = 2 * acc.length := by have := hown.1; omega
    have hsn := OwnO.snoc (S := SBO W1 base Bl v) hel hxx hl hown5 (fun i hi => (e5 i hi.2.2.1).trans (k i hi.2.1 hi.2.2.2))
    exact OwnO.keep hsn hS (fun _ _ => rfl) (fun _ _ => rfl)
  · refine h.b0.trans ?_
    exact (frK_trans T4 (touch_set _ (Touch.refl _ _) (.inl (.inr h.ll)))).below (fun i hi => by have := h.lo; omega) hb1
end Go.Proofs.YtcmkepkeeahioaaGreatDoor
namespace Go.Proofs.YtcmkepkeeahioaaGreatDoor
open Go.RowKit
theorem range_one : Array.range 1 = #[0] := by decide
theorem build_any {x : Value} (hx : x.oneCell' = true) (w : World) : (Instr.buildSlice 57 1 #[(0, x)]).run Tryz.prog w = .ok (.slice (some ⟨w.heap.size, 0, none⟩) 1 1) (w.alloc (.cells #[x] 20)) := by
  have hc := cells_one hx
  have h1 := Tryz.underlying57
  have h2 := Tryz.sizeOf20
  have h3 := Tryz.zeroValue20
  have h4 : Value.nilIface.cells = #[.nilIface] := rfl
  simp [Instr.buildSlice, Instr.fill, run_underlying h1, h2, h3, hc, h4, newRow, range_one]
theorem build_pair {x : Value} (hx : x.oneCell' = true) (s : ByteArray) (w : World) : (Instr.build 56 #[(0, .string s), (1, x)]).run Tryz.prog w = .ok (.agg #[.string s, x]) w := by
  have hc := cells_one hx
  have h1 := Tryz.underlying56
  have h2 := Tryz.sizeOf20
  have h6 := Tryz.sizeOf9
  have h3 := Tryz.zeroValue56
  have h4 : (Value.agg #[.string ⟨#[]⟩, .nilIface]).cells = #[.string ⟨#[]⟩, .nilIface] := rfl
  have h5 : (Value.string s).cells = #[.string s] := rfl
  simp [Instr.build, Instr.fill, run_underlying h1, h2, h3, h6, hc, h4, h5]
theorem step_build1 {ops : Array Oper} {o : Oper} {a : Act} {K : Act → World → Prop} {Q : Exit → Act → World → Prop} {E : Prop} (W : World) (hgd : o.guard = none) (y : Operand) (ho : o.op = .buildSlice 57 1 #[(0, y)]) (x : Value) (hx : a.eval y = x) (h1 : x.oneCell' = true)
    (h : K (a.put o.dst (.slice (some ⟨W.heap.size, 0, none⟩) 1 1)) (W.alloc (.cells #[x] 20))) :
    if Region.wanted o (yielded ops a.tmps) = true then Oper.wp Tryz.prog o a W K Q else E := by
  have hw : Region.wanted o (yielded ops a.tmps) = true := by simp [Region.wanted, hgd]
  rw [if_pos hw]
  have hr := build_any h1 W
  unfold Oper.wp execOp
  simp only [ho, List.map_toArray, List.map_cons, List.map_nil, hx, Sem.run_bind, Sem.run_pure, Result.andThen_ok, hr]
  exact h
theorem step_build2 {ops : Array Oper} {o : Oper} {a : Act} {K : Act → World → Prop} {Q : Exit → Act → World → Prop} {E : Prop} (W : World) (hgd : o.guard = none) (z y : Operand) (ho : o.op = .build 56 #[(0, z), (1, y)]) (s : ByteArray) (x : Value) (hz : a.eval z = .string s) (hx : a.eval y = x) (h1 : x.oneCell' = true)
    (h : K (a.put o.dst (.agg #[.string s, x])) W) :
    if Region.wanted o (yielded ops a.tmps) = true then Oper.wp Tryz.prog o a W K Q else E := by
  have hw : Region.wanted o (yielded ops a.tmps) = true := by simp [Region.wanted, hgd]
  rw [if_pos hw]
  have hr := build_pair h1 s W
  unfold Oper.wp execOp
  simp only [ho, List.map_toArray, List.map_cons, List.map_nil, hx, hz, Sem.run_bind, Sem.run_pure, Result.andThen_ok, hr]
  exact h
theorem build_pairs (s : ByteArray) (x : Value) (w : World) : (Instr.buildSlice 58 1 #[(0, .agg #[.string s, x])]).run Tryz.prog w = .ok (.slice (some ⟨w.heap.size, 0, none⟩) 1 1) (w.alloc (.cells #[.string s, x] 56)) := by
  have h1 := Tryz.underlying58
  have h2 := Tryz.sizeOf56
  have h3 := Tryz.zeroValue56
  have h4 : (Value.agg #[.string ⟨#[]⟩, .nilIface]).cells = #[.string ⟨#[]⟩, .nilIface] := rfl
  have h5 : (Value.agg #[.string s, x]).cells = #[.string s, x] := rfl
  have h6 : Array.range 2 = #[0, 1] := by decide
  simp [Instr.buildSlice, Instr.fill, run_underlying h1, h2, h3, h4, h5, newRow, h6]
theorem step_build3 {ops : Array Oper} {o : Oper} {a : Act} {K : Act → World → Prop} {Q : Exit → Act → World → Prop} {E : Prop} (W : World) (hgd : o.guard = none) (y : Operand) (ho : o.op = .buildSlice 58 1 #[(0, y)]) (s : ByteArray) (x : Value) (hx : a.eval y = .agg #[.string s, x])
    (h : K (a.put o.dst (.slice (some ⟨W.heap.size, 0, none⟩) 1 1)) (W.alloc (.cells #[.string s, x] 56))) :
    if Region.wanted o (yielded ops a.tmps) = true then Oper.wp Tryz.prog o a W K Q else E := by
  have hw : Region.wanted o (yielded ops a.tmps) = true := by simp [Region.wanted, hgd]
  rw [if_pos hw]
  have hr := build_pairs s x W
  unfold Oper.wp execOp
  simp only [ho, List.map_toArray, List.map_cons, List.map_nil, hx, Sem.run_bind, Sem.run_pure, Result.andThen_ok, hr]
  exact h
end Go.Proofs.YtcmkepkeeahioaaGreatDoor
namespace Go.Proofs.YtcmkepkeeahioaaGreatDoor
open Go
section
variable {P : Program} {ops : Array Oper} {Q : Exit → Act → World → Prop} {md : Region.Mode} {S : World → Prop} {k : Nat}
/-- whatever order is picked, and S holds behind every operation as long as operation k has not come up -/
def wpAnyK (P : Program) (md : Region.Mode) (ops : Array Oper) (Q : Exit → Act → World → Prop) (k : Nat) (S : World → Prop) : Nat → Array Bool → Act → World → Prop
  | 0, listed, a, w => Region.ready md ops listed = [] ∧ Q .normal a w
  | fuel + 1, listed, a, w =>
    (Region.ready md ops listed = [] → Q .normal a w) ∧
    ∀ i ∈ Region.ready md ops listed, wpOp P ops Q i (fun a' w' => ((listed.setIfInBounds i true).getD k true = false → S w') ∧ wpAnyK P md ops Q k S fuel (listed.setIfInBounds i true) a' w') a w
theorem wpAny_of_K : ∀ (fuel : Nat) (listed : Array Bool) (a : Act) (w : World), wpAnyK P md ops Q k S fuel listed a w → wpAny P md ops Q fuel listed a w
  | 0, _, _, _, h => h
  | fuel + 1, _, _, _, h => ⟨h.1, fun i hi => wpOp_mono (fun a' w' h' => wpAny_of_K fuel _ a' w' h'.2) (h.2 i hi)⟩
/-- does operation k wait for operation i? -/
def waitsOn (md : Region.Mode) (ops : Array Oper) (k i : Nat) : Bool := match ops[k]? with | some o => o.after.any (fun e => Region.binds md e && e.on == i) | none => false
theorem waits_not {i j : Nat} {listed : Array Bool} (h : waitsOn md ops k i = true) (hj : j ∈ Region.ready md ops listed) (hi : listed.getD i true = false) : j ≠ k := by
  rintro rfl
  unfold waitsOn at h
  obtain ⟨-, o, ho, hall⟩ := mem_ready.1 hj
  rw [ho] at h
  obtain ⟨n, hn, he⟩ := Array.any_eq_true.1 h
  rw [Bool.and_eq_true, beq_iff_eq] at he
  have h1 := hall _ (Array.getElem_mem hn) he.1
  rw [he.2] at h1
  rcases Nat.lt_or_ge i listed.size with h' | h'
  · simp [h'] at hi h1; rw [hi] at h1; cases h1
  · simp [Array.getElem?_eq_none h'] at h1
theorem wpAnyK_first {i : Nat} {oi : Oper} {v : Value} (hi : ops[i]? = some oi) (hsel : ∀ (j : Nat) (o : Oper) cs b, ops[j]? = some o → o.op ≠ .select cs b)
    (hQ : ∀ c a w, Q (.panic c) (a.put oi.dst v) w → Q (.panic c) a w) (hk : waitsOn md ops k i = true) :
    ∀ (fuel : Nat) (listed : Array Bool) (a : Act) (w : World), listed.getD k true = false →
      (∀ j oj, ops[j]? = some oj → j ≠ i → listed.getD j true = false → (∀ e ∈ oj.after, Region.binds md e = true → e.on ≠ i) → oi.apart ops oj = true) →
      i ∈ Region.ready md ops listed → YieldsIf P ops S oi v a → S w →
      wpAnyK P md ops Q k S fuel (listed.setIfInBounds i true) (a.put oi.dst v) w → wpAnyK P md ops Q k S (fuel + 1) listed a w := by
  intro fuel
  induction fuel with
  | zero =>
    intro listed a w _ _ hr hy hS H
    refine ⟨fun h => (by rw [h] at hr; cases hr), fun j hj => ?_⟩
    by_cases hji : j = i
    · subst hji; exact hy.wpOp hi hS ⟨fun _ => hS, H⟩
    · have := ready_mono hj hji
      rw [H.1] at this
      cases this
  | succ fuel ih =>
    intro listed a w hkl hfree hr hy hS H
    refine ⟨fun h => (by rw [h] at hr; cases hr), fun j hj => ?_⟩
    by_cases hji : j = i
    · subst hji; exact hy.wpOp hi hS ⟨fun _ => hS, H⟩
    · have h1 := H.2 j (ready_mono hj hji)
      obtain ⟨hjun, oj, hoj, hall⟩ := mem_ready.1 hj
      have hiun := (mem_ready.1 hr).1
      have hjk := waits_not hk hj hiun
      have hik := waits_not hk hr hiun
      have hnot : ∀ e ∈ oj.after, Region.binds md e = true → e.on ≠ i := fun e he hb heq => by
        have h1 := hall e he hb
        rw [heq] at h1
        rcases Nat.lt_or_ge i listed.size with h' | h'
        · simp [h'] at hiun h1; rw [hiun] at h1; cases h1
        · simp [Array.getElem?_eq_none h'] at h1
      have h2 := wpOp_putIf hoj (hfree j oj hoj hji hjun hnot) (fun cs b => hsel i oi cs b hi) (fun cs b => hsel j oj cs b hoj) hQ hy h1
      have hfree' : ∀ q ok, ops[q]? = some ok → q ≠ i → (listed.setIfInBounds j true).getD q true = false →
          (∀ e ∈ ok.after, Region.binds md e = true → e.on ≠ i) → oi.apart ops ok = true := fun q ok hq hqi hun hno => by
        refine hfree q ok hq hqi ?_ hno
        by_cases hjq : j = q
        · subst hjq; exact hjun
        · rw [getD_set_ne true hjq] at hun; exact hun
      have hkj : (listed.setIfInBounds j true).getD k true = false := by rw [getD_set_ne true hjk]; exact hkl
      refine wpOp_mono (fun a' w' h3 => ?_) h2
      have hS' : S w' := h3.2.1 (by rw [getD_set_ne true hjk, getD_set_ne true hik]; exact hkl)
      refine ⟨fun _ => hS', ih (listed.setIfInBounds j true) a' w' hkj hfree' (ready_mono hr (Ne.symm hji)) h3.1 hS' ?_⟩
      rw [Array.setIfInBounds_comm _ _ hji]
      exact h3.2.2
/-- take operation i first -/
theorem wpAnyK_take {i : Nat} {oi : Oper} {v : Value} {fuel : Nat} {listed : Array Bool} {a : Act} {w : World} (hi : ops[i]? = some oi)
    (hk : waitsOn md ops k i = true) (hkl : listed.getD k true = false) (hs : Region.noSelect ops = true) (hf : Region.free md ops listed i = true) (hr : (Region.ready md ops listed).contains i = true)
    (hQ : ∀ c a w, Q (.panic c) (a.put oi.dst v) w → Q (.panic c) a w) (hy : YieldsIf P ops S oi v a) (hS : S w)
    (h : wpAnyK P md ops Q k S fuel (listed.setIfInBounds i true) (a.put oi.dst v) w) : wpAnyK P md ops Q k S (fuel + 1) listed a w :=
  wpAnyK_first hi (Region.noSelect_spec hs) hQ hk fuel listed a w hkl (Region.free_spec hi hf) (by simpa using hr) hy hS h
/-- the one operation that may come up now -/
theorem wpAnyK_one {i : Nat} {o : Oper} {fuel : Nat} {listed : Array Bool} {a : Act} {w : World} (hr : Region.ready md ops listed = [i]) (ho : ops[i]? = some o)
    (h : ∀ K' : Act → World → Prop, (∀ a w, ((listed.setIfInBounds i true).getD k true = false → S w) → wpAnyK P md ops Q k S fuel (listed.setIfInBounds i true) a w → K' a w) → if Region.wanted o (yielded ops a.tmps) = true then Oper.wp P o a w K' Q else K' (a.put o.dst undef) w) :
    wpAnyK P md ops Q k S (fuel + 1) listed a w := by
  refine ⟨fun h0 => (by rw [hr] at h0; cases h0), fun j hj => ?_⟩
  rw [hr, List.mem_singleton] at hj
  subst hj
  exact wpOp_step ho (fun K' hK => h K' (fun a w h1 h2 => hK a w ⟨h1, h2⟩))
theorem wpAnyK_done {listed : Array Bool} {a : Act} {w : World} (hr : Region.ready md ops listed = []) (h : Q .normal a w) : ∀ fuel, wpAnyK P md ops Q k S fuel listed a w
  | 0 => ⟨hr, h⟩
  | _ + 1 => ⟨fun _ => h, by rw [hr]; simp⟩
/-- the beginning -/
theorem wp_region_K (k : Nat) (S : World → Prop) {id : Nat} {a : Act} {w : World} (hm : P.follows .mixedOrders = true)
    (h : wpAnyK P .any ops Q k S ops.size (Array.replicate ops.size false) a w.drew) : (Code.region id ops true).wp P Q a w :=
  wp_region_any hm (wpAny_of_K _ _ _ _ h)
end
end Go.Proofs.YtcmkepkeeahioaaGreatDoor
namespace Go.Proofs.YtcmkepkeeahioaaGreatDoor
open Go.RowKit
/-- one pair more of an object -/
def stepO (d f : Nat) (r : List UInt8) (acc : List (List UInt8 × JV)) : List (List UInt8 × JV) × List UInt8 × Nat :=
  if (txtV r).2.2 ≠ 0 then (acc, (txtV r).2.1, (txtV r).2.2)
  else if (txtV r).1 ∈ acc.map (·.1) then (acc, r, 22)
  else match skipB (txtV r).2.1 with
    | [] => (acc, [], 3)
    | c0 :: t0 => if c0 ≠ 58 then (acc, c0 :: t0, 4) else
      if (valV f (d + 1) (skipB t0)).2.2 = 0 then (acc ++ [((txtV r).1, (valV f (d + 1) (skipB t0)).1)], (valV f (d + 1) (skipB t0)).2.1, 0) else (acc, (valV f (d + 1) (skipB t0)).2.1, (valV f (d + 1) (skipB t0)).2.2)
theorem stepO_len (d f : Nat) (r : List UInt8) (acc : List (List UInt8 × JV)) (h : (stepO d f r acc).2.2 = 0) : (stepO d f r acc).1.length = acc.length + 1 := by
  unfold stepO at h ⊢
  by_cases e1 : (txtV r).2.2 ≠ 0
  · rw [if_pos e1] at h; exact absurd h e1
  rw [if_neg e1] at h ⊢
  by_cases e2 : (txtV r).1 ∈ acc.map (·.1)
  · rw [if_pos e2] at h; exact absurd h (by show ¬ (22 = 0); decide)
  rw [if_neg e2] at h ⊢
  cases hs : skipB (txtV r).2.1 with
  | nil => rw [hs] at h; exact absurd h (by show ¬ (3 = 0); decide)
  | cons c0 t0 =>
    rw [hs] at h
    simp only [] at h ⊢
    by_cases e3 : c0 ≠ 58
    · rw [if_pos e3] at h; exact absurd h (by show ¬ (4 = 0); decide)
    rw [if_neg e3] at h ⊢
    by_cases e4 : (valV f (d + 1) (skipB t0)).2.2 = 0
    · rw [if_pos e4]; simp
    · rw [if_neg e4] at h; exact absurd h e4
def JO (Bl : Nat) (W : World) : Prop := ∃ v, W.heap[Bl]? = some (.cells #[v] 58 (0, 0))
def IO (w0 : World) (b Bl Br Bd base d : Nat) (W : World) (acc : List (List UInt8 × JV)) : Prop := ∃ v, LIO w0 b Bl Br Bd base d W acc v
theorem LIO.below {w0 W W' : World} {b Bl Br Bd base d : Nat} {acc : List (List UInt8 × JV)} {v : Value} (h : LIO w0 b Bl Br Bd base d W acc v) (t : Below W.heap.size W W') : LIO w0 b Bl Br Bd base d W' acc v := h.touch (Touch.of_below t)
set_option maxRecDepth 100000 in
set_option maxHeartbeats 4000000 in
theorem rd_obj1 (w0 : World) (b Bl Br Bd base d f n : Nat) (s : ByteArray) (r : List UInt8) (acc : List (List UInt8 × JV)) (w : World) (hd : d ≤ 100) (hal : acc.length ≤ 1000000) (hs : s.size ≤ 1000000) (hE : NEnv w0)
    (HV : ∀ r W, RL b s r 0 W → Below w0.heap.size w0 W → (valV f (d + 1) r).2.2 ≠ 99 → Calls Tryz.prog 30 #[.pointer (some ⟨b, 0, none⟩), .int .i64 ((d : Int) + 1)] W (VPost b s (valV f (d + 1) r) W))
    (h : RL b s r 0 w) (hi : IO w0 b Bl Br Bd base d w acc) (h99 : (stepO d f r acc).2.2 ≠ 99) :
    Calls Tryz.prog 71 #[.int .i64 (n : Int), .pointer (some ⟨Br, 0, none⟩), .pointer (some ⟨Bl, 0, none⟩), .pointer (some ⟨Bd, 0, none⟩)] w (OnePost b base s (JO Bl) (IO w0 b Bl Br Bd base d) (stepO d f r acc) w) := by
  obtain ⟨v, hli⟩ := hi
  obtain ⟨xs, hown, hel⟩ := id hli.own
  obtain ⟨a, c, rfl⟩ := slice_of_own hown
  obtain ⟨k0, k1, k2, -⟩ := hli.cells
  obtain ⟨c0, c1, c2, -, -⟩ := h.1.cells
  obtain ⟨m, hm⟩ : ∃ m, s.size - r.length = m := ⟨_, rfl⟩
  rw [hm] at c1
  have HLI := Lib.hid hli
  have HRL := Lib.hid h
  have HM := Lib.hid hm
  have HT := Lib.hid (rd_text b s r w h hs (hE.tabs.below hli.b0))
  obtain ⟨Q, hQ⟩ : ∃ Q, stepO d f r acc = Q := ⟨_, rfl⟩
  rw [hQ] at h99 ⊢
  unfold stepO at hQ
  clear hown hel hli h hm
  obtain ⟨T, hT⟩ : ∃ T, txtV r = T := ⟨_, rfl⟩
  have hTP : TextPost b s r w = fun e w' => ∃ t, e = .returned (.string t) ∧ RL b s T.2.1 T.2.2 w' ∧ Touch (fun g => g = b) w w' ∧ (T.2.2 = 0 → t = bs T.1) := by
    funext e w'; unfold TextPost; rw [hT]
  rw [hTP] at HT
  rw [hT] at hQ
  obtain ⟨T1, T2, T3⟩ := T
  simp only [] at HT hQ
  clear hTP hT
  by_cases he : T3 ≠ 0
  · rw [if_pos he] at hQ
    have HQ := Lib.hid hQ
    have te : ((T3 : Int) == 0) = false := by rw [beq_eq_false_iff_ne]; omega
    have te2 : ((T3 : Int) != 0) = true := by rw [bne_iff_ne]; omega
    clear hQ
    go_enter Tryz.func71, Tryz.ntmps71
    go_wp2_with fail
    refine HT.out.mono ?_
    rintro e w1 ⟨t, rfl, r1, t1, -⟩
    have hl1 := HLI.out.touch t1
    obtain ⟨k0', k1', k2', -⟩ := hl1.cells
    obtain ⟨c0', c1', c2', -, -⟩ := r1.1.cells
    have HF := Lib.hid (And.intro r1 (And.intro t1 hl1.box))
    clear k0 k1 k2 c0 c1 c2 r1 t1 hl1
    go_wp2_with fail
    go_quiet (fail)
    go_wp2_with fail
    first | go_end0 | (simp only [Exit.inBlock, Exit.then]; refine bodyPost_ret (results_none rfl _ _ _) rfl ?_) | refine bodyPost_ret (results_none rfl _ _ _) rfl ?_
    rw [← HQ.out]
    exact ⟨rfl, HF.out.1.drewN _, ⟨frK_of (HF.out.2.1.drewN _), ⟨_, HF.out.2.2⟩⟩, fun h => absurd h he⟩
  · have h0 : T3 = 0 := Classical.not_not.1 he
    subst h0
    rw [if_neg he] at hQ
    clear he
    have HC := Lib.hid (fun w1 (hl1 : LIO w0 b Bl Br Bd base d w1 acc (.slice a acc.length c)) W (hW : Below w1.heap.size w1 W) B (hB : B < W.heap.size) (hc : W.cell? ⟨B, 0, none⟩ = some (.string (bs T1))) => own_contains hl1.own (fun i hi => hi.2.1) hal T1 B W hW hB hc)
    by_cases hdup : T1 ∈ acc.map (·.1)
    · rw [if_pos hdup] at hQ
      have HQ := Lib.hid hQ
      rw [decide_eq_true hdup] at HC
      clear hQ hdup
      go_enter Tryz.func71, Tryz.ntmps71
      go_wp2_with fail
      refine HT.out.mono ?_
      rintro e w1 ⟨t, rfl, r1, t1, ht⟩
      obtain rfl := ht trivial
      have hl1 := HLI.out.touch t1
      obtain ⟨k0', k1', k2', -⟩ := hl1.cells
      obtain ⟨c0', c1', c2', -, -⟩ := r1.1.cells
      have c2'' : w1.cell? ⟨b, 2, none⟩ = some (.int .i64 0) := c2'
      have hbl := r1.1.lt
      have HS := Lib.hid (fun W (hW : Below w1.heap.size w1 W) => And.intro (LIO.cellsB hl1 hW).2.1 (And.intro ((hW.cell (p := ⟨b, 2, none⟩) hbl).trans c2'') (LIO.cellsB hl1 hW).1))
      have HF := Lib.hid (And.intro r1 (And.intro t1 hl1))
      have HD1 := Lib.hid ((Below.refl w1.heap.size w1).drew)
      clear k0 k1 k2 c0 c1 c2 r1 t1 hl1 ht c2' k0' k1' k2' c0' c1' c2'' hbl
      go_wp2_with fail
      go_region_held3 (fun w' => w'.cell? ⟨Br, 0, none⟩ = some (.pointer (some ⟨b, 0, none⟩)) ∧ w'.cell? ⟨b, 2, none⟩ = some (.int .i64 0) ∧ w'.cell? ⟨Bl, 0, none⟩ = some (.slice a acc.length c)) (first | exact HS.out _ HD1.out | exact HS.out _ HB2.out | exact HS.out _ HB3.out) (first
        | (go_at_call 26; refine (n_named (bs T1) _).mono ?_; rintro e w2 ⟨rfl, hw2⟩; have hbx := named_box (bs T1) w1.drew; rw [← hw2] at hbx; have HB2 : Hid (Below w1.heap.size w1 w2) := Lib.hid (by rw [hw2]; exact (Below.refl w1.heap.size w1).drew.alloc (Nat.le_refl _) _); have HX := Lib.hid hbx; clear hbx hw2)
        | (go_at_call 65; refine (HC.out w1 HF.out.2.2 _ HB2.out _ HX.out.2 HX.out.1).mono ?_; rintro e w3 ⟨rfl, hb3⟩; have HB3 := Lib.hid (bstep HB2.out hb3); clear hb3))
      obtain ⟨s0, s1, s2⟩ := HS.out _ HB3.out
      have r3 := HF.out.1.1.below HB3.out
      have HL3 := Lib.hid (HF.out.2.2.below HB3.out)
      have HT3 := Lib.hid (touch2 HF.out.2.1 (Touch.of_below HB3.out))
      have HFL := Lib.hid (rd_fail b _ m 22 s _ r3)
      clear r3
      go_wp2_with fail
      refine HFL.out.mono ?_
      rintro e w4 ⟨rfl, r4, t4⟩
      obtain ⟨e0, e1, e2, -, -⟩ := r4.cells
      have hl4 := HL3.out.touch t4
      obtain ⟨-, g1, -, -⟩ := hl4.cells
      have HF4 := Lib.hid (And.intro r4 (And.intro t4 hl4.box))
      clear r4 t4 hl4 s0 s1 s2
      go_wp2_with fail
      first | go_end0 | (simp only [Exit.inBlock, Exit.then]; refine bodyPost_ret (results_none rfl _ _ _) rfl ?_) | refine bodyPost_ret (results_none rfl _ _ _) rfl ?_
      rw [← HQ.out]
      exact ⟨rfl, ⟨by rw [HM.out]; exact HF4.out.1, HRL.out.2⟩, ⟨frK_of (touch2 HT3.out HF4.out.2.1), ⟨_, HF4.out.2.2⟩⟩, fun h => absurd h (by show ¬ (22 = 0); decide)⟩
    · rw [if_neg hdup] at hQ
      rw [decide_eq_false hdup] at HC
      clear hdup
      go_enter Tryz.func71, Tryz.ntmps71
      go_wp2_with fail
      refine HT.out.mono ?_
      rintro e w1 ⟨t, rfl, r1, t1, ht⟩
      obtain rfl := ht trivial
      have hl1 := HLI.out.touch t1
      obtain ⟨k0', k1', k2', -⟩ := hl1.cells
      obtain ⟨c0', c1', c2', -, -⟩ := r1.1.cells
      have c2'' : w1.cell? ⟨b, 2, none⟩ = some (.int .i64 0) := c2'
      have hbl := r1.1.lt
      have HS := Lib.hid (fun W (hW : Below w1.heap.size w1 W) => And.intro (LIO.cellsB hl1 hW).2.1 (And.intro ((hW.cell (p := ⟨b, 2, none⟩) hbl).trans c2'') (LIO.cellsB hl1 hW).1))
      have HF := Lib.hid (And.intro r1 (And.intro t1 hl1))
      have HD1 := Lib.hid ((Below.refl w1.heap.size w1).drew)
      clear k0 k1 k2 c0 c1 c2 r1 t1 hl1 ht c2' k0' k1' k2' c0' c1' c2'' hbl
      go_wp2_with fail
      go_region_held3 (fun w' => w'.cell? ⟨Br, 0, none⟩ = some (.pointer (some ⟨b, 0, none⟩)) ∧ w'.cell? ⟨b, 2, none⟩ = some (.int .i64 0) ∧ w'.cell? ⟨Bl, 0, none⟩ = some (.slice a acc.length c)) (first | exact HS.out _ HD1.out | exact HS.out _ HB2.out | exact HS.out _ HB3.out) (first
        | (go_at_call 26; refine (n_named (bs T1) _).mono ?_; rintro e w2 ⟨rfl, hw2⟩; have hbx := named_box (bs T1) w1.drew; rw [← hw2] at hbx; have HB2 : Hid (Below w1.heap.size w1 w2) := Lib.hid (by rw [hw2]; exact (Below.refl w1.heap.size w1).drew.alloc (Nat.le_refl _) _); have HX := Lib.hid hbx; clear hbx hw2)
        | (go_at_call 65; refine (HC.out w1 HF.out.2.2 _ HB2.out _ HX.out.2 HX.out.1).mono ?_; rintro e w3 ⟨rfl, hb3⟩; have HB3 := Lib.hid (bstep HB2.out hb3); clear hb3))
      obtain ⟨s0, s1, s2⟩ := HS.out _ HB3.out
      have r3 := RL.below HF.out.1 HB3.out
      have HL3 := Lib.hid (HF.out.2.2.below HB3.out)
      have HT3 := Lib.hid (touch2 HF.out.2.1 (Touch.of_below HB3.out))
      have HBL := Lib.hid (rd_blank b s T2 0 _ r3 hs)
      obtain ⟨g0, g1, g2, -, -⟩ := r3.1.cells
      clear r3
      go_wp2_with fail
      refine HBL.out.mono ?_
      rintro e w4 ⟨rfl, r4, t4⟩
      have hl4 := HL3.out.touch t4
      obtain ⟨j0, j1, j2, -⟩ := hl4.cells
      have HL4 := Lib.hid hl4
      have HT4 := Lib.hid (touch2 HT3.out t4)
      have HSG := Lib.hid (rd_sign b s (skipB T2) 58 _ r4 hs)
      clear r4 t4 hl4 s0 s1 s2 g0 g1 g2
      go_wp2_with fail
      refine HSG.out.mono ?_
      rintro e w5 ⟨t5, ⟨u, hu, rfl, r5⟩ | ⟨hne, rfl, r5⟩⟩
      · have hl5 := HL4.out.touch t5
        obtain ⟨i0, i1, i2, -⟩ := hl5.cells
        obtain ⟨p, hp⟩ : ∃ p, valV f (d + 1) (skipB u) = p := ⟨_, rfl⟩
        rw [hu] at hQ
        simp only [] at hQ
        rw [if_neg (show ¬ ((58 : UInt8) ≠ 58) by decide), hp] at hQ
        have hq2 : Q.2 = p.2 := by
          rw [← hQ]
          by_cases e : p.2.2 = 0
          · rw [if_pos e]; show (p.2.1, 0) = p.2; rw [← e]
          · rw [if_neg e]
        have hq1 : p.2.2 = 0 → Q.1 = acc ++ [(T1, p.1)] := fun e => by rw [← hQ, if_pos e]
        have h9 : p.2.2 ≠ 99 := by rw [← hq2]; exact h99
        have td : IntKind.i64.wrap ((d : Int) + 1) = (d : Int) + 1 := by rw [IntKind.wrap_i64]; omega
        have HVV := Lib.hid (hp ▸ HV (skipB u) w5.drew r5 hl5.b0.drew (by rw [hp]; exact h9) : Calls Tryz.prog 30 #[.pointer (some ⟨b, 0, none⟩), .int .i64 ((d : Int) + 1)] w5.drew (VPost b s p w5.drew))
        have HQ := Lib.hid (And.intro hq1 hq2)
        obtain ⟨xs0, hown0, -⟩ := id hl5.own
        have hsz : Bl < w5.heap.size := (Array.getElem?_eq_some_iff.1 hl5.box).1
        have hso : ∀ g, (Value.slice a acc.length c).ownBlock = some g → g < w5.heap.size := fun g hg => (hown0.lt g hg).2
        have HSO := Lib.hid (And.intro hsz hso)
        have hli0 : base ≤ w5.heap.size := Nat.le_trans hl5.ll (Nat.le_of_lt hsz)
        have HL5 := Lib.hid hl5
        have HT5 := Lib.hid (touch2 HT4.out t5)
        clear hl5 t5 r5 hQ j0 j1 j2 hp hq1 hq2 h9 hown0 hsz hso hu h99 HV
        go_wp2_with fail
        refine wp_region_K 9 (fun w' => w'.cell? ⟨Bl, 0, none⟩ = some (.slice a acc.length c) ∧ w'.cell? ⟨Br, 0, none⟩ = some (.pointer (some ⟨b, 0, none⟩)) ∧ w'.cell? ⟨Bd, 0, none⟩ = some (.int .i64 (d : Int))) (by kernel_rfl) ?_
        refine wpAnyK_take (i := 0) (v := .slice a acc.length c) rfl (by kernel_rfl) (by kernel_rfl) (by kernel_rfl) (by kernel_rfl) (by kernel_rfl) (fun _ _ _ h => h) (Or.inl ⟨by rfl, fun W hSw => (by obtain ⟨s0, s1, s2⟩ := hSw; clear i0 i1 i2; go_simp)⟩) ⟨i0, i1, i2⟩ ?_
        refine wpAnyK_take (i := 1) (v := .string (bs T1)) rfl (by kernel_rfl) (by kernel_rfl) (by kernel_rfl) (by kernel_rfl) (by kernel_rfl) (fun _ _ _ h => h) (Or.inl ⟨by rfl, fun W hSw => (by obtain ⟨s0, s1, s2⟩ := hSw; clear i0 i1 i2; go_simp)⟩) ⟨i0, i1, i2⟩ ?_
        refine wpAnyK_take (i := 2) (v := .pointer (some ⟨b, 0, none⟩)) rfl (by kernel_rfl) (by kernel_rfl) (by kernel_rfl) (by kernel_rfl) (by kernel_rfl) (fun _ _ _ h => h) (Or.inl ⟨by rfl, fun W hSw => (by obtain ⟨s0, s1, s2⟩ := hSw; clear i0 i1 i2; go_simp)⟩) ⟨i0, i1, i2⟩ ?_
        refine wpAnyK_take (i := 3) (v := .int .i64 (d : Int)) rfl (by kernel_rfl) (by kernel_rfl) (by kernel_rfl) (by kernel_rfl) (by kernel_rfl) (fun _ _ _ h => h) (Or.inl ⟨by rfl, fun W hSw => (by obtain ⟨s0, s1, s2⟩ := hSw; clear i0 i1 i2; go_simp)⟩) ⟨i0, i1, i2⟩ ?_
        refine wpAnyK_take (i := 4) (v := .int .i64 ((d : Int) + 1)) rfl (by kernel_rfl) (by kernel_rfl) (by kernel_rfl) (by kernel_rfl) (by kernel_rfl) (fun _ _ _ h => h) (Or.inl ⟨by rfl, fun W hSw => (by obtain ⟨s0, s1, s2⟩ := hSw; clear i0 i1 i2; go_simp)⟩) ⟨i0, i1, i2⟩ ?_
        try simp only [Act.put, List.setIfInBounds_toArray, List.set_cons_zero, List.set_cons_succ]
        refine wpAnyK_one (i := 5) (by kernel_rfl) rfl (fun K hK => ?_)
        have HK4 := Lib.hid hK
        clear hK
        go_simp
        go_at_call 30
        refine HVV.out.mono ?_
        rintro e w6 ⟨x, rfl, x1, r6, t6, av6⟩
        have hl6 := LIO.touch (LIO.touch HL5.out ((Touch.refl _ w5).drewN 1)) t6
        obtain ⟨xs, hown, hel⟩ := id hl6.own
        have hsz1 : w5.heap.size ≤ w6.heap.size := t6.size
        have h3 : Below w6.heap.size w6 (w6.alloc (.cells #[.string (bs T1), x] 56)) := (Below.refl _ _).alloc (Nat.le_refl _) _
        refine HK4.out _ _ (fun _ => LIO.cellsB hl6 (Below.refl _ _)) ?_
        try simp only [Act.put, List.setIfInBounds_toArray, List.set_cons_zero, List.set_cons_succ]
        refine wpAnyK_one (i := 6) (by kernel_rfl) rfl (fun K5 hK5 => ?_)
        refine step_build2 _ rfl _ _ rfl (bs T1) x rfl rfl x1 ?_
        refine hK5 _ _ (fun _ => LIO.cellsB hl6 (Below.refl _ _)) ?_
        try simp only [Act.put, List.setIfInBounds_toArray, List.set_cons_zero, List.set_cons_succ]
        refine wpAnyK_one (i := 7) (by kernel_rfl) rfl (fun K5' hK5' => ?_)
        refine step_build3 _ rfl _ rfl (bs T1) x rfl ?_
        refine hK5' _ _ (fun _ => LIO.cellsB hl6 h3) ?_
        try simp only [Act.put, List.setIfInBounds_toArray, List.set_cons_zero, List.set_cons_succ]
        refine wpAnyK_one (i := 8) (by kernel_rfl) rfl (fun K6 hK6 => ?_)
        refine step_append2 _ rfl _ _ rfl base (.slice a acc.length c) acc.length xs rfl (own_of_block hown (fun g hg => h3.block g (hown.lt g hg).2)) w6.heap.size (.string (bs T1)) x (heap_alloc_new w6 _) (fun y hy => ?_) rfl (by omega) (Nat.le_trans (Nat.le_trans hli0 hsz1) h3.size) (fun g cap w7 ho hg hg2 => ?_)
        · simp only [List.mem_cons, List.not_mem_nil, or_false] at hy
          rcases hy with rfl | rfl
          · rfl
          · exact x1
        obtain ⟨⟨p0, p1, p2⟩, pf, pI, pF, pL, pB⟩ := LIO.push hl6 ⟨HSO.out.1, HSO.out.2, hsz1⟩ hown hel av6 h3 ho hg hg2
        refine hK6 _ _ (fun _ => ⟨p0, p1, p2⟩) ?_
        try simp only [Act.put, List.setIfInBounds_toArray, List.set_cons_zero, List.set_cons_succ]
        refine wpAnyK_one (i := 9) (by kernel_rfl) rfl (fun K7 hK7 => ?_)
        have HK7 := Lib.hid hK7
        have HPI := Lib.hid pI
        have HJ : Hid (JO Bl (w7.setCell ⟨Bl, 0, none⟩ (.slice (some ⟨g, 0, none⟩) (acc.length + 1) cap))) := Lib.hid ⟨_, pB⟩
        have HPF := Lib.hid (frK_trans (frK_of (touch2 HT5.out (touch2 ((Touch.refl _ w5).drewN 1) t6))) pF)
        have hne : b ≠ Bl := fun e => by have h1 := hl6.lb; have h2 := hl6.ll; omega
        have HRL7 : Hid (RL b s p.2.1 p.2.2 (w7.setCell ⟨Bl, 0, none⟩ (.slice (some ⟨g, 0, none⟩) (acc.length + 1) cap))) := Lib.hid ⟨(set_far hne).trans ((pL b hl6.lb).trans r6.1), r6.2⟩
        clear hK7 hK6 hK5 hK5' HK4 pI pF pL pB r6 t6 av6 hl6 hown hel ho hg hg2 h3 p1 p2
        go_simp
        refine HK7.out _ _ (fun h => absurd h (by decide)) ?_
        refine wpAnyK_done (by kernel_rfl) ?_ _
        go_end0
        refine ⟨rfl, by rw [HQ.out.2]; exact HRL7.out, ⟨HPF.out, HJ.out⟩, fun h => ?_⟩
        rw [HQ.out.2] at h
        rw [HQ.out.1 h]
        exact ⟨_, HPI.out h⟩
      · have hl5 := HL4.out.touch t5
        obtain ⟨i0, i1, i2, -⟩ := hl5.cells
        have HR : Hid (Q = (acc, skipB T2, wrongE (skipB T2))) := Lib.hid (by
          rw [← hQ]
          cases hsk : skipB T2 with
          | nil => rfl
          | cons c t =>
            rw [hsk] at hne
            simp only []
            rw [if_pos (fun e => hne (by rw [e]; rfl))]
            rfl)
        have hwe : wrongE (skipB T2) ≠ 0 := by unfold wrongE; split <;> decide
        have HW := Lib.hid (rd_wrong b s (skipB T2) _ r5 hs)
        have HL5 := Lib.hid hl5
        have HT5 := Lib.hid (touch2 HT4.out t5)
        clear hl5 t5 r5 hne hQ j0 j1 j2
        go_wp2_with fail
        refine HW.out.mono ?_
        rintro e w6 ⟨rfl, r6, t6⟩
        have HF6 := Lib.hid (And.intro r6 (And.intro (touch2 HT5.out t6) (HL5.out.touch t6).box))
        clear r6 t6
        go_wp2_with fail
        first | go_end0 | (simp only [Exit.inBlock, Exit.then]; refine bodyPost_ret (results_none rfl _ _ _) rfl ?_) | refine bodyPost_ret (results_none rfl _ _ _) rfl ?_
        rw [HR.out]
        exact ⟨rfl, HF6.out.1, ⟨frK_of HF6.out.2.1, ⟨_, HF6.out.2.2⟩⟩, fun h => absurd h hwe⟩
end Go.Proofs.YtcmkepkeeahioaaGreatDoor
namespace Go.Proofs.YtcmkepkeeahioaaGreatDoor
open Go.RowKit
theorem obj_each (d : Nat) : ∀ (f n : Nat) (r : List UInt8) (acc : List (List UInt8 × JV)), objV f d n r acc = (if (eachG 125 (stepO d) f n r acc).2.2 = 0 then .obj (eachG 125 (stepO d) f n r acc).1 else .nul, (eachG 125 (stepO d) f n r acc).2) := by
  intro f
  induction f with
  | zero => intro n r acc; rw [objV, eachG]; rfl
  | succ f ih =>
    intro n r acc
    rw [objV, eachG]
    by_cases h64 : n = 64 ∧ r ≠ []
    · rw [if_pos h64, if_pos h64]; rfl
    rw [if_neg h64, if_neg h64]
    obtain ⟨q, hq⟩ : ∃ q, stepO d f r acc = q := ⟨_, rfl⟩
    rw [hq]
    unfold stepO at hq
    by_cases t1 : (txtV r).2.2 ≠ 0
    · rw [if_pos t1] at hq ⊢
      subst hq
      rw [if_pos t1]
      show _ = (if (txtV r).2.2 = 0 then _ else _, _)
      rw [if_neg t1]
    rw [if_neg t1] at hq ⊢
    by_cases t2 : (txtV r).1 ∈ acc.map (·.1)
    · rw [if_pos t2] at hq ⊢; subst hq; rfl
    rw [if_neg t2] at hq ⊢
    cases hs0 : skipB (txtV r).2.1 with
    | nil => rw [hs0] at hq; subst hq; rfl
    | cons c0 t0 =>
      rw [hs0] at hq
      simp only [] at hq ⊢
      by_cases c0' : c0 ≠ 58
      · rw [if_pos c0'] at hq ⊢; subst hq; rfl
      rw [if_neg c0'] at hq ⊢
      by_cases he : (valV f (d + 1) (skipB t0)).2.2 = 0
      · rw [if_pos he] at hq
        rw [if_neg (fun e => e he)]
        subst hq
        rw [if_neg (show ¬ ((0 : Nat) ≠ 0) by decide)]
        cases skipB (valV f (d + 1) (skipB t0)).2.1 with
        | nil => rfl
        | cons c t =>
          simp only []
          by_cases c1 : c = 125
          · rw [if_pos c1, if_pos c1]; rfl
          rw [if_neg c1, if_neg c1]
          by_cases c2 : c = 44
          · rw [if_pos c2, if_pos c2]; exact ih (n + 1) (skipB t) _
          · rw [if_neg c2, if_neg c2]; rfl
      · rw [if_neg he] at hq
        rw [if_pos he]
        subst hq
        rw [if_pos he]
        show _ = (if (valV f (d + 1) (skipB t0)).2.2 = 0 then _ else _, _)
        rw [if_neg he]
theorem app4o (x a b c : Value) : (#[x] ++ #[a, b, c] : Array Value) = #[x, a, b, c] := by simp
/-- an object from its first sign on -/
def objQ (F d : Nat) (t : List UInt8) : Res := if 4 < d then (.nul, 123 :: t, 20) else if (skipB t).head? = some 125 then (.obj [], (skipB t).tail, 0) else objV F d 0 (skipB t) []
theorem objQ_each (F d : Nat) (t : List UInt8) : objQ F d t = (if (eachQ 125 (stepO d) F d 123 t []).2.2 = 0 then .obj (eachQ 125 (stepO d) F d 123 t []).1 else .nul, (eachQ 125 (stepO d) F d 123 t []).2) := by
  unfold objQ eachQ
  by_cases h1 : 4 < d
  · rw [if_pos h1, if_pos h1]; rfl
  rw [if_neg h1, if_neg h1]
  by_cases h2 : (skipB t).head? = some 125
  · rw [if_pos h2, if_pos h2]; rfl
  rw [if_neg h2, if_neg h2]
  exact obj_each d F 0 (skipB t) []
/-- the boxes of list, laid -/
theorem LIO.new {w0 w : World} {b d : Nat} (hb0 : Below w0.heap.size w0 w) (hlo : w0.heap.size ≤ b) (hbw : b < w.heap.size) :
    LIO w0 b (w.heap.size + 1 + 1 + 1) w.heap.size (w.heap.size + 1) w.heap.size d ((((w.alloc (.cells #[.pointer (some ⟨b, 0, none⟩)] 70)).alloc (.cells #[.int .i64 (d : Int)] 3)).alloc (.cells #[] 56)).alloc (.cells #[.slice (some ⟨w.heap.size + 1 + 1, 0, none⟩) 0 0] 58)) [] (.slice (some ⟨w.heap.size + 1 + 1, 0, none⟩) 0 0) := by
  have e0 : (w.alloc (.cells #[.pointer (some ⟨b, 0, none⟩)] 70)).heap.size = w.heap.size + 1 := by simp
  have h0 := heap_alloc_new w (.cells #[.pointer (some ⟨b, 0, none⟩)] 70)
  generalize hW0 : w.alloc (.cells #[.pointer (some ⟨b, 0, none⟩)] 70) = W0 at e0 h0 ⊢
  have B0 : Below w.heap.size w W0 := by rw [← hW0]; exact (Below.refl _ _).alloc (Nat.le_refl _) _
  have e1 : (W0.alloc (.cells #[.int .i64 (d : Int)] 3)).heap.size = w.heap.size + 1 + 1 := by simp [e0]
  have h1 := heap_alloc_new W0 (.cells #[.int .i64 (d : Int)] 3)
  have B1 : Below W0.heap.size W0 (W0.alloc (.cells #[.int .i64 (d : Int)] 3)) := (Below.refl _ _).alloc (Nat.le_refl _) _
  generalize hW1 : W0.alloc (.cells #[.int .i64 (d : Int)] 3) = W1 at e1 h1 B1 ⊢
  have e2 : (W1.alloc (.cells #[] 56)).heap.size = w.heap.size + 1 + 1 + 1 := by simp [e1]
  have h2 := heap_alloc_new W1 (.cells #[] 56)
  have B2 : Below W1.heap.size W1 (W1.alloc (.cells #[] 56)) := (Below.refl _ _).alloc (Nat.le_refl _) _
  generalize hW2 : W1.alloc (.cells #[] 56) = W2 at e2 h2 B2 ⊢
  have h3 := heap_alloc_new W2 (.cells #[.slice (some ⟨w.heap.size + 1 + 1, 0, none⟩) 0 0] 58)
  have B3 : Below W2.heap.size W2 (W2.alloc (.cells #[.slice (some ⟨w.heap.size + 1 + 1, 0, none⟩) 0 0] 58)) := (Below.refl _ _).alloc (Nat.le_refl _) _
  have e3 : (W2.alloc (.cells #[.slice (some ⟨w.heap.size + 1 + 1, 0, none⟩) 0 0] 58)).heap.size = w.heap.size + 4 := by simp [e2]
  generalize W2.alloc (.cells #[.slice (some ⟨w.heap.size + 1 + 1, 0, none⟩) 0 0] 58) = W3 at h3 B3 e3 ⊢
  rw [e0] at h1
  rw [e1] at h2
  rw [e2] at h3
  have q0 : W3.heap[w.heap.size]? = _ := (B3.block _ (by omega)).trans ((B2.block _ (by omega)).trans ((B1.block _ (by omega)).trans h0))
  have q1 : W3.heap[w.heap.size + 1]? = _ := (B3.block _ (by omega)).trans ((B2.block _ (by omega)).trans h1)
  have q2 : W3.heap[w.heap.size + 1 + 1]? = _ := (B3.block _ (by omega)).trans h2
  refine ⟨h3, q0, q1, ⟨[], ⟨rfl, .inr ⟨w.heap.size + 1 + 1, 0, #[], rfl, by omega, q2, Nat.le_refl _, Nat.zero_le _, rfl, rfl⟩⟩, fun j hj => absurd hj (Nat.not_lt_zero _)⟩, ?_, hbw, by omega, by omega, by omega, hlo⟩
  exact bstep hb0 (bstep (bstep (bstep B0 B1) B2) B3)
set_option maxRecDepth 100000 in
set_option maxHeartbeats 4000000 in
theorem rd_object (w0 : World) (b d F : Nat) (s : ByteArray) (t : List UInt8) (w : World) (hd : d ≤ 100) (hs : s.size ≤ 1000000) (hE : NEnv w0) (hF : F ≤ 1000000) (hlo : w0.heap.size ≤ b) (hb0 : Below w0.heap.size w0 w)
    (HV : ∀ f, f < F → ¬ 4 < d → ∀ r W, RL b s r 0 W → Below w0.heap.size w0 W → (valV f (d + 1) r).2.2 ≠ 99 → Calls Tryz.prog 30 #[.pointer (some ⟨b, 0, none⟩), .int .i64 ((d : Int) + 1)] W (VPost b s (valV f (d + 1) r) W))
    (h : RL b s (123 :: t) 0 w) (h99 : (objQ F d t).2.2 ≠ 99) :
    Calls Tryz.prog 51 #[.pointer (some ⟨b, 0, none⟩), .int .i64 (d : Int)] w (VPost b s (objQ F d t) w) := by
  have hbw := h.1.lt
  have hli := LIO.new (d := d) hb0 hlo hbw
  have hq := objQ_each F d t
  rw [hq] at h99 ⊢
  have heq : (eachQ 125 (stepO d) F d 123 t []).2.2 ≠ 99 := h99
  have hmf : ∀ (fn : Fn) (first cap : Array Value) (w : World), (Instr.makeFunc fn first cap).run Tryz.prog w = .ok (.func fn first cap) w := fun _ _ _ _ => rfl
  obtain ⟨W, hW⟩ : ∃ W, (((w.alloc (.cells #[.pointer (some ⟨b, 0, none⟩)] 70)).alloc (.cells #[.int .i64 (d : Int)] 3)).alloc (.cells #[] 56)).alloc (.cells #[.slice (some ⟨w.heap.size + 1 + 1, 0, none⟩) 0 0] 58) = W := ⟨_, rfl⟩
  have hWB : Below w.heap.size w W := by
    rw [← hW]
    refine Below.alloc (Below.alloc (Below.alloc (Below.alloc (Below.refl _ _) ?_ _) ?_ _) ?_ _) ?_ _ <;> simp <;> omega
  rw [hW] at hli
  have hJ0 : JO (w.heap.size + 1 + 1 + 1) W := ⟨_, hli.box⟩
  have hneb : w.heap.size + 1 + 1 + 1 ≠ b := by omega
  have eg : ∀ args w, (callFunc 71 args).run Tryz.prog w = .ok (.enter 71 args) w := enters_of Tryz.func71 (by kernel_rfl) rfl
  have hRL : RL b s (123 :: t) 0 W := ⟨h.1.below hWB, h.2⟩
  have hEach : Calls Tryz.prog 69 #[.pointer (some ⟨b, 0, none⟩), .int .i64 (d : Int), .int .u8 123, .int .u8 125, .func (.func 71) #[] #[.pointer (some ⟨w.heap.size, 0, none⟩), .pointer (some ⟨w.heap.size + 1 + 1 + 1, 0, none⟩), .pointer (some ⟨w.heap.size + 1, 0, none⟩)]] W (OnePost b w.heap.size s (JO (w.heap.size + 1 + 1 + 1)) (IO w0 b (w.heap.size + 1 + 1 + 1) w.heap.size (w.heap.size + 1) w.heap.size d) (eachQ 125 (stepO d) F d 123 t []) W) := by
    have hJ : ∀ W W', JO (w.heap.size + 1 + 1 + 1) W → Touch (fun i => i = b) W W' → JO (w.heap.size + 1 + 1 + 1) W' := fun W W' ⟨v, hv⟩ t => ⟨v, (t.block _ (Array.getElem?_eq_some_iff.1 hv).1 hneb).trans hv⟩
    have hI : ∀ W W' acc, IO w0 b (w.heap.size + 1 + 1 + 1) w.heap.size (w.heap.size + 1) w.heap.size d W acc → Touch (fun i => i = b) W W' → IO w0 b (w.heap.size + 1 + 1 + 1) w.heap.size (w.heap.size + 1) w.heap.size d W' acc := fun W W' acc ⟨v, hv⟩ t => ⟨v, hv.touch t⟩
    by_cases h4 : 4 < d
    · have e0 : eachQ 125 (stepO d) F d 123 t [] = eachQ 125 (stepO d) 0 d 123 t [] := by unfold eachQ; rw [if_pos h4, if_pos h4]
      rw [e0] at heq ⊢
      exact rd_each 125 123 (stepO d) _ _ eg b w.heap.size s 0 d (JO (w.heap.size + 1 + 1 + 1)) hJ _ hI (fun f r acc h => stepO_len d f r acc h) (fun f hf => absurd hf (Nat.not_lt_zero _)) t W hRL hJ0 ⟨_, hli⟩ hs (by omega) hd heq
    · have hone : ∀ f, f < F → ∀ (n : Nat) r acc W', acc.length = n → n ≤ F → RL b s r 0 W' → JO (w.heap.size + 1 + 1 + 1) W' → IO w0 b (w.heap.size + 1 + 1 + 1) w.heap.size (w.heap.size + 1) w.heap.size d W' acc → (stepO d f r acc).2.2 ≠ 99 →
          Calls Tryz.prog 71 (#[.int .i64 (n : Int)] ++ #[.pointer (some ⟨w.heap.size, 0, none⟩), .pointer (some ⟨w.heap.size + 1 + 1 + 1, 0, none⟩), .pointer (some ⟨w.heap.size + 1, 0, none⟩)]) W' (OnePost b w.heap.size s (JO (w.heap.size + 1 + 1 + 1)) (IO w0 b (w.heap.size + 1 + 1 + 1) w.heap.size (w.heap.size + 1) w.heap.size d) (stepO d f r acc) W') := by
        intro f hf n r acc W' hal hn hr hj hi h9
        have hv := rd_obj1 w0 b (w.heap.size + 1 + 1 + 1) w.heap.size (w.heap.size + 1) w.heap.size d f n s r acc W' hd (by omega) hs hE (fun r2 W2 hr2 hb2 h92 => HV f hf h4 r2 W2 hr2 hb2 h92) hr hi h9
        rw [app4o]
        exact hv
      exact rd_each 125 123 (stepO d) _ _ eg b w.heap.size s F d (JO (w.heap.size + 1 + 1 + 1)) hJ _ hI (fun f r acc h => stepO_len d f r acc h) hone t W hRL hJ0 ⟨_, hli⟩ hs hF hd heq
  have HEACH := Lib.hid hEach
  have HWB := Lib.hid hWB
  obtain ⟨k0, k1, k2, k3⟩ := hli.cells
  generalize eachQ 125 (stepO d) F d 123 t [] = q at HEACH ⊢
  obtain ⟨R, hR⟩ : ∃ R : Res, (if q.2.2 = 0 then JV.obj q.1 else .nul, q.2) = R := ⟨_, rfl⟩
  rw [hR]
  have HR := Lib.hid hR
  clear hR
  have HBW := Lib.hid hbw
  clear hEach hWB hli hJ0 hRL heq h99 hq HV h hbw hlo hb0
  go_enter Tryz.func51, Tryz.ntmps51
  subst hW
  go_wp2_with fail
  refine HEACH.out.mono ?_
  rintro e w1 ⟨rfl, r1, ⟨f1, v, hv⟩, i1⟩
  have kv : w1.cell? ⟨w.heap.size + 1 + 1 + 1, 0, none⟩ = some v := by unfold World.cell?; rw [hv]; rfl
  have HI1 := Lib.hid i1
  have HF1 := Lib.hid f1
  have HR1 := Lib.hid r1
  have HV1 := Lib.hid hv
  clear i1 f1 r1 hv k0 k1 k2 k3
  go_wp2_with fail
  go_ret
  refine ⟨_, rfl, rfl, by rw [← HR.out]; exact HR1.out, ?_, fun h0 => ?_⟩
  · have h1 := HWB.out
    exact ⟨HF1.out.os.trans h1.os, HF1.out.tape.trans h1.tape, HF1.out.output.trans h1.output, Nat.le_trans h1.size HF1.out.size, fun i hi hn => (HF1.out.block i (Nat.lt_of_lt_of_le hi h1.size) (fun h => h.elim hn (fun h2 => by omega))).trans (h1.block i hi)⟩
  · have hq0 : q.2.2 = 0 := by rw [← HR.out] at h0; exact h0
    obtain ⟨v2, hv2⟩ := HI1.out hq0
    have e1 := hv2.box
    rw [HV1.out] at e1
    simp only [Option.some.injEq, Obj.cells.injEq, Array.mk.injEq, List.cons.injEq, and_true] at e1
    obtain rfl := e1
    have hbx := hv2.box
    have hbl := (Array.getElem?_eq_some_iff.1 hbx).1
    have : R.1 = .obj q.1 := by rw [← HR.out, if_pos hq0]
    rw [this]
    obtain ⟨xs, ho, hx⟩ := id hv2.own
    exact OwnO.value hv2.own (fun i hi => ⟨hi.1, hi.2.1⟩) (fun g hg => ho.lt g hg)
end Go.Proofs.YtcmkepkeeahioaaGreatDoor
namespace Go.Proofs.YtcmkepkeeahioaaGreatDoor
open Go.RowKit
/-- append of one element at a step of a region that draws -/
theorem step_append1 {ops : Array Oper} {o : Oper} {a : Act} {K : Act → World → Prop} {Q : Exit → Act → World → Prop} {E : Prop} (W : World) (hgd : o.guard = none) (s x : Operand)
    (ho : o.op = .call { callee := .builtin .append, args := #[s, x], argTypes := #[57, 57] })
    (base : Nat) (v : Value) (n : Nat) (xs : List Value) (hs : a.eval s = v) (hown : W.ownsRow base 20 1 v n xs)
    (B : Nat) (x1 : Value) (hB : W.heap[B]? = some (.cells #[x1] 20 (0, 0))) (h1 : ∀ u ∈ [x1], u.oneCell' = true) (hx : a.eval x = .slice (some ⟨B, 0, none⟩) 1 1) (hn : n < 2147483648) (hbase : base ≤ W.heap.size)
    (h : ∀ g cap w', w'.ownsRow base 20 1 (.slice (some ⟨g, 0, none⟩) (n + 1) cap) (n + 1) (xs ++ [x1]) → W.grownBy w' v.ownBlock → (v.ownBlock = some g ∨ g = W.heap.size) → K (a.put o.dst (.slice (some ⟨g, 0, none⟩) (n + 1) cap)) w') :
    if Region.wanted o (yielded ops a.tmps) = true then Oper.wp Tryz.prog o a W K Q else E := by
  obtain ⟨i0, hi, hz0, hz1, hz2⟩ := info_parts info_any
  refine step_append_lies W hgd s x 57 ho base 20 i0 _ 1 16 Tryz.underlying57 hi hz0 hz1 hz2 rfl (by decide) v n xs hs hown ⟨B, 0, none⟩ 1 1 [x1] hx rfl (World.news_of_block hB) h1 (by decide) (by unfold maxLen; omega) (by omega) hbase _ rfl ?_
  intro g cap w' h1 h2 h3 _
  exact h g cap w' h1 h2 h3
def SBL (W : World) (base Bl : Nat) (v : Value) (i : Nat) : Prop := base ≤ i ∧ i < W.heap.size ∧ i ≠ Bl ∧ v.ownBlock ≠ some i
/-- the boxes of a list that is being taken: the row so far, the reader, how deep -/
structure LIL (w0 : World) (b Bl Br Bd base d : Nat) (W : World) (acc : List JV) (v : Value) : Prop where
  box : W.heap[Bl]? = some (.cells #[v] 57 (0, 0))
  rd : W.heap[Br]? = some (.cells #[.pointer (some ⟨b, 0, none⟩)] 70 (0, 0))
  dp : W.heap[Bd]? = some (.cells #[.int .i64 (d : Int)] 3 (0, 0))
  own : OwnL (SBL W base Bl v) W base v acc
  b0 : Below w0.heap.size w0 W
  lb : b < base
  ll : base ≤ Bl
  lr : base ≤ Br
  ld : base ≤ Bd
  lo : w0.heap.size ≤ b
theorem LIL.cells {w0 W : World} {b Bl Br Bd base d : Nat} {acc : List JV} {v : Value} (h : LIL w0 b Bl Br Bd base d W acc v) : W.cell? ⟨Bl, 0, none⟩ = some v ∧ W.cell? ⟨Br, 0, none⟩ = some (.pointer (some ⟨b, 0, none⟩)) ∧ W.cell? ⟨Bd, 0, none⟩ = some (.int .i64 (d : Int)) ∧ W.frozen? ⟨Bl, 0, none⟩ = false := by
  refine ⟨?_, ?_, ?_, ?_⟩
  · unfold World.cell?; rw [h.box]; rfl
  · unfold World.cell?; rw [h.rd]; rfl
  · unfold World.cell?; rw [h.dp]; rfl
  · unfold World.frozen?; rw [h.box]; rfl
theorem LIL.touch {w0 W W' : World} {b Bl Br Bd base d : Nat} {acc : List JV} {v : Value} (h : LIL w0 b Bl Br Bd base d W acc v) (t : Touch (fun i => i = b) W W') : LIL w0 b Bl Br Bd base d W' acc v := by
  have lt : ∀ {B : Nat} {o : Obj}, W.heap[B]? = some o → B < W.heap.size := fun h => (Array.getElem?_eq_some_iff.1 h).1
  have hb := h.lb
  have k : ∀ i, base ≤ i → i < W.heap.size → W'.heap[i]? = W.heap[i]? := fun i hi hs => t.block i hs (by omega)
  refine ⟨(k _ h.ll (lt h.box)).trans h.box, (k _ h.lr (lt h.rd)).trans h.rd, (k _ h.ld (lt h.dp)).trans h.dp, ?_, stay h.b0 t h.lo, h.lb, h.ll, h.lr, h.ld, h.lo⟩
  obtain ⟨xs, ho, hx⟩ := h.own
  exact OwnL.keep ⟨xs, ho, hx⟩ (fun i hi => ⟨hi.1, Nat.lt_of_lt_of_le hi.2.1 t.size, hi.2.2.1, hi.2.2.2⟩) (fun i hi => k i hi.1 hi.2.1) (fun g hg => k g (ho.lt g hg).1 (ho.lt g hg).2)
theorem LIL.cellsB {w0 W W' : World} {b Bl Br Bd base d : Nat} {acc : List JV} {v : Value} (h : LIL w0 b Bl Br Bd base d W acc v) (hb : Below W.heap.size W W') : W'.cell? ⟨Bl, 0, none⟩ = some v ∧ W'.cell? ⟨Br, 0, none⟩ = some (.pointer (some ⟨b, 0, none⟩)) ∧ W'.cell? ⟨Bd, 0, none⟩ = some (.int .i64 (d : Int)) := by
  have lt : ∀ {B : Nat} {o : Obj}, W.heap[B]? = some o → B < W.heap.size := fun h => (Array.getElem?_eq_some_iff.1 h).1
  obtain ⟨c0, c1, c2, -⟩ := h.cells
  exact ⟨(hb.cell (p := ⟨Bl, 0, none⟩) (lt h.box)).trans c0, (hb.cell (p := ⟨Br, 0, none⟩) (lt h.rd)).trans c1, (hb.cell (p := ⟨Bd, 0, none⟩) (lt h.dp)).trans c2⟩
/-- behind the append and the store of the row -/
theorem LIL.push {w0 W W1 W3 W4 : World} {b Bl Br Bd base d : Nat} {acc : List JV} {v : Value} (h : LIL w0 b Bl Br Bd base d W1 acc v) (hW : Bl < W.heap.size ∧ (∀ g, v.ownBlock = some g → g < W.heap.size) ∧ W.heap.size ≤ W1.heap.size) {xs : List Value} (hown : W1.ownsRow base 20 1 v acc.length xs) (hel : ∀ (j : Nat) (hj : j < acc.length), ∃ x, xs[j]? = some x ∧ AV (SBL W1 base Bl v) W1 acc[j] x)
    {u : JV} {x : Value} {E : Prop} (hx : E → AV (fun i => W.heap.size ≤ i ∧ i < W1.heap.size) W1 u x) (h3 : Below W1.heap.size W1 W3) {g cap : Nat} (ho : W4.ownsRow base 20 1 (.slice (some ⟨g, 0, none⟩) (acc.length + 1) cap) (acc.length + 1) (xs ++ [x])) (hg : W3.grownBy W4 v.ownBlock) (hg2 : v.ownBlock = some g ∨ g = W3.heap.size) :
    (W4.cell? ⟨Bl, 0, none⟩ = some v ∧ W4.cell? ⟨Br, 0, none⟩ = some (.pointer (some ⟨b, 0, none⟩)) ∧ W4.cell? ⟨Bd, 0, none⟩ = some (.int .i64 (d : Int))) ∧ W4.frozen? ⟨Bl, 0, none⟩ = false ∧ (E → LIL w0 b Bl Br Bd base d (W4.setCell ⟨Bl, 0, none⟩ (.slice (some ⟨g, 0, none⟩) (acc.length + 1) cap)) (acc ++ [u]) (.slice (some ⟨g, 0, none⟩) (acc.length + 1) cap)) ∧ FrK b base W1 (W4.setCell ⟨Bl, 0, none⟩ (.slice (some ⟨g, 0, none⟩) (acc.length + 1) cap)) ∧ (∀ i, i < base → W4.heap[i]? = W1.heap[i]?) ∧ (W4.setCell ⟨Bl, 0, none⟩ (.slice (some ⟨g, 0, none⟩) (acc.length + 1) cap)).heap[Bl]? = some (.cells #[.slice (some ⟨g, 0, none⟩) (acc.length + 1) cap] 57 (0, 0)) := by
  have lt : ∀ {B : Nat} {o : Obj}, W1.heap[B]? = some o → B < W1.heap.size := fun h => (Array.getElem?_eq_some_iff.1 h).1
  have hll := h.ll
  have hlb := h.lb
  have hb1 := h.b0.size
  have n1 : v.ownBlock ≠ some Bl := own_not_row hown h.box (by decide)
  have n2 : v.ownBlock ≠ some Br := own_not_row hown h.rd (by decide)
  have n3 : v.ownBlock ≠ some Bd := own_not_row hown h.dp (by decide)
  have d1 : Br ≠ Bl := fun e => by
    have h1 := h.box; rw [← e, h.rd] at h1
    simp only [Option.some.injEq, Obj.cells.injEq] at h1
    exact absurd h1.2.1 (by decide)
  have d2 : Bd ≠ Bl := fun e => by
    have h1 := h.box; rw [← e, h.dp] at h1
    simp only [Option.some.injEq, Obj.cells.injEq] at h1
    exact absurd h1.2.1 (by decide)
  have k : ∀ i, i < W1.heap.size → v.ownBlock ≠ some i → W4.heap[i]? = W1.heap[i]? := fun i hi hn =>
    (hg.block i (Nat.lt_of_lt_of_le hi h3.size) (fun e => hn e.symm)).trans (h3.block i hi)
  have hbox := (k Bl (lt h.box) n1).trans h.box
  have hs4 : W1.heap.size ≤ W4.heap.size := Nat.le_trans h3.size hg.size
  have hgW : g < W4.heap.size := (ho.lt g rfl).2
  have hgb : base ≤ g := (ho.lt g rfl).1
  have e5 : ∀ i, i ≠ Bl → (W4.setCell ⟨Bl, 0, none⟩ (.slice (some ⟨g, 0, none⟩) (acc.length + 1) cap)).heap[i]? = W4.heap[i]? := fun i hi => set_far hi
  have hgl : g ≠ Bl := fun e => own_not_row ho hbox (by decide) (congrArg some e)
  have hlow : ∀ i, i < base → W4.heap[i]? = W1.heap[i]? := fun i hi => k i (Nat.lt_of_lt_of_le hi (Nat.le_of_lt (Nat.lt_of_le_of_lt hll (lt h.box)))) (fun e => by have := (hown.lt i e).1; omega)
  have T4 : FrK b base W1 W4 := ⟨hg.os.trans h3.os, hg.tape.trans h3.tape, hg.output.trans h3.output, hs4, fun i hi hn => hlow i (Nat.lt_of_not_le fun e => hn (.inr e))⟩
  refine ⟨?_, ?_, fun hE => ⟨?_, ?_, ?_, ?_, ?_, h.lb, h.ll, h.lr, h.ld, h.lo⟩, frK_trans T4 (touch_set _ (Touch.refl _ _) (.inl (.inr h.ll))), hlow, by simp [World.setCell, Array.getElem?_modify, hbox]⟩
  · refine ⟨?_, ?_, ?_⟩
    · unfold World.cell?; rw [hbox]; rfl
    · unfold World.cell?; rw [k Br (lt h.rd) n2, h.rd]; rfl
    · unfold World.cell?; rw [k Bd (lt h.dp) n3, h.dp]; rfl
  · unfold World.frozen?; rw [hbox]; rfl
  · simp [World.setCell, Array.getElem?_modify, hbox]
  · exact (e5 _ d1).trans ((k Br (lt h.rd) n2).trans h.rd)
  · exact (e5 _ d2).trans ((k Bd (lt h.dp) n3).trans h.dp)
  · have hS : ∀ i, SBL W1 base Bl v i → SBL (W4.setCell ⟨Bl, 0, none⟩ (.slice (some ⟨g, 0, none⟩) (acc.length + 1) cap)) base Bl (.slice (some ⟨g, 0, none⟩) (acc.length + 1) cap) i := fun i hi => by
      have h31 := h3.size
      refine ⟨hi.1, by have := hi.2.1; rw [set_size1]; omega, hi.2.2.1, fun e => ?_⟩
      have e' : g = i := by injection e
      rcases hg2 with h' | h'
      · exact hi.2.2.2 (e' ▸ h')
      · have := hi.2.1; omega
    have hxx : AV (SBL W1 base Bl v) W1 u x := (hx hE).kept (fun i hi => ⟨by omega, hi.2, by omega, fun e => by have := hW.2.1 i e; omega⟩) (KeptS.refl _ _)
    have hown5 : (W4.setCell ⟨Bl, 0, none⟩ (.slice (some ⟨g, 0, none⟩) (acc.length + 1) cap)).ownsRow base 20 1 (.slice (some ⟨g, 0, none⟩) (acc.length + 1) cap) (acc.length + 1) (xs ++ [x]) := own_of_block ho (fun g' hg' => e5 _ (fun e => hgl (by
      have : g = g' := by injection hg'
      rw [this, e])))
    have hl : xs.length = acc.length := by have := hown.1; omega
    have hsn := OwnL.snoc (S := SBL W1 base Bl v) hel hxx hl hown5 (fun i hi => (e5 i hi.2.2.1).trans (k i hi.2.1 hi.2.2.2))
    exact OwnL.keep hsn hS (fun _ _ => rfl) (fun _ _ => rfl)
  · refine h.b0.trans ?_
    exact (frK_trans T4 (touch_set _ (Touch.refl _ _) (.inl (.inr h.ll)))).below (fun i hi => by have := h.lo; omega) hb1
end Go.Proofs.YtcmkepkeeahioaaGreatDoor
namespace Go.Proofs.YtcmkepkeeahioaaGreatDoor
open Go.RowKit
/-- one value more of a list -/
def stepL (d f : Nat) (r : List UInt8) (acc : List JV) : List JV × List UInt8 × Nat :=
  if (valV f (d + 1) r).2.2 = 0 then (acc ++ [(valV f (d + 1) r).1], (valV f (d + 1) r).2.1, 0) else (acc, (valV f (d + 1) r).2.1, (valV f (d + 1) r).2.2)
theorem stepL_len (d f : Nat) (r : List UInt8) (acc : List JV) (h : (stepL d f r acc).2.2 = 0) : (stepL d f r acc).1.length = acc.length + 1 := by
  unfold stepL at h ⊢
  by_cases e : (valV f (d + 1) r).2.2 = 0
  · rw [if_pos e]; simp
  · rw [if_neg e] at h; exact absurd h e
theorem stepL_rest (d f : Nat) (r : List UInt8) (acc : List JV) : (stepL d f r acc).2 = (valV f (d + 1) r).2 := by
  unfold stepL
  by_cases e : (valV f (d + 1) r).2.2 = 0
  · rw [if_pos e]; show ((valV f (d + 1) r).2.1, 0) = _; rw [← e]
  · rw [if_neg e]
/-- the box of the row holds a row -/
def JL (Bl : Nat) (W : World) : Prop := ∃ v, W.heap[Bl]? = some (.cells #[v] 57 (0, 0))
def IL (w0 : World) (b Bl Br Bd base d : Nat) (W : World) (acc : List JV) : Prop := ∃ v, LIL w0 b Bl Br Bd base d W acc v
set_option maxRecDepth 100000 in
set_option maxHeartbeats 4000000 in
theorem rd_list1 (w0 : World) (b Bl Br Bd base d f n : Nat) (s : ByteArray) (r : List UInt8) (acc : List JV) (w : World) (hd : d ≤ 100) (hal : acc.length ≤ 1000000)
    (HV : ∀ W, RL b s r 0 W → Below w0.heap.size w0 W → Calls Tryz.prog 30 #[.pointer (some ⟨b, 0, none⟩), .int .i64 ((d : Int) + 1)] W (VPost b s (valV f (d + 1) r) W))
    (h : RL b s r 0 w) (hi : IL w0 b Bl Br Bd base d w acc) :
    Calls Tryz.prog 70 #[.int .i64 (n : Int), .pointer (some ⟨Bl, 0, none⟩), .pointer (some ⟨Br, 0, none⟩), .pointer (some ⟨Bd, 0, none⟩)] w (OnePost b base s (JL Bl) (IL w0 b Bl Br Bd base d) (stepL d f r acc) w) := by
  obtain ⟨v, hli⟩ := hi
  obtain ⟨xs, hown, hel⟩ := id hli.own
  obtain ⟨a, c, rfl⟩ := slice_of_own hown
  obtain ⟨k0, k1, k2, -⟩ := hli.cells
  have td : IntKind.i64.wrap ((d : Int) + 1) = (d : Int) + 1 := by rw [IntKind.wrap_i64]; omega
  have HVV := Lib.hid (HV w.drew h hli.b0.drew)
  have HLI := Lib.hid hli
  have hsz : Bl < w.heap.size := (Array.getElem?_eq_some_iff.1 hli.box).1
  have hso : ∀ g, (Value.slice a acc.length c).ownBlock = some g → g < w.heap.size := fun g hg => (hown.lt g hg).2
  have HSO := Lib.hid (And.intro hsz hso)
  have hli0 : base ≤ w.heap.size := Nat.le_trans hli.ll (Nat.le_of_lt hsz)
  obtain ⟨p, hp⟩ : ∃ p, valV f (d + 1) r = p := ⟨_, rfl⟩
  rw [hp] at HVV
  have HP := Lib.hid hp
  clear HV hown hel hli hp hsz hso
  go_enter Tryz.func70, Tryz.ntmps70
  go_wp2_with fail
  refine wp_region_K 7 (fun w' => w'.cell? ⟨Bl, 0, none⟩ = some (.slice a acc.length c) ∧ w'.cell? ⟨Br, 0, none⟩ = some (.pointer (some ⟨b, 0, none⟩)) ∧ w'.cell? ⟨Bd, 0, none⟩ = some (.int .i64 (d : Int))) (by kernel_rfl) ?_
  refine wpAnyK_take (i := 0) (v := .slice a acc.length c) rfl (by kernel_rfl) (by kernel_rfl) (by kernel_rfl) (by kernel_rfl) (by kernel_rfl) (fun _ _ _ h => h) (Or.inl ⟨by rfl, fun W hSw => (by obtain ⟨s0, s1, s2⟩ := hSw; clear k0 k1 k2; go_simp)⟩) ⟨k0, k1, k2⟩ ?_
  refine wpAnyK_take (i := 1) (v := .pointer (some ⟨b, 0, none⟩)) rfl (by kernel_rfl) (by kernel_rfl) (by kernel_rfl) (by kernel_rfl) (by kernel_rfl) (fun _ _ _ h => h) (Or.inl ⟨by rfl, fun W hSw => (by obtain ⟨s0, s1, s2⟩ := hSw; clear k0 k1 k2; go_simp)⟩) ⟨k0, k1, k2⟩ ?_
  refine wpAnyK_take (i := 2) (v := .int .i64 (d : Int)) rfl (by kernel_rfl) (by kernel_rfl) (by kernel_rfl) (by kernel_rfl) (by kernel_rfl) (fun _ _ _ h => h) (Or.inl ⟨by rfl, fun W hSw => (by obtain ⟨s0, s1, s2⟩ := hSw; clear k0 k1 k2; go_simp)⟩) ⟨k0, k1, k2⟩ ?_
  refine wpAnyK_take (i := 3) (v := .int .i64 ((d : Int) + 1)) rfl (by kernel_rfl) (by kernel_rfl) (by kernel_rfl) (by kernel_rfl) (by kernel_rfl) (fun _ _ _ h => h) (Or.inl ⟨by rfl, fun W hSw => (by obtain ⟨s0, s1, s2⟩ := hSw; clear k0 k1 k2; go_simp)⟩) ⟨k0, k1, k2⟩ ?_
  try simp only [Act.put, List.setIfInBounds_toArray, List.set_cons_zero, List.set_cons_succ]
  refine wpAnyK_one (i := 4) (by kernel_rfl) rfl (fun K hK => ?_)
  have HK4 := Lib.hid hK
  clear hK
  go_simp
  go_at_call 30
  refine HVV.out.mono ?_
  rintro e w1 ⟨x, rfl, x1, r1, t1, av1⟩
  have hl1 := LIL.touch (LIL.touch HLI.out ((Touch.refl _ w).drewN 1)) t1
  obtain ⟨xs, hown, hel⟩ := id hl1.own
  have hsz1 : w.heap.size ≤ w1.heap.size := t1.size
  have h3 : Below w1.heap.size w1 (w1.alloc (.cells #[x] 20)) := (Below.refl _ _).alloc (Nat.le_refl _) _
  refine HK4.out _ _ (fun _ => LIL.cellsB hl1 (Below.refl _ _)) ?_
  try simp only [Act.put, List.setIfInBounds_toArray, List.set_cons_zero, List.set_cons_succ]
  refine wpAnyK_one (i := 5) (by kernel_rfl) rfl (fun K5 hK5 => ?_)
  refine step_build1 _ rfl _ rfl x rfl x1 ?_
  refine hK5 _ _ (fun _ => LIL.cellsB hl1 h3) ?_
  try simp only [Act.put, List.setIfInBounds_toArray, List.set_cons_zero, List.set_cons_succ]
  refine wpAnyK_one (i := 6) (by kernel_rfl) rfl (fun K6 hK6 => ?_)
  refine step_append1 _ rfl _ _ rfl base (.slice a acc.length c) acc.length xs rfl (own_of_block hown (fun g hg => h3.block g (hown.lt g hg).2)) w1.heap.size x (heap_alloc_new w1 _) (by simpa using x1) rfl (by omega) (Nat.le_trans (Nat.le_trans hli0 hsz1) h3.size) (fun g cap w4 ho hg hg2 => ?_)
  obtain ⟨⟨p0, p1, p2⟩, pf, pI, pF, pL, pB⟩ := LIL.push hl1 ⟨HSO.out.1, HSO.out.2, hsz1⟩ hown hel av1 h3 ho hg hg2
  refine hK6 _ _ (fun _ => ⟨p0, p1, p2⟩) ?_
  try simp only [Act.put, List.setIfInBounds_toArray, List.set_cons_zero, List.set_cons_succ]
  refine wpAnyK_one (i := 7) (by kernel_rfl) rfl (fun K7 hK7 => ?_)
  have HK7 := Lib.hid hK7
  have HPI := Lib.hid pI
  have HJ : Hid (JL Bl (w4.setCell ⟨Bl, 0, none⟩ (.slice (some ⟨g, 0, none⟩) (acc.length + 1) cap))) := Lib.hid ⟨_, pB⟩
  have HPF := Lib.hid (frK_trans (frK_of (touch2 ((Touch.refl _ w).drewN 1) t1)) pF)
  have hne : b ≠ Bl := fun e => by have h1 := hl1.lb; have h2 := hl1.ll; omega
  have HRL : Hid (RL b s p.2.1 p.2.2 (w4.setCell ⟨Bl, 0, none⟩ (.slice (some ⟨g, 0, none⟩) (acc.length + 1) cap))) := Lib.hid ⟨(set_far hne).trans ((pL b hl1.lb).trans r1.1), r1.2⟩
  clear hK7 hK6 hK5 HK4 pI pF pL pB r1 t1 av1 hl1 hown hel ho hg hg2 h3 p1 p2
  go_simp
  refine HK7.out _ _ (fun h => absurd h (by decide)) ?_
  refine wpAnyK_done (by kernel_rfl) ?_ _
  go_end0
  have hq := stepL_rest d f r acc
  rw [HP.out] at hq
  refine ⟨rfl, by rw [hq]; exact HRL.out, ⟨HPF.out, HJ.out⟩, fun h => ?_⟩
  rw [hq] at h
  have hq1 : (stepL d f r acc).1 = acc ++ [p.1] := by unfold stepL; rw [HP.out, if_pos h]
  rw [hq1]
  exact ⟨_, HPI.out h⟩
end Go.Proofs.YtcmkepkeeahioaaGreatDoor
