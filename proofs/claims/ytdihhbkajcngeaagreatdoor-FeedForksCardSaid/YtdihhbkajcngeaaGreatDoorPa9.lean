/- over and same of the laws of layer 45; Fork. same of the laws of layer 45. What Fork of package feed does; feeds that are not there. The small example of the laws of layer 45. Plain words for the laws of feeds; Put in either state. The law FeedTakes. What the listed variables give. The law functions of layer 45, as the rows' proofs take them: FeedTakes. Rows of replies appended; two feeds side by side; pieces (plain). The law FeedPieces. The law functions of layer 45, as the rows' proofs take them: FeedPieces. What FeedForks keeps: the states of feeds by pieces (plain); rows of rows of replies. -/
import Derived.Test.YtdihhbkajcngeaaGreatDoorPa8
import Derived.Test.YtdihhbkajcngeaaGreatDoorRows
import Derived.OpenShut
import Derived.MakeChecks
import Derived.Stop.LaidErr
import Derived.PinnedBridge
import Derived.Lib.LaidU8T
import Derived.Lib.SmallJoins
import Derived.ChangeSame
import Derived.ChangeArms
import Derived.WideShapes
import Derived.Laws.OwnMore
set_option linter.unusedVariables false
namespace Go.Proofs.YtdihhbkajcngeaaGreatDoor
open Go.RowKit Go.Shelf Go.Lib
/-- how many bytes stand in the first k pieces -/
def offF (l : List (List UInt8)) (k : Nat) : Nat := (l.take k).flatten.length
theorem offF_zero (l : List (List UInt8)) : offF l 0 = 0 := rfl
theorem offF_succ (l : List (List UInt8)) (k : Nat) (h : k < l.length) : offF l (k + 1) = offF l k + l[k].length := by
  unfold offF
  rw [List.take_succ_eq_append_getElem h, List.flatten_append, List.length_append]
  simp
theorem offF_all (l : List (List UInt8)) : offF l l.length = l.flatten.length := by unfold offF; rw [List.take_length]
theorem offF_le (l : List (List UInt8)) (k : Nat) : offF l k ≤ l.flatten.length := by
  unfold offF
  conv => rhs; rw [← List.take_append_drop k l, List.flatten_append, List.length_append]
  omega
def overB (l : List (List UInt8)) (most bytes : Nat) : Bool := decide (bytes < l.flatten.length) || decide (most < l.length)
set_option maxRecDepth 100000 in
set_option maxHeartbeats 1000000 in
theorem over45 (v : Value) (l : List (List UInt8)) (N M : Nat) (w : World) (hM : M ≤ 100000) (hN : N ≤ 100000) (hv : StrArg w v l) :
    Calls Tryz.prog 7 #[v, .int .i64 (N : Nat), .int .i64 (M : Nat)] w fun e w' => e = .returned (.bool (overB l N M)) ∧ w' = w := by
  obtain ⟨⟨a, c, rfl, hc, hx⟩, hsz, hll⟩ := hv
  unfold maxLen at hll
  have HX := Lib.hid hx
  have HZ := Lib.hid hsz
  have HT : Hid (∀ k (hk : k < l.length), M < offF l (k + 1) → overB l N M = true) := Lib.hid (fun k hk h => by unfold overB; rw [decide_eq_true (Nat.lt_of_lt_of_le h (offF_le l _))]; rfl)
  have HE : Hid (offF l l.length ≤ M → overB l N M = decide (N < l.length)) := Lib.hid (fun h => by
    rw [offF_all] at h
    unfold overB; rw [decide_eq_false (by omega), Bool.false_or])
  clear hx hsz
  generalize overB l N M = B at HT HE ⊢
  go_enter Tryz.func7, Tryz.ntmps7
  go_wp2_with fail
  go_loop [2, 7] (fun t i => ∃ k : Nat, k ≤ l.length ∧ i = .int .i64 k ∧ offF l k ≤ M ∧ t = .int .i64 ((M : Int) - (offF l k : Nat))) (fun _ i => l.length - (intOf i).toNat)
  case atStart => exact ⟨0, by omega, rfl, by rw [offF_zero]; omega, by rw [offF_zero]; simp⟩
  case round =>
    obtain ⟨k, hk, rfl, hle, rfl⟩ := hrel
    by_cases hlt : k < l.length
    · obtain ⟨b, o, rfl, hbl, hcell⟩ := HX.out (fun e => by rw [e] at hlt; exact absurd hlt (Nat.not_lt_zero _))
      have c0 := hcell k hlt
      have hs := offF_succ l k hlt
      have hz := HZ.out l[k] (List.getElem_mem hlt)
      unfold maxLen at hz
      have hbz := bs_size l[k]
      have hT := Lib.hid (HT.out k hlt)
      clear hcell HX HZ HT
      generalize bs l[k] = X at c0 hbz
      obtain ⟨n, hn⟩ : ∃ n, n = l[k].length := ⟨_, rfl⟩
      rw [← hn] at hs hz hbz
      clear hn
      obtain ⟨q, hq⟩ : ∃ q, q = offF l k := ⟨_, rfl⟩
      rw [← hq] at hs hle ⊢
      have Hs := Lib.hid hs
      clear hs hq
      by_cases hbig : M < q + n
      · have t1 : decide ((M : Int) - (q : Int) - (n : Int) < 0) = true := decide_eq_true (by omega)
        have HB := Lib.hid (hT.out (by rw [Hs.out]; exact hbig))
        clear hT
        go_wp2_with fail
        go_ret
        exact ⟨by rw [HB.out]; rfl, rfl⟩
      · have t1 : decide ((M : Int) - (q : Int) - (n : Int) < 0) = false := decide_eq_false (by omega)
        clear hT
        go_wp2_with fail
        go_round
        case rel => exact ⟨k + 1, by omega, by go_num, by rw [Hs.out]; omega, by rw [Hs.out]; congr 1; omega⟩
        case measure => simp [intOf]; omega
    · obtain rfl : k = l.length := by omega
      have HB := Lib.hid (HE.out hle)
      clear HE HT HX HZ
      go_wp2_with fail
      go_ret
      exact ⟨by rw [HB.out]; rfl, rfl⟩
end Go.Proofs.YtdihhbkajcngeaaGreatDoor
namespace Go.Proofs.YtdihhbkajcngeaaGreatDoor
open Go.RowKit Go.Shelf Go.Lib
/-- the slice v reads, in the world w, as the replies rs -/
def HoldsQ (w : World) (v : Value) (rs : List (Int × List (List UInt8 × List UInt8) × List UInt8)) : Prop :=
  ∃ a c, v = .slice a rs.length c ∧ rs.length ≤ c ∧ (rs ≠ [] → ∃ b o, a = some ⟨b, o, none⟩ ∧ b < w.heap.size ∧ ∀ j (hj : j < rs.length), w.cell? ⟨b, o + j * 3, none⟩ = some (.int .i64 rs[j].1) ∧ (∃ fa fc, w.cell? ⟨b, o + j * 3 + 1, none⟩ = some (.slice fa rs[j].2.1.length fc) ∧ HoldsF w (.slice fa rs[j].2.1.length fc) rs[j].2.1) ∧ w.cell? ⟨b, o + j * 3 + 2, none⟩ = some (.string (bs rs[j].2.2)))
theorem HoldsQ.below {w w' : World} {v : Value} {rs : List (Int × List (List UInt8 × List UInt8) × List UInt8)} (h : HoldsQ w v rs) (hb : Below w.heap.size w w') : HoldsQ w' v rs := by
  obtain ⟨a, c, hv, hc, hx⟩ := h
  refine ⟨a, c, hv, hc, fun hne => ?_⟩
  obtain ⟨b, o, ha, hlt, hcell⟩ := hx hne
  refine ⟨b, o, ha, Nat.lt_of_lt_of_le hlt hb.size, fun j hj => ?_⟩
  obtain ⟨h1, ⟨fa, fc, h2, h3⟩, h4⟩ := hcell j hj
  exact ⟨(hb.cell (p := ⟨b, o + j * 3, none⟩) hlt).trans h1, ⟨fa, fc, (hb.cell (p := ⟨b, o + j * 3 + 1, none⟩) hlt).trans h2, h3.below hb⟩, (hb.cell (p := ⟨b, o + j * 3 + 2, none⟩) hlt).trans h4⟩
theorem HoldsQ.of_rows {w : World} {B : Nat} {e ef : TypeId} {v : Value} {rs : List (Int × List (List UInt8 × List UInt8) × List UInt8)} (fs : List Value) (h1 : fs.length = rs.length) (h2 : w.ownsRow B e 3 v rs.length (rcells rs fs)) (h3 : ∀ j (hj : j < rs.length) (hf : j < fs.length), ∃ a c, fs[j] = .slice a (rs[j].2.1).length c ∧ w.ownsRow 0 ef 2 fs[j] (rs[j].2.1).length (fcells rs[j].2.1)) : HoldsQ w v rs := by
  rcases h2.2 with ⟨rfl, h0⟩ | ⟨g, cap, cur, rfl, hb, hg, hle, hm, hs, ht⟩
  · have : rs = [] := List.eq_nil_of_length_eq_zero h0
    subst this
    exact ⟨none, 0, rfl, Nat.le_refl _, fun h => absurd rfl h⟩
  · refine ⟨_, cap, rfl, hle, fun _ => ⟨g, 0, rfl, (Array.getElem?_eq_some_iff.1 hg).1, fun j hj => ?_⟩⟩
    obtain ⟨a, c, e1, e2⟩ := h3 j hj (by omega)
    obtain ⟨g1, g2, g3⟩ := rcells_get rs fs h1 j hj
    have e0 : ∀ k, (⟨g, 0, none⟩ : Addr).add k = ⟨g, 0 + k, none⟩ := fun k => by unfold Addr.add; split <;> simp_all
    have k1 := h2.cells (g := g) rfl _ _ g1
    have k2 := h2.cells (g := g) rfl _ _ g2
    have k3 := h2.cells (g := g) rfl _ _ g3
    rw [e0] at k1 k2 k3
    rw [e1] at k2 e2
    exact ⟨k1, ⟨a, c, k2, HoldsF.of_own e2⟩, k3⟩
theorem ROwn.holds {w : World} {B : Nat} {v : Value} {rs : List (Int × List (List UInt8 × List UInt8) × List UInt8)} (h : ROwn w B v rs) : HoldsQ w v rs := let ⟨fs, h1, h2, h3⟩ := h; HoldsQ.of_rows fs h1 h2 h3
theorem QOwn.holds {w : World} {B : Nat} {v : Value} {rs : List (Int × List (List UInt8 × List UInt8) × List UInt8)} (h : QOwn w B v rs) : HoldsQ w v rs := let ⟨fs, h1, h2, h3⟩ := h; HoldsQ.of_rows fs h1 h2 h3
theorem HoldsQ.at {w : World} {a : Option Addr} {n c : Nat} {rs : List (Int × List (List UInt8 × List UInt8) × List UInt8)} (h : HoldsQ w (.slice a n c) rs) (k : Nat) (hk : k < rs.length) :
    ∃ b o fa fc, a = some ⟨b, o, none⟩ ∧ ∀ W, Below w.heap.size w W → W.cell? ⟨b, o + k * 3, none⟩ = some (.int .i64 rs[k].1) ∧ W.cell? ⟨b, o + k * 3 + 1, none⟩ = some (.slice fa rs[k].2.1.length fc) ∧ W.cell? ⟨b, o + k * 3 + 2, none⟩ = some (.string (bs rs[k].2.2)) ∧ HoldsF W (.slice fa rs[k].2.1.length fc) rs[k].2.1 := by
  obtain ⟨a', c', hv, hc, hx⟩ := h
  injection hv with e1 e2 e3
  subst e1
  obtain ⟨b, o, rfl, hlt, hcell⟩ := hx (fun e => by rw [e] at hk; exact absurd hk (Nat.not_lt_zero _))
  obtain ⟨h1, ⟨fa, fc, h2, h3⟩, h4⟩ := hcell k hk
  exact ⟨b, o, fa, fc, rfl, fun W hb => ⟨(hb.cell (p := ⟨b, o + k * 3, none⟩) hlt).trans h1, (hb.cell (p := ⟨b, o + k * 3 + 1, none⟩) hlt).trans h2, (hb.cell (p := ⟨b, o + k * 3 + 2, none⟩) hlt).trans h4, h3.below hb⟩⟩
set_option maxRecDepth 100000 in
set_option maxHeartbeats 2000000 in
theorem same45 (va vb : Value) (rs : List (Int × List (List UInt8 × List UInt8) × List UInt8)) (w : World) (ha : HoldsQ w va rs) (hb : HoldsQ w vb rs) (hf : ∀ r ∈ rs, r.2.1.length ≤ 1000000) (hl : rs.length ≤ 2147483647) :
    Calls Tryz.prog 12 #[va, vb] w fun e w' => e = .returned (.bool true) ∧ Below w.heap.size w w' := by
  have HA := Lib.hid ha
  have HB := Lib.hid hb
  obtain ⟨a1, c1, rfl, hc1, -⟩ := ha
  obtain ⟨a2, c2, rfl, hc2, -⟩ := hb
  have HF := Lib.hid hf
  have HB0 : Hid (Below w.heap.size w w) := Lib.hid (Below.refl _ _)
  obtain ⟨n, hn⟩ : ∃ n, rs.length = n := ⟨_, rfl⟩
  rw [hn] at hc1 hc2 hl HA HB ⊢
  clear hf
  go_enter Tryz.func12, Tryz.ntmps12
  go_wp2_with fail
  go_loopg [5] n (fun gk s5 wr => ∃ k : Nat, s5 = .int .i64 (k : Int) ∧ k + gk = n ∧ Hid (Below w.heap.size w wr))
  case atStart => exact ⟨0, by simp, by omega, HB0⟩
  case round =>
    obtain ⟨k, rfl, hgk, HBr⟩ := hrel
    by_cases hk : k < n
    · obtain ⟨g', rfl⟩ : ∃ g', gk = g' + 1 := ⟨gk - 1, by omega⟩
      have hkl : k < rs.length := by omega
      obtain ⟨b1, o1, fa, fc, rfl, H1⟩ := HA.out.at k hkl
      obtain ⟨b2, o2, fb, fd, rfl, H2⟩ := HB.out.at k hkl
      have hfl := HF.out _ (List.getElem_mem hkl)
      obtain ⟨C, hC⟩ : ∃ C, rs[k].1 = C := ⟨_, rfl⟩
      obtain ⟨F, hFF⟩ : ∃ F, rs[k].2.1 = F := ⟨_, rfl⟩
      obtain ⟨B, hBB⟩ : ∃ B, bs rs[k].2.2 = B := ⟨_, rfl⟩
      rw [hC, hFF, hBB] at H1 H2
      rw [hFF] at hfl
      obtain ⟨fl, hfl2⟩ : ∃ fl, F.length = fl := ⟨_, rfl⟩
      have HFL := Lib.hid hfl2
      rw [hfl2] at H1 H2
      have HFl := Lib.hid hfl
      have HX := Lib.hid (fun W hW => H1 W (bstep HBr.out hW))
      have HY := Lib.hid (fun W hW => H2 W (bstep HBr.out hW))
      have HDr : Hid (Below wr.heap.size wr wr.drew) := Lib.hid (Below.refl _ _).drew
      have HS : Hid (∀ W, Below wr.heap.size wr W → W.cell? ⟨b1, o1 + k * 3, none⟩ = some (.int .i64 C) ∧ W.cell? ⟨b1, o1 + k * 3 + 1, none⟩ = some (.slice fa fl fc) ∧ W.cell? ⟨b1, o1 + k * 3 + 2, none⟩ = some (.string B) ∧ W.cell? ⟨b2, o2 + k * 3, none⟩ = some (.int .i64 C) ∧ W.cell? ⟨b2, o2 + k * 3 + 1, none⟩ = some (.slice fb fl fd) ∧ W.cell? ⟨b2, o2 + k * 3 + 2, none⟩ = some (.string B)) := Lib.hid (fun W hW =>
        let ⟨x0, x1, x2, _⟩ := HX.out W hW
        let ⟨y0, y1, y2, _⟩ := HY.out W hW
        ⟨x0, x1, x2, y0, y1, y2⟩)
      have HBk := Lib.hid (law26_back C (.slice fa fl fc) F B wr.drew (HX.out _ HDr.out).2.2.2 (by rw [HFL.out]; have := HFl.out; omega))
      have HRm : Hid (∀ W va, Below wr.heap.size wr W → HoldsF W va F → Calls Tryz.prog 25 #[.agg #[.int .i64 C, va, .string B], .agg #[.int .i64 C, (.slice fb fl fd), .string B]] W fun e w' => e = .returned (.bool true) ∧ Below W.heap.size W w') := Lib.hid (fun W va hW ha => by
        have := ref_sameR C C B B va (.slice fb fl fd) F F W ha ((HY.out _ hW).2.2.2) HFl.out HFl.out
        rw [sameR_refl] at this
        exact this)
      have tk : decide ((k : Int) < (n : Int)) = true := decide_eq_true (by omega)
      clear H1 H2 hfl hfl2 hC hFF hBB HA HB HF hkl
      go_wp2_with fail
      go_region_held3 (fun w' => w'.cell? ⟨b1, o1 + k * 3, none⟩ = some (.int .i64 C) ∧ w'.cell? ⟨b1, o1 + k * 3 + 1, none⟩ = some (.slice fa fl fc) ∧ w'.cell? ⟨b1, o1 + k * 3 + 2, none⟩ = some (.string B) ∧ w'.cell? ⟨b2, o2 + k * 3, none⟩ = some (.int .i64 C) ∧ w'.cell? ⟨b2, o2 + k * 3 + 1, none⟩ = some (.slice fb fl fd) ∧ w'.cell? ⟨b2, o2 + k * 3 + 2, none⟩ = some (.string B)) (first | exact HS.out _ HDr.out | exact HS.out _ HA1.out | exact HS.out _ HA2.out)
        (first
          | (go_at_call 26; refine HBk.out.mono ?_; rintro e wx ⟨ax, cx, rfl, hox, hbx⟩; have HA1 : Hid (Below wr.heap.size wr wx) := Lib.hid (bstep HDr.out hbx); have HOX := Lib.hid (HoldsF.of_own hox); clear hox hbx)
          | (go_at_call 25; refine (HRm.out _ _ HA1.out HOX.out).mono ?_; rintro e wa ⟨rfl, hba⟩; have HA2 : Hid (Below wr.heap.size wr wa) := Lib.hid (bstep HA1.out hba); clear hba))
      have HBn := Lib.hid (bstep HBr.out HA2.out)
      clear HS HDr HA1 HA2 HBk HRm HOX HX HY HBr
      go_wp2_with fail
      go_roundg g'
      case measure => omega
      case rel => exact ⟨k + 1, by simp, by omega, HBn⟩
    · obtain rfl : k = n := by omega
      have tk : decide ((k : Int) < (k : Int)) = false := decide_eq_false (by omega)
      clear HA HB HF
      go_wp2_with fail
      go_ret
      exact ⟨rfl, HBr.out⟩
end Go.Proofs.YtdihhbkajcngeaaGreatDoor
namespace Go.Proofs.YtdihhbkajcngeaaGreatDoor
open Go.RowKit Go.Shelf Go.Lib
set_option maxRecDepth 100000 in
theorem clone_bytes_nil (w : World) : Calls Tryz.prog 32 #[.slice none 0 0] w fun e w' => e = .returned (.slice none 0 0) ∧ w' = w := by
  exact AnyE.slices_Clone_nil layCloneB 0 0 w
theorem clone_ownB (v : Value) (l : List UInt8) (w : World) (h : w.ownsRow 0 5 1 v l.length (bytesV l)) (hl : l.length ≤ 2000000) :
    Calls Tryz.prog 32 #[v] w fun e w' => ∃ v', e = .returned v' ∧ w'.ownsRow w.heap.size 5 1 v' l.length (bytesV l) ∧ Below w.heap.size w w' := by
  rcases id h.2 with ⟨rfl, h0⟩ | ⟨g, cap, cur, rfl, -⟩
  · refine (clone_bytes_nil w).mono ?_
    rintro e w' ⟨rfl, hw⟩
    subst hw
    obtain rfl : l = [] := List.length_eq_zero_iff.1 h0
    exact ⟨_, rfl, World.ownsRow_nil _ _ _ _, Below.refl _ _⟩
  · refine clone_bytes g 0 l.length cap l w rfl hl (h.lt g rfl).2 (fun j u hu => ?_)
    have e0 : ∀ k, (⟨g, 0, none⟩ : Addr).add k = ⟨g, 0 + k, none⟩ := fun k => by unfold Addr.add; split <;> simp_all
    have := h.cells (g := g) rfl j u hu
    rw [e0] at this
    exact this
set_option maxRecDepth 100000 in
set_option maxHeartbeats 2000000 in
theorem feed_fork_at {p : Nat} {m : Int} {l : List UInt8} {e : Nat} {v : Value} {w : World} (h : FAt w p m l e v) (hl : l.length ≤ 2000000) :
    Calls Tryz.prog 20 #[.pointer (some ⟨p, 0, none⟩)] w fun r w' => r = .returned (.pointer (some ⟨w.heap.size, 0, none⟩)) ∧ ∃ v', FAt w' w.heap.size m l e v' ∧ Below w.heap.size w w' ∧ (∀ g, v'.ownBlock = some g → w.heap.size < g) := by
  obtain ⟨c0, c1, c2, c3, f2, f3⟩ := h.cells
  have hpl := h.lt
  have HH := Lib.hid h
  obtain ⟨a, c, hv⟩ := slice_of_own h.own
  obtain ⟨n, hn⟩ : ∃ n, l.length = n := ⟨_, rfl⟩
  rw [hn] at hv
  subst hv
  have HN := Lib.hid hn
  have B1 : Below w.heap.size w (w.alloc (.cells #[.bool true, .int .i64 m, .slice a n c, .int .i64 (e : Nat)] 55)) := (Below.refl _ _).alloc (Nat.le_refl _) _
  have HB1 := Lib.hid B1
  have HFB := Lib.hid (h.below B1)
  have HBK := Lib.hid (heap_alloc_new w (.cells #[.bool true, .int .i64 m, .slice a n c, .int .i64 (e : Nat)] 55))
  have HC := Lib.hid (clone_ownB _ l _ HFB.out.own hl)
  have HSZ : Hid ((w.alloc (.cells #[.bool true, .int .i64 m, .slice a n c, .int .i64 (e : Nat)] 55)).heap.size = w.heap.size + 1) := Lib.hid (by simp)
  clear h hn B1
  go_enter Tryz.func20, Tryz.ntmps20
  go_wp2_with fail
  refine HC.out.mono ?_
  rintro r w1 ⟨v1, rfl, h1, h2⟩
  obtain ⟨a1, k1, hv1⟩ := slice_of_own h1
  rw [HN.out] at hv1
  subst hv1
  have H1 := Lib.hid h1
  have H2 := Lib.hid h2
  have hb1 : w1.heap[w.heap.size]? = _ := (h2.block w.heap.size (by simp)).trans HBK.out
  have g2 : w1.cell? ⟨w.heap.size, 2, none⟩ = some (.slice a n c) := by unfold World.cell?; rw [hb1]; rfl
  have gf : w1.frozen? ⟨w.heap.size, 2, none⟩ = false := by unfold World.frozen?; rw [hb1]; rfl
  have HK := Lib.hid hb1
  clear h1 h2 hb1 HC HFB c0 c1 c2 c3 f2 f3
  go_wp2_with fail
  go_ret
  refine ⟨rfl, .slice a1 n k1, ⟨row_set4 HK.out _, ?_⟩, (HB1.out.trans (H2.out.mono HB1.out.size)).setCell (p := ⟨w.heap.size, 2, none⟩) (Nat.le_refl _) _, fun g hg => ?_⟩
  · refine own_of_block (own_mono H1.out (Nat.zero_le _)) (fun g hg => set_far (fun e => ?_))
    have := (H1.out.lt g hg).1
    rw [HSZ.out] at this
    have e2 : g = w.heap.size := e
    omega
  · have := (H1.out.lt g hg).1
    rw [HSZ.out] at this
    omega
set_option maxRecDepth 100000 in
theorem feed_fork_nil (w : World) : Calls Tryz.prog 20 #[.pointer none] w fun r w' => r = .returned (.pointer none) ∧ w' = w := by
  go_enter Tryz.func20, Tryz.ntmps20
  go_wp2_with fail
  go_ret
  exact ⟨rfl, rfl⟩
set_option maxRecDepth 100000 in
theorem feed_put_nil (s : ByteArray) (w : World) : Calls Tryz.prog 10 #[.pointer none, .string s] w fun r w' => r = .returned (.tuple #[.slice none 0 0, .int .i64 1]) ∧ w' = w := by
  have HN := Lib.hid (feed_none_nil w)
  go_enter Tryz.func10, Tryz.ntmps10
  go_wp2_with fail
  refine HN.out.mono ?_
  rintro r w' ⟨rfl, hww⟩
  obtain rfl := hww.symm
  go_wp2_with fail
  go_ret2
  exact ⟨rfl, rfl⟩
set_option maxRecDepth 100000 in
theorem feed_put_zero (p : Nat) (s : ByteArray) (w : World) (h : w.cell? ⟨p, 0, none⟩ = some (.bool false)) : Calls Tryz.prog 10 #[.pointer (some ⟨p, 0, none⟩), .string s] w fun r w' => r = .returned (.tuple #[.slice none 0 0, .int .i64 1]) ∧ w' = w := by
  have HN := Lib.hid (feed_none_zero p w h)
  go_enter Tryz.func10, Tryz.ntmps10
  go_wp2_with fail
  refine HN.out.mono ?_
  rintro r w' ⟨rfl, hww⟩
  obtain rfl := hww.symm
  go_wp2_with fail
  go_ret2
  exact ⟨rfl, rfl⟩
set_option maxRecDepth 100000 in
theorem feed_end_nil (w : World) : Calls Tryz.prog 15 #[.pointer none] w fun r w' => r = .returned (.int .i64 1) ∧ w' = w := by
  have HN := Lib.hid (feed_none_nil w)
  go_enter Tryz.func15, Tryz.ntmps15
  go_wp2_with fail
  refine HN.out.mono ?_
  rintro r w' ⟨rfl, hww⟩
  obtain rfl := hww.symm
  go_wp2_with fail
  go_ret
  exact ⟨rfl, rfl⟩
set_option maxRecDepth 100000 in
theorem feed_rest_nil (w : World) : Calls Tryz.prog 13 #[.pointer none] w fun r w' => r = .returned (.int .i64 0) ∧ w' = w := by
  have HN := Lib.hid (feed_none_nil w)
  go_enter Tryz.func13, Tryz.ntmps13
  go_wp2_with fail
  refine HN.out.mono ?_
  rintro r w' ⟨rfl, hww⟩
  obtain rfl := hww.symm
  go_wp2_with fail
  go_ret
  exact ⟨rfl, rfl⟩
set_option maxRecDepth 100000 in
theorem feed_bad_zero (p : Nat) (w : World) (h : w.cell? ⟨p, 0, none⟩ = some (.bool false)) : Calls Tryz.prog 14 #[.pointer (some ⟨p, 0, none⟩)] w fun r w' => r = .returned (.int .i64 1) ∧ w' = w := by
  have HN := Lib.hid (feed_none_zero p w h)
  go_enter Tryz.func14, Tryz.ntmps14
  go_wp2_with fail
  refine HN.out.mono ?_
  rintro r w' ⟨rfl, hww⟩
  obtain rfl := hww.symm
  go_wp2_with fail
  go_ret
  exact ⟨rfl, rfl⟩
end Go.Proofs.YtdihhbkajcngeaaGreatDoor
namespace Go.Proofs.YtdihhbkajcngeaaGreatDoor
open Go.RowKit
/-- the pieces of the example -/
def a451 : List UInt8 := [72, 84, 84, 80, 47, 49, 46, 49, 32, 50, 48, 48, 32, 79, 75, 13, 10, 67, 111, 110, 116, 101, 110, 116, 45, 76, 101, 110, 103, 116, 104, 58, 32, 50, 13, 10, 13, 10, 97]
def a452 : List UInt8 := [98, 72, 84, 84, 80, 47, 49, 46, 49, 32, 52, 48, 52, 13, 10, 67, 111, 110, 116, 101, 110, 116, 45, 76, 101, 110, 103, 116, 104, 58, 32, 48, 13, 10, 13, 10]
def a453 : List UInt8 := [120, 13, 10, 13, 10]
set_option maxRecDepth 100000 in
theorem ev1 : feedOf 9 a451 = ([], a451, 0) := feed_short 9 a451 (by decide +kernel)
set_option maxRecDepth 100000 in
theorem ev2 : (feedOf 9 (a451 ++ a452)).2 = ([], 0) ∧ (feedOf 9 (a451 ++ a452)).1.length = 2 := by decide +kernel
set_option maxRecDepth 100000 in
theorem ev3 : (feedOf 9 (a451 ++ a452)).1.map (fun r => (r.1, r.2.2)) = [(200, [97, 98]), (404, [])] := by decide +kernel
set_option maxRecDepth 100000 in
theorem ev4 : feedOf 9 a453 = ([], [], 13) := by
  have h : takE (bs a453) 9 = 13 := by decide +kernel
  rw [feed_bad 9 a453 (by rw [h]; decide) (by rw [h]; decide), h]
end Go.Proofs.YtdihhbkajcngeaaGreatDoor
namespace Go.Proofs.YtdihhbkajcngeaaGreatDoor
open Go.RowKit Go.Shelf Go.Lib
def putR (m : Int) (l : List UInt8) (e : Nat) (s : List UInt8) : List (Int × List (List UInt8 × List UInt8) × List UInt8) × List UInt8 × Nat := if e = 0 then feedOf m (l ++ s) else ([], l, e)
/-- few and small replies come -/
def CountOk (m : Int) (l : List UInt8) : Prop := (feedOf m l).1.length + (feedOf m l).2.1.length ≤ l.length ∧ ∀ r ∈ (feedOf m l).1, r.2.1.length ≤ 17
theorem feed_count (m : Int) : ∀ l, CountOk m l := by
  refine feed_ind m (CountOk m) ?_
  intro l ih
  unfold CountOk at ih ⊢
  by_cases h0 : takE (bs l) m = 0
  · have ih0 := ih h0
    rw [feed_more m l h0]
    obtain ⟨n1, n2, n3⟩ := tak_n l m h0
    rw [List.length_drop] at ih0
    have hF := takF_len (bs l) m
    generalize feedOf m (l.drop (takN (bs l) m).toNat) = R at ih0 ⊢
    obtain ⟨i1, i2⟩ := ih0
    refine ⟨?_, fun r hr => ?_⟩
    · show (R.1.length + 1) + R.2.1.length ≤ l.length
      omega
    · rcases List.mem_cons.1 hr with rfl | hr
      · exact hF
      · exact i2 r hr
  · by_cases h3 : takE (bs l) m = 3
    · rw [feed_short m l h3]
      exact ⟨by show 0 + l.length ≤ l.length; omega, (fun r hr => absurd hr List.not_mem_nil)⟩
    · rw [feed_bad m l h0 h3]
      exact ⟨by show 0 + 0 ≤ l.length; omega, (fun r hr => absurd hr List.not_mem_nil)⟩
theorem putR_count (m : Int) (l : List UInt8) (e : Nat) (s : List UInt8) : (putR m l e s).1.length + (putR m l e s).2.1.length ≤ l.length + s.length ∧ (∀ r ∈ (putR m l e s).1, r.2.1.length ≤ 1000000) := by
  unfold putR
  split
  · obtain ⟨h1, h2⟩ := feed_count m (l ++ s)
    rw [List.length_append] at h1
    exact ⟨h1, fun r hr => Nat.le_trans (h2 r hr) (by decide)⟩
  · exact ⟨by show 0 + l.length ≤ _; omega, (fun r hr => absurd hr List.not_mem_nil)⟩
theorem putR_state (m : Int) (l : List UInt8) (e : Nat) (s : List UInt8) (h : e ≠ 0 → l = []) : (putR m l e s).2.2 ≠ 0 → (putR m l e s).2.1 = [] := by
  unfold putR
  split
  · exact (feed_rest m (l ++ s)).2.1
  · exact fun h2 => h h2
theorem feed_put_any {p : Nat} {m : Int} {l : List UInt8} {e : Nat} {v : Value} {w : World} (s : ByteArray) (h : FAt w p m l e v) (hE : ∀ W, Touch (FS p v) w W → EnvF W) (hl : l.length + s.size ≤ 1000000) :
    Calls Tryz.prog 10 #[.pointer (some ⟨p, 0, none⟩), .string s] w (FPost p m v (putR m l e s.data.toList) w) := by
  unfold putR
  split
  · next he => subst he; exact feed_put s h hE hl
  · next he => exact feed_put_bad s h he
theorem rput_any (m : Int) (l : List UInt8) (e : Nat) (s : ByteArray) (w : World) (hl : l.length + s.size ≤ 1000000) :
    Calls Tryz.prog 11 #[.agg #[.int .i64 m, .string (bs l), .int .i64 (e : Nat)], .string s] w (RFPost m (putR m l e s.data.toList) w) := by
  unfold putR
  split
  · next he => subst he; exact rput m l s w hl
  · next he => exact rput_bad m l e s w he
/-- a feed that stands apart from what stood before -/
structure FNew (R : Nat) (w : World) (p : Nat) (m : Int) (l : List UInt8) (e : Nat) (v : Value) : Prop where
  fat : FAt w p m l e v
  hi : ∀ g, FS p v g → R ≤ g
  st : e ≠ 0 → l = []
theorem FNew.go {R : Nat} {w w' : World} {p : Nat} {m : Int} {l l' : List UInt8} {e e' : Nat} {v v' : Value} (h : FNew R w p m l e v) (hf : FAt w' p m l' e' v') (hn : ∀ g, v'.ownBlock = some g → v.ownBlock = some g ∨ w.heap.size ≤ g) (hR : R ≤ w.heap.size) (hs : e' ≠ 0 → l' = []) : FNew R w' p m l' e' v' :=
  ⟨hf, fun g hg => (FS.sub hn g hg).elim (h.hi g) (fun h2 => Nat.le_trans hR h2), hs⟩
theorem FNew.below {R : Nat} {w w' : World} {p : Nat} {m : Int} {l : List UInt8} {e : Nat} {v : Value} (h : FNew R w p m l e v) (hb : Below w.heap.size w w') : FNew R w' p m l e v := ⟨h.fat.below hb, h.hi, h.st⟩
theorem FNew.low {w0 w w' : World} {p : Nat} {m : Int} {l : List UInt8} {e : Nat} {v : Value} (h : FNew w0.heap.size w p m l e v) (hb : Below w0.heap.size w0 w) (ht : Touch (FS p v) w w') : Below w0.heap.size w0 w' :=
  hb.trans (ht.below h.hi hb.size)
/-- Put at a feed that stands apart -/
theorem feed_put_new {w0 w : World} {p : Nat} {m : Int} {l : List UInt8} {e : Nat} {v : Value} (s : ByteArray) (h : FNew w0.heap.size w p m l e v) (hE : EnvF w0) (hb : Below w0.heap.size w0 w) (hl : l.length + s.size ≤ 1000000) :
    Calls Tryz.prog 10 #[.pointer (some ⟨p, 0, none⟩), .string s] w fun r w' => ∃ a n c v', r = .returned (.tuple #[.slice a n c, .int .i64 ((putR m l e s.data.toList).2.2 : Nat)]) ∧ n = (putR m l e s.data.toList).1.length ∧ FNew w0.heap.size w' p m (putR m l e s.data.toList).2.1 (putR m l e s.data.toList).2.2 v' ∧ ROwn w' w.heap.size (.slice a n c) (putR m l e s.data.toList).1 ∧ Below w0.heap.size w0 w' ∧ Touch (FS p v) w w' ∧ (∀ g, FS p v' g → FS p v g ∨ w.heap.size ≤ g) := by
  refine (feed_put_any s h.fat (fun W hW => hE.below (h.low hb hW)) hl).mono ?_
  rintro r w' ⟨rv, v', rfl, h1, h2, h3, h4⟩
  obtain ⟨a, c, rfl⟩ := h2.form
  exact ⟨a, _, c, v', rfl, rfl, h.go h1 h4 hb.size (putR_state m l e _ h.st), h2, h.low hb h3, h3, FS.sub h4⟩
theorem feed_put_is {w0 w : World} {p : Nat} {m : Int} {l : List UInt8} {e : Nat} {v : Value} (s : List UInt8) (h : FNew w0.heap.size w p m l e v) (hE : EnvF w0) (hb : Below w0.heap.size w0 w) (hl : l.length + s.length ≤ 1000000)
    {rs : List (Int × List (List UInt8 × List UInt8) × List UInt8)} {l' : List UInt8} {e' : Nat} (hR : putR m l e s = (rs, l', e')) :
    Calls Tryz.prog 10 #[.pointer (some ⟨p, 0, none⟩), .string (bs s)] w fun r w' => ∃ a c v', r = .returned (.tuple #[.slice a rs.length c, .int .i64 (e' : Nat)]) ∧ FNew w0.heap.size w' p m l' e' v' ∧ ROwn w' w.heap.size (.slice a rs.length c) rs ∧ Below w0.heap.size w0 w' ∧ Touch (FS p v) w w' ∧ (∀ g, FS p v' g → FS p v g ∨ w.heap.size ≤ g) := by
  have := feed_put_new (bs s) h hE hb (by rw [bs_size]; exact hl)
  rw [bs_data, hR] at this
  refine this.mono ?_
  rintro r w' ⟨a, n, c, v', rfl, rfl, h1, h2, h3, h4, h5⟩
  exact ⟨a, c, v', rfl, h1, h2, h3, h4, h5⟩
theorem FNew.new {R : Nat} {w : World} {p : Nat} {m : Int} {v : Value} (h : FAt w p m [] 0 v) (hp : R ≤ p) (hv : v.ownBlock = none) : FNew R w p m [] 0 v :=
  ⟨h, fun g hg => hg.elim (fun e => e ▸ hp) (fun h2 => by rw [hv] at h2; cases h2), fun h => absurd rfl h⟩
theorem ROwn.block {w : World} {B : Nat} {v : Value} {rs : List (Int × List (List UInt8 × List UInt8) × List UInt8)} (h : ROwn w B v rs) (hn : 0 < rs.length) : ∃ g c, v = .slice (some ⟨g, 0, none⟩) rs.length c := by
  obtain ⟨fs, h1, h2, h3⟩ := h
  obtain ⟨g, c, rfl, -⟩ := own_form h2 hn
  exact ⟨g, c, rfl⟩
set_option maxRecDepth 100000 in
set_option maxHeartbeats 4000000 in
theorem awake45 (w : World) (hE : EnvF w) : Calls Tryz.prog 8 #[] w fun e w' => e = .returned (.bool true) ∧ Below w.heap.size w w' := by
  have HE := Lib.hid hE
  have HN1 := Lib.hid (feed_new 9 w (by decide) (by decide))
  have HN2 := Lib.hid (fun W => feed_new_bad (-1) W (.inl (by decide)))
  clear hE
  go_enter Tryz.func8, Tryz.ntmps8
  go_wp2_with fail
  refine HN1.out.mono ?_
  rintro r w1 ⟨rfl, hf1, hb1⟩
  have HF1 := Lib.hid (FNew.new (R := w.heap.size) hf1 (Nat.le_refl _) rfl)
  have HB1 := Lib.hid hb1
  clear hf1 hb1
  go_wp2_with fail
  refine (HN2.out _).mono ?_
  rintro r w1' ⟨rfl, hww⟩
  obtain rfl := hww.symm
  clear hww HN1 HN2
  have HP1 := feed_put_is a451 HF1.out HE.out HB1.out (by decide) (show putR 9 [] 0 a451 = ([], a451, 0) from ev1)
  have HP1 := Lib.hid HP1
  clear HF1
  go_wp2_with fail
  refine HP1.out.mono ?_
  rintro r w2 ⟨a2, c2, v2, rfl, hf2, -, hb2, -, -⟩
  have HF2 := Lib.hid hf2
  have HB2 := Lib.hid hb2
  have HR2 := Lib.hid (feed_rest_at hf2.fat)
  have HN2 := Lib.hid (feed_end_at hf2.fat)
  clear hf2 hb2 HP1 HB1
  go_wp2_with fail
  refine HR2.out.mono ?_
  rintro r w2' ⟨rfl, hww⟩
  obtain rfl := hww.symm
  clear hww HR2
  go_wp2_with fail
  refine HN2.out.mono ?_
  rintro r w3 ⟨rfl, hb3⟩
  have HF3 := Lib.hid (HF2.out.below hb3)
  have HB3 := Lib.hid (bstep HB2.out hb3)
  obtain ⟨rs, hrs⟩ : ∃ rs, (feedOf 9 (a451 ++ a452)).1 = rs := ⟨_, rfl⟩
  have hl2 := ev2.2
  have hm2 := ev3
  rw [hrs] at hl2 hm2
  have HP3 := feed_put_is a452 HF3.out HE.out HB3.out (by decide) (show putR 9 a451 0 a452 = (rs, [], 0) by
    rw [← hrs]
    exact Prod.ext rfl ev2.1)
  rw [hl2] at HP3
  have HP3 := Lib.hid HP3
  have HM2 := Lib.hid (And.intro hl2 hm2)
  clear hb3 HB2 HF2 HN2 hl2 hm2 hrs
  have he39 : endE a451 0 = 3 := by decide
  have hl39 : a451.length = 39 := by decide
  rw [he39, hl39]
  go_wp2_with fail
  refine HP3.out.mono ?_
  rintro r w4 ⟨a4, c4, v4, rfl, hf4, hr4, hb4, -, -⟩
  have hr4' := hr4
  obtain ⟨g4, c4', e4⟩ := hr4'.block (by rw [HM2.out.1]; decide)
  rw [HM2.out.1] at e4
  injection e4 with e4 _ e4'
  subst e4
  subst e4'
  have HF4 := Lib.hid hf4
  have HB4 := Lib.hid hb4
  have HR4 := Lib.hid hr4
  have HN4 := Lib.hid (feed_end_at hf4.fat)
  have he0 : endE [] 0 = 0 := by decide
  rw [he0] at HN4
  clear hf4 hb4 hr4 HP3 HB3 HF3 hr4'
  go_wp2_with fail
  refine HN4.out.mono ?_
  rintro r w5 ⟨rfl, hb5⟩
  have HF5 := Lib.hid (HF4.out.below hb5)
  have HB5 := Lib.hid (bstep HB4.out hb5)
  have HR5 := Lib.hid (HR4.out.keep (TagKeep.of_below hb5))
  have HP5 := Lib.hid (feed_put_is a453 HF5.out HE.out HB5.out (by decide) (show putR 9 [] 0 a453 = ([], [], 13) from ev4))
  clear hb5 HB4 HF4 HR4 HN4 he0
  go_wp2_with fail
  refine HP5.out.mono ?_
  rintro r w6 ⟨a6, c6, v6, rfl, hf6, -, hb6, ht6, -⟩
  have HF6 := Lib.hid hf6
  have HB6 := Lib.hid hb6
  have HR6 := Lib.hid (HR5.out.keep (HF5.out.fat.tag ht6))
  have HP6 := Lib.hid (feed_put_is [121] HF6.out HE.out HB6.out (by decide) (show putR 9 [] 13 [121] = ([], [], 13) from rfl))
  clear hf6 hb6 ht6 HB5 HF5 HR5 HP5
  go_wp2_with fail
  refine HP6.out.mono ?_
  rintro r w7 ⟨a7, c7, v7, rfl, hf7, -, hb7, ht7, -⟩
  have HR7 := HR6.out.keep (HF6.out.fat.tag ht7)
  have HBd := Lib.hid (feed_bad_at hf7.fat)
  have HB7 := Lib.hid hb7
  obtain ⟨rs0, rs1, hrs⟩ : ∃ r0 r1, rs = [r0, r1] := by
    have := HM2.out.1
    match rs, this with
    | [r0, r1], _ => exact ⟨r0, r1, rfl⟩
  have hmm := HM2.out.2
  subst hrs
  simp only [List.map_cons, List.map_nil, List.cons.injEq, Prod.mk.injEq, and_true] at hmm
  obtain ⟨⟨-, m2⟩, m3, -⟩ := hmm
  obtain ⟨-, -, -, -, x2, -, -⟩ := HR7.at 0 (Nat.zero_lt_succ _)
  obtain ⟨-, -, y0, -, -, -, -⟩ := HR7.at 1 (Nat.lt_succ_self _)
  have x2' : w7.cell? ⟨g4, 2, none⟩ = some (.string (bs [97, 98])) := x2.trans (by rw [show [rs0, rs1][0].2.2 = [97, 98] from m2])
  have y0' : w7.cell? ⟨g4, 3, none⟩ = some (.int .i64 404) := y0.trans (by rw [show [rs0, rs1][1].1 = 404 from m3])
  obtain ⟨X, hX⟩ : ∃ X, bs [97, 98] = X := ⟨_, rfl⟩
  have tX : (X.toList == [97, 98]) = true := by rw [← hX, ByteArray.toList_eq, bs_data]; rfl
  rw [hX] at x2'
  clear x2 y0 m2 m3 hX HP3 HM2 HR6 HR7 hf7 hb7 ht7 HF6 HB6 HP6 HE
  go_wp2_with fail
  refine HBd.out.mono ?_
  rintro r w8 ⟨rfl, hww⟩
  obtain rfl := hww.symm
  go_wp2_with fail
  go_ret
  exact ⟨rfl, HB7.out⟩
end Go.Proofs.YtdihhbkajcngeaaGreatDoor
namespace Go.Proofs.YtdihhbkajcngeaaGreatDoor
open Go.RowKit Go.Shelf Go.Lib
theorem small45 (l : List (List UInt8)) (h : overB l 20 2000 = false) : l.length ≤ 20 ∧ l.flatten.length ≤ 2000 := by
  unfold overB at h
  rw [Bool.or_eq_false_iff, decide_eq_false_iff_not, decide_eq_false_iff_not] at h
  omega
/-- the cells of X are written, and no other -/
theorem QOwn.touchX {w w' : World} {B X : Nat} {v : Value} {rs : List (Int × List (List UInt8 × List UInt8) × List UInt8)} {cs : Array Value} (h : QOwn w B v rs) (hX : w.heap[X]? = some (.cells cs 30 (0, 0))) (ht : Touch (fun g => g = X) w w') : QOwn w' B v rs := by
  obtain ⟨fs, h1, h2, h3⟩ := h
  refine ⟨fs, h1, own_kept h2 ht (fun g hg e => own_not_row h2 hX (by decide) (by rw [hg, show g = X from e])), fun j hj hf => ?_⟩
  obtain ⟨a, c, e1, e2⟩ := h3 j hj hf
  exact ⟨a, c, e1, own_kept e2 ht (fun g hg e => own_not_row e2 hX (by decide) (by rw [hg, show g = X from e]))⟩
theorem ROwn.touchX {w w' : World} {B X : Nat} {v : Value} {rs : List (Int × List (List UInt8 × List UInt8) × List UInt8)} {cs : Array Value} (h : ROwn w B v rs) (hX : w.heap[X]? = some (.cells cs 30 (0, 0))) (ht : Touch (fun g => g = X) w w') : ROwn w' B v rs := by
  obtain ⟨fs, h1, h2, h3⟩ := h
  refine ⟨fs, h1, own_kept h2 ht (fun g hg e => own_not_row h2 hX (by decide) (by rw [hg, show g = X from e])), fun j hj hf => ?_⟩
  obtain ⟨a, c, e1, e2⟩ := h3 j hj hf
  exact ⟨a, c, e1, own_kept e2 ht (fun g hg e => own_not_row e2 hX (by decide) (by rw [hg, show g = X from e]))⟩
theorem FAt.offX {w : World} {p : Nat} {m : Int} {l : List UInt8} {e X : Nat} {v : Value} {cs : Array Value} (h : FAt w p m l e v) (hX : w.heap[X]? = some (.cells cs 30 (0, 0))) : ¬ FS p v X := fun hs => by
  rcases hs with rfl | hs
  · have := h.blk
    rw [hX] at this
    simp only [Option.some.injEq, Obj.cells.injEq] at this
    exact absurd this.2.1 (by decide)
  · exact own_not_row h.own hX (by decide) hs
theorem FNew.touchX {R : Nat} {w w' : World} {p : Nat} {m : Int} {l : List UInt8} {e X : Nat} {v : Value} {cs : Array Value} (h : FNew R w p m l e v) (hX : w.heap[X]? = some (.cells cs 30 (0, 0))) (ht : Touch (fun g => g = X) w w') : FNew R w' p m l e v :=
  ⟨h.fat.touch ht (fun g hg e => h.fat.offX hX (by rw [← show g = X from e]; exact hg)), h.hi, h.st⟩
theorem three_touch (w : World) (X : Nat) (x y z : Value) : Touch (fun g => g = X) w (((w.setCell ⟨X, 0, none⟩ x).setCell ⟨X, 1, none⟩ y).setCell ⟨X, 2, none⟩ z) :=
  touch_set _ (touch_set _ (touch_set _ (Touch.refl _ _) (.inl rfl)) (.inl rfl)) (.inl rfl)
/-- the state of FeedTakes' loop -/
structure TK (w wr : World) (p X : Nat) (m : Int) (l : List UInt8) (e : Nat) (v : Value) : Prop where
  f : FNew w.heap.size wr p m l e v
  b : Below w.heap.size w wr
  x : wr.heap[X]? = some (.cells #[.int .i64 m, .string (bs l), .int .i64 (e : Nat)] 30 (0, 0))
  hX : w.heap.size ≤ X
/-- what the document's Put hands over -/
def Took (w2 W : World) (q : Nat) (x y z : Value) (rv : Value) (rs : List (Int × List (List UInt8 × List UInt8) × List UInt8)) : Prop :=
  W.heap[q]? = some (.cells #[x, y, z] 30 (0, 0)) ∧ Below w2.heap.size w2 W ∧ QOwn W 0 rv rs ∧ w2.heap.size ≤ q
theorem QOwn.zero {w : World} {B : Nat} {v : Value} {rs : List (Int × List (List UInt8 × List UInt8) × List UInt8)} (h : QOwn w B v rs) : QOwn w 0 v rs :=
  let ⟨fs, h1, h2, h3⟩ := h; ⟨fs, h1, own_mono h2 (Nat.zero_le _), h3⟩
theorem took_one {w2 wc : World} {b : Nat} {x y z rv : Value} {rs : List (Int × List (List UInt8 × List UInt8) × List UInt8)} (h : Below w2.heap.size w2 wc) (ho : QOwn wc b rv rs) : Took w2 (wc.alloc (.cells #[x, y, z] 30)) wc.heap.size x y z rv rs :=
  ⟨heap_alloc_new wc _, h.alloc h.size _, ho.zero.below ((Below.refl _ _).alloc (Nat.le_refl _) _), h.size⟩
theorem took_two {w2 wc : World} {b : Nat} {x y z rv x0 y0 z0 : Value} {rs : List (Int × List (List UInt8 × List UInt8) × List UInt8)} (h : Below w2.heap.size w2 wc) (ho : QOwn wc b rv rs) (hz : wc.heap[w2.heap.size]? = some (.cells #[x0, y0, z0] 30 (0, 0))) :
    Took w2 (((wc.setCell ⟨w2.heap.size, 0, none⟩ x).setCell ⟨w2.heap.size, 1, none⟩ y).setCell ⟨w2.heap.size, 2, none⟩ z) w2.heap.size x y z rv rs :=
  ⟨three_block hz _ _ _, three_below h _ (Nat.le_refl _) _ _ _, ho.zero.touchX hz (three_touch _ _ _ _ _), Nat.le_refl _⟩
theorem TK.low {w wr w2 : World} {p X : Nat} {m : Int} {l l' : List UInt8} {e e' : Nat} {v v' : Value} (h : TK w wr p X m l e v) (hf : FNew w.heap.size w2 p m l' e' v') (hb : Below w.heap.size w w2) (ht : Touch (FS p v) wr w2) : w2.heap[X]? = some (.cells #[.int .i64 m, .string (bs l), .int .i64 (e : Nat)] 30 (0, 0)) :=
  (ht.block X (Array.getElem?_eq_some_iff.1 h.x).1 (h.f.fat.offX h.x)).trans h.x
set_option maxRecDepth 100000 in
set_option maxHeartbeats 4000000 in
theorem feedTakes_walk (m : Int) (v : Value) (ls : List (List UInt8)) (w : World) (hE : EnvF w) (hv : StrArg w v ls) :
    Calls Tryz.prog 3 #[.int .i64 m, v] w fun e w' => e = .returned (.bool true) ∧ Below w.heap.size w w' := by
  have HE := Lib.hid hE
  have HV := Lib.hid hv
  have HO := over45 v ls 20 2000 w (by decide) (by decide) hv
  obtain ⟨⟨va, vc, rfl, hvc, -⟩, -, hll⟩ := id hv
  unfold maxLen at hll
  cases hov : overB ls 20 2000 with
  | true =>
    rw [hov] at HO
    have HO := Lib.hid HO
    clear hE hv
    go_enter Tryz.func3, Tryz.ntmps3
    go_wp2_with fail
    refine HO.out.mono ?_
    rintro e w1 ⟨rfl, hww⟩
    obtain rfl := hww.symm
    go_wp2_with fail
    refine (awake45 _ HE.out).mono ?_
    rintro e w2 ⟨rfl, hb2⟩
    go_wp2_with fail
    go_ret
    exact ⟨rfl, hb2⟩
  | false =>
  rw [hov] at HO
  have HO := Lib.hid HO
  have HSm := Lib.hid (small45 ls hov)
  clear hE hv hov
  by_cases h0 : m < 0
  · have t0 : decide (m < 0) = true := decide_eq_true h0
    have HN := Lib.hid (feed_new_bad m w (.inl h0))
    clear h0
    go_enter Tryz.func3, Tryz.ntmps3
    go_wp2_with fail
    refine HO.out.mono ?_
    rintro e w1 ⟨rfl, hww⟩
    obtain rfl := hww.symm
    go_wp2_with fail
    refine HN.out.mono ?_
    rintro e w1 ⟨rfl, hww⟩
    obtain rfl := hww.symm
    go_wp2_with fail
    refine (awake45 _ HE.out).mono ?_
    rintro e w2 ⟨rfl, hb2⟩
    go_wp2_with fail
    go_ret
    exact ⟨rfl, hb2⟩
  by_cases h1 : 1048576 < m
  · have t0 : decide (m < 0) = false := decide_eq_false h0
    have t1 : decide (m > 1048576) = true := decide_eq_true h1
    have HN := Lib.hid (feed_new_bad m w (.inr h1))
    clear h0 h1
    go_enter Tryz.func3, Tryz.ntmps3
    go_wp2_with fail
    refine HO.out.mono ?_
    rintro e w1 ⟨rfl, hww⟩
    obtain rfl := hww.symm
    go_wp2_with fail
    refine HN.out.mono ?_
    rintro e w1 ⟨rfl, hww⟩
    obtain rfl := hww.symm
    go_wp2_with fail
    refine (awake45 _ HE.out).mono ?_
    rintro e w2 ⟨rfl, hb2⟩
    go_wp2_with fail
    go_ret
    exact ⟨rfl, hb2⟩
  have t0 : decide (m < 0) = false := decide_eq_false h0
  have t1 : decide (m > 1048576) = false := decide_eq_false h1
  have HN := Lib.hid (feed_new m w (by omega) (by omega))
  obtain ⟨n, hn⟩ : ∃ n, ls.length = n := ⟨_, rfl⟩
  rw [hn] at hvc HV HO hll ⊢
  have HNN := Lib.hid hn
  clear h0 h1 hn
  go_enter Tryz.func3, Tryz.ntmps3
  go_wp2_with fail
  refine HO.out.mono ?_
  rintro e w1 ⟨rfl, hww⟩
  obtain rfl := hww.symm
  go_wp2_with fail
  refine HN.out.mono ?_
  rintro e w1 ⟨rfl, hf1, hb1⟩
  have B2 : Below w.heap.size w (w1.alloc (.cells #[.int .i64 m, .string ⟨#[]⟩, .int .i64 0] 30)) := hb1.alloc hb1.size _
  have HT : Hid (TK w (w1.alloc (.cells #[.int .i64 m, .string ⟨#[]⟩, .int .i64 0] 30)) w.heap.size w1.heap.size m [] 0 (.slice none 0 0)) := Lib.hid ⟨(FNew.new hf1 (Nat.le_refl _) rfl).below ((Below.refl _ _).alloc (Nat.le_refl _) _), B2, heap_alloc_new w1 _, hb1.size⟩
  clear hf1 hb1 B2 HN HO
  go_wp2_with fail
  generalize (w1.alloc (.cells #[.int .i64 m, .string ⟨#[]⟩, .int .i64 0] 30)) = w2 at HT ⊢
  generalize w1.heap.size = X at HT ⊢
  go_loopg [8] n (fun gk s8 wr => ∃ (k : Nat) (l : List UInt8) (e : Nat) (v : Value), s8 = .int .i64 (k : Int) ∧ k + gk = n ∧ l.length ≤ offF ls k ∧ Hid (TK w wr w.heap.size X m l e v))
  case atStart => exact ⟨0, [], 0, _, by simp, by omega, Nat.zero_le _, HT⟩
  case round =>
    obtain ⟨k, l, e, v, rfl, hgk, hlk, HTr⟩ := hrel
    by_cases hk : k < n
    · obtain ⟨g', rfl⟩ : ∃ g', gk = g' + 1 := ⟨gk - 1, by omega⟩
      have hkl : k < ls.length := by rw [HNN.out]; exact hk
      obtain ⟨⟨va', vc', hv1, -, hx⟩, hsz, -⟩ := HV.out
      obtain ⟨bb, ob, rfl, hbl, hcell⟩ := hx (fun e => by rw [e] at hkl; exact absurd hkl (Nat.not_lt_zero _))
      injection hv1 with hv1 hv2 hv3
      subst hv1
      clear hv2 hv3
      have c0 : ∀ W, Below w.heap.size w W → W.cell? ⟨bb, ob + k, none⟩ = some (.string (bs ls[k])) := fun W hW => (hW.cell (p := ⟨bb, ob + k, none⟩) hbl).trans (hcell k hkl)
      have hoff := offF_succ ls k hkl
      have hofl := offF_le ls (k + 1)
      have hsm := HSm.out
      obtain ⟨s, hs⟩ : ∃ s, ls[k] = s := ⟨_, rfl⟩
      rw [hs] at c0 hoff
      obtain ⟨rs, l', e', hR⟩ : ∃ rs l' e', putR m l e s = (rs, l', e') := ⟨_, _, _, rfl⟩
      have hcnt := putR_count m l e s
      rw [hR] at hcnt
      have HP := feed_put_is s HTr.out.f HE.out HTr.out.b (by omega) hR
      have HRP := Lib.hid (fun W => rput_any m l e (bs s) W (by rw [bs_size]; omega))
      rw [bs_data, hR] at HRP
      obtain ⟨NR, hNR⟩ : ∃ NR, rs.length = NR := ⟨_, rfl⟩
      have HNR := Lib.hid hNR
      rw [hNR] at HP
      have HP := Lib.hid HP
      have HL' : Hid (l'.length ≤ offF ls (k + 1)) := Lib.hid (by have := hcnt.1; simp only at this; omega)
      have HSm2 : Hid (∀ r ∈ rs, r.2.1.length ≤ 1000000) := Lib.hid hcnt.2
      have HNl : Hid (rs.length ≤ 2147483647) := Lib.hid (by have := hcnt.1; simp only at this; omega)
      have HC0 := Lib.hid c0
      have c1 := c0 wr HTr.out.b
      obtain ⟨S, hS⟩ : ∃ S, bs s = S := ⟨_, rfl⟩
      rw [hS] at c1 HC0 HP HRP
      have tk : decide ((k : Int) < (n : Int)) = true := decide_eq_true (by omega)
      clear hx hsz hcell c0 hoff hofl hsm hs hR hcnt hS hNR HT hkl
      go_wp2_with fail
      refine HP.out.mono ?_
      rintro r w3 ⟨a3, c3, v3, rfl, hf3, hr3, hb3, ht3, -⟩
      have HX3 := Lib.hid (HTr.out.low hf3 hb3 ht3)
      have HF3 := Lib.hid hf3
      have HR3 := Lib.hid hr3
      have HB3 := Lib.hid hb3
      clear hf3 hr3 hb3 ht3 HP c1
      go_wp2_with fail
      have HDr : Hid (Below w3.heap.size w3 w3.drew) := Lib.hid (Below.refl _ _).drew
      have HA0 : Hid (Below w3.heap.size w3 (w3.alloc (.cells #[.int .i64 0, .string ⟨#[]⟩, .int .i64 0] 30)).drew) := Lib.hid ((Below.refl _ _).alloc (Nat.le_refl _) _).drew
      obtain ⟨S0, hS0⟩ : ∃ S0, bs l = S0 := ⟨_, rfl⟩
      rw [hS0] at HRP HX3
      obtain ⟨S', hS'⟩ : ∃ S', bs l' = S' := ⟨_, rfl⟩
      have HS' := Lib.hid hS'
      have HRP1 := HRP.out w3.drew
      have HRP2 := HRP.out (w3.alloc (.cells #[.int .i64 0, .string ⟨#[]⟩, .int .i64 0] 30)).drew
      unfold RFPost at HRP1 HRP2
      simp only [hS'] at HRP1 HRP2
      have HRP1 := Lib.hid HRP1
      have HRP2 := Lib.hid HRP2
      have HS2 : Hid (∀ W, Below w3.heap.size w3 W → W.cell? ⟨X, 0, none⟩ = some (.int .i64 m) ∧ W.cell? ⟨X, 1, none⟩ = some (.string S0) ∧ W.cell? ⟨X, 2, none⟩ = some (.int .i64 (e : Nat)) ∧ W.cell? ⟨bb, ob + k, none⟩ = some (.string S)) := Lib.hid (fun W hW => by
        obtain ⟨x0, x1, x2, -, -, -⟩ := three_facts ((hW.block X (Array.getElem?_eq_some_iff.1 HX3.out).1).trans HX3.out)
        exact ⟨x0, x1, x2, HC0.out W (bstep HB3.out hW)⟩)
      clear hS0 hS' HRP
      go_region_held3 (fun w' => w'.cell? ⟨X, 0, none⟩ = some (.int .i64 m) ∧ w'.cell? ⟨X, 1, none⟩ = some (.string S0) ∧ w'.cell? ⟨X, 2, none⟩ = some (.int .i64 (e : Nat)) ∧ w'.cell? ⟨bb, ob + k, none⟩ = some (.string S)) (first | exact HS2.out _ HDr.out | exact HS2.out _ HA0.out | exact HS2.out _ HA1.out | exact HS2.out _ (HA1.out.alloc HA1.out.size _) | exact HS2.out _ (three_below HA1.out _ (Nat.le_refl _) _ _ _) | exact HS2.out _ (three_below (HA1.out.alloc HA1.out.size _) _ HA1.out.size _ _ _))
        (first
          | (go_at_call 11; (first | (with_reducible refine HRP1.out.mono ?_) | (with_reducible refine HRP2.out.mono ?_)); rintro r wc ⟨rv, rfl, hoc, hbc⟩; (first | (have HA1 : Hid (Below w3.heap.size w3 wc) := Lib.hid (bstep HDr.out hbc)) | (have HA1 : Hid (Below w3.heap.size w3 wc) := Lib.hid (bstep HA0.out hbc); have HZ := Lib.hid ((hbc.block w3.heap.size (by simp)).trans (heap_alloc_new w3 _)); obtain ⟨z0, z1, z2, y0, y1, y2⟩ := three_facts HZ.out)); have HO1 := Lib.hid hoc; clear hoc hbc))
      all_goals
        first
          | (have H7 : Hid (Took w3 (((wc.setCell ⟨w3.heap.size, 0, none⟩ (.int .i64 m)).setCell ⟨w3.heap.size, 1, none⟩ (.string S')).setCell ⟨w3.heap.size, 2, none⟩ (.int .i64 (e' : Nat))) w3.heap.size (.int .i64 m) (.string S') (.int .i64 (e' : Nat)) rv rs) := Lib.hid (took_two HA1.out HO1.out HZ.out)
             clear HZ z0 z1 z2 y0 y1 y2
             generalize (((wc.setCell ⟨w3.heap.size, 0, none⟩ (.int .i64 m)).setCell ⟨w3.heap.size, 1, none⟩ (.string S')).setCell ⟨w3.heap.size, 2, none⟩ (.int .i64 (e' : Nat))) = W7 at H7 ⊢
             generalize w3.heap.size = q at H7 ⊢)
          | (have H7 : Hid (Took w3 (wc.alloc (.cells #[.int .i64 m, .string S', .int .i64 (e' : Nat)] 30)) wc.heap.size (.int .i64 m) (.string S') (.int .i64 (e' : Nat)) rv rs) := Lib.hid (took_one HA1.out HO1.out)
             generalize wc.alloc (.cells #[.int .i64 m, .string S', .int .i64 (e' : Nat)] 30) = W7 at H7 ⊢
             generalize wc.heap.size = q at H7 ⊢)
        clear HA1 HO1 HRP1 HRP2 HS2 HDr HA0
        have hX7 := (H7.out.2.1.block X (Array.getElem?_eq_some_iff.1 HX3.out).1).trans HX3.out
        obtain ⟨z0, z1, z2, -, -, -⟩ := three_facts H7.out.1
        obtain ⟨x0, x1, x2, y0, y1, y2⟩ := three_facts hX7
        have HX7 := Lib.hid hX7
        clear hX7
        go_wp2_with fail
        have ht9 := three_touch W7 X (.int .i64 m) (.string S') (.int .i64 (e' : Nat))
        have HX9 := Lib.hid (three_block HX7.out (.int .i64 m) (.string S') (.int .i64 (e' : Nat)))
        have HF9 := Lib.hid ((HF3.out.below H7.out.2.1).touchX HX7.out ht9)
        have HA9 := Lib.hid (((HR3.out.keep (TagKeep.of_below H7.out.2.1)).touchX HX7.out ht9).holds)
        have HQ9 := Lib.hid ((H7.out.2.2.1.touchX HX7.out ht9).holds)
        have HB9 := Lib.hid (three_below (bstep HB3.out H7.out.2.1) X HTr.out.hX (.int .i64 m) (.string S') (.int .i64 (e' : Nat)))
        have HXp := Lib.hid HTr.out.hX
        clear ht9 HX7 H7 HF3 HR3 HB3 HX3 HTr z0 z1 z2 x0 x1 x2 y0 y1 y2
        generalize (((W7.setCell ⟨X, 0, none⟩ (.int .i64 m)).setCell ⟨X, 1, none⟩ (.string S')).setCell ⟨X, 2, none⟩ (.int .i64 (e' : Nat))) = W9 at HX9 HF9 HA9 HQ9 HB9 ⊢
        have hsl : l'.length = S'.size := by rw [← HS'.out, bs_size]
        have HSm : Hid (∀ W, Below W9.heap.size W9 W → Calls Tryz.prog 12 #[.slice a3 NR c3, rv] W fun e w' => e = .returned (.bool true) ∧ Below W.heap.size W w') := Lib.hid (fun W hW => same45 _ _ rs W (HA9.out.below hW) (HQ9.out.below hW) HSm2.out HNl.out)
        have HRs : Hid (∀ W, Below W9.heap.size W9 W → Calls Tryz.prog 13 #[.pointer (some ⟨w.heap.size, 0, none⟩)] W fun e w' => e = .returned (.int .i64 (S'.size : Nat)) ∧ w' = W) := Lib.hid (fun W hW => by
          have := feed_rest_at (HF9.out.below hW).fat
          rw [hsl] at this
          exact this)
        have HBd : Hid (∀ W, Below W9.heap.size W9 W → Calls Tryz.prog 14 #[.pointer (some ⟨w.heap.size, 0, none⟩)] W fun r w' => r = .returned (.int .i64 (e' : Nat)) ∧ w' = W) := Lib.hid (fun W hW => feed_bad_at (HF9.out.below hW).fat)
        obtain ⟨E9, hE9⟩ : ∃ E9, endE l' e' = E9 := ⟨_, rfl⟩
        have HEn : Hid (∀ W, Below W9.heap.size W9 W → Calls Tryz.prog 15 #[.pointer (some ⟨w.heap.size, 0, none⟩)] W fun r w' => r = .returned (.int .i64 (E9 : Nat)) ∧ Below W.heap.size W w') := Lib.hid (fun W hW => by
          have := feed_end_at (HF9.out.below hW).fat
          rw [hE9] at this
          exact this)
        have HRn : Hid (∀ W, Below W9.heap.size W9 W → Calls Tryz.prog 16 #[.agg #[.int .i64 m, .string S', .int .i64 (e' : Nat)]] W fun r w' => r = .returned (.int .i64 (E9 : Nat)) ∧ Below W.heap.size W w') := Lib.hid (fun W _ => by
          have := rend_e l' m e' W
          rw [hE9, HS'.out] at this
          exact this)
        have HDr : Hid (Below W9.heap.size W9 W9.drew) := Lib.hid (Below.refl _ _).drew
        have HS9 : Hid (∀ W, Below W9.heap.size W9 W → W.cell? ⟨X, 0, none⟩ = some (.int .i64 m) ∧ W.cell? ⟨X, 1, none⟩ = some (.string S') ∧ W.cell? ⟨X, 2, none⟩ = some (.int .i64 (e' : Nat))) := Lib.hid (fun W hW => by
          obtain ⟨x0, x1, x2, -, -, -⟩ := three_facts ((hW.block X (Array.getElem?_eq_some_iff.1 HX9.out).1).trans HX9.out)
          exact ⟨x0, x1, x2⟩)
        have HS'' := Lib.hid (HS'.out)
        clear hsl hE9 HS' HA9 HQ9
        go_region_held3 (fun w' => w'.cell? ⟨X, 0, none⟩ = some (.int .i64 m) ∧ w'.cell? ⟨X, 1, none⟩ = some (.string S') ∧ w'.cell? ⟨X, 2, none⟩ = some (.int .i64 (e' : Nat))) (first | exact HS9.out _ HDr.out | exact HS9.out _ HA1.out | exact HS9.out _ HA2.out | exact HS9.out _ HA3.out)
          (first
            | (go_at_call 12; refine (HSm.out _ HDr.out).mono ?_; rintro r wa ⟨rfl, hba⟩; have HA1 : Hid (Below W9.heap.size W9 wa) := Lib.hid (bstep HDr.out hba); clear hba)
            | (go_at_call 13; refine (HRs.out _ HA1.out).mono ?_; rintro r w' ⟨rfl, rfl⟩)
            | (go_at_call 14; refine (HBd.out _ HA1.out).mono ?_; rintro r w' ⟨rfl, rfl⟩)
            | (go_at_call 15; refine (HEn.out _ HA1.out).mono ?_; rintro r wb ⟨rfl, hbb⟩; have HA2 : Hid (Below W9.heap.size W9 wb) := Lib.hid (bstep HA1.out hbb); clear hbb)
            | (go_at_call 16; refine (HRn.out _ HA2.out).mono ?_; rintro r wd ⟨rfl, hbd⟩; have HA3 : Hid (Below W9.heap.size W9 wd) := Lib.hid (bstep HA2.out hbd); clear hbd))
        have HTn : Hid (TK w wd w.heap.size X m l' e' v3) := Lib.hid ⟨HF9.out.below HA3.out, bstep HB9.out HA3.out, by rw [HS''.out]; exact (HA3.out.block X (Array.getElem?_eq_some_iff.1 HX9.out).1).trans HX9.out, HXp.out⟩
        clear HX9 HF9 HB9 HA1 HA2 HA3 HSm HRs HBd HEn HRn HDr HS9 HS''
        go_wp2_with fail
        go_roundg g'
        case measure => omega
        case rel => exact ⟨k + 1, l', e', v3, by simp, by omega, HL'.out, HTn⟩
    · obtain rfl : k = n := by omega
      have tk : decide ((k : Int) < (k : Int)) = false := decide_eq_false (by omega)
      clear HT HSm
      go_wp2_with fail
      refine (awake45 _ (HE.out.below HTr.out.b)).mono ?_
      rintro r wz ⟨rfl, hbz⟩
      go_wp2_with fail
      go_ret
      exact ⟨rfl, bstep HTr.out.b hbz⟩
end Go.Proofs.YtdihhbkajcngeaaGreatDoor
namespace Go.Proofs.YtdihhbkajcngeaaGreatDoor
open Go.RowKit

def renU : Go.Shelf.Ren := ⟨fun n => n, fun | 5 => 5 | 119 => 179 | 138 => 181 | 139 => 182 | n => n, fun | 3 => 3 | 4 => 4 | n => n⟩
theorem u8t : U8Types Tryz.prog renU := ⟨Tryz.underlying5, Tryz.underlying179, Tryz.underlying181, Tryz.underlying182⟩
theorem u8x : U8Extra Tryz.prog renU := ⟨by kernel_rfl, by kernel_rfl, by kernel_rfl, by kernel_rfl, by kernel_rfl, by kernel_rfl, by kernel_rfl⟩
theorem accept_data : (Rows.laid_unicode_utf8_acceptRanges : DataW Unit) = Go.Lib.acceptData := by kernel_rfl
theorem pow10_data : (Rows.laid_internal_strconv_uint64pow10 : DataW Unit) = Go.Lib.tabData .u64 Go.Lib.pow10Tab := rfl
theorem maxLen_cell {W : World} (h : W.ShapedOpen Tryz.prog) : ∃ m, W.cell? ⟨2, 0, none⟩ = some (.int .i64 m) := Tryz.laysM145.s1_3 W h
theorem lt_of_cell {W : World} {g : Nat} {v : Value} (h : W.cell? ⟨g, 0, none⟩ = some v) : g < W.heap.size := World.block_lt_of_cell? _ _ h
theorem err_star : "*" ++ "errors.errorString" = "*errors.errorString" := by decide
theorem err_row (u : TypeId) (h : Tryz.prog.typeName? 3 u = some "*errors.errorString") : u = 188 :=
  typeName_ptr_named (nm := "errors.errorString") (by rw [err_star]; kernel_rfl) (by kernel_rfl) (by decide) u (by rw [err_star]; exact h)
theorem env_of {W : World} {rest : List (String × DataW Unit)} (h : laidMet Tryz.prog (("math/bits.deBruijn32tab", Rows.laid_math_bits_deBruijn32tab) :: ("math/bits.deBruijn64tab", Rows.laid_math_bits_deBruijn64tab) :: ("internal/strconv.uint64pow10", Rows.laid_internal_strconv_uint64pow10) :: ("unicode/utf8.acceptRanges", Rows.laid_unicode_utf8_acceptRanges) :: ("strconv.ErrRange", Rows.laid_strconv_ErrRange) :: rest) W)
    (hf : ("unicode/utf8.first", Rows.laid_unicode_utf8_first) ∈ rest) (hsh : W.ShapedOpen Tryz.prog) : EnvF W := by
  have ht : Go.Lib.TabIs Tryz.prog W "internal/strconv.uint64pow10" .u64 Go.Lib.pow10Tab :=
    Go.Lib.tabIs_of_head (n := 20) (t := 200) (e := 170) g_pow10 (by kernel_rfl) (by kernel_rfl) (by kernel_rfl) (by kernel_rfl) (by kernel_rfl) h.tail.tail
  have h3 : Go.Lib.VarReads Tryz.prog W "unicode/utf8.first" Go.Lib.firstData := by
    have := Go.Lib.laidMet.reads h (n := "unicode/utf8.first") (d := Rows.laid_unicode_utf8_first) (by simp [hf])
    rwa [show (Rows.laid_unicode_utf8_first : DataW Unit) = Go.Lib.firstData from Pinned.utf8First_eq] at this
  have h4 : Go.Lib.VarReads Tryz.prog W "unicode/utf8.acceptRanges" Go.Lib.acceptData := by
    have := Go.Lib.laidMet.reads h (n := "unicode/utf8.acceptRanges") (d := Rows.laid_unicode_utf8_acceptRanges) (by simp)
    rwa [accept_data] at this
  obtain ⟨a0, s0, hv0, _, _, _⟩ := laid_sentinel h.tail.tail.tail.tail (g := 1) (ti := 78) (tp := 188) (te := 190) (ts := 9) (by kernel_rfl) (by kernel_rfl) Tryz.underlying78 err_row Tryz.underlying188 Tryz.underlying190 rfl rfl Tryz.underlying9 (by kernel_rfl) (by kernel_rfl)
  obtain ⟨m, hm⟩ := maxLen_cell hsh
  have hr : W.cell? ⟨1, 0, none⟩ = some (.iface 188 (.pointer (some a0))) := World.var?_cell (show Tryz.prog.globalNamed "strconv.ErrRange" = some 1 by kernel_rfl) hv0 0
  refine ⟨⟨m, hm⟩, lt_of_cell hm, utf8Tabs_of_readsT u8t u8x h3 h4, ht, ?_, ⟨_, _, hr⟩, lt_of_cell hr⟩
  rcases Nat.lt_or_ge 5 W.heap.size with hlt | hge
  · exact hlt
  · unfold Go.Lib.TabIs World.var? at ht
    rw [g_pow10] at ht
    simp [Array.getElem?_eq_none hge] at ht
end Go.Proofs.YtdihhbkajcngeaaGreatDoor
namespace Go.Proofs.YtdihhbkajcngeaaGreatDoor
open Go.RowKit
theorem feedTakes_go {W : World} (m : Int) (v : Value) (ls : List (List UInt8)) (_ : (Lit.int .i64 m).wf = true) (hv : StrArg W v ls) (hL : laidMetH Tryz.prog Rows.feedTakesRow.laid W) (hsh : W.ShapedOpen Tryz.prog) :
    Calls Tryz.prog 3 #[.int .i64 m, v] W fun e W' => e = .returned (.bool true) ∧ Below W.heap.size W W' := by
  rw [MakeChecks.laidMetH_plain _ _ _ (by kernel_rfl)] at hL
  exact feedTakes_walk m v ls W (env_of hL (by simp) hsh) hv
end Go.Proofs.YtdihhbkajcngeaaGreatDoor
namespace Go.Proofs.YtdihhbkajcngeaaGreatDoor
open Go.RowKit Go.Shelf Go.Lib
theorem rcells_append (rs rs2 : List (Int × List (List UInt8 × List UInt8) × List UInt8)) (fs2 : List Value) : ∀ fs, fs.length = rs.length → rcells (rs ++ rs2) (fs ++ fs2) = rcells rs fs ++ rcells rs2 fs2 := by
  induction rs with
  | nil => intro fs h; cases fs with
    | nil => rfl
    | cons f t => simp at h
  | cons r t ih => intro fs h; cases fs with
    | nil => simp at h
    | cons f u => show _ :: _ :: _ :: rcells (t ++ rs2) (u ++ fs2) = _; rw [ih u (by simpa using h)]; rfl
theorem rcells_one (rs : List (Int × List (List UInt8 × List UInt8) × List UInt8)) : ∀ fs : List Value, (∀ f ∈ fs, f.oneCell' = true) → ∀ u ∈ rcells rs fs, u.oneCell' = true := by
  induction rs with
  | nil => intro fs h u hu; cases hu
  | cons r t ih => intro fs h u hu; cases fs with
    | nil => cases hu
    | cons f k =>
      rcases List.mem_cons.1 hu with rfl | hu
      · rfl
      rcases List.mem_cons.1 hu with rfl | hu
      · exact h _ (List.mem_cons_self ..)
      rcases List.mem_cons.1 hu with rfl | hu
      · rfl
      exact ih k (fun f hf => h f (List.mem_cons_of_mem _ hf)) u hu
/-- a row of replies is appended to another -/
theorem append_rows {ops : Array Oper} {rest : List Oper} {o : Oper} {a : Act} {Q : Exit → Act → World → Prop} (w0 : World) (hgd : o.guard = none) (s x : Operand)
    (ho : o.op = .call { callee := .builtin .append, args := #[s, x], argTypes := #[31, 31] })
    (base : Nat) (v : Value) (rs : List (Int × List (List UInt8 × List UInt8) × List UInt8)) (hs : a.eval s = v) (hown : ROwn w0 base v rs) (b2 : Nat) (v2 : Value) (rs2 : List (Int × List (List UInt8 × List UInt8) × List UInt8)) (hx : a.eval x = v2) (hown2 : ROwn w0 b2 v2 rs2)
    (hn : rs.length + rs2.length < 2147483648) (hbase : base ≤ w0.heap.size)
    (h : ∀ a1 n1 c1 w', ROwn w' base (.slice a1 n1 c1) (rs ++ rs2) → w0.grownBy w' v.ownBlock → wpList Tryz.prog ops Q rest (a.put o.dst (.slice a1 n1 c1)) w') :
    wpList Tryz.prog ops Q (o :: rest) a w0 := by
  obtain ⟨i0, hi, hz0, hz1, hz2⟩ := info_parts info_reply
  obtain ⟨fs, h1, h2, h3⟩ := id hown
  obtain ⟨fs2, k1, k2, k3⟩ := id hown2
  rcases id k2.2 with ⟨rfl, h0⟩ | ⟨g, cap, cur, rfl, -⟩
  · have hr2 : rs2 = [] := List.length_eq_zero_iff.1 h0
    subst hr2
    refine wpList_plain hgd fun K hK => ?_
    obtain ⟨a1, c1, rfl⟩ := hown.form
    have hr := run_append_owned_none (P := Tryz.prog) (w := w0) base 31 o.type 52 i0 3 Tryz.underlying31 hi (.slice a1 rs.length c1) rs.length (rcells rs fs) h2
    unfold Oper.wp execOp
    simp only [ho, resolve, invoke, builtin, Sem.run_bind, Sem.run_pure, Result.andThen_ok, List.map_toArray, List.map_cons, List.map_nil, hs, hx, hr]
    exact hK _ _ (h a1 rs.length c1 w0 (by rw [List.append_nil]; exact hown) ⟨rfl, rfl, rfl, Nat.le_refl _, fun _ _ _ => rfl⟩)
  · have e0 : ∀ k, (⟨g, 0, none⟩ : Addr).add k = ⟨g, k, none⟩ := fun k => by unfold Addr.add; split <;> simp_all
    refine wpList_append_own _ hgd s x 31 ho base 52 i0 _ 3 48 Tryz.underlying31 hi hz0 hz1 hz2 rfl (by decide) v rs.length (rcells rs fs) hs h2 ⟨g, 0, none⟩ rs2.length cap (rcells rs2 fs2) hx (rcells_length rs2 fs2 k1) (k2.cells (g := g) rfl) (rcells_one rs2 fs2 (fun f hf => by
      obtain ⟨j, hj, rfl⟩ := List.getElem_of_mem hf
      obtain ⟨a, c, e1, -⟩ := k3 j (by omega) hj
      rw [e1]; rfl)) (by unfold maxLen; omega) (by omega) hbase ?_
    intro v' w' q1 q2 q3
    have keepF : ∀ u n ys, w0.ownsRow 0 73 2 u n ys → w'.ownsRow 0 73 2 u n ys := fun u n ys hu => own_of_block hu (fun g' hg' => q2.block g' (hu.lt g' hg').2 (fun e => by
      rcases own_apart hu h2 (by decide) with hh | hh
      · rw [hh] at hg'; cases hg'
      · exact hh (by rw [hg', e])))
    have hR : ROwn w' base v' (rs ++ rs2) := by
      refine ⟨fs ++ fs2, by rw [List.length_append, List.length_append, h1, k1], ?_, fun j hj hf => ?_⟩
      · rw [rcells_append rs rs2 fs2 fs h1, List.length_append]; exact q1
      · by_cases hj2 : j < rs.length
        · obtain ⟨a, c, e1, e2⟩ := h3 j hj2 (by omega)
          rw [List.getElem_append_left hj2, List.getElem_append_left (by omega)]
          exact ⟨a, c, e1, keepF _ _ _ e2⟩
        · have hj3 : j - rs.length < rs2.length := by rw [List.length_append] at hj; omega
          obtain ⟨a, c, e1, e2⟩ := k3 (j - rs.length) hj3 (by omega)
          rw [List.getElem_append_right (by omega), List.getElem_append_right (by omega)]
          simp only [h1]
          exact ⟨a, c, e1, keepF _ _ _ e2⟩
    obtain ⟨a1, c1, rfl⟩ := hR.form
    exact h a1 _ c1 w' hR q2
/-- a piece more -/
theorem piece_go (m : Int) (l b : List UInt8) : feedOf m (l ++ b) = ((feedOf m l).1 ++ (putR m (feedOf m l).2.1 (feedOf m l).2.2 b).1, (putR m (feedOf m l).2.1 (feedOf m l).2.2 b).2) := by
  have h := feed_behind m b l
  unfold PieceOk at h
  unfold putR
  rw [h]
  by_cases hz : (feedOf m l).2.2 = 0
  · rw [if_pos hz, if_pos hz]
  · rw [if_neg hz, if_neg hz, List.append_nil]
/-- feeds side by side -/
theorem FAt.beside {w : World} {p q : Nat} {m m' : Int} {l l' : List UInt8} {e e' : Nat} {v u : Value} (h : FAt w p m l e v) (k : FAt w q m' l' e' u) (hpq : p ≠ q) (hd : u.ownBlock = none ∨ u.ownBlock ≠ v.ownBlock) : ∀ g, FS q u g → ¬ FS p v g := fun g hg hs => by
  rcases hg with rfl | hg <;> rcases hs with hs | hs
  · exact hpq hs.symm
  · exact own_not_row h.own k.blk (by decide) hs
  · subst hs; exact own_not_row k.own h.blk (by decide) hg
  · rcases hd with hd | hd
    · rw [hd] at hg; cases hg
    · exact hd (by rw [hg, hs])
end Go.Proofs.YtdihhbkajcngeaaGreatDoor
namespace Go.Proofs.YtdihhbkajcngeaaGreatDoor
open Go.RowKit Go.Shelf Go.Lib
/-- the state of FeedPieces' loop: P has come -/
structure PK (w wr : World) (p q : Nat) (m : Int) (P : List UInt8) (so v : Value) : Prop where
  f : FNew w.heap.size wr p m (feedOf m P).2.1 (feedOf m P).2.2 v
  g : FNew w.heap.size wr q m [] 0 (.slice none 0 0)
  b : Below w.heap.size w wr
  o : ROwn wr w.heap.size so (feedOf m P).1
  ne : p ≠ q
theorem FNew.grownR {R B : Nat} {w w' : World} {p : Nat} {m : Int} {l : List UInt8} {e : Nat} {v so : Value} {rs : List (Int × List (List UInt8 × List UInt8) × List UInt8)} (h : FNew R w p m l e v) (ho : ROwn w B so rs) (hg : w.grownBy w' so.ownBlock) : FNew R w' p m l e v := by
  obtain ⟨fs, f1, f2, f3⟩ := ho
  refine ⟨h.fat.keep (fun g hgs => hg.block g (h.fat.slt g hgs) (fun e => ?_)), h.hi, h.st⟩
  rcases hgs with rfl | hgs
  · exact own_not_row f2 h.fat.blk (by decide) e.symm
  · rcases own_apart h.fat.own f2 (by decide) with hh | hh
    · rw [hh] at hgs; cases hgs
    · exact hh (by rw [hgs, e])
theorem ROwn.low {w0 w w' : World} {so : Value} {rs : List (Int × List (List UInt8 × List UInt8) × List UInt8)} (ho : ROwn w w0.heap.size so rs) (hb : Below w0.heap.size w0 w) (hg : w.grownBy w' so.ownBlock) : Below w0.heap.size w0 w' := by
  obtain ⟨fs, f1, f2, f3⟩ := ho
  exact hb.grown hg hb.size (fun k hk => (f2.lt k hk).1)
/-- a piece has come: the feed's own call -/
theorem PK.put {w wr w3 : World} {p q : Nat} {m : Int} {P l' : List UInt8} {e' : Nat} {so v v3 : Value} (h : PK w wr p q m P so v) (hf : FNew w.heap.size w3 p m l' e' v3) (hb : Below w.heap.size w w3) (ht : Touch (FS p v) wr w3) :
    FNew w.heap.size w3 q m [] 0 (.slice none 0 0) ∧ ROwn w3 w.heap.size so (feedOf m P).1 :=
  ⟨⟨h.g.fat.touch ht (h.f.fat.beside h.g.fat h.ne (.inl rfl)), h.g.hi, h.g.st⟩, h.o.keep (h.f.fat.tag ht)⟩
/-- .. and the replies are appended -/
theorem PK.next {w wr w3 w4 : World} {p q : Nat} {m : Int} {P s l' : List UInt8} {e' : Nat} {so so' v v3 : Value} {rs : List (Int × List (List UInt8 × List UInt8) × List UInt8)} (h : PK w wr p q m P so v) (hR : putR m (feedOf m P).2.1 (feedOf m P).2.2 s = (rs, l', e')) (hf : FNew w.heap.size w3 p m l' e' v3) (hb : Below w.heap.size w w3) (ht : Touch (FS p v) wr w3)
    (ho : ROwn w4 w.heap.size so' ((feedOf m P).1 ++ rs)) (hg : w3.grownBy w4 so.ownBlock) : PK w w4 p q m (P ++ s) so' v3 := by
  obtain ⟨g1, g2⟩ := h.put hf hb ht
  have e := piece_go m P s
  rw [hR] at e
  refine ⟨?_, g1.grownR g2 hg, g2.low hb hg, ?_, h.ne⟩
  · rw [e]; exact hf.grownR g2 hg
  · rw [e]; exact ho
theorem feed_len (m : Int) (P : List UInt8) : (feedOf m P).2.1.length ≤ P.length ∧ (feedOf m P).1.length ≤ P.length := by
  have := (feed_count m P).1
  omega
set_option maxRecDepth 100000 in
set_option maxHeartbeats 8000000 in
theorem feedPieces_walk (m : Int) (v : Value) (ls : List (List UInt8)) (w : World) (hE : EnvF w) (hv : StrArg w v ls) :
    Calls Tryz.prog 5 #[.int .i64 m, v] w fun e w' => e = .returned (.bool true) ∧ Below w.heap.size w w' := by
  have HE := Lib.hid hE
  have HV := Lib.hid hv
  have HO := over45 v ls 20 2000 w (by decide) (by decide) hv
  obtain ⟨⟨va, vc, rfl, hvc, -⟩, -, hll⟩ := id hv
  unfold maxLen at hll
  cases hov : overB ls 20 2000 with
  | true =>
    rw [hov] at HO
    have HO := Lib.hid HO
    clear hE hv
    go_enter Tryz.func5, Tryz.ntmps5
    go_wp2_with fail
    refine HO.out.mono ?_
    rintro e w1 ⟨rfl, hww⟩
    obtain rfl := hww.symm
    go_wp2_with fail
    refine (awake45 _ HE.out).mono ?_
    rintro e w2 ⟨rfl, hb2⟩
    go_wp2_with fail
    go_ret
    exact ⟨rfl, hb2⟩
  | false =>
  rw [hov] at HO
  have HO := Lib.hid HO
  have HSm := Lib.hid (small45 ls hov)
  clear hE hv hov
  by_cases hm : m < 0 ∨ 1048576 < m
  · have HN := Lib.hid (fun W => feed_new_bad m W hm)
    clear hm
    go_enter Tryz.func5, Tryz.ntmps5
    go_wp2_with fail
    refine HO.out.mono ?_
    rintro e w1 ⟨rfl, hww⟩
    obtain rfl := hww.symm
    go_wp2_with fail
    refine (HN.out _).mono ?_
    rintro e w1 ⟨rfl, hww⟩
    obtain rfl := hww.symm
    go_wp2_with fail
    refine (HN.out _).mono ?_
    rintro e w1 ⟨rfl, hww⟩
    obtain rfl := hww.symm
    go_wp2_with fail
    refine (awake45 _ HE.out).mono ?_
    rintro e w2 ⟨rfl, hb2⟩
    go_wp2_with fail
    go_ret
    exact ⟨rfl, hb2⟩
  have HN := Lib.hid (fun W => feed_new m W (by omega) (by omega))
  obtain ⟨n, hn⟩ : ∃ n, ls.length = n := ⟨_, rfl⟩
  rw [hn] at hvc HV HO hll ⊢
  have HNN := Lib.hid hn
  clear hm hn
  go_enter Tryz.func5, Tryz.ntmps5
  go_wp2_with fail
  refine HO.out.mono ?_
  rintro e w1 ⟨rfl, hww⟩
  obtain rfl := hww.symm
  clear hww HO
  go_wp2_with fail
  refine (HN.out _).mono ?_
  rintro e w1 ⟨rfl, hf1, hb1⟩
  have HF1 := Lib.hid hf1
  have HB1 := Lib.hid hb1
  clear hf1 hb1
  go_wp2_with fail
  refine (HN.out _).mono ?_
  rintro e w2 ⟨rfl, hf2, hb2⟩
  have HP : Hid (PK w w2 w.heap.size w1.heap.size m [] (.slice none 0 0) (.slice none 0 0)) := Lib.hid (by
    have e0 : feedOf m [] = ([], [], 0) := feed_nil m
    have hlt := HF1.out.lt
    refine ⟨?_, FNew.new hf2 HB1.out.size rfl, bstep HB1.out hb2, ?_, by omega⟩
    · rw [e0]; exact (FNew.new HF1.out (Nat.le_refl _) rfl).below hb2
    · rw [e0]; exact ROwn.nil _ _)
  generalize w1.heap.size = q at HP ⊢
  clear hf2 hb2 HF1 HB1 HN
  go_wp2_with fail
  go_loopg [9, 10, 11] n (fun gk s9 s10 s11 wr => ∃ (k : Nat) (v : Value), s10 = .string (bs (ls.take k).flatten) ∧ s11 = .int .i64 (k : Int) ∧ k + gk = n ∧ Hid (PK w wr w.heap.size q m (ls.take k).flatten s9 v))
  case atStart => exact ⟨0, _, rfl, by simp, by omega, HP⟩
  case round =>
    obtain ⟨k, v, rfl, rfl, hgk, HPr⟩ := hrel
    by_cases hk : k < n
    · obtain ⟨g', rfl⟩ : ∃ g', gk = g' + 1 := ⟨gk - 1, by omega⟩
      have hkl : k < ls.length := by rw [HNN.out]; exact hk
      obtain ⟨⟨va', vc', hv1, -, hx⟩, hsz, -⟩ := HV.out
      obtain ⟨bb, ob, rfl, hbl, hcell⟩ := hx (fun e => by rw [e] at hkl; exact absurd hkl (Nat.not_lt_zero _))
      injection hv1 with hv1 hv2 hv3
      subst hv1
      clear hv2 hv3
      have c0 : ∀ W, Below w.heap.size w W → W.cell? ⟨bb, ob + k, none⟩ = some (.string (bs ls[k])) := fun W hW => (hW.cell (p := ⟨bb, ob + k, none⟩) hbl).trans (hcell k hkl)
      have hoff := offF_succ ls k hkl
      have hofl := offF_le ls (k + 1)
      have hsm := HSm.out.2
      have HPS : Hid ((ls.take (k + 1)).flatten = (ls.take k).flatten ++ ls[k]) := Lib.hid (by
        rw [List.take_succ_eq_append_getElem hkl, List.flatten_append]; simp)
      have hPl : (ls.take k).flatten.length = offF ls k := rfl
      obtain ⟨s, hs⟩ : ∃ s, ls[k] = s := ⟨_, rfl⟩
      rw [hs] at c0 hoff HPS
      generalize (ls.take k).flatten = P at HPr HPS hPl ⊢
      obtain ⟨rs, l', e', hR⟩ : ∃ rs l' e', putR m (feedOf m P).2.1 (feedOf m P).2.2 s = (rs, l', e') := ⟨_, _, _, rfl⟩
      have hcnt := putR_count m (feedOf m P).2.1 (feedOf m P).2.2 s
      have hfl := feed_len m P
      rw [hR] at hcnt
      have HPu := feed_put_is s HPr.out.f HE.out HPr.out.b (by omega) hR
      have HNl : Hid ((feedOf m P).1.length + rs.length < 2147483648) := Lib.hid (by have := hcnt.1; simp only at this; omega)
      obtain ⟨NR, hNR⟩ : ∃ NR, rs.length = NR := ⟨_, rfl⟩
      rw [hNR] at HPu
      have HPu := Lib.hid HPu
      have HNR := Lib.hid hNR
      have HRR := Lib.hid hR
      have HC0 := Lib.hid c0
      have c1 := c0 wr HPr.out.b
      obtain ⟨S, hS⟩ : ∃ S, bs s = S := ⟨_, rfl⟩
      obtain ⟨X, hX⟩ : ∃ X, bs P = X := ⟨_, rfl⟩
      have HXS : Hid (X ++ S = bs (P ++ s)) := Lib.hid (by rw [← hX, ← hS, bs_cat])
      have hXs : X.size ≤ 2000 := by rw [← hX, bs_size]; omega
      have hSs : S.size ≤ 2000 := by rw [← hS, bs_size]; omega
      rw [hS] at c1 HC0 HPu
      rw [hX]
      have padd := fun w => run_string_add_sum (P := Tryz.prog) w X S (by omega)
      have tk : decide ((k : Int) < (n : Int)) = true := decide_eq_true (by omega)
      clear hx hsz hcell c0 hoff hofl hsm hs hR hcnt hfl hS hX hNR HP hkl hPl
      go_wp2_with fail
      refine HPu.out.mono ?_
      rintro r w3 ⟨a3, c3, v3, rfl, hf3, hr3, hb3, ht3, -⟩
      have HF3 := Lib.hid hf3
      have HR3 := Lib.hid hr3
      have HB3 := Lib.hid hb3
      have HT3 := Lib.hid ht3
      have HPp := Lib.hid (HPr.out.put hf3 hb3 ht3)
      clear hf3 hr3 hb3 ht3 HPu c1
      have cS := HC0.out w3 HB3.out
      go_wp2_with (at_builtin; go_loud (refine append_rows w3 (by rfl) _ _ (by rfl) w.heap.size u9 (feedOf m P).1 (by rfl) HPp.out.2 _ (.slice a3 NR c3) rs (by rfl) HR3.out HNl.out HB3.out.size ?_); intro a4 n4 c4 w4 ho4 hg4; have HO4 := Lib.hid ho4; have HG4 := Lib.hid hg4; have cS4 := HC0.out w4 (HPp.out.2.low HB3.out hg4); clear ho4 hg4)
      have HPn : Hid (PK w w4 w.heap.size q m (P ++ s) (.slice a4 n4 c4) v3) := Lib.hid (HPr.out.next HRR.out HF3.out HB3.out HT3.out HO4.out HG4.out)
      have HXP : Hid (X ++ S = bs (ls.take (k + 1)).flatten) := Lib.hid (by rw [HPS.out]; exact HXS.out)
      have HPN : Hid (PK w w4 w.heap.size q m (ls.take (k + 1)).flatten (.slice a4 n4 c4) v3) := Lib.hid (by rw [HPS.out]; exact HPn.out)
      rw [HXP.out]
      go_roundg g'
      case measure => omega
      case rel => exact ⟨k + 1, v3, rfl, by simp, by omega, HPN⟩
    · obtain rfl : k = n := by omega
      have tk : decide ((k : Int) < (k : Int)) = false := decide_eq_false (by omega)
      have hPf : (ls.take k).flatten.length ≤ 2000 := by rw [← HNN.out, List.take_length]; exact HSm.out.2
      generalize (ls.take k).flatten = P at HPr hPf ⊢
      obtain ⟨rs, l, e, hR⟩ : ∃ rs l e, feedOf m P = (rs, l, e) := ⟨_, _, _, rfl⟩
      have hcnt := feed_count m P
      unfold CountOk at hcnt
      obtain ⟨hf, hg, hb, ho, hne⟩ := HPr.out
      rw [hR] at hcnt hf ho
      simp only at hcnt hf ho
      have HPu := feed_put_is P hg HE.out hb (by show 0 + P.length ≤ _; omega) (show putR m [] 0 P = (rs, l, e) from hR)
      obtain ⟨a9, c9, rfl⟩ := ho.form
      have HSz : Hid (rs.length ≤ 2000 ∧ ∀ r ∈ rs, r.2.1.length ≤ 1000000) := Lib.hid ⟨by omega, fun r hr => Nat.le_trans (hcnt.2 r hr) (by decide)⟩
      obtain ⟨NR, hNR⟩ : ∃ NR, rs.length = NR := ⟨_, rfl⟩
      rw [hNR] at HPu ho ⊢
      have HNR := Lib.hid hNR
      have HPu := Lib.hid HPu
      have HF := Lib.hid hf
      have HG := Lib.hid hg
      have HOo := Lib.hid ho
      have HB := Lib.hid hb
      have HNe := Lib.hid hne
      clear hcnt hf hg hb ho hne hNR hR hPf HPr HP
      go_wp2_with fail
      refine HPu.out.mono ?_
      rintro r w5 ⟨a5, c5, v5, rfl, hf5, hr5, hb5, ht5, -⟩
      have HF5 := Lib.hid (HF.out.fat.touch ht5 (HG.out.fat.beside HF.out.fat (fun e => HNe.out e.symm) (Classical.em _)))
      have HO5 := Lib.hid (HOo.out.keep (HG.out.fat.tag ht5))
      have HG5 := Lib.hid hf5
      have HR5 := Lib.hid hr5
      have HB5 := Lib.hid hb5
      have HBf := Lib.hid (feed_bad_at HF5.out)
      have HBg := Lib.hid (feed_bad_at hf5.fat)
      have HRf := Lib.hid (feed_rest_at HF5.out)
      have HRg := Lib.hid (feed_rest_at hf5.fat)
      have HEf := Lib.hid (feed_end_at HF5.out)
      have HEg := Lib.hid (fun W (hW : Below w5.heap.size w5 W) => feed_end_at (HG5.out.fat.below hW))
      obtain ⟨E9, hE9⟩ : ∃ E9, endE l e = E9 := ⟨_, rfl⟩
      obtain ⟨L9, hL9⟩ : ∃ L9, l.length = L9 := ⟨_, rfl⟩
      rw [hE9] at HEf HEg
      rw [hL9] at HRf HRg
      clear hf5 hr5 hb5 ht5 HF HG HOo HB HPu hE9 hL9
      go_wp2_with fail
      refine HBf.out.mono ?_
      rintro r wx ⟨rfl, hww⟩
      obtain rfl := hww.symm
      clear hww
      go_wp2_with fail
      refine HBg.out.mono ?_
      rintro r wx ⟨rfl, hww⟩
      obtain rfl := hww.symm
      clear hww
      go_wp2_with fail
      refine HRf.out.mono ?_
      rintro r wx ⟨rfl, hww⟩
      obtain rfl := hww.symm
      clear hww
      go_wp2_with fail
      refine HRg.out.mono ?_
      rintro r wx ⟨rfl, hww⟩
      obtain rfl := hww.symm
      clear hww
      go_wp2_with fail
      refine HEf.out.mono ?_
      rintro r w6 ⟨rfl, hb6⟩
      have HEg1 := Lib.hid (HEg.out _ hb6)
      have HB6 := Lib.hid hb6
      clear hb6
      go_wp2_with fail
      refine HEg1.out.mono ?_
      rintro r w7 ⟨rfl, hb7⟩
      have HB57 := Lib.hid (bstep HB6.out hb7)
      have HB7 := Lib.hid (bstep HB5.out HB57.out)
      have HA := Lib.hid (HR5.out.holds.below HB57.out)
      have HC := Lib.hid (HO5.out.holds.below HB57.out)
      clear hb7 HB6 HB57 HEg HEg1 HEf HRf HRg HBf HBg HF5 HG5 HR5 HO5 HB5
      go_wp2_with fail
      go_loopg [16] NR (fun gk s16 wr => ∃ j : Nat, s16 = .int .i64 (j : Int) ∧ j + gk = NR ∧ Hid (Below w7.heap.size w7 wr))
      case atStart => exact ⟨0, by simp, by omega, Lib.hid (Below.refl _ _)⟩
      case round =>
        obtain ⟨j, rfl, hgj, HBr⟩ := hrel
        by_cases hj : j < NR
        · obtain ⟨g', rfl⟩ : ∃ g', gk = g' + 1 := ⟨gk - 1, by omega⟩
          have hjl : j < rs.length := by rw [HNR.out]; exact hj
          obtain ⟨b1, o1, fa, fc, rfl, H1⟩ := HA.out.at j hjl
          obtain ⟨b2, o2, fb, fd, rfl, H2⟩ := HC.out.at j hjl
          have hfl := HSz.out.2 _ (List.getElem_mem hjl)
          obtain ⟨C, hC⟩ : ∃ C, rs[j].1 = C := ⟨_, rfl⟩
          obtain ⟨F, hFF⟩ : ∃ F, rs[j].2.1 = F := ⟨_, rfl⟩
          obtain ⟨B, hBB⟩ : ∃ B, bs rs[j].2.2 = B := ⟨_, rfl⟩
          rw [hC, hFF, hBB] at H1 H2
          rw [hFF] at hfl
          obtain ⟨fl, hfl2⟩ : ∃ fl, F.length = fl := ⟨_, rfl⟩
          have HFL := Lib.hid hfl2
          rw [hfl2] at H1 H2
          have HFl := Lib.hid hfl
          have HX := Lib.hid (fun W hW => H1 W (bstep HBr.out hW))
          have HY := Lib.hid (fun W hW => H2 W (bstep HBr.out hW))
          have HDr : Hid (Below wr.heap.size wr wr.drew) := Lib.hid (Below.refl _ _).drew
          have HS : Hid (∀ W, Below wr.heap.size wr W → W.cell? ⟨b1, o1 + j * 3, none⟩ = some (.int .i64 C) ∧ W.cell? ⟨b1, o1 + j * 3 + 1, none⟩ = some (.slice fa fl fc) ∧ W.cell? ⟨b1, o1 + j * 3 + 2, none⟩ = some (.string B) ∧ W.cell? ⟨b2, o2 + j * 3, none⟩ = some (.int .i64 C) ∧ W.cell? ⟨b2, o2 + j * 3 + 1, none⟩ = some (.slice fb fl fd) ∧ W.cell? ⟨b2, o2 + j * 3 + 2, none⟩ = some (.string B)) := Lib.hid (fun W hW =>
            let ⟨x0, x1, x2, _⟩ := HX.out W hW
            let ⟨y0, y1, y2, _⟩ := HY.out W hW
            ⟨x0, x1, x2, y0, y1, y2⟩)
          have HRm : Hid (∀ W, Below wr.heap.size wr W → Calls Tryz.prog 19 #[.agg #[.int .i64 C, .slice fa fl fc, .string B], .agg #[.int .i64 C, .slice fb fl fd, .string B]] W fun e w' => e = .returned (.bool true) ∧ Below W.heap.size W w') := Lib.hid (fun W hW => by
            have := reply_same C C B B (.slice fa fl fc) (.slice fb fl fd) F F W (HX.out _ hW).2.2.2 (HY.out _ hW).2.2.2 HFl.out HFl.out
            rw [sameR_refl] at this
            exact this)
          have tk2 : decide ((j : Int) < (NR : Int)) = true := decide_eq_true (by omega)
          clear H1 H2 hfl hfl2 hC hFF hBB HA HC hjl
          go_wp2_with fail
          go_region_held3 (fun w' => w'.cell? ⟨b1, o1 + j * 3, none⟩ = some (.int .i64 C) ∧ w'.cell? ⟨b1, o1 + j * 3 + 1, none⟩ = some (.slice fa fl fc) ∧ w'.cell? ⟨b1, o1 + j * 3 + 2, none⟩ = some (.string B) ∧ w'.cell? ⟨b2, o2 + j * 3, none⟩ = some (.int .i64 C) ∧ w'.cell? ⟨b2, o2 + j * 3 + 1, none⟩ = some (.slice fb fl fd) ∧ w'.cell? ⟨b2, o2 + j * 3 + 2, none⟩ = some (.string B)) (first | exact HS.out _ HDr.out | exact HS.out _ HA2.out)
            (first | (go_at_call 19; refine (HRm.out _ HDr.out).mono ?_; rintro e wa ⟨rfl, hba⟩; have HA2 : Hid (Below wr.heap.size wr wa) := Lib.hid (bstep HDr.out hba); clear hba))
          have HBn := Lib.hid (bstep HBr.out HA2.out)
          have hNb : NR ≤ 2000 := by rw [← HNR.out]; exact HSz.out.1
          clear HS HDr HA2 HRm HX HY HBr
          go_wp2_with fail
          go_roundg g'
          case measure => omega
          case rel => exact ⟨j + 1, by simp, by omega, HBn⟩
        · obtain rfl : j = NR := by omega
          have tk2 : decide ((j : Int) < (j : Int)) = false := decide_eq_false (by omega)
          have HB8 := Lib.hid (bstep HB7.out HBr.out)
          clear HA HC HBr
          go_wp2_with fail
          refine (awake45 _ (HE.out.below HB8.out)).mono ?_
          rintro r wz ⟨rfl, hbz⟩
          go_wp2_with fail
          go_ret
          exact ⟨rfl, bstep HB8.out hbz⟩
end Go.Proofs.YtdihhbkajcngeaaGreatDoor
namespace Go.Proofs.YtdihhbkajcngeaaGreatDoor
open Go.RowKit
theorem feedPieces_go {W : World} (m : Int) (v : Value) (ls : List (List UInt8)) (_ : (Lit.int .i64 m).wf = true) (hv : StrArg W v ls) (hL : laidMetH Tryz.prog Rows.feedPiecesRow.laid W) (hsh : W.ShapedOpen Tryz.prog) :
    Calls Tryz.prog 5 #[.int .i64 m, v] W fun e W' => e = .returned (.bool true) ∧ Below W.heap.size W W' := by
  rw [MakeChecks.laidMetH_plain _ _ _ (by kernel_rfl)] at hL
  exact feedPieces_walk m v ls W (env_of hL (by simp) hsh) hv
end Go.Proofs.YtdihhbkajcngeaaGreatDoor
namespace Go.Proofs.YtdihhbkajcngeaaGreatDoor
open Go.RowKit Go.Shelf Go.Lib
/-- the state behind some pieces -/
def stF (m : Int) (x : List UInt8 × Nat) (ls : List (List UInt8)) : List UInt8 × Nat := ls.foldl (fun x s => (putR m x.1 x.2 s).2) x
theorem stF_nil (m : Int) (x : List UInt8 × Nat) : stF m x [] = x := rfl
theorem stF_take (m : Int) (x : List UInt8 × Nat) (ls : List (List UInt8)) (k : Nat) (hk : k < ls.length) : stF m x (ls.take (k + 1)) = (putR m (stF m x (ls.take k)).1 (stF m x (ls.take k)).2 ls[k]).2 := by
  unfold stF
  rw [List.take_succ_eq_append_getElem hk, List.foldl_append]; rfl
/-- what the piece at a place brings -/
def toldF (m : Int) (x : List UInt8 × Nat) (ls : List (List UInt8)) (k : Nat) : List (Int × List (List UInt8 × List UInt8) × List UInt8) := (putR m (stF m x (ls.take k)).1 (stF m x (ls.take k)).2 (ls.getD k [])).1
theorem stF_len (m : Int) (x : List UInt8 × Nat) (ls : List (List UInt8)) : ∀ k, k ≤ ls.length → (stF m x (ls.take k)).1.length ≤ x.1.length + offF ls k := by
  intro k
  induction k with
  | zero => intro _; exact Nat.le_add_right _ _
  | succ k ih =>
    intro hk
    have h1 := ih (by omega)
    have h2 := (putR_count m (stF m x (ls.take k)).1 (stF m x (ls.take k)).2 ls[k]).1
    have h3 := offF_succ ls k (by omega)
    rw [stF_take m x ls k (by omega)]
    omega
theorem stF_st (m : Int) (x : List UInt8 × Nat) (hx : x.2 ≠ 0 → x.1 = []) (ls : List (List UInt8)) : ∀ k, k ≤ ls.length → (stF m x (ls.take k)).2 ≠ 0 → (stF m x (ls.take k)).1 = [] := by
  intro k
  induction k with
  | zero => intro _; exact hx
  | succ k ih =>
    intro hk
    rw [stF_take m x ls k (by omega)]
    exact putR_state m _ _ _ (ih (by omega))
theorem toldF_of (m : Int) (x : List UInt8 × Nat) (ls : List (List UInt8)) (k : Nat) (hk : k < ls.length) : putR m (stF m x (ls.take k)).1 (stF m x (ls.take k)).2 ls[k] = (toldF m x ls k, (stF m x (ls.take (k + 1))).1, (stF m x (ls.take (k + 1))).2) := by
  rw [stF_take m x ls k hk]
  unfold toldF
  rw [List.getD_eq_getElem?_getD, List.getElem?_eq_getElem hk]
  rfl
/-- a row of rows of replies -/
def TOwn (w : World) (B : Nat) (v : Value) (n : Nat) (f : Nat → List (Int × List (List UInt8 × List UInt8) × List UInt8)) : Prop :=
  ∃ vs : List Value, vs.length = n ∧ w.ownsRow B 31 1 v n vs ∧ ∀ j (hj : j < vs.length), ROwn w 0 vs[j] (f j)
theorem ROwn.zero {w : World} {B : Nat} {v : Value} {rs : List (Int × List (List UInt8 × List UInt8) × List UInt8)} (h : ROwn w B v rs) : ROwn w 0 v rs :=
  let ⟨fs, h1, h2, h3⟩ := h; ⟨fs, h1, own_mono h2 (Nat.zero_le _), h3⟩
theorem TOwn.nil (w : World) (B : Nat) (f : Nat → List (Int × List (List UInt8 × List UInt8) × List UInt8)) : TOwn w B (.slice none 0 0) 0 f := ⟨[], rfl, World.ownsRow_nil _ _ _ _, fun j hj => absurd hj (Nat.not_lt_zero _)⟩
/-- a feed's call keeps all rows of rows -/
theorem TOwn.feed {w w' : World} {B : Nat} {v u : Value} {n : Nat} {f : Nat → List (Int × List (List UInt8 × List UInt8) × List UInt8)} {p : Nat} {m : Int} {l : List UInt8} {e : Nat} (h : TOwn w B v n f) (hf : FAt w p m l e u) (ht : Touch (FS p u) w w') : TOwn w' B v n f := by
  obtain ⟨vs, h1, h2, h3⟩ := h
  refine ⟨vs, h1, own_kept h2 ht (fun g hg hs => ?_), fun j hj => (h3 j hj).keep (hf.tag ht)⟩
  rcases hs with rfl | hs
  · exact own_not_row h2 hf.blk (by decide) hg
  · rcases own_apart h2 hf.own (by decide) with hh | hh
    · rw [hh] at hg; cases hg
    · exact hh (by rw [hg, hs])
theorem TOwn.below {w w' : World} {B : Nat} {v : Value} {n : Nat} {f : Nat → List (Int × List (List UInt8 × List UInt8) × List UInt8)} (h : TOwn w B v n f) (hb : Below w.heap.size w w') : TOwn w' B v n f := by
  obtain ⟨vs, h1, h2, h3⟩ := h
  exact ⟨vs, h1, own_of_block h2 (fun g hg => hb.block g (h2.lt g hg).2), fun j hj => (h3 j hj).keep (TagKeep.of_below hb)⟩
theorem TOwn.form {w : World} {B : Nat} {v : Value} {n : Nat} {f : Nat → List (Int × List (List UInt8 × List UInt8) × List UInt8)} (h : TOwn w B v n f) : ∃ a c, v = .slice a n c := by
  obtain ⟨vs, h1, h2, h3⟩ := h
  rcases h2.2 with ⟨rfl, h0⟩ | ⟨g, cap, cur, rfl, -⟩
  · subst h0; exact ⟨none, 0, rfl⟩
  · exact ⟨_, cap, rfl⟩
/-- a row grows: feeds and replies stay -/
theorem FNew.grownT {R B n : Nat} {w w' : World} {p : Nat} {m : Int} {l : List UInt8} {e : Nat} {v so : Value} {f : Nat → List (Int × List (List UInt8 × List UInt8) × List UInt8)} (h : FNew R w p m l e v) (ho : TOwn w B so n f) (hg : w.grownBy w' so.ownBlock) : FNew R w' p m l e v := by
  obtain ⟨vs, f1, f2, f3⟩ := ho
  refine ⟨h.fat.keep (fun g hgs => hg.block g (h.fat.slt g hgs) (fun e => ?_)), h.hi, h.st⟩
  rcases hgs with rfl | hgs
  · exact own_not_row f2 h.fat.blk (by decide) e.symm
  · rcases own_apart h.fat.own f2 (by decide) with hh | hh
    · rw [hh] at hgs; cases hgs
    · exact hh (by rw [hgs, e])
theorem TOwn.low {w0 w w' : World} {so : Value} {n : Nat} {f : Nat → List (Int × List (List UInt8 × List UInt8) × List UInt8)} (ho : TOwn w w0.heap.size so n f) (hb : Below w0.heap.size w0 w) (hg : w.grownBy w' so.ownBlock) : Below w0.heap.size w0 w' := by
  obtain ⟨fs, f1, f2, f3⟩ := ho
  exact hb.grown hg hb.size (fun k hk => (f2.lt k hk).1)
theorem info_replies : (Tryz.prog.info? 31).map (fun i => (i.zero, i.size, i.bytes)) = some (some (.slice none 0 0), 1, 24) := by kernel_rfl
/-- a row of replies is appended to a row of rows -/
theorem append_told {ops : Array Oper} {rest : List Oper} {o : Oper} {a : Act} {Q : Exit → Act → World → Prop} (w0 : World) (hgd : o.guard = none) (s x : Operand)
    (ho : o.op = .call { callee := .builtin .append, args := #[s, x], argTypes := #[57, 57] })
    (base n : Nat) (v : Value) (f : Nat → List (Int × List (List UInt8 × List UInt8) × List UInt8)) (hs : a.eval s = v) (hown : TOwn w0 base v n f) (b2 n2 c2 : Nat) (a2 : Option Addr) (hR : ROwn w0 b2 (.slice a2 n2 c2) (f n))
    (hx : a.eval x = .slice (some ⟨w0.heap.size, 0, none⟩) 1 1) (hn : n < 2147483648) (hbase : base ≤ w0.heap.size)
    (h : ∀ g n1 cap w', TOwn w' base (.slice (some ⟨g, 0, none⟩) n1 cap) (n + 1) f → w0.grownBy w' v.ownBlock → wpList Tryz.prog ops Q rest (a.put o.dst (.slice (some ⟨g, 0, none⟩) n1 cap)) w') :
    wpList Tryz.prog ops Q (o :: rest) a (w0.alloc (.cells #[.slice a2 n2 c2] 31)) := by
  obtain ⟨i0, hi, hz0, hz1, hz2⟩ := info_parts info_replies
  obtain ⟨vs, h1, h2, h3⟩ := hown
  refine wpList_append_lies _ hgd s x 57 ho base 31 i0 _ 1 24 Tryz.underlying57 hi hz0 hz1 hz2 rfl (by decide) v n vs hs (h2.alloc _) ⟨w0.heap.size, 0, none⟩ 1 1 [.slice a2 n2 c2] hx rfl (World.news_of_block (heap_alloc_new w0 _)) (by simp [Value.oneCell']) (by decide) (by unfold maxLen; omega) (by omega) (by simp; omega) _ rfl ?_
  intro g cap w' k2 k3 k4 k5
  have hg : w0.grownBy w' v.ownBlock := ⟨k3.os, k3.tape, k3.output, Nat.le_trans (by simp) k3.size, fun k hk hne => (k3.block k (by simp; omega) hne).trans (heap_alloc_old w0 _ hk)⟩
  have hk : TagKeep w0 w' := fun g' cur t hg' ht => hg.block g' (Array.getElem?_eq_some_iff.1 hg').1 (fun e => by
    obtain ⟨c1, hc1⟩ := own_tag h2 g' e.symm
    rw [hg'] at hc1
    simp only [Option.some.injEq, Obj.cells.injEq] at hc1
    rcases ht with rfl | rfl <;> exact absurd hc1.2.1 (by decide))
  refine h g _ cap w' ⟨vs ++ [.slice a2 n2 c2], by rw [List.length_append, h1]; rfl, k2, fun j hj => ?_⟩ hg
  by_cases hj2 : j < vs.length
  · rw [List.getElem_append_left hj2]
    exact (h3 j hj2).keep hk
  · have hjl : j = n := by simp at hj; omega
    subst hjl
    have e1 : (vs ++ [.slice a2 n2 c2])[j]'hj = .slice a2 n2 c2 := by
      rw [List.getElem_append_right (by omega)]; simp [h1]
    rw [e1]
    exact hR.zero.keep hk
end Go.Proofs.YtdihhbkajcngeaaGreatDoor
