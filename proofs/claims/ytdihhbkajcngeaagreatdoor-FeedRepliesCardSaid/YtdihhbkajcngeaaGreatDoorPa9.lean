/- over and same of the laws of layer 45; Fork. same of the laws of layer 45. What Fork of package feed does; feeds that are not there. The small example of the laws of layer 45. Plain words for the laws of feeds; Put in either state. The law FeedReplies. What an argument that is a slice of the reference's fields reads as. What an argument that is a slice of the document's replies reads as. What the listed variables give. The law functions of layer 45, as the rows' proofs take them: FeedReplies. -/
import Derived.Test.YtdihhbkajcngeaaGreatDoorPa8
import Derived.Deep.Slices
import Derived.Deep.Fields
import Derived.ChangeSame
import Derived.Deep.Strs
import Derived.ChangeArms
import Derived.WideShapes
import Derived.Test.YtdihhbkajcngeaaGreatDoorRows
import Derived.OpenShut
import Derived.MakeChecks
import Derived.Stop.LaidErr
import Derived.PinnedBridge
import Derived.Lib.LaidU8T
import Derived.Lib.SmallJoins
set_option linter.unusedVariables false
namespace Go.Proofs.YtdihhbkajcngeaaGreatDoor
open Go.RowKit Go.Shelf Go.Lib
/-- how many bytes stand in the first k pieces -/
def offF (l : List (List UInt8)) (k : Nat) : Nat := (l.take k).flatten.length
theorem offF_zero (l : List (List UInt8)) : offF l 0 = 0 := rfl
theorem offF_succ (l : List (List UInt8)) (k : Nat) (h : k < l.length) : offF l (k + 1) = offF l k + l[k].length := by
  unfold offF
  rw [List.take_succ_eq_append_getElem h, List.flatten_append, List.length_append]
  simp
theorem offF_all (l : List (List UInt8)) : offF l l.length = l.flatten.length := by unfold offF; rw [List.take_length]
theorem offF_le (l : List (List UInt8)) (k : Nat) : offF l k ≤ l.flatten.length := by
  unfold offF
  conv => rhs; rw [← List.take_append_drop k l, List.flatten_append, List.length_append]
  omega
def overB (l : List (List UInt8)) (most bytes : Nat) : Bool := decide (bytes < l.flatten.length) || decide (most < l.length)
set_option maxRecDepth 100000 in
set_option maxHeartbeats 1000000 in
theorem over45 (v : Value) (l : List (List UInt8)) (N M : Nat) (w : World) (hM : M ≤ 100000) (hN : N ≤ 100000) (hv : StrArg w v l) :
    Calls Tryz.prog 7 #[v, .int .i64 (N : Nat), .int .i64 (M : Nat)] w fun e w' => e = .returned (.bool (overB l N M)) ∧ w' = w := by
  obtain ⟨⟨a, c, rfl, hc, hx⟩, hsz, hll⟩ := hv
  unfold maxLen at hll
  have HX := Lib.hid hx
  have HZ := Lib.hid hsz
  have HT : Hid (∀ k (hk : k < l.length), M < offF l (k + 1) → overB l N M = true) := Lib.hid (fun k hk h => by unfold overB; rw [decide_eq_true (Nat.lt_of_lt_of_le h (offF_le l _))]; rfl)
  have HE : Hid (offF l l.length ≤ M → overB l N M = decide (N < l.length)) := Lib.hid (fun h => by
    rw [offF_all] at h
    unfold overB; rw [decide_eq_false (by omega), Bool.false_or])
  clear hx hsz
  generalize overB l N M = B at HT HE ⊢
  go_enter Tryz.func7, Tryz.ntmps7
  go_wp2_with fail
  go_loop [2, 7] (fun t i => ∃ k : Nat, k ≤ l.length ∧ i = .int .i64 k ∧ offF l k ≤ M ∧ t = .int .i64 ((M : Int) - (offF l k : Nat))) (fun _ i => l.length - (intOf i).toNat)
  case atStart => exact ⟨0, by omega, rfl, by rw [offF_zero]; omega, by rw [offF_zero]; simp⟩
  case round =>
    obtain ⟨k, hk, rfl, hle, rfl⟩ := hrel
    by_cases hlt : k < l.length
    · obtain ⟨b, o, rfl, hbl, hcell⟩ := HX.out (fun e => by rw [e] at hlt; exact absurd hlt (Nat.not_lt_zero _))
      have c0 := hcell k hlt
      have hs := offF_succ l k hlt
      have hz := HZ.out l[k] (List.getElem_mem hlt)
      unfold maxLen at hz
      have hbz := bs_size l[k]
      have hT := Lib.hid (HT.out k hlt)
      clear hcell HX HZ HT
      generalize bs l[k] = X at c0 hbz
      obtain ⟨n, hn⟩ : ∃ n, n = l[k].length := ⟨_, rfl⟩
      rw [← hn] at hs hz hbz
      clear hn
      obtain ⟨q, hq⟩ : ∃ q, q = offF l k := ⟨_, rfl⟩
      rw [← hq] at hs hle ⊢
      have Hs := Lib.hid hs
      clear hs hq
      by_cases hbig : M < q + n
      · have t1 : decide ((M : Int) - (q : Int) - (n : Int) < 0) = true := decide_eq_true (by omega)
        have HB := Lib.hid (hT.out (by rw [Hs.out]; exact hbig))
        clear hT
        go_wp2_with fail
        go_ret
        exact ⟨by rw [HB.out]; rfl, rfl⟩
      · have t1 : decide ((M : Int) - (q : Int) - (n : Int) < 0) = false := decide_eq_false (by omega)
        clear hT
        go_wp2_with fail
        go_round
        case rel => exact ⟨k + 1, by omega, by go_num, by rw [Hs.out]; omega, by rw [Hs.out]; congr 1; omega⟩
        case measure => simp [intOf]; omega
    · obtain rfl : k = l.length := by omega
      have HB := Lib.hid (HE.out hle)
      clear HE HT HX HZ
      go_wp2_with fail
      go_ret
      exact ⟨by rw [HB.out]; rfl, rfl⟩
end Go.Proofs.YtdihhbkajcngeaaGreatDoor
namespace Go.Proofs.YtdihhbkajcngeaaGreatDoor
open Go.RowKit Go.Shelf Go.Lib
/-- the slice v reads, in the world w, as the replies rs -/
def HoldsQ (w : World) (v : Value) (rs : List (Int × List (List UInt8 × List UInt8) × List UInt8)) : Prop :=
  ∃ a c, v = .slice a rs.length c ∧ rs.length ≤ c ∧ (rs ≠ [] → ∃ b o, a = some ⟨b, o, none⟩ ∧ b < w.heap.size ∧ ∀ j (hj : j < rs.length), w.cell? ⟨b, o + j * 3, none⟩ = some (.int .i64 rs[j].1) ∧ (∃ fa fc, w.cell? ⟨b, o + j * 3 + 1, none⟩ = some (.slice fa rs[j].2.1.length fc) ∧ HoldsF w (.slice fa rs[j].2.1.length fc) rs[j].2.1) ∧ w.cell? ⟨b, o + j * 3 + 2, none⟩ = some (.string (bs rs[j].2.2)))
theorem HoldsQ.below {w w' : World} {v : Value} {rs : List (Int × List (List UInt8 × List UInt8) × List UInt8)} (h : HoldsQ w v rs) (hb : Below w.heap.size w w') : HoldsQ w' v rs := by
  obtain ⟨a, c, hv, hc, hx⟩ := h
  refine ⟨a, c, hv, hc, fun hne => ?_⟩
  obtain ⟨b, o, ha, hlt, hcell⟩ := hx hne
  refine ⟨b, o, ha, Nat.lt_of_lt_of_le hlt hb.size, fun j hj => ?_⟩
  obtain ⟨h1, ⟨fa, fc, h2, h3⟩, h4⟩ := hcell j hj
  exact ⟨(hb.cell (p := ⟨b, o + j * 3, none⟩) hlt).trans h1, ⟨fa, fc, (hb.cell (p := ⟨b, o + j * 3 + 1, none⟩) hlt).trans h2, h3.below hb⟩, (hb.cell (p := ⟨b, o + j * 3 + 2, none⟩) hlt).trans h4⟩
theorem HoldsQ.of_rows {w : World} {B : Nat} {e ef : TypeId} {v : Value} {rs : List (Int × List (List UInt8 × List UInt8) × List UInt8)} (fs : List Value) (h1 : fs.length = rs.length) (h2 : w.ownsRow B e 3 v rs.length (rcells rs fs)) (h3 : ∀ j (hj : j < rs.length) (hf : j < fs.length), ∃ a c, fs[j] = .slice a (rs[j].2.1).length c ∧ w.ownsRow 0 ef 2 fs[j] (rs[j].2.1).length (fcells rs[j].2.1)) : HoldsQ w v rs := by
  rcases h2.2 with ⟨rfl, h0⟩ | ⟨g, cap, cur, rfl, hb, hg, hle, hm, hs, ht⟩
  · have : rs = [] := List.eq_nil_of_length_eq_zero h0
    subst this
    exact ⟨none, 0, rfl, Nat.le_refl _, fun h => absurd rfl h⟩
  · refine ⟨_, cap, rfl, hle, fun _ => ⟨g, 0, rfl, (Array.getElem?_eq_some_iff.1 hg).1, fun j hj => ?_⟩⟩
    obtain ⟨a, c, e1, e2⟩ := h3 j hj (by omega)
    obtain ⟨g1, g2, g3⟩ := rcells_get rs fs h1 j hj
    have e0 : ∀ k, (⟨g, 0, none⟩ : Addr).add k = ⟨g, 0 + k, none⟩ := fun k => by unfold Addr.add; split <;> simp_all
    have k1 := h2.cells (g := g) rfl _ _ g1
    have k2 := h2.cells (g := g) rfl _ _ g2
    have k3 := h2.cells (g := g) rfl _ _ g3
    rw [e0] at k1 k2 k3
    rw [e1] at k2 e2
    exact ⟨k1, ⟨a, c, k2, HoldsF.of_own e2⟩, k3⟩
theorem ROwn.holds {w : World} {B : Nat} {v : Value} {rs : List (Int × List (List UInt8 × List UInt8) × List UInt8)} (h : ROwn w B v rs) : HoldsQ w v rs := let ⟨fs, h1, h2, h3⟩ := h; HoldsQ.of_rows fs h1 h2 h3
theorem QOwn.holds {w : World} {B : Nat} {v : Value} {rs : List (Int × List (List UInt8 × List UInt8) × List UInt8)} (h : QOwn w B v rs) : HoldsQ w v rs := let ⟨fs, h1, h2, h3⟩ := h; HoldsQ.of_rows fs h1 h2 h3
theorem HoldsQ.at {w : World} {a : Option Addr} {n c : Nat} {rs : List (Int × List (List UInt8 × List UInt8) × List UInt8)} (h : HoldsQ w (.slice a n c) rs) (k : Nat) (hk : k < rs.length) :
    ∃ b o fa fc, a = some ⟨b, o, none⟩ ∧ ∀ W, Below w.heap.size w W → W.cell? ⟨b, o + k * 3, none⟩ = some (.int .i64 rs[k].1) ∧ W.cell? ⟨b, o + k * 3 + 1, none⟩ = some (.slice fa rs[k].2.1.length fc) ∧ W.cell? ⟨b, o + k * 3 + 2, none⟩ = some (.string (bs rs[k].2.2)) ∧ HoldsF W (.slice fa rs[k].2.1.length fc) rs[k].2.1 := by
  obtain ⟨a', c', hv, hc, hx⟩ := h
  injection hv with e1 e2 e3
  subst e1
  obtain ⟨b, o, rfl, hlt, hcell⟩ := hx (fun e => by rw [e] at hk; exact absurd hk (Nat.not_lt_zero _))
  obtain ⟨h1, ⟨fa, fc, h2, h3⟩, h4⟩ := hcell k hk
  exact ⟨b, o, fa, fc, rfl, fun W hb => ⟨(hb.cell (p := ⟨b, o + k * 3, none⟩) hlt).trans h1, (hb.cell (p := ⟨b, o + k * 3 + 1, none⟩) hlt).trans h2, (hb.cell (p := ⟨b, o + k * 3 + 2, none⟩) hlt).trans h4, h3.below hb⟩⟩
set_option maxRecDepth 100000 in
set_option maxHeartbeats 2000000 in
theorem same45 (va vb : Value) (rs : List (Int × List (List UInt8 × List UInt8) × List UInt8)) (w : World) (ha : HoldsQ w va rs) (hb : HoldsQ w vb rs) (hf : ∀ r ∈ rs, r.2.1.length ≤ 1000000) (hl : rs.length ≤ 2147483647) :
    Calls Tryz.prog 12 #[va, vb] w fun e w' => e = .returned (.bool true) ∧ Below w.heap.size w w' := by
  have HA := Lib.hid ha
  have HB := Lib.hid hb
  obtain ⟨a1, c1, rfl, hc1, -⟩ := ha
  obtain ⟨a2, c2, rfl, hc2, -⟩ := hb
  have HF := Lib.hid hf
  have HB0 : Hid (Below w.heap.size w w) := Lib.hid (Below.refl _ _)
  obtain ⟨n, hn⟩ : ∃ n, rs.length = n := ⟨_, rfl⟩
  rw [hn] at hc1 hc2 hl HA HB ⊢
  clear hf
  go_enter Tryz.func12, Tryz.ntmps12
  go_wp2_with fail
  go_loopg [5] n (fun gk s5 wr => ∃ k : Nat, s5 = .int .i64 (k : Int) ∧ k + gk = n ∧ Hid (Below w.heap.size w wr))
  case atStart => exact ⟨0, by simp, by omega, HB0⟩
  case round =>
    obtain ⟨k, rfl, hgk, HBr⟩ := hrel
    by_cases hk : k < n
    · obtain ⟨g', rfl⟩ : ∃ g', gk = g' + 1 := ⟨gk - 1, by omega⟩
      have hkl : k < rs.length := by omega
      obtain ⟨b1, o1, fa, fc, rfl, H1⟩ := HA.out.at k hkl
      obtain ⟨b2, o2, fb, fd, rfl, H2⟩ := HB.out.at k hkl
      have hfl := HF.out _ (List.getElem_mem hkl)
      obtain ⟨C, hC⟩ : ∃ C, rs[k].1 = C := ⟨_, rfl⟩
      obtain ⟨F, hFF⟩ : ∃ F, rs[k].2.1 = F := ⟨_, rfl⟩
      obtain ⟨B, hBB⟩ : ∃ B, bs rs[k].2.2 = B := ⟨_, rfl⟩
      rw [hC, hFF, hBB] at H1 H2
      rw [hFF] at hfl
      obtain ⟨fl, hfl2⟩ : ∃ fl, F.length = fl := ⟨_, rfl⟩
      have HFL := Lib.hid hfl2
      rw [hfl2] at H1 H2
      have HFl := Lib.hid hfl
      have HX := Lib.hid (fun W hW => H1 W (bstep HBr.out hW))
      have HY := Lib.hid (fun W hW => H2 W (bstep HBr.out hW))
      have HDr : Hid (Below wr.heap.size wr wr.drew) := Lib.hid (Below.refl _ _).drew
      have HS : Hid (∀ W, Below wr.heap.size wr W → W.cell? ⟨b1, o1 + k * 3, none⟩ = some (.int .i64 C) ∧ W.cell? ⟨b1, o1 + k * 3 + 1, none⟩ = some (.slice fa fl fc) ∧ W.cell? ⟨b1, o1 + k * 3 + 2, none⟩ = some (.string B) ∧ W.cell? ⟨b2, o2 + k * 3, none⟩ = some (.int .i64 C) ∧ W.cell? ⟨b2, o2 + k * 3 + 1, none⟩ = some (.slice fb fl fd) ∧ W.cell? ⟨b2, o2 + k * 3 + 2, none⟩ = some (.string B)) := Lib.hid (fun W hW =>
        let ⟨x0, x1, x2, _⟩ := HX.out W hW
        let ⟨y0, y1, y2, _⟩ := HY.out W hW
        ⟨x0, x1, x2, y0, y1, y2⟩)
      have HBk := Lib.hid (law26_back C (.slice fa fl fc) F B wr.drew (HX.out _ HDr.out).2.2.2 (by rw [HFL.out]; have := HFl.out; omega))
      have HRm : Hid (∀ W va, Below wr.heap.size wr W → HoldsF W va F → Calls Tryz.prog 25 #[.agg #[.int .i64 C, va, .string B], .agg #[.int .i64 C, (.slice fb fl fd), .string B]] W fun e w' => e = .returned (.bool true) ∧ Below W.heap.size W w') := Lib.hid (fun W va hW ha => by
        have := ref_sameR C C B B va (.slice fb fl fd) F F W ha ((HY.out _ hW).2.2.2) HFl.out HFl.out
        rw [sameR_refl] at this
        exact this)
      have tk : decide ((k : Int) < (n : Int)) = true := decide_eq_true (by omega)
      clear H1 H2 hfl hfl2 hC hFF hBB HA HB HF hkl
      go_wp2_with fail
      go_region_held3 (fun w' => w'.cell? ⟨b1, o1 + k * 3, none⟩ = some (.int .i64 C) ∧ w'.cell? ⟨b1, o1 + k * 3 + 1, none⟩ = some (.slice fa fl fc) ∧ w'.cell? ⟨b1, o1 + k * 3 + 2, none⟩ = some (.string B) ∧ w'.cell? ⟨b2, o2 + k * 3, none⟩ = some (.int .i64 C) ∧ w'.cell? ⟨b2, o2 + k * 3 + 1, none⟩ = some (.slice fb fl fd) ∧ w'.cell? ⟨b2, o2 + k * 3 + 2, none⟩ = some (.string B)) (first | exact HS.out _ HDr.out | exact HS.out _ HA1.out | exact HS.out _ HA2.out)
        (first
          | (go_at_call 26; refine HBk.out.mono ?_; rintro e wx ⟨ax, cx, rfl, hox, hbx⟩; have HA1 : Hid (Below wr.heap.size wr wx) := Lib.hid (bstep HDr.out hbx); have HOX := Lib.hid (HoldsF.of_own hox); clear hox hbx)
          | (go_at_call 25; refine (HRm.out _ _ HA1.out HOX.out).mono ?_; rintro e wa ⟨rfl, hba⟩; have HA2 : Hid (Below wr.heap.size wr wa) := Lib.hid (bstep HA1.out hba); clear hba))
      have HBn := Lib.hid (bstep HBr.out HA2.out)
      clear HS HDr HA1 HA2 HBk HRm HOX HX HY HBr
      go_wp2_with fail
      go_roundg g'
      case measure => omega
      case rel => exact ⟨k + 1, by simp, by omega, HBn⟩
    · obtain rfl : k = n := by omega
      have tk : decide ((k : Int) < (k : Int)) = false := decide_eq_false (by omega)
      clear HA HB HF
      go_wp2_with fail
      go_ret
      exact ⟨rfl, HBr.out⟩
end Go.Proofs.YtdihhbkajcngeaaGreatDoor
namespace Go.Proofs.YtdihhbkajcngeaaGreatDoor
open Go.RowKit Go.Shelf Go.Lib
set_option maxRecDepth 100000 in
theorem clone_bytes_nil (w : World) : Calls Tryz.prog 32 #[.slice none 0 0] w fun e w' => e = .returned (.slice none 0 0) ∧ w' = w := by
  exact AnyE.slices_Clone_nil layCloneB 0 0 w
theorem clone_ownB (v : Value) (l : List UInt8) (w : World) (h : w.ownsRow 0 5 1 v l.length (bytesV l)) (hl : l.length ≤ 2000000) :
    Calls Tryz.prog 32 #[v] w fun e w' => ∃ v', e = .returned v' ∧ w'.ownsRow w.heap.size 5 1 v' l.length (bytesV l) ∧ Below w.heap.size w w' := by
  rcases id h.2 with ⟨rfl, h0⟩ | ⟨g, cap, cur, rfl, -⟩
  · refine (clone_bytes_nil w).mono ?_
    rintro e w' ⟨rfl, hw⟩
    subst hw
    obtain rfl : l = [] := List.length_eq_zero_iff.1 h0
    exact ⟨_, rfl, World.ownsRow_nil _ _ _ _, Below.refl _ _⟩
  · refine clone_bytes g 0 l.length cap l w rfl hl (h.lt g rfl).2 (fun j u hu => ?_)
    have e0 : ∀ k, (⟨g, 0, none⟩ : Addr).add k = ⟨g, 0 + k, none⟩ := fun k => by unfold Addr.add; split <;> simp_all
    have := h.cells (g := g) rfl j u hu
    rw [e0] at this
    exact this
set_option maxRecDepth 100000 in
set_option maxHeartbeats 2000000 in
theorem feed_fork_at {p : Nat} {m : Int} {l : List UInt8} {e : Nat} {v : Value} {w : World} (h : FAt w p m l e v) (hl : l.length ≤ 2000000) :
    Calls Tryz.prog 20 #[.pointer (some ⟨p, 0, none⟩)] w fun r w' => r = .returned (.pointer (some ⟨w.heap.size, 0, none⟩)) ∧ ∃ v', FAt w' w.heap.size m l e v' ∧ Below w.heap.size w w' ∧ (∀ g, v'.ownBlock = some g → w.heap.size < g) := by
  obtain ⟨c0, c1, c2, c3, f2, f3⟩ := h.cells
  have hpl := h.lt
  have HH := Lib.hid h
  obtain ⟨a, c, hv⟩ := slice_of_own h.own
  obtain ⟨n, hn⟩ : ∃ n, l.length = n := ⟨_, rfl⟩
  rw [hn] at hv
  subst hv
  have HN := Lib.hid hn
  have B1 : Below w.heap.size w (w.alloc (.cells #[.bool true, .int .i64 m, .slice a n c, .int .i64 (e : Nat)] 55)) := (Below.refl _ _).alloc (Nat.le_refl _) _
  have HB1 := Lib.hid B1
  have HFB := Lib.hid (h.below B1)
  have HBK := Lib.hid (heap_alloc_new w (.cells #[.bool true, .int .i64 m, .slice a n c, .int .i64 (e : Nat)] 55))
  have HC := Lib.hid (clone_ownB _ l _ HFB.out.own hl)
  have HSZ : Hid ((w.alloc (.cells #[.bool true, .int .i64 m, .slice a n c, .int .i64 (e : Nat)] 55)).heap.size = w.heap.size + 1) := Lib.hid (by simp)
  clear h hn B1
  go_enter Tryz.func20, Tryz.ntmps20
  go_wp2_with fail
  refine HC.out.mono ?_
  rintro r w1 ⟨v1, rfl, h1, h2⟩
  obtain ⟨a1, k1, hv1⟩ := slice_of_own h1
  rw [HN.out] at hv1
  subst hv1
  have H1 := Lib.hid h1
  have H2 := Lib.hid h2
  have hb1 : w1.heap[w.heap.size]? = _ := (h2.block w.heap.size (by simp)).trans HBK.out
  have g2 : w1.cell? ⟨w.heap.size, 2, none⟩ = some (.slice a n c) := by unfold World.cell?; rw [hb1]; rfl
  have gf : w1.frozen? ⟨w.heap.size, 2, none⟩ = false := by unfold World.frozen?; rw [hb1]; rfl
  have HK := Lib.hid hb1
  clear h1 h2 hb1 HC HFB c0 c1 c2 c3 f2 f3
  go_wp2_with fail
  go_ret
  refine ⟨rfl, .slice a1 n k1, ⟨row_set4 HK.out _, ?_⟩, (HB1.out.trans (H2.out.mono HB1.out.size)).setCell (p := ⟨w.heap.size, 2, none⟩) (Nat.le_refl _) _, fun g hg => ?_⟩
  · refine own_of_block (own_mono H1.out (Nat.zero_le _)) (fun g hg => set_far (fun e => ?_))
    have := (H1.out.lt g hg).1
    rw [HSZ.out] at this
    have e2 : g = w.heap.size := e
    omega
  · have := (H1.out.lt g hg).1
    rw [HSZ.out] at this
    omega
set_option maxRecDepth 100000 in
theorem feed_fork_nil (w : World) : Calls Tryz.prog 20 #[.pointer none] w fun r w' => r = .returned (.pointer none) ∧ w' = w := by
  go_enter Tryz.func20, Tryz.ntmps20
  go_wp2_with fail
  go_ret
  exact ⟨rfl, rfl⟩
set_option maxRecDepth 100000 in
theorem feed_put_nil (s : ByteArray) (w : World) : Calls Tryz.prog 10 #[.pointer none, .string s] w fun r w' => r = .returned (.tuple #[.slice none 0 0, .int .i64 1]) ∧ w' = w := by
  have HN := Lib.hid (feed_none_nil w)
  go_enter Tryz.func10, Tryz.ntmps10
  go_wp2_with fail
  refine HN.out.mono ?_
  rintro r w' ⟨rfl, hww⟩
  obtain rfl := hww.symm
  go_wp2_with fail
  go_ret2
  exact ⟨rfl, rfl⟩
set_option maxRecDepth 100000 in
theorem feed_put_zero (p : Nat) (s : ByteArray) (w : World) (h : w.cell? ⟨p, 0, none⟩ = some (.bool false)) : Calls Tryz.prog 10 #[.pointer (some ⟨p, 0, none⟩), .string s] w fun r w' => r = .returned (.tuple #[.slice none 0 0, .int .i64 1]) ∧ w' = w := by
  have HN := Lib.hid (feed_none_zero p w h)
  go_enter Tryz.func10, Tryz.ntmps10
  go_wp2_with fail
  refine HN.out.mono ?_
  rintro r w' ⟨rfl, hww⟩
  obtain rfl := hww.symm
  go_wp2_with fail
  go_ret2
  exact ⟨rfl, rfl⟩
set_option maxRecDepth 100000 in
theorem feed_end_nil (w : World) : Calls Tryz.prog 15 #[.pointer none] w fun r w' => r = .returned (.int .i64 1) ∧ w' = w := by
  have HN := Lib.hid (feed_none_nil w)
  go_enter Tryz.func15, Tryz.ntmps15
  go_wp2_with fail
  refine HN.out.mono ?_
  rintro r w' ⟨rfl, hww⟩
  obtain rfl := hww.symm
  go_wp2_with fail
  go_ret
  exact ⟨rfl, rfl⟩
set_option maxRecDepth 100000 in
theorem feed_rest_nil (w : World) : Calls Tryz.prog 13 #[.pointer none] w fun r w' => r = .returned (.int .i64 0) ∧ w' = w := by
  have HN := Lib.hid (feed_none_nil w)
  go_enter Tryz.func13, Tryz.ntmps13
  go_wp2_with fail
  refine HN.out.mono ?_
  rintro r w' ⟨rfl, hww⟩
  obtain rfl := hww.symm
  go_wp2_with fail
  go_ret
  exact ⟨rfl, rfl⟩
set_option maxRecDepth 100000 in
theorem feed_bad_zero (p : Nat) (w : World) (h : w.cell? ⟨p, 0, none⟩ = some (.bool false)) : Calls Tryz.prog 14 #[.pointer (some ⟨p, 0, none⟩)] w fun r w' => r = .returned (.int .i64 1) ∧ w' = w := by
  have HN := Lib.hid (feed_none_zero p w h)
  go_enter Tryz.func14, Tryz.ntmps14
  go_wp2_with fail
  refine HN.out.mono ?_
  rintro r w' ⟨rfl, hww⟩
  obtain rfl := hww.symm
  go_wp2_with fail
  go_ret
  exact ⟨rfl, rfl⟩
end Go.Proofs.YtdihhbkajcngeaaGreatDoor
namespace Go.Proofs.YtdihhbkajcngeaaGreatDoor
open Go.RowKit
/-- the pieces of the example -/
def a451 : List UInt8 := [72, 84, 84, 80, 47, 49, 46, 49, 32, 50, 48, 48, 32, 79, 75, 13, 10, 67, 111, 110, 116, 101, 110, 116, 45, 76, 101, 110, 103, 116, 104, 58, 32, 50, 13, 10, 13, 10, 97]
def a452 : List UInt8 := [98, 72, 84, 84, 80, 47, 49, 46, 49, 32, 52, 48, 52, 13, 10, 67, 111, 110, 116, 101, 110, 116, 45, 76, 101, 110, 103, 116, 104, 58, 32, 48, 13, 10, 13, 10]
def a453 : List UInt8 := [120, 13, 10, 13, 10]
set_option maxRecDepth 100000 in
theorem ev1 : feedOf 9 a451 = ([], a451, 0) := feed_short 9 a451 (by decide +kernel)
set_option maxRecDepth 100000 in
theorem ev2 : (feedOf 9 (a451 ++ a452)).2 = ([], 0) ∧ (feedOf 9 (a451 ++ a452)).1.length = 2 := by decide +kernel
set_option maxRecDepth 100000 in
theorem ev3 : (feedOf 9 (a451 ++ a452)).1.map (fun r => (r.1, r.2.2)) = [(200, [97, 98]), (404, [])] := by decide +kernel
set_option maxRecDepth 100000 in
theorem ev4 : feedOf 9 a453 = ([], [], 13) := by
  have h : takE (bs a453) 9 = 13 := by decide +kernel
  rw [feed_bad 9 a453 (by rw [h]; decide) (by rw [h]; decide), h]
end Go.Proofs.YtdihhbkajcngeaaGreatDoor
namespace Go.Proofs.YtdihhbkajcngeaaGreatDoor
open Go.RowKit Go.Shelf Go.Lib
def putR (m : Int) (l : List UInt8) (e : Nat) (s : List UInt8) : List (Int × List (List UInt8 × List UInt8) × List UInt8) × List UInt8 × Nat := if e = 0 then feedOf m (l ++ s) else ([], l, e)
/-- few and small replies come -/
def CountOk (m : Int) (l : List UInt8) : Prop := (feedOf m l).1.length + (feedOf m l).2.1.length ≤ l.length ∧ ∀ r ∈ (feedOf m l).1, r.2.1.length ≤ 17
theorem feed_count (m : Int) : ∀ l, CountOk m l := by
  refine feed_ind m (CountOk m) ?_
  intro l ih
  unfold CountOk at ih ⊢
  by_cases h0 : takE (bs l) m = 0
  · have ih0 := ih h0
    rw [feed_more m l h0]
    obtain ⟨n1, n2, n3⟩ := tak_n l m h0
    rw [List.length_drop] at ih0
    have hF := takF_len (bs l) m
    generalize feedOf m (l.drop (takN (bs l) m).toNat) = R at ih0 ⊢
    obtain ⟨i1, i2⟩ := ih0
    refine ⟨?_, fun r hr => ?_⟩
    · show (R.1.length + 1) + R.2.1.length ≤ l.length
      omega
    · rcases List.mem_cons.1 hr with rfl | hr
      · exact hF
      · exact i2 r hr
  · by_cases h3 : takE (bs l) m = 3
    · rw [feed_short m l h3]
      exact ⟨by show 0 + l.length ≤ l.length; omega, fun r hr => nomatch hr⟩
    · rw [feed_bad m l h0 h3]
      exact ⟨by show 0 + 0 ≤ l.length; omega, fun r hr => nomatch hr⟩
theorem putR_count (m : Int) (l : List UInt8) (e : Nat) (s : List UInt8) : (putR m l e s).1.length + (putR m l e s).2.1.length ≤ l.length + s.length ∧ (∀ r ∈ (putR m l e s).1, r.2.1.length ≤ 1000000) := by
  unfold putR
  split
  · obtain ⟨h1, h2⟩ := feed_count m (l ++ s)
    rw [List.length_append] at h1
    exact ⟨h1, fun r hr => Nat.le_trans (h2 r hr) (by decide)⟩
  · exact ⟨by show 0 + l.length ≤ _; omega, fun r hr => nomatch hr⟩
theorem putR_state (m : Int) (l : List UInt8) (e : Nat) (s : List UInt8) (h : e ≠ 0 → l = []) : (putR m l e s).2.2 ≠ 0 → (putR m l e s).2.1 = [] := by
  unfold putR
  split
  · exact (feed_rest m (l ++ s)).2.1
  · exact fun h2 => h h2
theorem feed_put_any {p : Nat} {m : Int} {l : List UInt8} {e : Nat} {v : Value} {w : World} (s : ByteArray) (h : FAt w p m l e v) (hE : ∀ W, Touch (FS p v) w W → EnvF W) (hl : l.length + s.size ≤ 1000000) :
    Calls Tryz.prog 10 #[.pointer (some ⟨p, 0, none⟩), .string s] w (FPost p m v (putR m l e s.data.toList) w) := by
  unfold putR
  split
  · next he => subst he; exact feed_put s h hE hl
  · next he => exact feed_put_bad s h he
theorem rput_any (m : Int) (l : List UInt8) (e : Nat) (s : ByteArray) (w : World) (hl : l.length + s.size ≤ 1000000) :
    Calls Tryz.prog 11 #[.agg #[.int .i64 m, .string (bs l), .int .i64 (e : Nat)], .string s] w (RFPost m (putR m l e s.data.toList) w) := by
  unfold putR
  split
  · next he => subst he; exact rput m l s w hl
  · next he => exact rput_bad m l e s w he
/-- a feed that stands apart from what stood before -/
structure FNew (R : Nat) (w : World) (p : Nat) (m : Int) (l : List UInt8) (e : Nat) (v : Value) : Prop where
  fat : FAt w p m l e v
  hi : ∀ g, FS p v g → R ≤ g
  st : e ≠ 0 → l = []
theorem FNew.go {R : Nat} {w w' : World} {p : Nat} {m : Int} {l l' : List UInt8} {e e' : Nat} {v v' : Value} (h : FNew R w p m l e v) (hf : FAt w' p m l' e' v') (hn : ∀ g, v'.ownBlock = some g → v.ownBlock = some g ∨ w.heap.size ≤ g) (hR : R ≤ w.heap.size) (hs : e' ≠ 0 → l' = []) : FNew R w' p m l' e' v' :=
  ⟨hf, fun g hg => (FS.sub hn g hg).elim (h.hi g) (fun h2 => Nat.le_trans hR h2), hs⟩
theorem FNew.below {R : Nat} {w w' : World} {p : Nat} {m : Int} {l : List UInt8} {e : Nat} {v : Value} (h : FNew R w p m l e v) (hb : Below w.heap.size w w') : FNew R w' p m l e v := ⟨h.fat.below hb, h.hi, h.st⟩
theorem FNew.low {w0 w w' : World} {p : Nat} {m : Int} {l : List UInt8} {e : Nat} {v : Value} (h : FNew w0.heap.size w p m l e v) (hb : Below w0.heap.size w0 w) (ht : Touch (FS p v) w w') : Below w0.heap.size w0 w' :=
  hb.trans (ht.below h.hi hb.size)
/-- Put at a feed that stands apart -/
theorem feed_put_new {w0 w : World} {p : Nat} {m : Int} {l : List UInt8} {e : Nat} {v : Value} (s : ByteArray) (h : FNew w0.heap.size w p m l e v) (hE : EnvF w0) (hb : Below w0.heap.size w0 w) (hl : l.length + s.size ≤ 1000000) :
    Calls Tryz.prog 10 #[.pointer (some ⟨p, 0, none⟩), .string s] w fun r w' => ∃ a n c v', r = .returned (.tuple #[.slice a n c, .int .i64 ((putR m l e s.data.toList).2.2 : Nat)]) ∧ n = (putR m l e s.data.toList).1.length ∧ FNew w0.heap.size w' p m (putR m l e s.data.toList).2.1 (putR m l e s.data.toList).2.2 v' ∧ ROwn w' w.heap.size (.slice a n c) (putR m l e s.data.toList).1 ∧ Below w0.heap.size w0 w' ∧ Touch (FS p v) w w' ∧ (∀ g, FS p v' g → FS p v g ∨ w.heap.size ≤ g) := by
  refine (feed_put_any s h.fat (fun W hW => hE.below (h.low hb hW)) hl).mono ?_
  rintro r w' ⟨rv, v', rfl, h1, h2, h3, h4⟩
  obtain ⟨a, c, rfl⟩ := h2.form
  exact ⟨a, _, c, v', rfl, rfl, h.go h1 h4 hb.size (putR_state m l e _ h.st), h2, h.low hb h3, h3, FS.sub h4⟩
theorem feed_put_is {w0 w : World} {p : Nat} {m : Int} {l : List UInt8} {e : Nat} {v : Value} (s : List UInt8) (h : FNew w0.heap.size w p m l e v) (hE : EnvF w0) (hb : Below w0.heap.size w0 w) (hl : l.length + s.length ≤ 1000000)
    {rs : List (Int × List (List UInt8 × List UInt8) × List UInt8)} {l' : List UInt8} {e' : Nat} (hR : putR m l e s = (rs, l', e')) :
    Calls Tryz.prog 10 #[.pointer (some ⟨p, 0, none⟩), .string (bs s)] w fun r w' => ∃ a c v', r = .returned (.tuple #[.slice a rs.length c, .int .i64 (e' : Nat)]) ∧ FNew w0.heap.size w' p m l' e' v' ∧ ROwn w' w.heap.size (.slice a rs.length c) rs ∧ Below w0.heap.size w0 w' ∧ Touch (FS p v) w w' ∧ (∀ g, FS p v' g → FS p v g ∨ w.heap.size ≤ g) := by
  have := feed_put_new (bs s) h hE hb (by rw [bs_size]; exact hl)
  rw [bs_data, hR] at this
  refine this.mono ?_
  rintro r w' ⟨a, n, c, v', rfl, rfl, h1, h2, h3, h4, h5⟩
  exact ⟨a, c, v', rfl, h1, h2, h3, h4, h5⟩
theorem FNew.new {R : Nat} {w : World} {p : Nat} {m : Int} {v : Value} (h : FAt w p m [] 0 v) (hp : R ≤ p) (hv : v.ownBlock = none) : FNew R w p m [] 0 v :=
  ⟨h, fun g hg => hg.elim (fun e => e ▸ hp) (fun h2 => by rw [hv] at h2; cases h2), fun h => absurd rfl h⟩
theorem ROwn.block {w : World} {B : Nat} {v : Value} {rs : List (Int × List (List UInt8 × List UInt8) × List UInt8)} (h : ROwn w B v rs) (hn : 0 < rs.length) : ∃ g c, v = .slice (some ⟨g, 0, none⟩) rs.length c := by
  obtain ⟨fs, h1, h2, h3⟩ := h
  obtain ⟨g, c, rfl, -⟩ := own_form h2 hn
  exact ⟨g, c, rfl⟩
set_option maxRecDepth 100000 in
set_option maxHeartbeats 4000000 in
theorem awake45 (w : World) (hE : EnvF w) : Calls Tryz.prog 8 #[] w fun e w' => e = .returned (.bool true) ∧ Below w.heap.size w w' := by
  have HE := Lib.hid hE
  have HN1 := Lib.hid (feed_new 9 w (by decide) (by decide))
  have HN2 := Lib.hid (fun W => feed_new_bad (-1) W (.inl (by decide)))
  clear hE
  go_enter Tryz.func8, Tryz.ntmps8
  go_wp2_with fail
  refine HN1.out.mono ?_
  rintro r w1 ⟨rfl, hf1, hb1⟩
  have HF1 := Lib.hid (FNew.new (R := w.heap.size) hf1 (Nat.le_refl _) rfl)
  have HB1 := Lib.hid hb1
  clear hf1 hb1
  go_wp2_with fail
  refine (HN2.out _).mono ?_
  rintro r w1' ⟨rfl, hww⟩
  obtain rfl := hww.symm
  clear hww HN1 HN2
  have HP1 := feed_put_is a451 HF1.out HE.out HB1.out (by decide) (show putR 9 [] 0 a451 = ([], a451, 0) from ev1)
  have HP1 := Lib.hid HP1
  clear HF1
  go_wp2_with fail
  refine HP1.out.mono ?_
  rintro r w2 ⟨a2, c2, v2, rfl, hf2, -, hb2, -, -⟩
  have HF2 := Lib.hid hf2
  have HB2 := Lib.hid hb2
  have HR2 := Lib.hid (feed_rest_at hf2.fat)
  have HN2 := Lib.hid (feed_end_at hf2.fat)
  clear hf2 hb2 HP1 HB1
  go_wp2_with fail
  refine HR2.out.mono ?_
  rintro r w2' ⟨rfl, hww⟩
  obtain rfl := hww.symm
  clear hww HR2
  go_wp2_with fail
  refine HN2.out.mono ?_
  rintro r w3 ⟨rfl, hb3⟩
  have HF3 := Lib.hid (HF2.out.below hb3)
  have HB3 := Lib.hid (bstep HB2.out hb3)
  obtain ⟨rs, hrs⟩ : ∃ rs, (feedOf 9 (a451 ++ a452)).1 = rs := ⟨_, rfl⟩
  have hl2 := ev2.2
  have hm2 := ev3
  rw [hrs] at hl2 hm2
  have HP3 := feed_put_is a452 HF3.out HE.out HB3.out (by decide) (show putR 9 a451 0 a452 = (rs, [], 0) by
    rw [← hrs]
    exact Prod.ext rfl ev2.1)
  rw [hl2] at HP3
  have HP3 := Lib.hid HP3
  have HM2 := Lib.hid (And.intro hl2 hm2)
  clear hb3 HB2 HF2 HN2 hl2 hm2 hrs
  have he39 : endE a451 0 = 3 := by decide
  have hl39 : a451.length = 39 := by decide
  rw [he39, hl39]
  go_wp2_with fail
  refine HP3.out.mono ?_
  rintro r w4 ⟨a4, c4, v4, rfl, hf4, hr4, hb4, -, -⟩
  have hr4' := hr4
  obtain ⟨g4, c4', e4⟩ := hr4'.block (by rw [HM2.out.1]; decide)
  rw [HM2.out.1] at e4
  injection e4 with e4 _ e4'
  subst e4
  subst e4'
  have HF4 := Lib.hid hf4
  have HB4 := Lib.hid hb4
  have HR4 := Lib.hid hr4
  have HN4 := Lib.hid (feed_end_at hf4.fat)
  have he0 : endE [] 0 = 0 := by decide
  rw [he0] at HN4
  clear hf4 hb4 hr4 HP3 HB3 HF3 hr4'
  go_wp2_with fail
  refine HN4.out.mono ?_
  rintro r w5 ⟨rfl, hb5⟩
  have HF5 := Lib.hid (HF4.out.below hb5)
  have HB5 := Lib.hid (bstep HB4.out hb5)
  have HR5 := Lib.hid (HR4.out.keep (TagKeep.of_below hb5))
  have HP5 := Lib.hid (feed_put_is a453 HF5.out HE.out HB5.out (by decide) (show putR 9 [] 0 a453 = ([], [], 13) from ev4))
  clear hb5 HB4 HF4 HR4 HN4 he0
  go_wp2_with fail
  refine HP5.out.mono ?_
  rintro r w6 ⟨a6, c6, v6, rfl, hf6, -, hb6, ht6, -⟩
  have HF6 := Lib.hid hf6
  have HB6 := Lib.hid hb6
  have HR6 := Lib.hid (HR5.out.keep (HF5.out.fat.tag ht6))
  have HP6 := Lib.hid (feed_put_is [121] HF6.out HE.out HB6.out (by decide) (show putR 9 [] 13 [121] = ([], [], 13) from rfl))
  clear hf6 hb6 ht6 HB5 HF5 HR5 HP5
  go_wp2_with fail
  refine HP6.out.mono ?_
  rintro r w7 ⟨a7, c7, v7, rfl, hf7, -, hb7, ht7, -⟩
  have HR7 := HR6.out.keep (HF6.out.fat.tag ht7)
  have HBd := Lib.hid (feed_bad_at hf7.fat)
  have HB7 := Lib.hid hb7
  obtain ⟨rs0, rs1, hrs⟩ : ∃ r0 r1, rs = [r0, r1] := by
    have := HM2.out.1
    match rs, this with
    | [r0, r1], _ => exact ⟨r0, r1, rfl⟩
  have hmm := HM2.out.2
  subst hrs
  simp only [List.map_cons, List.map_nil, List.cons.injEq, Prod.mk.injEq, and_true] at hmm
  obtain ⟨⟨-, m2⟩, m3, -⟩ := hmm
  obtain ⟨-, -, -, -, x2, -, -⟩ := HR7.at 0 (Nat.zero_lt_succ _)
  obtain ⟨-, -, y0, -, -, -, -⟩ := HR7.at 1 (Nat.lt_succ_self _)
  have x2' : w7.cell? ⟨g4, 2, none⟩ = some (.string (bs [97, 98])) := x2.trans (by rw [show [rs0, rs1][0].2.2 = [97, 98] from m2])
  have y0' : w7.cell? ⟨g4, 3, none⟩ = some (.int .i64 404) := y0.trans (by rw [show [rs0, rs1][1].1 = 404 from m3])
  obtain ⟨X, hX⟩ : ∃ X, bs [97, 98] = X := ⟨_, rfl⟩
  have tX : (X.toList == [97, 98]) = true := by rw [← hX, ByteArray.toList_eq, bs_data]; rfl
  rw [hX] at x2'
  clear x2 y0 m2 m3 hX HP3 HM2 HR6 HR7 hf7 hb7 ht7 HF6 HB6 HP6 HE
  go_wp2_with fail
  refine HBd.out.mono ?_
  rintro r w8 ⟨rfl, hww⟩
  obtain rfl := hww.symm
  go_wp2_with fail
  go_ret
  exact ⟨rfl, HB7.out⟩
end Go.Proofs.YtdihhbkajcngeaaGreatDoor
namespace Go.Proofs.YtdihhbkajcngeaaGreatDoor
open Go.RowKit Go.Shelf Go.Lib
/-- what is left of a printed reply of which k bytes have come -/
def leftK (S : List UInt8) (k : Nat) : List UInt8 := if k < S.length then S.take k else []
theorem leftK_zero (S : List UInt8) : leftK S 0 = [] := by
  unfold leftK; split <;> rfl
theorem leftK_all (S : List UInt8) : leftK S S.length = [] := by
  unfold leftK; rw [if_neg (Nat.lt_irrefl _)]
theorem leftK_len (S : List UInt8) (k : Nat) : (leftK S k).length ≤ S.length := by
  unfold leftK; split
  · exact List.length_take_le' ..
  · exact Nat.zero_le _
theorem leftK_next (S : List UInt8) (k : Nat) (hk : k < S.length) : leftK S k ++ [S[k]] = S.take (k + 1) := by
  unfold leftK; rw [if_pos hk, List.take_succ_eq_append_getElem hk]
/-- one byte more of a printed reply -/
theorem putR_byte (c : Int) (fs : List (List UInt8 × List UInt8)) (b : List UInt8) (m : Int) (hm : (b.length : Int) ≤ m) (h : repE c fs = 0) (hn : b.length ≤ 1000000) (k : Nat) (hk : k < (repL c fs b).length) :
    putR m (leftK (repL c fs b) k) 0 [(repL c fs b)[k]] = (if k + 1 = (repL c fs b).length then [(c, fs, b)] else [], leftK (repL c fs b) (k + 1), 0) := by
  unfold putR
  rw [if_pos rfl, leftK_next _ _ hk]
  by_cases h1 : k + 1 = (repL c fs b).length
  · rw [if_pos h1, h1, leftK_all, List.take_length]
    exact feed_print m c fs b hm h hn
  · rw [if_neg h1]
    have h2 : k + 1 < (repL c fs b).length := by omega
    rw [show leftK (repL c fs b) (k + 1) = (repL c fs b).take (k + 1) from if_pos h2]
    exact feed_cut m c fs b (k + 1) hm h hn h2
/-- a byte of a text, as a text -/
theorem extract_byte (s : ByteArray) (k : Nat) (hk : k < s.data.toList.length) : s.extract k (k + 1) = bs [s.data.toList[k]] := by
  rw [extract_bs]
  congr 1
  have hs : k < s.size := by rw [← size_len]; exact hk
  rw [List.take_succ_eq_append_getElem hk, List.drop_append]
  simp [Nat.min_eq_left (Nat.le_of_lt hs)]
/-- the state between two replies -/
structure BK (w wr : World) (v : Value) : Prop where
  f : FNew w.heap.size wr w.heap.size 500 [] 0 v
  b : Below w.heap.size w wr
theorem HoldsQ.one {w : World} {a : Option Addr} {n c : Nat} {rs : List (Int × List (List UInt8 × List UInt8) × List UInt8)} (h : HoldsQ w (.slice a n c) rs) (k : Nat) (hk : k < rs.length) {b o : Nat} (ha : a = some ⟨b, o, none⟩) :
    HoldsQ w (.slice (some ⟨b, o + k * 3, none⟩) 1 (c - k)) [rs[k]] := by
  obtain ⟨a', c', hv, hc, hx⟩ := h
  injection hv with e1 e2 e3
  subst e1 e3 ha
  obtain ⟨b', o', hb, hlt, hcell⟩ := hx (fun e => by rw [e] at hk; exact absurd hk (Nat.not_lt_zero _))
  injection hb with hb
  injection hb with h4 h5
  subst h4 h5
  refine ⟨_, _, rfl, by show 1 ≤ _; omega, fun _ => ⟨b, _, rfl, hlt, fun j hj => ?_⟩⟩
  obtain rfl : j = 0 := by simp at hj; omega
  exact hcell k hk
set_option maxRecDepth 100000 in
set_option maxHeartbeats 8000000 in
theorem feedReplies_walk (v : Value) (rs : List (Int × List (List UInt8 × List UInt8) × List UInt8)) (w : World) (hE : EnvF w) (hv : HoldsQ w v rs) (hl : rs.length ≤ maxLen) (hr : ∀ r ∈ rs, -9223372036854775808 ≤ r.1 ∧ r.1 ≤ 9223372036854775807 ∧ r.2.1.length ≤ 9223372036854775807) :
    Calls Tryz.prog 4 #[v] w fun e w' => e = .returned (.bool true) ∧ Below w.heap.size w w' := by
  unfold maxLen at hl
  have HE := Lib.hid hE
  have HV := Lib.hid hv
  have HR := Lib.hid hr
  obtain ⟨va, vc, rfl, hvc, -⟩ := id hv
  clear hE hv hr
  obtain ⟨n, hn⟩ : ∃ n, rs.length = n := ⟨_, rfl⟩
  rw [hn] at hvc HV hl ⊢
  have HNN := Lib.hid hn
  clear hn
  by_cases h4 : 4 < n
  · have t0 : decide ((n : Int) > 4) = true := decide_eq_true (by omega)
    go_enter Tryz.func4, Tryz.ntmps4
    go_wp2_with fail
    refine (awake45 _ HE.out).mono ?_
    rintro e w2 ⟨rfl, hb2⟩
    go_wp2_with fail
    go_ret
    exact ⟨rfl, hb2⟩
  have t0 : decide ((n : Int) > 4) = false := decide_eq_false (by omega)
  have HN := Lib.hid (feed_new 500 w (by decide) (by decide))
  go_enter Tryz.func4, Tryz.ntmps4
  go_wp2_with fail
  refine HN.out.mono ?_
  rintro e w1 ⟨rfl, hf1, hb1⟩
  have HT : Hid (BK w w1 (.slice none 0 0)) := Lib.hid ⟨FNew.new hf1 (Nat.le_refl _) rfl, hb1⟩
  clear hf1 hb1 HN
  go_wp2_with fail
  go_loopg [5] n (fun gk s5 wr => ∃ (k : Nat) (v : Value), s5 = .int .i64 (k : Int) ∧ k + gk = n ∧ Hid (BK w wr v))
  case atStart => exact ⟨0, _, by simp, by omega, HT⟩
  case round =>
    obtain ⟨k, v, rfl, hgk, HTr⟩ := hrel
    by_cases hk : k < n
    · obtain ⟨g', rfl⟩ : ∃ g', gk = g' + 1 := ⟨gk - 1, by omega⟩
      have hkl : k < rs.length := by rw [HNN.out]; exact hk
      obtain ⟨b1, o1, fa, fc, rfl, H1⟩ := HV.out.at k hkl
      have HO1 := Lib.hid (HV.out.one k hkl rfl)
      have hrk := HR.out _ (List.getElem_mem hkl)
      obtain ⟨⟨C, F, B⟩, hQ⟩ : ∃ q, rs[k] = q := ⟨_, rfl⟩
      rw [hQ] at H1 HO1 hrk
      obtain ⟨c0, c1, hFl⟩ := hrk
      simp only at H1 c0 c1 hFl
      have HX := Lib.hid (fun W hW => H1 W (bstep HTr.out.b hW))
      obtain ⟨S0, hS0⟩ : ∃ S, bs B = S := ⟨_, rfl⟩
      have HS0 := Lib.hid hS0
      have HOv := Lib.hid (fun W hW => ref_rover C (.slice fa F.length fc) F (bs B) W hW hFl)
      rw [hS0] at HX HOv
      have tk : decide ((k : Int) < (n : Int)) = true := decide_eq_true (by omega)
      obtain ⟨FL, hFL⟩ : ∃ FL, F.length = FL := ⟨_, rfl⟩
      have HFL := Lib.hid hFL
      rw [hFL] at HX HOv hFl
      obtain ⟨x0, x1, x2, -⟩ := HX.out wr (Below.refl _ _)
      cases hov : overR F S0 with
      | true =>
        rw [hov] at HOv
        clear H1 hQ hov hFL hS0 HT
        go_wp2_with fail
        refine (HOv.out _ ((HX.out wr (Below.refl _ _)).2.2.2)).mono ?_
        rintro e w2 ⟨rfl, hb2⟩
        have HB2 := Lib.hid (bstep HTr.out.b hb2)
        clear hb2
        go_wp2_with fail
        refine (awake45 _ (HE.out.below HB2.out)).mono ?_
        rintro e w3 ⟨rfl, hb3⟩
        go_wp2_with fail
        go_ret
        exact ⟨rfl, bstep HB2.out hb3⟩
      | false =>
        rw [hov] at HOv
        obtain ⟨f1, f2, f3⟩ := overR_false F S0 hov
        have HPr := Lib.hid (fun W hW => ref_rprint C (.slice fa F.length fc) F S0 W c0 c1 hW (by omega) (fun f hf => by have := f2 f hf; omega) (by omega))
        unfold RPost at HPr
        rw [hFL] at HPr
        have hSB : S0.data.toList = B := by rw [← hS0, bs_data]
        rw [hSB] at HPr
        have hBl : B.length ≤ 500 := by rw [← hSB, size_len]; exact f3
        by_cases he : repE C F = 0
        case neg =>
          have hS : repS C F B = [] := by unfold repS; rw [if_neg he]
          rw [hS] at HPr
          have tz : ((repE C F : Int) != 0) = true := by rw [bne_iff_ne]; omega
          generalize repE C F = E at HPr tz
          generalize bs [] = Z at HPr
          clear H1 hQ hov hFL hS0 HT f2 hS he hSB
          go_wp2_with fail
          refine (HOv.out _ ((HX.out wr (Below.refl _ _)).2.2.2)).mono ?_
          rintro e w2 ⟨rfl, hb2⟩
          have HB2 := Lib.hid hb2
          clear hb2 x0 x1 x2
          obtain ⟨x0, x1, x2, -⟩ := HX.out w2 HB2.out
          go_wp2_with fail
          refine (HPr.out _ ((HX.out w2 HB2.out).2.2.2)).mono ?_
          rintro e w3 ⟨rfl, hb3⟩
          have HTn : Hid (BK w w3 v) := Lib.hid ⟨HTr.out.f.below (bstep HB2.out hb3), bstep HTr.out.b (bstep HB2.out hb3)⟩
          clear hb3 x0 x1 x2 HB2
          go_wp2_with fail
          go_roundg g'
          case measure => omega
          case rel => exact ⟨k + 1, v, by simp, by omega, HTn⟩
        have hS : repS C F B = repL C F B := by unfold repS; rw [if_pos he]
        rw [hS, he] at HPr
        have hLl := (repL_len C F B he (by omega)).1
        have HPB := Lib.hid (putR_byte C F B 500 (by omega) he (by omega))
        have HQ := Lib.hid hQ
        have HF1 : Hid (∀ r ∈ [(C, F, B)], r.2.1.length ≤ 1000000) := Lib.hid (fun r hr => by
          obtain rfl := List.mem_singleton.1 hr
          show F.length ≤ _
          omega)
        obtain ⟨L, hL⟩ : ∃ L, repL C F B = L := ⟨_, rfl⟩
        rw [hL] at HPr HPB hLl
        obtain ⟨S, hSS⟩ : ∃ S, bs L = S := ⟨_, rfl⟩
        rw [hSS] at HPr
        obtain ⟨N, hN⟩ : ∃ N, S.size = N := ⟨_, rfl⟩
        have HNL : Hid (L.length = N) := Lib.hid (by rw [← hN, ← hSS, bs_size])
        have HSS := Lib.hid hSS
        have hNl : N ≤ 5000 := by rw [← HNL.out]; omega
        have HN := Lib.hid hN
        clear H1 hQ hov hFL hS0 HT f2 hS he hSB hLl hL hSS hN
        go_wp2_with fail
        refine (HOv.out _ ((HX.out wr (Below.refl _ _)).2.2.2)).mono ?_
        rintro e w2 ⟨rfl, hb2⟩
        have HB2 := Lib.hid hb2
        clear hb2 x0 x1 x2
        obtain ⟨x0, x1, x2, -⟩ := HX.out w2 HB2.out
        go_wp2_with fail
        refine (HPr.out _ ((HX.out w2 HB2.out).2.2.2)).mono ?_
        rintro e w3 ⟨rfl, hb3⟩
        have HTn : Hid (BK w w3 v) := Lib.hid ⟨HTr.out.f.below (bstep HB2.out hb3), bstep HTr.out.b (bstep HB2.out hb3)⟩
        clear hb3 x0 x1 x2 HB2 HTr HPr HOv
        have HI : Hid (FNew w.heap.size w3 w.heap.size 500 (leftK L 0) 0 v ∧ Below w.heap.size w w3) := Lib.hid ⟨by rw [leftK_zero]; exact HTn.out.f, HTn.out.b⟩
        clear HTn
        go_wp2_with fail
        go_loopg [8] N (fun gj s8 wj => ∃ (j : Nat) (v : Value), s8 = .int .i64 (j : Int) ∧ j + gj = N ∧ Hid (FNew w.heap.size wj w.heap.size 500 (leftK L j) 0 v ∧ Below w.heap.size w wj))
        case atStart => exact ⟨0, _, by simp, by omega, HI⟩
        case round =>
          obtain ⟨j, v, rfl, hgj, HIr⟩ := hrel
          have hNs := HN.out
          by_cases hj : j < N
          · obtain ⟨g2, rfl⟩ : ∃ g2, gk = g2 + 1 := ⟨gk - 1, by omega⟩
            have hjL : j < L.length := by rw [HNL.out]; exact hj
            have HPu := feed_put_is [L[j]] HIr.out.1 HE.out HIr.out.2 (by have := leftK_len L j; have := HNL.out; simp only [List.length_singleton]; omega) (HPB.out j hjL)
            have hex : S.extract j (j + 1) = bs [L[j]] := by
              rw [← HSS.out]
              rw [extract_byte (bs L) j (by rw [bs_data]; exact hjL)]
              simp only [bs_data]
            have tj : decide ((j : Int) < (N : Int)) = true := decide_eq_true (by omega)
            by_cases hl : j + 1 = N
            · rw [if_pos (by rw [HNL.out]; exact hl)] at HPu
              have t1 : decide ((j : Int) + 1 < (N : Int)) = false := decide_eq_false (by omega)
              have t2 : ((j : Int) + 1 == (N : Int)) = true := by rw [beq_iff_eq]; omega
              have HL := Lib.hid hl
              clear hl
              rw [show ([(C, F, B)] : List (Int × List (List UInt8 × List UInt8) × List UInt8)).length = 1 from rfl] at HPu
              have HPu := Lib.hid HPu
              go_wp2_with fail
              refine HPu.out.mono ?_
              rintro r w5 ⟨a5, c5, v5, rfl, hf5, hr5, hb5, ht5, -⟩
              have HF5 := Lib.hid (And.intro hf5 hb5)
              have HR5 := Lib.hid hr5
              clear hf5 hr5 hb5 ht5 HPu
              have HSa : Hid (∀ W, Below w5.heap.size w5 W → Calls Tryz.prog 12 #[.slice a5 1 c5, .slice (some ⟨b1, o1 + k * 3, none⟩) 1 (vc - k)] W fun e w' => e = .returned (.bool true) ∧ Below W.heap.size W w') := Lib.hid (fun W hW => same45 _ _ [(C, F, B)] W (HR5.out.holds.below hW) ((HO1.out.below HF5.out.2).below hW) HF1.out (by show 1 ≤ _; decide))
              have HNx : Hid (j + 1 + g2 = N) := Lib.hid (by omega)
              go_wp2_with fail
              all_goals
                refine (HSa.out _ (Below.refl _ _)).mono ?_
                rintro r w6 ⟨rfl, hb6⟩
                have HIn : Hid (FNew w.heap.size w6 w.heap.size 500 (leftK L (j + 1)) 0 v5 ∧ Below w.heap.size w w6) := Lib.hid ⟨HF5.out.1.below hb6, bstep HF5.out.2 hb6⟩
                clear hb6
                go_wp2_with fail
                go_roundg g2
                case measure => omega
                case rel => exact ⟨j + 1, v5, by simp, HNx.out, HIn⟩
            · rw [if_neg (by rw [HNL.out]; exact hl)] at HPu
              have t1 : decide ((j : Int) + 1 < (N : Int)) = true := decide_eq_true (by omega)
              have t2 : ((j : Int) + 1 == (N : Int)) = false := by rw [beq_eq_false_iff_ne]; omega
              clear hl
              rw [show ([] : List (Int × List (List UInt8 × List UInt8) × List UInt8)).length = 0 from rfl] at HPu
              have HPu := Lib.hid HPu
              go_wp2_with fail
              refine HPu.out.mono ?_
              rintro r w5 ⟨a5, c5, v5, rfl, hf5, hr5, hb5, ht5, -⟩
              have HIn : Hid (FNew w.heap.size w5 w.heap.size 500 (leftK L (j + 1)) 0 v5 ∧ Below w.heap.size w w5) := Lib.hid ⟨hf5, hb5⟩
              clear hf5 hr5 hb5 ht5 HPu
              have HNx : Hid (j + 1 + g2 = N) := Lib.hid (by omega)
              go_wp2_with fail
              go_roundg g2
              case measure => omega
              case rel => exact ⟨j + 1, v5, by simp, HNx.out, HIn⟩
          · obtain rfl : j = N := by omega
            have tj : decide ((j : Int) < (j : Int)) = false := decide_eq_false (by omega)
            have hz : leftK L j = [] := by rw [← HNL.out]; exact leftK_all L
            rw [hz] at HIr
            have HRs : Hid (Calls Tryz.prog 13 #[.pointer (some ⟨w.heap.size, 0, none⟩)] wr fun e w' => e = .returned (.int .i64 0) ∧ w' = wr) := Lib.hid (feed_rest_at HIr.out.1.fat)
            have HEn : Hid (Calls Tryz.prog 15 #[.pointer (some ⟨w.heap.size, 0, none⟩)] wr fun r w' => r = .returned (.int .i64 0) ∧ Below wr.heap.size wr w') := Lib.hid (feed_end_at HIr.out.1.fat)
            have HK : Hid (k + 1 + g' = n) := Lib.hid (by omega)
            clear hz HPB
            go_wp2_with fail
            refine HRs.out.mono ?_
            rintro r wx ⟨rfl, hww⟩
            obtain rfl := hww.symm
            clear hww
            go_wp2_with fail
            refine HEn.out.mono ?_
            rintro r w6 ⟨rfl, hb6⟩
            have HTn : Hid (BK w w6 v) := Lib.hid ⟨HIr.out.1.below hb6, bstep HIr.out.2 hb6⟩
            clear hb6
            go_wp2_with fail
            go_roundg g'
            case measure => omega
            case rel => exact ⟨k + 1, v, by simp, HK.out, HTn⟩
    · obtain rfl : k = n := by omega
      have tk : decide ((k : Int) < (k : Int)) = false := decide_eq_false (by omega)
      clear HT
      go_wp2_with fail
      refine (awake45 _ (HE.out.below HTr.out.b)).mono ?_
      rintro r wz ⟨rfl, hbz⟩
      go_wp2_with fail
      go_ret
      exact ⟨rfl, bstep HTr.out.b hbz⟩
end Go.Proofs.YtdihhbkajcngeaaGreatDoor
namespace Go.Proofs.YtdihhbkajcngeaaGreatDoor
open Go.RowKit

def FieldArg (W : World) (v : Value) (fs : List (List UInt8 × List UInt8)) : Prop := HoldsF W v fs ∧ (∀ f ∈ fs, f.1.length ≤ maxLen ∧ f.2.length ≤ maxLen) ∧ fs.length ≤ maxLen
theorem len_two {α : Type} {l : List α} (h : l.length = 2) : ∃ a b, l = [a, b] := by
  cases l with
  | nil => simp at h
  | cons a t => cases t with
    | nil => simp at h
    | cons b u => cases u with
      | nil => exact ⟨a, b, rfl⟩
      | cons c v => simp at h
theorem string_cell {H : Type} {enc : TypeId × Value → H} {W : World} {n : Nat} {cs : List Value} {x : DataW H × List MemPlace} (h : DataW.trod enc Tryz.prog W 0 (fun _ => true) true n 9 cs = some x) : ∃ l : List UInt8, cs = [.string (bs l)] ∧ l.length ≤ maxLen := by
  obtain ⟨s, hs, _, hm⟩ := DataW.trod_string Tryz.underlying9 h
  exact ⟨s.data.toList, by rw [hs, bs_self], by rw [size_len]; exact hm⟩
set_option maxRecDepth 10000 in
theorem fieldArg_of {H : Type} {enc : TypeId × Value → H} {W : World} {b : Option Addr} {n c : Nat} {d : DataW H} {p : List MemPlace}
    (h : DataW.Trod enc Tryz.prog W 0 (fun _ => true) true 43 (.slice b n c) d p) : ∃ fs, FieldArg W (.slice b n c) fs := by
  obtain ⟨fuel, hf⟩ := h
  rcases Go.Deep.open_slice Tryz.underlying43 hf with ⟨hcs, _⟩ | ⟨a, len, cap, m, q, D, Pl, hcs, _, hl, hm, hmm, _, hi⟩
  · simp [Value.cells] at hcs
    obtain ⟨rfl, rfl, rfl⟩ := hcs
    exact ⟨[], HoldsF.nil W none 0, fun f hf => by simp at hf, by unfold maxLen; simp⟩
  · simp [Value.cells] at hcs
    obtain ⟨rfl, rfl, rfl⟩ := hcs
    have hC : Tryz.prog.cellsOf 70 = 2 := by kernel_rfl
    have hS : Tryz.prog.cellsOf 9 = 1 := by kernel_rfl
    have key : ∀ i, ∃ f : List UInt8 × List UInt8, i < n → W.cell? (a.add (i * 2)) = some (.string (bs f.1)) ∧ W.cell? (a.add (i * 2 + 1)) = some (.string (bs f.2)) ∧ f.1.length ≤ maxLen ∧ f.2.length ≤ maxLen := by
      intro i
      by_cases hin : i < n
      · obtain ⟨cs', hc', ht⟩ := hi i (by rw [hmm]; simp; omega)
        rw [hC] at hc'
        obtain ⟨_, hcl, hcell⟩ := World.cells?_some hc'
        obtain ⟨xs, k, _, _, hcl2, hxl, hg⟩ := DataW.trod_struct Tryz.underlying70 ht
        obtain ⟨u0, u1, rfl⟩ := len_two hcl
        have hxl2 : xs.length = 2 := hxl
        obtain ⟨z0, z1, rfl⟩ := len_two hxl2
        have g0 : DataW.trod enc Tryz.prog W 0 (fun _ => true) true k 9 (([u0, u1].drop 0).take (Tryz.prog.cellsOf 9)) = some z0 := hg 0 _ rfl
        have g1 : DataW.trod enc Tryz.prog W 0 (fun _ => true) true k 9 (([u0, u1].drop 1).take (Tryz.prog.cellsOf 9)) = some z1 := hg 1 _ rfl
        rw [hS] at g0 g1
        obtain ⟨l0, e0, b0⟩ := string_cell g0
        obtain ⟨l1, e1, b1⟩ := string_cell g1
        have c0 := hcell 0 (by omega)
        have c1 := hcell 1 (by omega)
        rw [Go.Deep.add_add] at c0 c1
        simp at e0 e1 c0 c1
        subst e0 e1
        exact ⟨(l0, l1), fun _ => ⟨c0, c1, b0, b1⟩⟩
      · exact ⟨([], []), fun h => absurd h hin⟩
    obtain ⟨g, hg⟩ := Classical.skolem.1 key
    have hlen : ((List.range n).map g).length = n := by simp
    refine ⟨(List.range n).map g, ⟨some a, c, by rw [hlen], by rw [hlen]; exact hl, fun hne => ?_⟩, ?_, by rw [hlen]; omega⟩
    · have hpos : 0 < n := by
        rcases Nat.eq_zero_or_pos n with h0 | h0
        · subst h0; simp at hne
        · exact h0
      have h0 := (hg 0 hpos).1
      obtain ⟨b, o, sp⟩ := a
      have hsp : sp = none := by simpa [Addr.add] using World.cell?_spot h0
      subst hsp
      have ea : ∀ k, (⟨b, o, none⟩ : Addr).add k = ⟨b, o + k, none⟩ := fun k => by unfold Addr.add; split <;> simp_all
      refine ⟨b, o, rfl, by have := World.block_lt_of_cell? _ _ h0; simpa [Addr.add] using this, fun j hj => ?_⟩
      rw [hlen] at hj
      have hj2 := hg j hj
      rw [ea, ea] at hj2
      rw [List.getElem_map, List.getElem_range]
      exact ⟨hj2.1, hj2.2.1⟩
    · intro f hf
      obtain ⟨i, hi', rfl⟩ := List.mem_map.1 hf
      exact (hg i (List.mem_range.1 hi')).2.2
end Go.Proofs.YtdihhbkajcngeaaGreatDoor
namespace Go.Proofs.YtdihhbkajcngeaaGreatDoor
open Go.RowKit
/-- the slice v reads as the replies rs, each within the bounds of its type -/
def RepliesArg (W : World) (v : Value) (rs : List (Int × List (List UInt8 × List UInt8) × List UInt8)) : Prop :=
  HoldsQ W v rs ∧ (∀ r ∈ rs, (Lit.int .i64 r.1).wf = true ∧ r.2.1.length ≤ maxLen ∧ r.2.2.length ≤ maxLen) ∧ rs.length ≤ maxLen
section
variable {H : Type} {enc : TypeId × Value → H} {W : World}
theorem qint_at {fuel : Nat} {c : Value} {x : DataW H × List MemPlace} (h : DataW.trod enc Tryz.prog W 0 (fun _ => true) true fuel 3 [c] = some x) : ∃ n : Int, c = .int .i64 n ∧ (Lit.int .i64 n).wf = true := by
  obtain ⟨n, h1, h2, h3⟩ := DataW.trod_int Tryz.underlying3 h
  exact ⟨n, (List.cons.inj h1).1, h3⟩
theorem qstr_at {fuel : Nat} {c : Value} {x : DataW H × List MemPlace} (h : DataW.trod enc Tryz.prog W 0 (fun _ => true) true fuel 9 [c] = some x) : ∃ s : List UInt8, c = .string (bs s) ∧ s.length ≤ maxLen := by
  obtain ⟨n, h1, h2, h3⟩ := DataW.trod_string Tryz.underlying9 h
  exact ⟨n.data.toList, by rw [bs_self]; exact (List.cons.inj h1).1, by rw [size_len]; exact h3⟩
theorem qslice_at {fuel : Nat} {c : Value} {x : DataW H × List MemPlace} (h : DataW.trod enc Tryz.prog W 0 (fun _ => true) true fuel 43 [c] = some x) : ∃ b cp fs, c = .slice b fs.length cp ∧ FieldArg W (.slice b fs.length cp) fs := by
  obtain ⟨b, n, cp, rfl⟩ : ∃ b n cp, c = .slice b n cp := by
    rcases Go.Deep.open_slice Tryz.underlying43 h with ⟨hcs, _⟩ | ⟨a, len, cap, m, q, D, Pl, hcs, _⟩
    · exact ⟨_, _, _, (List.cons.inj hcs).1⟩
    · exact ⟨_, _, _, (List.cons.inj hcs).1⟩
  obtain ⟨d, p⟩ := x
  obtain ⟨fs, hf⟩ := fieldArg_of (b := b) (n := n) (c := cp) (d := d) (p := p) ⟨fuel, by simpa [Value.cells] using h⟩
  obtain ⟨a, c, hv, -, -⟩ := id hf.1
  injection hv with h1 h2 h3
  subst h2
  exact ⟨b, cp, fs, rfl, hf⟩
theorem len_three {α : Type} {l : List α} (h : l.length = 3) : ∃ a b c, l = [a, b, c] := by
  match l, h with
  | [a, b, c], _ => exact ⟨a, b, c, rfl⟩
set_option maxRecDepth 10000 in
theorem repliesArg_of {b : Option Addr} {n c : Nat} {d : DataW H} {p : List MemPlace}
    (h : DataW.Trod enc Tryz.prog W 0 (fun _ => true) true 34 (.slice b n c) d p) : ∃ rs, RepliesArg W (.slice b n c) rs := by
  obtain ⟨fuel, hf⟩ := h
  rcases Go.Deep.open_slice Tryz.underlying34 hf with ⟨hcs, _⟩ | ⟨a, len, cap, m, q, D, Pl, hcs, _, hl, hm, hmm, _, hi⟩
  · simp [Value.cells] at hcs
    obtain ⟨rfl, rfl, rfl⟩ := hcs
    exact ⟨[], ⟨none, 0, rfl, Nat.le_refl _, fun h => absurd rfl h⟩, (fun f hf => absurd hf (by simp)), by unfold maxLen; simp⟩
  · simp [Value.cells] at hcs
    obtain ⟨rfl, rfl, rfl⟩ := hcs
    have hC : Tryz.prog.cellsOf 45 = 3 := by kernel_rfl
    have key : ∀ i, ∃ r : Int × List (List UInt8 × List UInt8) × List UInt8, i < n → W.cell? (a.add (i * 3)) = some (.int .i64 r.1) ∧ (∃ fa fc, W.cell? (a.add (i * 3 + 1)) = some (.slice fa r.2.1.length fc) ∧ FieldArg W (.slice fa r.2.1.length fc) r.2.1) ∧ W.cell? (a.add (i * 3 + 2)) = some (.string (bs r.2.2)) ∧ (Lit.int .i64 r.1).wf = true ∧ r.2.2.length ≤ maxLen := by
      intro i
      by_cases hin : i < n
      · obtain ⟨cs', hc', ht⟩ := hi i (by rw [hmm]; simp; omega)
        rw [hC] at hc'
        obtain ⟨_, hcl, hcell⟩ := World.cells?_some hc'
        obtain ⟨u0, u1, u2, rfl⟩ := len_three hcl
        obtain ⟨y0, y1, y2, k, hx, hyl, g0, g1, g2⟩ := Go.Deep.trod_struct3 Tryz.underlying45 ht
        rw [show Tryz.prog.cellsOf 3 = 1 by kernel_rfl] at g0
        rw [show Tryz.prog.cellsOf 43 = 1 by kernel_rfl] at g1
        rw [show Tryz.prog.cellsOf 9 = 1 by kernel_rfl] at g2
        obtain ⟨l0, e0, b0⟩ := qint_at (by simpa using g0)
        obtain ⟨fa, fc, fs, e1, b1⟩ := qslice_at (by simpa using g1)
        obtain ⟨l2, e2, b2⟩ := qstr_at (by simpa using g2)
        have c0 := hcell 0 (by omega)
        have c1 := hcell 1 (by omega)
        have c2 := hcell 2 (by omega)
        rw [Go.Deep.add_add] at c0 c1 c2
        subst e0 e1 e2
        simp at c0 c1 c2
        exact ⟨(l0, fs, l2), fun _ => ⟨c0, ⟨fa, fc, c1, b1⟩, c2, b0, b2⟩⟩
      · exact ⟨(0, [], []), fun h => absurd h hin⟩
    obtain ⟨g, hg⟩ := Classical.skolem.1 key
    have hlen : ((List.range n).map g).length = n := by simp
    refine ⟨(List.range n).map g, ⟨some a, c, by rw [hlen], by rw [hlen]; exact hl, fun hne => ?_⟩, ?_, by rw [hlen]; omega⟩
    · have hpos : 0 < n := by
        rcases Nat.eq_zero_or_pos n with h0 | h0
        · subst h0; simp at hne
        · exact h0
      have h0 := (hg 0 hpos).1
      obtain ⟨b, o, sp⟩ := a
      have hsp : sp = none := by simpa [Addr.add] using World.cell?_spot h0
      subst hsp
      have ea : ∀ k, (⟨b, o, none⟩ : Addr).add k = ⟨b, o + k, none⟩ := fun k => by unfold Addr.add; split <;> simp_all
      refine ⟨b, o, rfl, by have := World.block_lt_of_cell? _ _ h0; simpa [Addr.add] using this, fun j hj => ?_⟩
      rw [hlen] at hj
      have hj2 := hg j hj
      rw [ea, ea, ea] at hj2
      rw [List.getElem_map, List.getElem_range]
      obtain ⟨k0, ⟨fa, fc, k1, k2⟩, k3, -, -⟩ := hj2
      exact ⟨k0, ⟨fa, fc, k1, k2.1⟩, k3⟩
    · intro f hf
      obtain ⟨i, hi', rfl⟩ := List.mem_map.1 hf
      obtain ⟨k0, ⟨fa, fc, k1, k2⟩, k3, k4, k5⟩ := hg i (List.mem_range.1 hi')
      exact ⟨k4, k2.2.2, k5⟩
end
end Go.Proofs.YtdihhbkajcngeaaGreatDoor
namespace Go.Proofs.YtdihhbkajcngeaaGreatDoor
open Go.RowKit

def renU : Go.Shelf.Ren := ⟨fun n => n, fun | 5 => 5 | 119 => 179 | 138 => 181 | 139 => 182 | n => n, fun | 3 => 3 | 4 => 4 | n => n⟩
theorem u8t : U8Types Tryz.prog renU := ⟨Tryz.underlying5, Tryz.underlying179, Tryz.underlying181, Tryz.underlying182⟩
theorem u8x : U8Extra Tryz.prog renU := ⟨by kernel_rfl, by kernel_rfl, by kernel_rfl, by kernel_rfl, by kernel_rfl, by kernel_rfl, by kernel_rfl⟩
theorem accept_data : (Rows.laid_unicode_utf8_acceptRanges : DataW Unit) = Go.Lib.acceptData := by kernel_rfl
theorem pow10_data : (Rows.laid_internal_strconv_uint64pow10 : DataW Unit) = Go.Lib.tabData .u64 Go.Lib.pow10Tab := rfl
theorem maxLen_cell {W : World} (h : W.ShapedOpen Tryz.prog) : ∃ m, W.cell? ⟨2, 0, none⟩ = some (.int .i64 m) := Tryz.laysM145.s1_3 W h
theorem lt_of_cell {W : World} {g : Nat} {v : Value} (h : W.cell? ⟨g, 0, none⟩ = some v) : g < W.heap.size := World.block_lt_of_cell? _ _ h
theorem err_star : "*" ++ "errors.errorString" = "*errors.errorString" := by decide
theorem err_row (u : TypeId) (h : Tryz.prog.typeName? 3 u = some "*errors.errorString") : u = 188 :=
  typeName_ptr_named (nm := "errors.errorString") (by rw [err_star]; kernel_rfl) (by kernel_rfl) (by decide) u (by rw [err_star]; exact h)
theorem env_of {W : World} {rest : List (String × DataW Unit)} (h : laidMet Tryz.prog (("math/bits.deBruijn32tab", Rows.laid_math_bits_deBruijn32tab) :: ("math/bits.deBruijn64tab", Rows.laid_math_bits_deBruijn64tab) :: ("internal/strconv.uint64pow10", Rows.laid_internal_strconv_uint64pow10) :: ("unicode/utf8.acceptRanges", Rows.laid_unicode_utf8_acceptRanges) :: ("strconv.ErrRange", Rows.laid_strconv_ErrRange) :: rest) W)
    (hf : ("unicode/utf8.first", Rows.laid_unicode_utf8_first) ∈ rest) (hsh : W.ShapedOpen Tryz.prog) : EnvF W := by
  have ht : Go.Lib.TabIs Tryz.prog W "internal/strconv.uint64pow10" .u64 Go.Lib.pow10Tab :=
    Go.Lib.tabIs_of_head (n := 20) (t := 200) (e := 170) g_pow10 (by kernel_rfl) (by kernel_rfl) (by kernel_rfl) (by kernel_rfl) (by kernel_rfl) h.tail.tail
  have h3 : Go.Lib.VarReads Tryz.prog W "unicode/utf8.first" Go.Lib.firstData := by
    have := Go.Lib.laidMet.reads h (n := "unicode/utf8.first") (d := Rows.laid_unicode_utf8_first) (by simp [hf])
    rwa [show (Rows.laid_unicode_utf8_first : DataW Unit) = Go.Lib.firstData from Pinned.utf8First_eq] at this
  have h4 : Go.Lib.VarReads Tryz.prog W "unicode/utf8.acceptRanges" Go.Lib.acceptData := by
    have := Go.Lib.laidMet.reads h (n := "unicode/utf8.acceptRanges") (d := Rows.laid_unicode_utf8_acceptRanges) (by simp)
    rwa [accept_data] at this
  obtain ⟨a0, s0, hv0, _, _, _⟩ := laid_sentinel h.tail.tail.tail.tail (g := 1) (ti := 78) (tp := 188) (te := 190) (ts := 9) (by kernel_rfl) (by kernel_rfl) Tryz.underlying78 err_row Tryz.underlying188 Tryz.underlying190 rfl rfl Tryz.underlying9 (by kernel_rfl) (by kernel_rfl)
  obtain ⟨m, hm⟩ := maxLen_cell hsh
  have hr : W.cell? ⟨1, 0, none⟩ = some (.iface 188 (.pointer (some a0))) := World.var?_cell (show Tryz.prog.globalNamed "strconv.ErrRange" = some 1 by kernel_rfl) hv0 0
  refine ⟨⟨m, hm⟩, lt_of_cell hm, utf8Tabs_of_readsT u8t u8x h3 h4, ht, ?_, ⟨_, _, hr⟩, lt_of_cell hr⟩
  rcases Nat.lt_or_ge 5 W.heap.size with hlt | hge
  · exact hlt
  · unfold Go.Lib.TabIs World.var? at ht
    rw [g_pow10] at ht
    simp [Array.getElem?_eq_none hge] at ht
end Go.Proofs.YtdihhbkajcngeaaGreatDoor
namespace Go.Proofs.YtdihhbkajcngeaaGreatDoor
open Go.RowKit
theorem feedReplies_go (v : Value) (rs : List (Int × List (List UInt8 × List UInt8) × List UInt8)) (W : World) (w0 : RepliesArg W v rs) (hL : laidMetH Tryz.prog Rows.feedRepliesRow.laid W) (hsh : W.ShapedOpen Tryz.prog) :
    Calls Tryz.prog 4 #[v] W fun e W' => e = .returned (.bool true) ∧ Below W.heap.size W W' := by
  rw [MakeChecks.laidMetH_plain _ _ _ (by kernel_rfl)] at hL
  refine feedReplies_walk v rs W (env_of hL (by simp) hsh) w0.1 w0.2.2 (fun r hr => ?_)
  obtain ⟨h1, h2, h3⟩ := w0.2.1 r hr
  obtain ⟨b1, b2⟩ := bounds_i64 h1
  unfold maxLen at h2
  omega
end Go.Proofs.YtdihhbkajcngeaaGreatDoor
