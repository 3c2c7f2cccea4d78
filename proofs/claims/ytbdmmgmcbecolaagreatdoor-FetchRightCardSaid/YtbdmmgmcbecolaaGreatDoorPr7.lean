/- What Parse of package reply returns. slices.Insert of one field ahead of all the others. slices.Insert of one field ahead of all the others: no room, no element; all roads told as one. What Print of package fields returns. What Print of package reply returns. Whether two replies of the document are the same. What Parse of the reference of reply returns. What the laws' Own and Back make of replies. -/
import Derived.Test.YtbdmmgmcbecolaaGreatDoorPr6
import Derived.Test.YtbdmmgmcbecolaaGreatDoorChecked
import Derived.WalkKit
import Derived.Lib.Walk
import Derived.Lib.Hide
import Derived.Lib.Overlaps
import Derived.Lib.AppendZerosOnto
import Derived.Laws.NewBlocks
import Derived.Deep.AppendLies
import Derived.Shelf.RegionOpenPlain
import Derived.Deep.RegionWith
import Derived.Deep.RegionHeld3
import Derived.BigQuiet
import Derived.Outline
set_option linter.unusedVariables false
set_option linter.unusedSimpArgs false
namespace Go.Proofs.YtbdmmgmcbecolaaGreatDoor
open Go.RowKit
theorem load_rep (w : World) (b : Nat) (t : TypeId) (x y z : Value) (h : w.heap[b]? = some (.cells #[x, y, z] t (0, 0))) : (loadVar 113 ⟨b, 0, none⟩).run Tryz.prog w = .ok (.agg #[x, y, z]) w :=
  run_loadVar_row w b t 113 #[x, y, z] (0, 0) _ h Tryz.underlying113 rfl (by kernel_rfl)
theorem three_set {w : World} {b : Nat} {x y z : Value} {t : TypeId} (h : w.heap[b]? = some (.cells #[x, y, z] t (0, 0))) (x' y' z' : Value) :
    (((w.setCell ⟨b, 0, none⟩ x').setCell ⟨b, 1, none⟩ y').setCell ⟨b, 2, none⟩ z').heap[b]? = some (.cells #[x', y', z'] t (0, 0)) := by
  simp [World.setCell, Array.getElem?_modify, h]
theorem three_set2 {w : World} {b : Nat} {x y z : Value} {t : TypeId} (h : w.heap[b]? = some (.cells #[x, y, z] t (0, 0))) (z' : Value) :
    (w.setCell ⟨b, 2, none⟩ z').heap[b]? = some (.cells #[x, y, z'] t (0, 0)) := by
  simp [World.setCell, Array.getElem?_modify, h]
theorem three_below {B : Nat} {w0 w : World} (h : Below B w0 w) (b : Nat) (hB : B ≤ b) (x' y' z' : Value) : Below B w0 (((w.setCell ⟨b, 0, none⟩ x').setCell ⟨b, 1, none⟩ y').setCell ⟨b, 2, none⟩ z') :=
  ((h.setCell (p := ⟨b, 0, none⟩) hB _).setCell (p := ⟨b, 1, none⟩) hB _).setCell (p := ⟨b, 2, none⟩) hB _
theorem three_facts {w : World} {b : Nat} {x y z : Value} {t : TypeId} (h : w.heap[b]? = some (.cells #[x, y, z] t (0, 0))) :
    w.cell? ⟨b, 0, none⟩ = some x ∧ w.cell? ⟨b, 1, none⟩ = some y ∧ w.cell? ⟨b, 2, none⟩ = some z ∧ w.frozen? ⟨b, 0, none⟩ = false ∧ w.frozen? ⟨b, 1, none⟩ = false ∧ w.frozen? ⟨b, 2, none⟩ = false := by
  refine ⟨?_, ?_, ?_, ?_, ?_, ?_⟩
  · unfold World.cell?; rw [h]; rfl
  · unfold World.cell?; rw [h]; rfl
  · unfold World.cell?; rw [h]; rfl
  · unfold World.frozen?; rw [h]; rfl
  · unfold World.frozen?; rw [h]; rfl
  · unfold World.frozen?; rw [h]; rfl
theorem rp_assert (v : Value) (w : World) : (Instr.typeAssert (.iface 25 v) 70 25 true).run Tryz.prog w = .ok (.tuple #[v, .bool true]) w := by kernel_rfl
theorem own_lowerF {w : World} {b1 b2 : Nat} {e : TypeId} {s n : Nat} {v : Value} {x : List Value} (h : w.ownsRow b1 e s v n x) (hb : b2 ≤ b1) : w.ownsRow b2 e s v n x := by
  refine ⟨h.1, ?_⟩
  rcases h.2 with h0 | ⟨b, cap, cur, e1, e2, e3⟩
  · exact .inl h0
  · exact .inr ⟨b, cap, cur, e1, Nat.le_trans hb e2, e3⟩
/-- what Parse returns -/
def RepV (s : ByteArray) (most : Int) (fv : Value) : Value := .tuple #[.agg #[.int .i64 (takC s most), fv, .string (bs (takB s most))], .int .i64 (takN s most), .int .i64 (takE s most : Nat)]
def ParsePost (s : ByteArray) (most : Int) (w : World) (e : Ending) (w' : World) : Prop :=
  ∃ fv, e = .returned (RepV s most fv) ∧ w'.ownsRow w.heap.size 161 2 fv (takF s most).length (fcells (takF s most)) ∧ Below w.heap.size w w'
theorem parse_bad (s : ByteArray) (most : Int) (e : Nat) (h : takE s most = e) (h0 : e ≠ 0) (w w' : World) (hb : Below w.heap.size w w') :
    ParsePost s most w (.returned (.tuple #[.agg #[.int .i64 0, .slice none 0 0, .string ⟨#[]⟩], .int .i64 0, .int .i64 (e : Nat)])) w' := by
  obtain ⟨h1, h2, h3, h4⟩ := tak_bad s most (by rw [h]; exact h0)
  refine ⟨.slice none 0 0, ?_, ?_, hb⟩
  · unfold RepV; rw [h1, h3, h4, h]; rfl
  · rw [h2]; exact World.ownsRow_nil _ _ _ _
theorem parse_good (s : ByteArray) (most : Int) (h : takE s most = 0) (w w' : World) (fv : Value) (hown : w'.ownsRow w.heap.size 161 2 fv (takF s most).length (fcells (takF s most))) (hb : Below w.heap.size w w') (C n : Int) (B : ByteArray) (h1 : takC s most = C) (h2 : takN s most = n) (h3 : bs (takB s most) = B) :
    ParsePost s most w (.returned (.tuple #[.agg #[.int .i64 C, fv, .string B], .int .i64 n, .int .i64 0])) w' := by
  refine ⟨fv, ?_, hown, hb⟩
  unfold RepV; rw [h1, h2, h3, h]; rfl
set_option maxRecDepth 100000 in
set_option maxHeartbeats 4000000 in
theorem reply_parse (s : ByteArray) (most : Int) (w : World) (hs : s.size ≤ 1000000) (hE : EnvF w) :
    Calls Tryz.prog 46 #[.string s, .int .i64 most] w (ParsePost s most w) := by
  have HH := Lib.hid (lines_head s (w.alloc (.cells #[.int .i64 0, .slice none 0 0, .string ⟨#[]⟩] 113)) (by omega))
  have hbd := headOf_bound s
  have hbd2 := headOf_bd s
  unfold HeadPost at HH
  obtain ⟨⟨ls, n, e⟩, hh⟩ : ∃ T, headOf s = T := ⟨_, rfl⟩
  rw [hh] at HH hbd hbd2
  have HHd := Lib.hid hh
  change (∀ x ∈ ls, x.length ≤ 256) ∧ ls.length ≤ 17 at hbd
  change e = 0 → 0 < n ∧ n ≤ (s.size : Int) at hbd2
  change Hid (Calls _ _ _ _ fun r w' => ∃ v, r = .returned (.tuple #[v, .int .i64 n, .int .i64 (e : Nat)]) ∧ w'.ownsRow _ 9 1 v ls.length (strs ls) ∧ _) at HH
  have HBD := Lib.hid hbd
  have HB0 := Lib.hid (below_agg3 w (.int .i64 0) (.slice none 0 0) (.string ⟨#[]⟩) 113)
  have HE := Lib.hid hE
  clear hE hbd hh
  by_cases he : e = 0
  case neg =>
    have HV : Hid (takE s most = e ∧ e ≠ 0) := Lib.hid ⟨by unfold takE; rw [HHd.out]; exact if_pos he, he⟩
    have tz : ((e : Int) != 0) = true := by rw [bne_iff_ne]; omega
    clear he hbd2
    go_enter Tryz.func46, Tryz.ntmps46
    go_wp2_with fail
    refine HH.out.mono ?_
    rintro r w1 ⟨v, rfl, -, hb1⟩
    have HB1 := Lib.hid hb1
    have HK := Lib.hid ((hb1.block w.heap.size (by simp)).trans (heap_alloc_new w _))
    obtain ⟨d0, d1, d2, g0, g1, g2⟩ := three_facts HK.out
    clear hb1
    go_wp2_with fail
    refine ret_cell3 (A := ⟨w.heap.size, 0, none⟩) rfl (load_rep _ _ _ _ _ _ (three_set HK.out _ _ _)) rfl rfl rfl rfl ?_
    exact parse_bad s most e HV.out.1 HV.out.2 w _ (three_below (bstep HB0.out HB1.out) _ (Nat.le_refl _) _ _ _)
  subst he
  obtain ⟨n1, n2⟩ := hbd2 rfl
  obtain ⟨nx, rfl⟩ : ∃ nx : Nat, n = nx := ⟨n.toNat, by omega⟩
  have hh2 : Hid (∀ q, takE s most = q ↔ (if hdE ls ≠ 0 then hdE ls else if most < (hdN ls : Int) then 5 else if (s.size : Int) - nx < (hdN ls : Int) then 3 else 0) = q) := Lib.hid (fun q => by unfold takE; rw [HHd.out]; rfl)
  clear hbd2
  have HHD : Hid (∀ (w1 : World) (v : Value), Below (w.alloc (.cells #[.int .i64 0, .slice none 0 0, .string ⟨#[]⟩] 113)).heap.size (w.alloc (.cells #[.int .i64 0, .slice none 0 0, .string ⟨#[]⟩] 113)) w1 → w1.ownsRow (w.alloc (.cells #[.int .i64 0, .slice none 0 0, .string ⟨#[]⟩] 113)).heap.size 9 1 v ls.length (strs ls) →
      Calls Tryz.prog 74 #[.pointer (some ⟨w.heap.size, 0, none⟩), v] w1 (HdPost w.heap.size w1 (.string ⟨#[]⟩) ls)) := Lib.hid (fun w1 v h1 h2 => by
    have hK := (h1.block w.heap.size (by simp)).trans (heap_alloc_new w _)
    refine reply_head w.heap.size w1 v _ ls hK (HoldsS.of_own h2) HBD.out.2 HBD.out.1 ⟨w, HE.out, rfl, HB0.out.trans (h1.mono (by simp))⟩ (fun e => ?_)
    have := (h2.lt _ e).1
    simp at this
    omega)
  go_enter Tryz.func46, Tryz.ntmps46
  go_wp2_with fail
  refine HH.out.mono ?_
  rintro r w1 ⟨v, rfl, hown, hb1⟩
  have HB1 := Lib.hid (bstep HB0.out hb1)
  have HC := Lib.hid (HHD.out w1 v hb1 hown)
  have hRl : w.heap.size < w1.heap.size := by have := hb1.size; simp at this; omega
  clear hb1 hown HHD HH
  go_wp2_with fail
  refine HC.out.mono ?_
  rintro r w2 (⟨h0, rfl, ⟨c, f, hR2⟩, hg2⟩ | ⟨h0, rfl, ⟨f, hR2, hown2⟩, hg2⟩)
  · have HV : Hid (takE s most = hdE ls ∧ hdE ls ≠ 0) := Lib.hid ⟨(hh2.out _).2 (if_pos h0), h0⟩
    have HIs := Lib.hid (fun w => is_errno (hdE ls : Int) w)
    have hta := fun w => rp_assert (.int .i64 (hdE ls : Int)) w
    have HB2 := Lib.hid (HB1.out.trans (hg2.toBelow (Nat.le_of_lt hRl)))
    have HK := Lib.hid hR2
    obtain ⟨d0, d1, d2, g0, g1, g2⟩ := three_facts HK.out
    clear h0 hg2 hR2
    generalize hdE ls = E at *
    go_wp2_with fail
    refine (HIs.out _).mono ?_
    rintro r w' ⟨rfl, rfl⟩
    go_wp2_with fail
    refine ret_cell3 (A := ⟨w.heap.size, 0, none⟩) rfl (load_rep _ _ _ _ _ _ (three_set HK.out _ _ _)) rfl rfl rfl rfl ?_
    exact parse_bad s most _ HV.out.1 HV.out.2 w _ (three_below HB2.out _ (Nat.le_refl _) _ _ _)
  · have HIs := Lib.hid (fun w => is_taken w)
    have HB2 := Lib.hid (HB1.out.trans (hg2.toBelow (Nat.le_of_lt hRl)))
    obtain ⟨af, cf, rfl⟩ := slice_of_own hown2
    have HO2 := Lib.hid hown2
    have HK := Lib.hid hR2
    have HKB : Hid (w2.heap[w.heap.size]? = some (.cells #[.int .i64 (hdC ls), .slice af (restF (fldL ls.tail)).length cf, .string ⟨#[]⟩] 113 (0, 0))) := Lib.hid hR2
    obtain ⟨d0, d1, d2, g0, g1, g2⟩ := three_facts HKB.out
    obtain ⟨rs, hrs⟩ : ∃ rs, restF (fldL ls.tail) = rs := ⟨_, rfl⟩
    have HRS := Lib.hid hrs
    rw [hrs] at HO2 HKB d1
    clear hrs
    obtain ⟨N, hN⟩ : ∃ N, hdN ls = N := ⟨_, rfl⟩
    obtain ⟨C, hC⟩ : ∃ C, hdC ls = C := ⟨_, rfl⟩
    have HNC := Lib.hid (And.intro hN hC)
    have h0' := Lib.hid h0
    rw [hN]
    rw [hC] at d0 HKB
    clear h0 hg2 hR2 hown2 HK hN hC HC
    by_cases hm : most < (N : Int)
    · have HV : Hid (takE s most = 5) := Lib.hid ((hh2.out 5).2 (by rw [if_neg (by rw [h0'.out]; simp), HNC.out.1, if_pos hm]))
      have tm : decide ((N : Int) > most) = true := decide_eq_true (by omega)
      clear hm
      go_wp2_with fail
      refine (HIs.out _).mono ?_
      rintro r w' ⟨rfl, rfl⟩
      go_wp2_with fail
      refine ret_cell3 (A := ⟨w.heap.size, 0, none⟩) rfl (load_rep _ _ _ _ _ _ (three_set HKB.out _ _ _)) rfl rfl rfl rfl ?_
      exact parse_bad s most 5 HV.out (by decide) w _ (three_below HB2.out _ (Nat.le_refl _) _ _ _)
    have tm : decide ((N : Int) > most) = false := decide_eq_false (by omega)
    have tw : IntKind.i64.wrap ((s.size : Int) - (nx : Int)) = (s.size : Int) - (nx : Int) := by rw [IntKind.wrap_i64]; omega
    by_cases hsh : (s.size : Int) - (nx : Int) < (N : Int)
    · have HV : Hid (takE s most = 3) := Lib.hid ((hh2.out 3).2 (by rw [if_neg (by rw [h0'.out]; simp), HNC.out.1, if_neg hm, if_pos hsh]))
      have ts : decide ((N : Int) > (s.size : Int) - (nx : Int)) = true := decide_eq_true (by omega)
      clear hm hsh
      go_wp2_with fail
      refine (HIs.out _).mono ?_
      rintro r w' ⟨rfl, rfl⟩
      go_wp2_with fail
      refine ret_cell3 (A := ⟨w.heap.size, 0, none⟩) rfl (load_rep _ _ _ _ _ _ (three_set HKB.out _ _ _)) rfl rfl rfl rfl ?_
      exact parse_bad s most 3 HV.out (by decide) w _ (three_below HB2.out _ (Nat.le_refl _) _ _ _)
    · have hz : takE s most = 0 := (hh2.out 0).2 (by rw [if_neg (by rw [h0'.out]; simp), HNC.out.1, if_neg hm, if_neg hsh])
      have HV : Hid (takE s most = 0 ∧ takC s most = C ∧ takF s most = restF (fldL ls.tail) ∧ takN s most = (nx : Int) + (N : Int) ∧ bs (takB s most) = s.extract nx (nx + N)) := Lib.hid ⟨hz, by unfold takC; rw [if_pos hz, HHd.out]; exact HNC.out.2, by unfold takF; rw [if_pos hz, HHd.out], by unfold takN; rw [if_pos hz, HHd.out]; exact congrArg (fun q : Nat => (nx : Int) + (q : Int)) HNC.out.1, by
        unfold takB; rw [if_pos hz, HHd.out, extract_bs]
        show bs ((s.data.toList.take ((nx : Int).toNat + hdN ls)).drop (nx : Int).toNat) = _
        rw [HNC.out.1, Int.toNat_natCast]⟩
      have ts : decide ((N : Int) > (s.size : Int) - (nx : Int)) = false := decide_eq_false (by omega)
      have ta : IntKind.i64.wrap ((nx : Int) + (N : Int)) = (nx : Int) + (N : Int) := by rw [IntKind.wrap_i64]; omega
      have hle : nx + N ≤ s.size := by omega
      have hle2 : (nx : Int) + (N : Int) ≤ (s.size : Int) := by omega
      clear hm hsh hz
      go_wp2_with fail
      refine (HIs.out _).mono ?_
      rintro r w' ⟨rfl, rfl⟩
      go_wp2_with fail
      refine ret_cell3 (A := ⟨w.heap.size, 0, none⟩) rfl (load_rep _ _ _ _ _ _ (three_set (three_set2 HKB.out _) _ _ _)) rfl rfl rfl rfl ?_
      refine parse_good s most HV.out.1 w _ _ ?_ (three_below (HB2.out.setCell (p := ⟨w.heap.size, 2, none⟩) (Nat.le_refl _) _) _ (Nat.le_refl _) _ _ _) _ _ _ HV.out.2.1 HV.out.2.2.2.1 HV.out.2.2.2.2
      rw [HV.out.2.2.1, HRS.out]
      exact own_lowerF (ownsRow_setCell_below (ownsRow_setCell_below (ownsRow_setCell_below (ownsRow_setCell_below HO2.out (a := ⟨w.heap.size, 2, none⟩) hRl _) (a := ⟨w.heap.size, 0, none⟩) hRl _) (a := ⟨w.heap.size, 1, none⟩) hRl _) (a := ⟨w.heap.size, 2, none⟩) hRl _) (Nat.le_of_lt hRl)
end Go.Proofs.YtbdmmgmcbecolaaGreatDoor
namespace Go.Proofs.YtbdmmgmcbecolaaGreatDoor
open Go.RowKit
theorem take_splice2 (L : List Value) (n : Nat) (x y : Value) (h2 : 2 ≤ L.length) (hn : n * 2 + 2 ≤ L.length) :
    (splice (splice L 2 (L.take (n * 2))) 0 [x, y]).take ((n + 1) * 2) = x :: y :: L.take (n * 2) ∧ (splice (splice L 2 (L.take (n * 2))) 0 [x, y]).length = L.length := by
  have h3 : (L.take (n * 2)).length = n * 2 := by rw [List.length_take]; omega
  have hA : (splice L 2 (L.take (n * 2))).length = L.length := length_splice _ _ _ (by rw [h3]; omega)
  refine ⟨?_, by rw [length_splice _ _ _ (by rw [hA]; simpa using h2), hA]⟩
  have h4 : (L.take 2).length = 2 := by rw [List.length_take]; omega
  unfold splice
  rw [List.take_zero, List.nil_append, show 0 + [x, y].length = 2 from rfl, List.drop_left' h4]
  rw [show (n + 1) * 2 = n * 2 + 1 + 1 by omega]
  simp only [List.cons_append, List.nil_append, List.take_succ_cons]
  rw [List.take_left' h3]
theorem info_ffield : (Tryz.prog.info? 161).map (fun i => (i.zero, i.size, i.bytes)) = some (some (.agg #[.string ByteArray.empty, .string ByteArray.empty]), 2, 32) := by kernel_rfl
set_option maxHeartbeats 4000000 in
set_option maxRecDepth 100000 in
theorem insert_room (g n c vb : Nat) (cur : Array Value) (x y : Value) (w : World) (hn : 0 < n) (hroom : n + 1 ≤ c) (hc : c ≤ maxLen) (hg : w.heap[g]? = some (.cells cur 161 (0, 0))) (hsz : cur.size = c * 2)
    (hv : w.heap[vb]? = some (.cells #[x, y] 161 (0, 0))) (hx : x.oneCell' = true) (hy : y.oneCell' = true) (h1 : ∀ u ∈ cur.toList.take (n * 2), u.oneCell' = true) (hne : vb ≠ g) :
    Calls Tryz.prog 122 #[.slice (some ⟨g, 0, none⟩) n c, .int .i64 0, .slice (some ⟨vb, 0, none⟩) 1 1] w fun e w' =>
      e = .returned (.slice (some ⟨g, 0, none⟩) (n + 1) c) ∧ ∃ cur', w'.heap[g]? = some (.cells cur' 161 (0, 0)) ∧ cur'.size = c * 2 ∧ cur'.toList.take ((n + 1) * 2) = x :: y :: cur.toList.take (n * 2) ∧ w.grownBy w' (some g) := by
  obtain ⟨i0, hi0, hz0, hzs, hzb⟩ := info_parts info_ffield
  unfold maxLen at hc
  have u30 := Tryz.underlying111
  have hs2 : (Tryz.prog.info? 161).map (·.size) = some 2 := by kernel_rfl
  have hsz2 : ∀ w, (Go.sizeOf 161).run Tryz.prog w = .ok 2 w := fun w => by simp [sizeOf, typeInfo, hi0, hzs]
  have hov : ∀ lb cb, (callFunc 156 #[.slice (some ⟨vb, 0, none⟩) 1 1, .slice (some ⟨g, 2, none⟩) lb cb]).run Tryz.prog w = .ok (.value (.bool false)) w := fun lb cb => by
    rw [run_callFunc_extern Tryz.func156 (by kernel_rfl) (by kernel_rfl) (by kernel_rfl) (e := Extern.SlicesOverlaps.overlaps #[111, 111] #[4]) (by kernel_rfl),
      Lib.run_overlaps_apart w 111 4 161 u30 2 hsz2 ⟨vb, 0, none⟩ ⟨g, 2, none⟩ 1 1 lb cb hne 161 161 2 cur.size (by simp [World.shape?, hv]) (by simp [World.shape?, hg]) (by omega) (by simp [World.frozen?, hv]) (by simp [World.frozen?, hv])]
    rfl
  have hz2 : ¬ ((0 : Int) = (n : Int)) := by omega
  have hz3 : ¬ ((c : Int) < (n : Int) + 1) := by omega
  have hb2 : ¬ (c = 1) := by omega
  have hl3 : (cur.toList.take (n * 2)).length = n * 2 := by rw [List.length_take, Array.length_toList]; omega
  have hcp1 : ∀ ty dc sc, (Builtin.copy_ #[111, 111] ty #[.slice (some ⟨g, 2, none⟩) n dc, .slice (some ⟨g, 0, none⟩) (n + 1) sc]).run Tryz.prog w.drew = .ok (goInt n) (w.drew.setRow g (splice cur.toList 2 (cur.toList.take (n * 2))).toArray) := fun ty dc sc =>
    run_copy_row_wide w.drew 111 111 ty 161 2 n g 2 n dc ⟨g, 0, none⟩ (n + 1) sc cur 161 (cur.toList.take (n * 2)) u30 hs2 (by simp only [Nat.min_def]; split <;> omega) hl3.symm hg
      (fun j u hj => by
        rw [List.getElem?_take] at hj
        split at hj
        · rw [Addr.add_lit, Nat.zero_add]
          show w.cell? _ = _
          unfold World.cell?
          rw [hg]
          simpa using hj
        · cases hj) (by rw [hl3, hsz]; omega) h1
  have hsr : ∀ (W : World) cs, (W.setRow g cs).heap.size = W.heap.size := fun W cs => by simp [World.setRow]
  have mixed : Tryz.prog.follows Departure.mixedOrders = true := by kernel_rfl
  have hw1 : IntKind.i64.wrap (1 : Int) = 1 := by decide
  have hb3 : (1 : Int) ≤ (n : Int) + 1 := by omega
  have hb4 : ¬ (c = 0) := by omega
  have hb5 : (0 : Int) ≤ (n : Int) + 1 := by omega
  obtain ⟨p1, p2⟩ := take_splice2 cur.toList n x y (by rw [Array.length_toList]; omega) (by rw [Array.length_toList]; omega)
  have hl4 : (splice cur.toList 2 (cur.toList.take (n * 2))).length = c * 2 := by rw [length_splice _ _ _ (by rw [hl3, Array.length_toList]; omega), Array.length_toList, hsz]
  obtain ⟨L1, hL1⟩ : ∃ L1, splice cur.toList 2 (cur.toList.take (n * 2)) = L1 := ⟨_, rfl⟩
  rw [hL1] at hcp1 p1 p2 hl4
  obtain ⟨W1, hW1⟩ : ∃ W1, w.drew.setRow g L1.toArray = W1 := ⟨_, rfl⟩
  have hg1 : W1.heap[g]? = some (.cells L1.toArray 161 (0, 0)) := by rw [← hW1]; exact setRow_heap w.drew g cur _ 161 _ hg
  have hv1 : W1.heap[vb]? = some (.cells #[x, y] 161 (0, 0)) := by rw [← hW1, setRow_other w.drew g vb _ hne]; exact hv
  rw [hW1] at hcp1
  have hcp2 : ∀ ty dc, (Builtin.copy_ #[111, 111] ty #[.slice (some ⟨g, 0, none⟩) (n + 1) dc, .slice (some ⟨vb, 0, none⟩) 1 1]).run Tryz.prog W1 = .ok (goInt 1) (W1.setRow g (splice L1 0 [x, y]).toArray) := fun ty dc =>
    run_copy_row_wide W1 111 111 ty 161 2 1 g 0 (n + 1) dc ⟨vb, 0, none⟩ 1 1 L1.toArray 161 [x, y] u30 hs2 (by simp only [Nat.min_def]; split <;> omega) rfl hg1
      (fun j u hj => by
        rw [Addr.add_lit, Nat.zero_add]
        unfold World.cell?
        rw [hv1]
        match j, hj with
        | 0, hj => simpa using hj
        | 1, hj => simpa using hj
        | j + 2, hj => simp at hj) (by simp; omega) (fun u hu => by
        rcases List.mem_cons.1 hu with rfl | hu
        · exact hx
        · rcases List.mem_cons.1 hu with rfl | hu
          · exact hy
          · cases hu)
  have HE : Hid (W1.setRow g (splice L1 0 [x, y]).toArray = W1.setRow g (splice L1 0 [x, y]).toArray ∧ W1.heap[g]? = some (.cells L1.toArray 161 (0, 0)) ∧ (splice L1 0 [x, y]).take ((n + 1) * 2) = x :: y :: cur.toList.take (n * 2) ∧ (splice L1 0 [x, y]).length = c * 2 ∧ w.grownBy W1 (some g)) := Lib.hid ⟨rfl, hg1, p1, by rw [p2, Array.length_toList, hsz], by
    rw [← hW1]
    exact ⟨rfl, rfl, rfl, by rw [hsr]; exact Nat.le_refl _, fun k hk hn => setRow_other w.drew g k _ (fun e => hn (by rw [e]))⟩⟩
  generalize (splice L1 0 [x, y]) = L2 at hcp2 HE
  clear hL1 hW1 hg1 hv1 p1 p2 hl4 hl3 h1 hz0 hzs hzb hi0
  go_enter Tryz.func122, Tryz.ntmps122
  go_wp2_with (simp only [hov])
  go_region_law_o (refine Go.Proofs.step_copy_runI rfl _ _ 111 111 rfl _ _ (by simp [Act.eval, Act.put]) (by simp [Act.eval, Act.put]) (hcp1 _ _ _) ?_)
  go_wp2_with (at_builtin; refine Go.Proofs.wpList_copy_runI _ rfl _ _ 111 111 rfl _ _ rfl rfl (hcp2 _ _) ?_)
  go_ret
  refine ⟨rfl, L2.toArray, setRow_heap W1 g L1.toArray _ 161 _ HE.out.2.1, ?_, ?_, ?_⟩
  · have := HE.out.2.2.2.1; simpa using this
  · have := HE.out.2.2.1; simpa using this
  · have h := HE.out.2.2.2.2
    exact ⟨h.os, h.tape, h.output, Nat.le_trans h.size (by rw [hsr]; exact Nat.le_refl _), fun k hk hn => (setRow_other W1 g k _ (fun e => hn (by rw [e]))).trans (h.block k hk hn)⟩
end Go.Proofs.YtbdmmgmcbecolaaGreatDoor
namespace Go.Proofs.YtbdmmgmcbecolaaGreatDoor
open Go.RowKit
theorem zeroCells_size (z : Array Value) (k : Nat) : (Builtin.zeroCells z k).size = k * z.size := by simp [Builtin.zeroCells]
set_option maxHeartbeats 4000000 in
set_option maxRecDepth 100000 in
theorem insert_grow (g n vb : Nat) (cur : Array Value) (x y : Value) (w : World) (hn : 0 < n) (hbig : n ≤ 1000000) (hg : w.heap[g]? = some (.cells cur 161 (0, 0))) (hsz : cur.size = n * 2)
    (hv : w.heap[vb]? = some (.cells #[x, y] 161 (0, 0))) (hx : x.oneCell' = true) (hy : y.oneCell' = true) (h1 : ∀ u ∈ cur.toList, u.oneCell' = true) :
    Calls Tryz.prog 122 #[.slice (some ⟨g, 0, none⟩) n n, .int .i64 0, .slice (some ⟨vb, 0, none⟩) 1 1] w fun e w' =>
      ∃ cap cur', e = .returned (.slice (some ⟨w.heap.size, 0, none⟩) (n + 1) cap) ∧ n + 1 ≤ cap ∧ cap ≤ maxLen ∧ w'.heap[w.heap.size]? = some (.cells cur' 161 (0, 0)) ∧ cur'.size = cap * 2 ∧ cur'.toList.take ((n + 1) * 2) = x :: y :: cur.toList ∧ Below w.heap.size w w' := by
  obtain ⟨i0, hi0, hz0, hzs, hzb⟩ := info_parts info_ffield
  have u30 := Tryz.underlying111
  have hs2 : (Tryz.prog.info? 161).map (·.size) = some 2 := by kernel_rfl
  have hgl : g < w.heap.size := (Array.getElem?_eq_some_iff.1 hg).1
  have hvl : vb < w.heap.size := (Array.getElem?_eq_some_iff.1 hv).1
  have hold : (Builtin.firstCells i0.size 0 (.slice (some ⟨g, 0, none⟩) 0 n)).run Tryz.prog w.drew = .ok ([] : List Value).toArray w.drew :=
    run_firstCells_some w.drew i0.size 0 ⟨g, 0, none⟩ 0 n [] (by simp) (fun j v hj => by simp at hj)
  obtain ⟨G, hG⟩ : ∃ G, G = grownCap w (0 + (n + 1)) n 161 := ⟨_, rfl⟩
  have hGn : n + 1 ≤ G := by rw [hG]; have := grownCap_ge w (0 + (n + 1)) n 161; omega
  have hGm : G ≤ maxLen := by rw [hG]; exact grownCap_le_maxLen w _ _ _ (by unfold maxLen; omega)
  obtain ⟨ROW, hROW⟩ : ∃ ROW : Array Value, ROW = ([] : List Value).toArray ++ Builtin.zeroCells (Value.agg #[.string ByteArray.empty, .string ByteArray.empty]).cells (n + 1) ++ Builtin.zeroCells (Value.agg #[.string ByteArray.empty, .string ByteArray.empty]).cells (G - (0 + (n + 1))) := ⟨_, rfl⟩
  have hRs : ROW.size = G * 2 := by
    rw [hROW, Array.size_append, Array.size_append, zeroCells_size, zeroCells_size]
    show 0 + (n + 1) * 2 + (G - (0 + (n + 1))) * 2 = _
    omega
  obtain ⟨W1, hW1⟩ : ∃ W1, W1 = w.drew.alloc (.cells ROW 161) := ⟨_, rfl⟩
  have hrz : ∀ ty, (Builtin.append_ #[111, 3] ty #[.slice (some ⟨g, 0, none⟩) 0 n, .int .i64 ((n : Int) + 1)]).run Tryz.prog w =
      .ok (.slice (some ⟨w.heap.size, 0, none⟩) (n + 1) G) W1 := fun ty => by
    have h := Lib.run_append_grow_zeros w 111 3 ty 161 i0 _ .i64 .i64 u30 Tryz.underlying3 hi0 hz0 (some ⟨g, 0, none⟩) 0 n [] hold (n + 1) (by omega) (by omega) (by omega) (by omega) (by rw [hzb]; omega) (by rw [hzb]; exact growslice_fits (by omega) (by omega))
    rw [← hG, ← hROW, ← hW1, Nat.zero_add] at h
    exact h
  have hN1 : W1.heap[w.heap.size]? = some (.cells ROW 161 (0, 0)) := by rw [hW1]; exact heap_alloc_new w.drew _
  have hB1 : Below w.heap.size w W1 := by rw [hW1]; exact ((Below.refl _ _).drew).alloc (Nat.le_refl _) _
  have hg1 : W1.heap[g]? = some (.cells cur 161 (0, 0)) := (hB1.block g hgl).trans hg
  have hv1 : W1.heap[vb]? = some (.cells #[x, y] 161 (0, 0)) := (hB1.block vb hvl).trans hv
  have hsr : ∀ (W : World) k cs, (W.setRow k cs).heap.size = W.heap.size := fun W k cs => by simp [World.setRow]
  have hcp1 : ∀ ty dc, (Builtin.copy_ #[111, 111] ty #[.slice (some ⟨w.heap.size, 0, none⟩) (n + 1) dc, .slice (some ⟨vb, 0, none⟩) 1 1]).run Tryz.prog W1 = .ok (goInt 1) (W1.setRow w.heap.size (splice ROW.toList 0 [x, y]).toArray) := fun ty dc =>
    run_copy_row_wide W1 111 111 ty 161 2 1 w.heap.size 0 (n + 1) dc ⟨vb, 0, none⟩ 1 1 ROW 161 [x, y] u30 hs2 (by simp only [Nat.min_def]; split <;> omega) rfl hN1
      (fun j u hj => by
        rw [Addr.add_lit, Nat.zero_add]
        unfold World.cell?
        rw [hv1]
        match j, hj with
        | 0, hj => simpa using hj
        | 1, hj => simpa using hj
        | j + 2, hj => simp at hj) (by simp; omega) (fun u hu => by
        rcases List.mem_cons.1 hu with rfl | hu
        · exact hx
        · rcases List.mem_cons.1 hu with rfl | hu
          · exact hy
          · cases hu)
  obtain ⟨L1, hL1⟩ : ∃ L1, splice ROW.toList 0 [x, y] = L1 := ⟨_, rfl⟩
  rw [hL1] at hcp1
  have hL1s : L1.length = G * 2 := by rw [← hL1, length_splice _ _ _ (by show 0 + 2 ≤ ROW.toList.length; rw [Array.length_toList, hRs]; omega), Array.length_toList, hRs]
  have hL1t : L1.take 2 = [x, y] := by rw [← hL1]; unfold splice; simp
  obtain ⟨W2, hW2⟩ : ∃ W2, W1.setRow w.heap.size L1.toArray = W2 := ⟨_, rfl⟩
  rw [hW2] at hcp1
  have hN2 : W2.heap[w.heap.size]? = some (.cells L1.toArray 161 (0, 0)) := by rw [← hW2]; exact setRow_heap W1 _ ROW _ 161 _ hN1
  have hg2 : W2.heap[g]? = some (.cells cur 161 (0, 0)) := by rw [← hW2, setRow_other W1 _ g _ (by omega)]; exact hg1
  have hcp2 : ∀ (W : World), W.heap = W2.heap → ∀ ty dc sc, (Builtin.copy_ #[111, 111] ty #[.slice (some ⟨w.heap.size, 2, none⟩) n dc, .slice (some ⟨g, 0, none⟩) n sc]).run Tryz.prog W = .ok (goInt n) (W.setRow w.heap.size (splice L1 2 cur.toList).toArray) := fun W hW ty dc sc =>
    run_copy_row_wide W 111 111 ty 161 2 n w.heap.size 2 n dc ⟨g, 0, none⟩ n sc L1.toArray 161 cur.toList u30 hs2 (by simp only [Nat.min_def]; split <;> omega) (by rw [Array.length_toList, hsz]) (by rw [hW]; exact hN2)
      (fun j u hj => by
        rw [Addr.add_lit, Nat.zero_add]
        unfold World.cell?
        rw [hW, hg2]
        simpa using hj) (by rw [Array.length_toList, hsz]; simp; omega) h1
  have hB2 : Below w.heap.size w W2 := by
    rw [← hW2]
    exact ⟨hB1.os, hB1.tape, hB1.output, by rw [hsr]; exact hB1.size, fun k hk => (setRow_other W1 _ k _ (by omega)).trans (hB1.block k hk)⟩
  have hfin : (splice L1 2 cur.toList).take ((n + 1) * 2) = x :: y :: cur.toList ∧ (splice L1 2 cur.toList).length = G * 2 := by
    refine ⟨?_, by rw [length_splice _ _ _ (by rw [hL1s, Array.length_toList, hsz]; omega), hL1s]⟩
    unfold splice
    rw [hL1t]
    have : (n + 1) * 2 = n * 2 + 1 + 1 := by omega
    rw [this]
    simp only [List.cons_append, List.nil_append, List.take_succ_cons]
    rw [List.take_left' (by rw [Array.length_toList, hsz])]
  have HE := Lib.hid (And.intro hN2 (And.intro hB2 hfin))
  have mixed : Tryz.prog.follows Departure.mixedOrders = true := by kernel_rfl
  have hz2 : ¬ ((0 : Int) = (n : Int)) := by omega
  have hz3 : (n : Int) < (n : Int) + 1 := by omega
  have hw1 : IntKind.i64.wrap (1 : Int) = 1 := by decide
  have hb3 : (1 : Int) ≤ (n : Int) + 1 := by omega
  have hb5 : (0 : Int) ≤ (n : Int) + 1 := by omega
  have hb6 : ¬ (G = 1) := by omega
  have hb7 : ¬ (G = 0) := by omega
  have hb8 : ¬ (n = 0) := by omega
  unfold maxLen at hGm
  have hG63 : G ≤ 9223372036854775807 := hGm
  clear hG hROW hRs hW1 hN1 hB1 hg1 hv1 hL1 hL1s hL1t hW2 hN2 hg2 hB2 hfin hold hz0 hzs hzb hi0
  go_enter Tryz.func122, Tryz.ntmps122
  go_wp2_with (first
    | (at_builtin; refine Lib.wpList_append_run _ rfl _ _ _ _ rfl _ _ rfl rfl _ _ (hrz _) ?_)
    | (at_builtin; refine wpList_copy_runI _ rfl _ _ 111 111 rfl _ _ rfl rfl (hcp1 _ _) ?_)
    | (at_builtin; refine wpList_copy_runI _ rfl _ _ 111 111 rfl _ _ rfl rfl (hcp2 _ (by rfl) _ _ _) ?_))
  go_region_law_o (refine step_copy_runI rfl _ _ 111 111 rfl (.slice (some ⟨w.heap.size, 2, none⟩) n (G - 1)) (.slice (some ⟨g, 0, none⟩) n n) (by simp [Act.eval, Act.put]) (by simp [Act.eval, Act.put]) (hcp2 _ (by rfl) _ _ _) ?_)
  go_wp2
  go_ret
  refine ⟨G, (splice L1 2 cur.toList).toArray, rfl, hGn, hGm, ?_, ?_, ?_, ?_⟩
  · exact setRow_heap _ _ L1.toArray _ 161 _ HE.out.1
  · have := HE.out.2.2.2; simpa using this
  · have := HE.out.2.2.1; simpa using this
  · have h := HE.out.2.1
    exact ⟨h.os, h.tape, h.output, Nat.le_trans h.size (by rw [hsr]; exact Nat.le_refl _), fun k hk => (setRow_other _ _ k _ (by omega)).trans (h.block k hk)⟩

theorem insert_none (v : Value) (vb base : Nat) (f : List UInt8 × List UInt8) (w : World) (hown : w.ownsRow base 161 2 v 0 []) (hv : w.heap[vb]? = some (.cells #[.string (bs f.1), .string (bs f.2)] 161 (0, 0))) (hbase : base ≤ w.heap.size) :
    Calls Tryz.prog 122 #[v, .int .i64 0, .slice (some ⟨vb, 0, none⟩) 1 1] w fun e w' => ∃ v', e = .returned v' ∧ w'.ownsRow base 161 2 v' 1 (fcells [f]) ∧ w.grownBy w' v.ownBlock := by
  obtain ⟨i0, hi, hz0, hz1, hz2⟩ := info_parts info_field
  obtain ⟨av, cv, rfl⟩ : ∃ a c, v = .slice a 0 c := by
    rcases hown.2 with ⟨rfl, -⟩ | ⟨g, cap, cur, rfl, -⟩
    · exact ⟨_, _, rfl⟩
    · exact ⟨_, _, rfl⟩
  have hO := Lib.hid hown
  have hV := Lib.hid hv
  clear hown hv
  go_enter Tryz.func122, Tryz.ntmps122
  go_wp2_with (at_builtin; go_loud (refine wpList_append_lies _ rfl _ _ 111 (by rfl) base 161 i0 _ 2 32 Tryz.underlying111 hi hz0 hz1 hz2 rfl (by decide) _ 0 [] (by rfl) hO.out ⟨vb, 0, none⟩ 1 1 [.string (bs f.1), .string (bs f.2)] (by rfl) rfl (World.news_of_block hV.out) (by simp [Value.oneCell']) (by decide) (by decide) (by decide) hbase _ rfl ?_); intro g cap w1 h1 h2 h3 h4)
  go_ret
  exact ⟨_, rfl, h1, h2⟩
/-- slices.Insert of one field ahead of all the others, the call's own -/
theorem insert_own (v : Value) (fs : List (List UInt8 × List UInt8)) (f : List UInt8 × List UInt8) (vb base : Nat) (w : World) (hown : w.ownsRow base 161 2 v fs.length (fcells fs)) (hv : w.heap[vb]? = some (.cells #[.string (bs f.1), .string (bs f.2)] 161 (0, 0))) (hne : v.ownBlock ≠ some vb) (hl : fs.length ≤ 1000000) (hbase : base ≤ w.heap.size) :
    Calls Tryz.prog 122 #[v, .int .i64 0, .slice (some ⟨vb, 0, none⟩) 1 1] w fun e w' => ∃ v', e = .returned v' ∧ w'.ownsRow base 161 2 v' (fs.length + 1) (fcells (f :: fs)) ∧ w.grownBy w' v.ownBlock := by
  by_cases hn : fs = []
  · subst hn
    exact insert_none v vb base f w hown hv hbase
  · have hpos : 0 < fs.length := List.length_pos_iff.2 hn
    have hfl := fcells_length fs
    rcases hown.2 with ⟨-, h0⟩ | ⟨g, cap, cur, rfl, hb, hg, hle, hm, hs, ht⟩
    · omega
    · have hgl : g < w.heap.size := (Array.getElem?_eq_some_iff.1 hg).1
      have hone : ∀ u ∈ cur.toList.take (fs.length * 2), u.oneCell' = true := by rw [ht]; exact fcells_one fs
      have hvg : vb ≠ g := fun e => hne (by rw [e]; rfl)
      by_cases hr : fs.length + 1 ≤ cap
      · refine (insert_room g fs.length cap vb cur _ _ w hpos hr hm hg hs hv rfl rfl hone hvg).mono ?_
        rintro e w' ⟨rfl, cur', h1, h2, h3, h4⟩
        refine ⟨_, rfl, ⟨by rw [fcells_length, List.length_cons], .inr ⟨g, cap, cur', rfl, hb, h1, hr, hm, h2, ?_⟩⟩, h4⟩
        rw [h3, ht]; rfl
      · obtain rfl : cap = fs.length := by omega
        have hfull : cur.toList.take (fs.length * 2) = cur.toList := List.take_of_length_le (by rw [Array.length_toList, hs]; exact Nat.le_refl _)
        rw [hfull] at ht hone
        refine (insert_grow g fs.length vb cur _ _ w hpos hl hg hs hv rfl rfl hone).mono ?_
        rintro e w' ⟨cap, cur', rfl, h1, h2, h3, h4, h5, h6⟩
        refine ⟨_, rfl, ⟨by rw [fcells_length, List.length_cons], .inr ⟨w.heap.size, cap, cur', rfl, hbase, h3, h1, h2, h4, ?_⟩⟩, ⟨h6.os, h6.tape, h6.output, h6.size, fun k hk _ => h6.block k hk⟩⟩
        rw [h5, ht]; rfl
end Go.Proofs.YtbdmmgmcbecolaaGreatDoor
namespace Go.Proofs.YtbdmmgmcbecolaaGreatDoor
open Go.RowKit

theorem c_trimR (s : ByteArray) (w : World) (hs : s.size ≤ 9223372036854775807) :
    Calls Tryz.prog 158 #[.string s, .string ⟨#[32, 9]⟩] w fun e w' => e = .returned (.string (bs (Go.Lib.trimRightS s.data.toList gapL))) ∧ Below w.heap.size w w' :=
  Any.strings_TrimRight_laid Tryz.lays162 (by kernel_rfl) s ⟨#[32, 9]⟩ w (by omega) (by decide) (Go.Proofs.ascii_of_all (by decide))

/-- a text of bs, whatever is told of the list -/
theorem ret_pair {x x' : ByteArray} {E E' : Int} (h : x = x') (h2 : E = E') : Ending.returned (.tuple #[.string x, .int .i64 E]) = .returned (.tuple #[.string x', .int .i64 E']) := by rw [h, h2]
theorem fieldE_not (n v : List UInt8) (h : printOk n v = false) : fieldE n v = 4 ∧ fieldS n v = [] := by
  have h1 : fieldE n v = 4 := by unfold fieldE; rw [h]; rfl
  exact ⟨h1, by unfold fieldS; rw [h1]; rfl⟩

theorem box_cells (w : World) (n v : ByteArray) (t : TypeId) : (w.alloc (.cells #[.string n, .string v] t)).cell? ⟨w.heap.size, 0, none⟩ = some (.string n) ∧ (w.alloc (.cells #[.string n, .string v] t)).cell? ⟨w.heap.size, 1, none⟩ = some (.string v) := by
  have hh := heap_alloc_new w (.cells #[.string n, .string v] t)
  exact ⟨by unfold World.cell?; rw [hh]; rfl, by unfold World.cell?; rw [hh]; rfl⟩
theorem below_box2 (w : World) (x y : Value) (t : TypeId) : Below w.heap.size w (w.alloc (.cells #[x, y] t)) := (Below.refl _ _).alloc (Nat.le_refl _) _
theorem fieldE_yes (n v : List UInt8) (h : printOk n v = true) : (256 < (printL n v).length → fieldE n v = 5 ∧ fieldS n v = []) ∧ ((printL n v).length ≤ 256 → fieldE n v = 0 ∧ fieldS n v = printL n v) := by
  constructor
  · intro hl
    have h1 : fieldE n v = 5 := by unfold fieldE; rw [h, if_pos rfl, if_pos hl]
    exact ⟨h1, by unfold fieldS; rw [h1]; rfl⟩
  · intro hl
    have h1 : fieldE n v = 0 := by unfold fieldE; rw [h, if_pos rfl, if_neg (by omega)]
    exact ⟨h1, by unfold fieldS; rw [h1]; rfl⟩

set_option maxRecDepth 100000 in
set_option maxHeartbeats 4000000 in
theorem fields_print (n v : ByteArray) (w : World) (hn : n.size ≤ 1000000) (hv : v.size ≤ 1000000) :
    Calls Tryz.prog 124 #[.agg #[.string n, .string v]] w fun e w' => e = .returned (.tuple #[.string (bs (fieldS n.data.toList v.data.toList)), .int .i64 (fieldE n.data.toList v.data.toList)]) ∧ Below w.heap.size w w' := by
  have HNm := Lib.hid (fun w => fields_name n w)
  have HPl := Lib.hid (fun w => fields_plain v w (by omega))
  have HTr := Lib.hid (fun w => c_trim v w hv)
  obtain ⟨N, hN⟩ : ∃ N, N = n.data.toList := ⟨_, rfl⟩
  obtain ⟨V, hV⟩ : ∃ V, V = v.data.toList := ⟨_, rfl⟩
  rw [← hN] at HNm
  rw [← hV] at HPl HTr
  rw [← hN, ← hV]
  have HNV := Lib.hid (And.intro hN hV)
  clear hN hV
  have box := box_cells w n v 161
  have hb0 := below_box2 w (.string n) (.string v) 161
  have hbl : w.heap.size < (w.alloc (.cells #[.string n, .string v] 161)).heap.size := by simp
  cases h1 : nameL N with
  | false =>
    have HF := Lib.hid (fieldE_not N V (by unfold printOk; rw [h1]; rfl))
    rw [h1] at HNm
    clear h1 HPl HTr
    go_enter Tryz.func124, Tryz.ntmps124
    go_wp2_with fail
    generalize hW0 : w.alloc (.cells #[.string n, .string v] 161) = W0 at box hb0 hbl ⊢
    clear hW0
    have k0 : ∀ p : BelowOf W0, p.world.cell? ⟨w.heap.size, 0, none⟩ = some (.string n) := fun p => cell_of p hbl box.1
    have k1 : ∀ p : BelowOf W0, p.world.cell? ⟨w.heap.size, 1, none⟩ = some (.string v) := fun p => cell_of p hbl box.2
    have hb0 := Lib.hid hb0
    clear box
    refine wp_region_quiet_below (by kernel_rfl) (by kernel_rfl) ?_
    repeat (go_big_quiet_step ((go_at_call 146; exact below_of (HNm.out _))))
    refine wpQuiet_nil ?_
    intro W1 hw'
    have hb1 := of_class hw'
    clear hw'
    go_wp2_with fail
    go_ret2
    exact ⟨ret_pair (by rw [HF.out.2]; rfl) (by rw [HF.out.1]; rfl), bstep hb0.out hb1⟩
  | true =>
    rw [h1] at HNm
    have hn1 := Lib.hid h1
    clear h1
    cases h2 : (V.all fun c => plainB c.toNat) with
    | false =>
      have HF := Lib.hid (fieldE_not N V (by unfold printOk plainAll; rw [h2, Bool.and_false]; rfl))
      rw [h2] at HPl
      clear h2 HTr
      go_enter Tryz.func124, Tryz.ntmps124
      go_wp2_with fail
      generalize hW0 : w.alloc (.cells #[.string n, .string v] 161) = W0 at box hb0 hbl ⊢
      clear hW0
      have k0 : ∀ p : BelowOf W0, p.world.cell? ⟨w.heap.size, 0, none⟩ = some (.string n) := fun p => cell_of p hbl box.1
      have k1 : ∀ p : BelowOf W0, p.world.cell? ⟨w.heap.size, 1, none⟩ = some (.string v) := fun p => cell_of p hbl box.2
      have hb0 := Lib.hid hb0
      clear box
      refine wp_region_quiet_below (by kernel_rfl) (by kernel_rfl) ?_
      repeat (go_big_quiet_step ((first
        | (go_at_call 146; exact below_of (HNm.out _))
        | (go_at_call 143; exact below_same (HPl.out _))
        | fail)))
      refine wpQuiet_nil ?_
      intro W1 hw'
      have hb1 := of_class hw'
      clear hw'
      go_wp2_with fail
      go_ret2
      exact ⟨ret_pair (by rw [HF.out.2]; rfl) (by rw [HF.out.1]; rfl), bstep hb0.out hb1⟩
    | true =>
      rw [h2] at HPl
      have hp1 := Lib.hid h2
      clear h2
      obtain ⟨T, hT⟩ : ∃ T, T = bs (Go.Lib.trimS V gapL) := ⟨_, rfl⟩
      rw [← hT] at HTr
      cases h3 : noGap V with
      | false =>
        have HF := Lib.hid (fieldE_not N V (by unfold printOk; rw [h3, Bool.and_false]))
        have hcmp : (v.toList == T.toList) = false := by
          rw [beq_eq_false_iff_ne, hT, ByteArray.toList_eq, ByteArray.toList_eq, bs_data, ← HNV.out.2]
          intro e
          have := (trimS_iff V).1 e.symm
          rw [h3] at this; exact absurd this (by decide)
        clear h3 hT
        go_enter Tryz.func124, Tryz.ntmps124
        go_wp2_with fail
        generalize hW0 : w.alloc (.cells #[.string n, .string v] 161) = W0 at box hb0 hbl ⊢
        clear hW0
        have k0 : ∀ p : BelowOf W0, p.world.cell? ⟨w.heap.size, 0, none⟩ = some (.string n) := fun p => cell_of p hbl box.1
        have k1 : ∀ p : BelowOf W0, p.world.cell? ⟨w.heap.size, 1, none⟩ = some (.string v) := fun p => cell_of p hbl box.2
        have hb0 := Lib.hid hb0
        clear box
        refine wp_region_quiet_below (by kernel_rfl) (by kernel_rfl) ?_
        repeat (go_big_quiet_step ((first
          | (go_at_call 146; exact below_of (HNm.out _))
          | (go_at_call 143; exact below_same (HPl.out _))
          | (go_at_call 147; exact below_of (HTr.out _)))))
        refine wpQuiet_nil ?_
        intro W1 hw'
        have hb1 := of_class hw'
        clear hw'
        go_wp2_with fail
        go_ret2
        exact ⟨ret_pair (by rw [HF.out.2]; rfl) (by rw [HF.out.1]; rfl), bstep hb0.out hb1⟩
      | true =>
        have hok : printOk N V = true := by unfold printOk; rw [hn1.out, h3]; rw [show plainAll V = true from hp1.out]; rfl
        have HF := Lib.hid (fieldE_yes N V hok)
        have hcmp : (v.toList == T.toList) = true := by
          rw [beq_iff_eq, hT, ByteArray.toList_eq, ByteArray.toList_eq, bs_data, ← HNV.out.2]
          exact ((trimS_iff V).2 h3).symm
        have hna := nameL_all N hn1.out
        have HTi := Lib.hid (fun w => fields_titled n w hn (fun j hj => by
          have := namedN_bd _ (hna.1 n[j] (by rw [HNV.out.1]; exact List.getElem_mem (by rw [size_len]; exact hj)))
          omega))
        obtain ⟨A, hA⟩ : ∃ A, A = bs (titL true n.data.toList) := ⟨_, rfl⟩
        have hAs : A.size ≤ 32 := by rw [hA, bs_size, titL_len, ← HNV.out.1]; exact hna.2.2
        have hs3 : (A ++ ⟨#[58, 32]⟩ ++ v).size ≤ 9223372036854775807 := by rw [ByteArray.size_append, ByteArray.size_append]; show A.size + 2 + v.size ≤ _; omega
        have HTR := Lib.hid (fun w => c_trimR (A ++ ⟨#[58, 32]⟩ ++ v) w hs3)
        obtain ⟨R, hR⟩ : ∃ R, R = bs (Go.Lib.trimRightS (A ++ ⟨#[58, 32]⟩ ++ v).data.toList gapL) := ⟨_, rfl⟩
        have hRv : R = bs (printL N V) := by
          rw [hR, data_cat, data_cat, hA, bs_data, ← HNV.out.1, ← HNV.out.2]
          exact congrArg bs (trimR_print (titL true N) V h3)
        have hRs : R.size = (printL N V).length := by rw [hRv, bs_size]
        rw [← hA] at HTi
        rw [← hR] at HTR
        have HRv := Lib.hid hRv
        have hc1 : A.size + 2 ≤ 9223372036854775807 := by omega
        have hc2 : A.size + 2 + v.size ≤ 9223372036854775807 := by omega
        clear h3 hT hna hok hA hR hRv
        by_cases hlong : 256 < R.size
        · have HF5 := Lib.hid (HF.out.1 (by rw [← hRs]; exact hlong))
          have tl : decide ((R.size : Int) > 256) = true := decide_eq_true (by omega)
          clear hRs
          go_enter Tryz.func124, Tryz.ntmps124
          go_wp2_with fail
          generalize hW0 : w.alloc (.cells #[.string n, .string v] 161) = W0 at box hb0 hbl ⊢
          clear hW0
          have k0 : ∀ p : BelowOf W0, p.world.cell? ⟨w.heap.size, 0, none⟩ = some (.string n) := fun p => cell_of p hbl box.1
          have k1 : ∀ p : BelowOf W0, p.world.cell? ⟨w.heap.size, 1, none⟩ = some (.string v) := fun p => cell_of p hbl box.2
          have hb0 := Lib.hid hb0
          clear box
          refine wp_region_quiet_below (by kernel_rfl) (by kernel_rfl) ?_
          repeat (go_big_quiet_step ((first
            | (go_at_call 146; exact below_of (HNm.out _))
            | (go_at_call 143; exact below_same (HPl.out _))
            | (go_at_call 147; exact below_of (HTr.out _)))))
          refine wpQuiet_nil ?_
          intro W1 hw'
          have hb1 := of_class hw'
          clear hw'
          go_wp2_with fail
          have k0 : ∀ p : BelowOf W1, p.world.cell? ⟨w.heap.size, 0, none⟩ = some (.string n) := fun p => (cell_of p (Nat.lt_of_lt_of_le hbl hb1.size) (k0 ⟨W1, hb1⟩))
          have k1 : ∀ p : BelowOf W1, p.world.cell? ⟨w.heap.size, 1, none⟩ = some (.string v) := fun p => (cell_of p (Nat.lt_of_lt_of_le hbl hb1.size) (k1 ⟨W1, hb1⟩))
          refine wp_region_quiet_below (by kernel_rfl) (by kernel_rfl) ?_
          repeat (go_big_quiet_step ((first
            | (go_at_call 159; exact below_of (HTi.out _))
            | (go_at_call 158; exact below_of (HTR.out _)))))
          refine wpQuiet_nil ?_
          intro W2 hw'
          have hb2 := of_class hw'
          clear hw'
          go_wp2_with fail
          go_ret2
          exact ⟨ret_pair (by rw [HF5.out.2]; rfl) (by rw [HF5.out.1]; rfl), bstep hb0.out (bstep hb1 hb2)⟩
        · have HF0 := Lib.hid (HF.out.2 (by rw [← hRs]; omega))
          have tl : decide ((R.size : Int) > 256) = false := decide_eq_false (by omega)
          clear hRs
          go_enter Tryz.func124, Tryz.ntmps124
          go_wp2_with fail
          generalize hW0 : w.alloc (.cells #[.string n, .string v] 161) = W0 at box hb0 hbl ⊢
          clear hW0
          have k0 : ∀ p : BelowOf W0, p.world.cell? ⟨w.heap.size, 0, none⟩ = some (.string n) := fun p => cell_of p hbl box.1
          have k1 : ∀ p : BelowOf W0, p.world.cell? ⟨w.heap.size, 1, none⟩ = some (.string v) := fun p => cell_of p hbl box.2
          have hb0 := Lib.hid hb0
          clear box
          refine wp_region_quiet_below (by kernel_rfl) (by kernel_rfl) ?_
          repeat (go_big_quiet_step ((first
            | (go_at_call 146; exact below_of (HNm.out _))
            | (go_at_call 143; exact below_same (HPl.out _))
            | (go_at_call 147; exact below_of (HTr.out _)))))
          refine wpQuiet_nil ?_
          intro W1 hw'
          have hb1 := of_class hw'
          clear hw'
          go_wp2_with fail
          have k0 : ∀ p : BelowOf W1, p.world.cell? ⟨w.heap.size, 0, none⟩ = some (.string n) := fun p => (cell_of p (Nat.lt_of_lt_of_le hbl hb1.size) (k0 ⟨W1, hb1⟩))
          have k1 : ∀ p : BelowOf W1, p.world.cell? ⟨w.heap.size, 1, none⟩ = some (.string v) := fun p => (cell_of p (Nat.lt_of_lt_of_le hbl hb1.size) (k1 ⟨W1, hb1⟩))
          refine wp_region_quiet_below (by kernel_rfl) (by kernel_rfl) ?_
          repeat (go_big_quiet_step ((first
            | (go_at_call 159; exact below_of (HTi.out _))
            | (go_at_call 158; exact below_of (HTR.out _)))))
          refine wpQuiet_nil ?_
          intro W2 hw'
          have hb2 := of_class hw'
          clear hw'
          go_wp2_with fail
          go_ret2
          exact ⟨ret_pair (by rw [HF0.out.2, HRv.out]) (by rw [HF0.out.1]; rfl), bstep hb0.out (bstep hb1 hb2)⟩
end Go.Proofs.YtbdmmgmcbecolaaGreatDoor
namespace Go.Proofs.YtbdmmgmcbecolaaGreatDoor
open Go.RowKit

theorem own_tagF {w : World} {base : Nat} {e : TypeId} {size : Nat} {v : Value} {n : Nat} {xs : List Value} (h : w.ownsRow base e size v n xs) (g : Nat) (hg : v.ownBlock = some g) : ∃ cur, w.heap[g]? = some (.cells cur e (0, 0)) := by
  rcases h.2 with ⟨rfl, _⟩ | ⟨g', cap, cur, rfl, _, hgg, _⟩
  · cases hg
  · obtain rfl : g' = g := by simpa [Value.ownBlock] using hg
    exact ⟨cur, hgg⟩
theorem own_apartF {w : World} {b1 b2 : Nat} {e1 e2 : TypeId} {s1 s2 n1 n2 : Nat} {v1 v2 : Value} {x1 x2 : List Value} (h1 : w.ownsRow b1 e1 s1 v1 n1 x1) (h2 : w.ownsRow b2 e2 s2 v2 n2 x2) (hne : e1 ≠ e2) : v1.ownBlock = none ∨ v1.ownBlock ≠ v2.ownBlock := by
  cases hv : v1.ownBlock with
  | none => exact .inl rfl
  | some g =>
    refine .inr (fun e => ?_)
    obtain ⟨c1, k1⟩ := own_tagF h1 g hv
    obtain ⟨c2, k2⟩ := own_tagF h2 g e.symm
    rw [k1] at k2
    simp only [Option.some.injEq, Obj.cells.injEq] at k2
    exact hne k2.2.1
/-- a row of fields stays behind an append to a row of texts -/
theorem own_stays {w w' : World} {b1 b2 : Nat} {e1 e2 : TypeId} {s1 s2 n1 n2 : Nat} {v1 v2 : Value} {x1 x2 : List Value} (h1 : w.ownsRow b1 e1 s1 v1 n1 x1) (h2 : w.ownsRow b2 e2 s2 v2 n2 x2) (hne : e1 ≠ e2) (g : w.grownBy w' v2.ownBlock) : w'.ownsRow b1 e1 s1 v1 n1 x1 := by
  refine ⟨h1.1, ?_⟩
  rcases h1.2 with h0 | ⟨b, cap, cur, e, e2', e3, e4⟩
  · exact .inl h0
  · refine .inr ⟨b, cap, cur, e, e2', (g.block b (Array.getElem?_eq_some_iff.1 e3).1 (fun hh => ?_)).trans e3, e4⟩
    rcases own_apartF h1 h2 hne with hx | hx
    · rw [e] at hx; cases hx
    · rw [e] at hx; exact hx hh
theorem own_mono {w : World} {b1 b2 : Nat} {e : TypeId} {s n : Nat} {v : Value} {x : List Value} (h : w.ownsRow b1 e s v n x) (hb : b2 ≤ b1) : w.ownsRow b2 e s v n x := by
  refine ⟨h.1, ?_⟩
  rcases h.2 with h0 | ⟨b, cap, cur, e1, e2, e3⟩
  · exact .inl h0
  · exact .inr ⟨b, cap, cur, e1, Nat.le_trans hb e2, e3⟩
theorem clone_own (v : Value) (fs : List (List UInt8 × List UInt8)) (B : Nat) (w : World) (h : w.ownsRow B 161 2 v fs.length (fcells fs)) (hl : fs.length ≤ 1000000) :
    Calls Tryz.prog 123 #[v] w fun e w' => ∃ v', e = .returned v' ∧ w'.ownsRow w.heap.size 161 2 v' fs.length (fcells fs) ∧ Below w.heap.size w w' := by
  by_cases hn : fs = []
  · subst hn
    rcases h.2 with ⟨rfl, -⟩ | ⟨g, cap, cur, rfl, -⟩
    · exact clone_empty none 0 w (fun p hp => by cases hp)
    · exact clone_empty _ cap w (fun p hp => ⟨g, 0, (Option.some.inj hp).symm⟩)
  · exact clone_fields v fs w (HoldsF.of_own h) hn hl
theorem own_fslice {w : World} {base : Nat} {e : TypeId} {size n : Nat} {v : Value} {xs : List Value} (h : w.ownsRow base e size v n xs) : ∃ a c, v = .slice a n c := by
  rcases h.2 with ⟨rfl, rfl⟩ | ⟨g, cap, cur, rfl, _⟩
  · exact ⟨_, _, rfl⟩
  · exact ⟨_, _, rfl⟩
theorem EnvF.env {w : World} (h : EnvF w) : Env w := ⟨h.m, h.pow, h.big⟩
theorem own_fcell {w : World} {base n g cap : Nat} {e : TypeId} {fs : List (List UInt8 × List UInt8)} (h : w.ownsRow base e 2 (.slice (some ⟨g, 0, none⟩) n cap) n (fcells fs)) (j : Nat) (hj : j < fs.length) :
    w.cell? ⟨g, j * 2, none⟩ = some (.string (bs fs[j].1)) ∧ w.cell? ⟨g, j * 2 + 1, none⟩ = some (.string (bs fs[j].2)) := by
  have h1 := h.cells (g := g) rfl (j * 2) _ (fcells_get fs j hj).1
  have h2 := h.cells (g := g) rfl (j * 2 + 1) _ (fcells_get fs j hj).2
  have e0 : ∀ k, (⟨g, 0, none⟩ : Addr).add k = ⟨g, k, none⟩ := fun k => by unfold Addr.add; split <;> simp_all
  rw [e0] at h1 h2
  exact ⟨h1, h2⟩
theorem own_scell {w : World} {base n g cap : Nat} {e : TypeId} {xs : List (List UInt8)} (h : w.ownsRow base e 1 (.slice (some ⟨g, 0, none⟩) n cap) n (strs xs)) (j : Nat) (hj : j < xs.length) :
    w.cell? ⟨g, j, none⟩ = some (.string (bs xs[j])) := by
  have h1 := h.cells (g := g) rfl j _ (strs_get xs j hj)
  have e0 : ∀ k, (⟨g, 0, none⟩ : Addr).add k = ⟨g, k, none⟩ := fun k => by unfold Addr.add; split <;> simp_all
  rw [e0] at h1
  exact h1
theorem own_block_lt {w : World} {base n : Nat} {e : TypeId} {size : Nat} {v : Value} {xs : List Value} (h : w.ownsRow base e size v n xs) : ∀ k, v.ownBlock = some k → k < w.heap.size := by
  intro k hk
  obtain ⟨cur, hc⟩ := own_tagF h k hk
  exact (Array.getElem?_eq_some_iff.1 hc).1
theorem own_form {w : World} {base n : Nat} {e : TypeId} {size : Nat} {v : Value} {xs : List Value} (h : w.ownsRow base e size v n xs) (hn : 0 < n) : ∃ g cap, v = .slice (some ⟨g, 0, none⟩) n cap ∧ base ≤ g := by
  rcases h.2 with ⟨-, h0⟩ | ⟨g, cap, cur, hv, hb, -⟩
  · omega
  · exact ⟨g, cap, hv, hb⟩
def InsPost (base N : Nat) (gs : List (List UInt8 × List UInt8)) (w : World) (e : Ending) (w' : World) : Prop :=
  ∃ g cap, e = .returned (.slice (some ⟨g, 0, none⟩) N cap) ∧ w'.ownsRow base 161 2 (.slice (some ⟨g, 0, none⟩) N cap) N (fcells gs) ∧ Below base w w'
theorem ins_any (vc : Value) (fs : List (List UInt8 × List UInt8)) (f : List UInt8 × List UInt8) (vb base B0 N : Nat) (W : World) (hN : fs.length + 1 = N) (hown : W.ownsRow B0 161 2 vc fs.length (fcells fs)) (hB : base ≤ B0) (hv : W.heap[vb]? = some (.cells #[.string (bs f.1), .string (bs f.2)] 161 (0, 0))) (hne : vc.ownBlock ≠ some vb) (hl : fs.length ≤ 1000000) (hbase : base ≤ W.heap.size) :
    Calls Tryz.prog 122 #[vc, .int .i64 0, .slice (some ⟨vb, 0, none⟩) 1 1] W (InsPost base N (f :: fs) W) := by
  subst hN
  have hown' := own_mono hown hB
  refine (insert_own vc fs f vb base W hown' hv hne hl hbase).mono ?_
  rintro e w' ⟨v', rfl, h1, h2⟩
  obtain ⟨g, cap, rfl, -⟩ := own_form h1 (by omega)
  exact ⟨g, cap, rfl, h1, (Below.refl _ _).grown h2 hbase (fun k hk => (hown'.lt k hk).1)⟩
theorem ins_one (vc : Value) (fs : List (List UInt8 × List UInt8)) (f : List UInt8 × List UInt8) (base B0 N : Nat) (wc wd : World) (hN : fs.length + 1 = N) (hown : wc.ownsRow B0 161 2 vc fs.length (fcells fs)) (hB : base ≤ B0) (hl : fs.length ≤ 1000000) (hbase : base ≤ wc.heap.size) (hbd : Below wc.heap.size wc wd) :
    Calls Tryz.prog 122 #[vc, .int .i64 0, .slice (some ⟨wd.heap.size, 0, none⟩) 1 1] (wd.alloc (.cells #[.string (bs f.1), .string (bs f.2)] 161)) (InsPost base N (f :: fs) (wd.alloc (.cells #[.string (bs f.1), .string (bs f.2)] 161))) := by
  have h1 := own_keep hown hbd
  have h2 := own_keep h1 ((Below.refl wd.heap.size wd).alloc (Nat.le_refl _) (.cells #[.string (bs f.1), .string (bs f.2)] 161))
  have hsz := hbd.size
  refine ins_any vc fs f wd.heap.size base B0 N _ hN h2 hB (heap_alloc_new wd _) (fun e => ?_) hl (by simp; omega)
  have := own_block_lt h1 _ e
  omega
theorem ins_two (vc : Value) (fs : List (List UInt8 × List UInt8)) (f : List UInt8 × List UInt8) (base N : Nat) (wd wc : World) (hN : fs.length + 1 = N) (hown : wc.ownsRow (wd.alloc (.cells #[.string (bs f.1), .string (bs f.2)] 161)).heap.size 161 2 vc fs.length (fcells fs)) (hl : fs.length ≤ 1000000) (hbase : base ≤ wd.heap.size) (hbc : Below (wd.alloc (.cells #[.string (bs f.1), .string (bs f.2)] 161)).heap.size (wd.alloc (.cells #[.string (bs f.1), .string (bs f.2)] 161)) wc) :
    Calls Tryz.prog 122 #[vc, .int .i64 0, .slice (some ⟨wd.heap.size, 0, none⟩) 1 1] wc (InsPost base N (f :: fs) wc) := by
  have hsz := hbc.size
  simp at hsz
  refine ins_any vc fs f wd.heap.size base _ N _ hN hown (by simp; omega) ((hbc.block wd.heap.size (by simp)).trans (heap_alloc_new wd _)) (fun e => ?_) hl (by omega)
  have := (hown.lt _ e).1
  simp at this
  omega
/-- append of one text, the new value written out -/
theorem append_strL {ops : Array Oper} {rest : List Oper} {o : Oper} {a : Act} {Q : Exit → Act → World → Prop} (w0 : World) (hgd : o.guard = none) (s x : Operand)
    (ho : o.op = .call { callee := .builtin .append, args := #[s, x], argTypes := #[131, 131] })
    (base n : Nat) (v : Value) (xs : List (List UInt8)) (hs : a.eval s = v) (hown : w0.ownsRow base 9 1 v n (strs xs))
    (b : ByteArray) (l : List UInt8) (hbl : b = bs l) (hx : a.eval x = .slice (some ⟨w0.heap.size, 0, none⟩) 1 1) (hn : n < 2147483648) (hbase : base ≤ w0.heap.size)
    (h : ∀ g cap w', w'.ownsRow base 9 1 (.slice (some ⟨g, 0, none⟩) (n + 1) cap) (n + 1) (strs (xs ++ [l])) → w0.grownBy w' v.ownBlock → wpList Tryz.prog ops Q rest (a.put o.dst (.slice (some ⟨g, 0, none⟩) (n + 1) cap)) w') :
    wpList Tryz.prog ops Q (o :: rest) a (w0.alloc (.cells #[.string b] 9)) := by
  obtain ⟨i0, hi, hz0, hz1, hz2⟩ := info_parts info_str
  subst hbl
  refine wpList_append_lies _ hgd s x 131 ho base 9 i0 _ 1 16 Tryz.underlying131 hi hz0 hz1 hz2 rfl (by decide) v n (strs xs) hs (hown.alloc _) ⟨w0.heap.size, 0, none⟩ 1 1 [.string (bs l)] hx rfl (cell_one_new w0 _ _) (by simp [Value.oneCell']) (by decide) (by unfold maxLen; omega) (by omega) (by simp; omega) _ rfl ?_
  intro g cap w' h2 h3 h4 h5
  refine h g cap w' ?_ ?_
  · rw [strs_append, strs_one]; exact h2
  · exact ⟨h3.os, h3.tape, h3.output, Nat.le_trans (by simp) h3.size, fun k hk hne => (h3.block k (by simp; omega) hne).trans (heap_alloc_old w0 _ hk)⟩
theorem ownE_bad (fs : List (List UInt8 × List UInt8)) (j : Nat) (hj : j < fs.length) (hok : ∀ i (hi : i < fs.length), i < j → fs[i].1 ≠ clen ∧ fieldE fs[i].1 fs[i].2 = 0) :
    (fs[j].1 = clen → ownE fs = 22) ∧ (fs[j].1 ≠ clen → fieldE fs[j].1 fs[j].2 ≠ 0 → ownE fs = fieldE fs[j].1 fs[j].2) := by
  rw [ownE_at fs j hok, List.drop_eq_getElem_cons hj]
  refine ⟨fun h => if_pos h, fun h1 h2 => ?_⟩
  unfold ownE
  rw [if_neg h1, if_pos h2]
theorem ownE_good (fs : List (List UInt8 × List UInt8)) (hok : ∀ i (hi : i < fs.length), fs[i].1 ≠ clen ∧ fieldE fs[i].1 fs[i].2 = 0) : ownE fs = 0 := by
  rw [ownE_at fs fs.length (fun j hj _ => hok j hj), List.drop_length]; rfl
def RPost (c : Int) (fs : List (List UInt8 × List UInt8)) (b : List UInt8) (w : World) (e : Ending) (w' : World) : Prop :=
  e = .returned (.tuple #[.string (bs (repS c fs b)), .int .i64 (repE c fs : Nat)]) ∧ Below w.heap.size w w'
set_option maxRecDepth 100000 in
set_option maxHeartbeats 4000000 in
theorem reply_print (c : Int) (fv : Value) (fs : List (List UInt8 × List UInt8)) (b : ByteArray) (B : Nat) (w : World) (hE : EnvF w) (hc0 : -9223372036854775808 ≤ c) (hc1 : c ≤ 9223372036854775807)
    (hown : w.ownsRow B 161 2 fv fs.length (fcells fs)) (hl : fs.length ≤ 1000000) (hf : ∀ f ∈ fs, f.1.length ≤ 1000000 ∧ f.2.length ≤ 1000000) (hb : b.size ≤ 1000000) :
    Calls Tryz.prog 92 #[.agg #[.int .i64 c, fv, .string b]] w (RPost c fs b.data.toList w) := by
  have HS := Lib.hid (fun w hE => status_print c w hE hc0 hc1)
  obtain ⟨av, cv, rfl⟩ := own_fslice hown
  have B1 := below_agg3 w (.int .i64 c) (.slice av fs.length cv) (.string b) 113
  have T1 := Three.new w (.int .i64 c) (.slice av fs.length cv) (.string b) 113
  have HE1 := Lib.hid (hE.below B1)
  have HO1 := Lib.hid (own_keep hown B1)
  have HB1 := Lib.hid B1
  clear hE hown B1
  obtain ⟨l1, t0, t1, t2⟩ := T1
  by_cases he : printErr c = 0
  case neg =>
    have HR : Hid (repE c fs = printErr c ∧ repS c fs b.data.toList = []) := Lib.hid (by
      have : repE c fs = printErr c := if_pos he
      exact ⟨this, by unfold repS; rw [if_neg (by rw [this]; exact he)]⟩)
    have tz : ((printErr c : Int) != 0) = true := by rw [bne_iff_ne]; omega
    clear he hf
    go_enter Tryz.func92, Tryz.ntmps92
    go_wp2_with fail
    refine (HS.out _ HE1.out.env).mono ?_
    rintro e w1 ⟨rfl, hb1⟩
    have HB2 := Lib.hid (bstep HB1.out hb1)
    clear hb1 t0 t1 t2
    go_wp2_with fail
    go_ret2
    exact ⟨by rw [HR.out.1, HR.out.2]; rfl, HB2.out⟩
  have HZ := Lib.hid he
  rw [he] at HS
  have hlI : (fs.length : Int) ≤ 1000000 := by omega
  by_cases hm : 15 < fs.length
  · have HR : Hid (repE c fs = 21 ∧ repS c fs b.data.toList = []) := Lib.hid (by
      have : repE c fs = 21 := by unfold repE; rw [if_neg (by rw [he]; simp), if_pos hm]
      exact ⟨this, by unfold repS; rw [if_neg (by rw [this]; simp)]⟩)
    have tm : decide ((fs.length : Int) > 15) = true := decide_eq_true (by omega)
    clear he hf
    go_enter Tryz.func92, Tryz.ntmps92
    go_wp2_with fail
    refine (HS.out _ HE1.out.env).mono ?_
    rintro e w1 ⟨rfl, hb1⟩
    have HB2 := Lib.hid (bstep HB1.out hb1)
    obtain ⟨l2, u0, u1, u2⟩ := Three.below ⟨l1, t0, t1, t2⟩ hb1
    clear hb1 t0 t1 t2
    go_wp2_with fail
    go_ret2
    exact ⟨by rw [HR.out.1, HR.out.2]; rfl, HB2.out⟩
  have tm : decide ((fs.length : Int) > 15) = false := decide_eq_false (by omega)
  have HR : Hid (repE c fs = ownE fs) := Lib.hid (by unfold repE; rw [if_neg (by rw [he]; simp), if_neg hm])
  have HD := Lib.hid (fun w hE => fields_digits (b.size : Int) (by omega) (by omega) w hE)
  obtain ⟨D, hD⟩ : ∃ D, digL (b.size : Int) = D := ⟨_, rfl⟩
  rw [hD] at HD
  have HDD := Lib.hid hD
  obtain ⟨P0, hP0⟩ : ∃ P, printOf c = P := ⟨_, rfl⟩
  rw [hP0] at HS
  have HP0 := Lib.hid hP0
  have HM : Hid (fs.length ≤ 15) := Lib.hid (by omega)
  clear he hm hD hP0
  go_enter Tryz.func92, Tryz.ntmps92
  go_wp2_with fail
  refine (HS.out _ HE1.out.env).mono ?_
  rintro e w1 ⟨rfl, hb1⟩
  have HB2 := Lib.hid (bstep HB1.out hb1)
  obtain ⟨l2, u0, u1, u2⟩ := Three.below ⟨l1, t0, t1, t2⟩ hb1
  have HE2 := Lib.hid (HE1.out.below hb1)
  have HO2 := Lib.hid (own_keep HO1.out hb1)
  have hsz1 := hb1.size
  clear hb1 t0 t1 t2 l1 HB1 HE1 HO1
  go_wp2_with fail
  have HB3 := Lib.hid (HB2.out.alloc (by have := HB2.out.size; omega) (.cells #[.string P0] 9))
  obtain ⟨l3, v0, v1, v2⟩ := Three.alloc ⟨l2, u0, u1, u2⟩ (.cells #[.string P0] 9)
  have HE3 := Lib.hid (HE2.out.below ((Below.refl _ _).alloc (Nat.le_refl _) (.cells #[.string P0] 9)))
  have HO3 := Lib.hid (own_keep HO2.out ((Below.refl _ _).alloc (Nat.le_refl _) (.cells #[.string P0] 9)))
  have HBK := Lib.hid (heap_alloc_new w1 (.cells #[.string P0] 9))
  have hA : w1.heap.size < (w1.alloc (.cells #[.string P0] 9)).heap.size := by simp
  generalize (w1.alloc (.cells #[.string P0] 9)) = W2 at HB3 HE3 HO3 HBK hA l3 v0 v1 v2 ⊢
  have HC := Lib.hid (fun W (h : Below W2.heap.size W2 W) => clone_own (.slice av fs.length cv) fs B W (own_keep HO3.out h) hl)
  have HDg := Lib.hid (fun W (h : Below W2.heap.size W2 W) => HD.out W (HE3.out.below h))
  have HS3 : Hid (∀ W, Below W2.heap.size W2 W → W.cell? ⟨w.heap.size, 1, none⟩ = some (.slice av fs.length cv) ∧ W.cell? ⟨w.heap.size, 2, none⟩ = some (.string b)) := Lib.hid (fun W hW => ⟨(hW.cell (p := ⟨w.heap.size, 1, none⟩) l3).trans v1, (hW.cell (p := ⟨w.heap.size, 2, none⟩) l3).trans v2⟩)
  obtain ⟨N, hN⟩ : ∃ N, fs.length + 1 = N := ⟨_, rfl⟩
  have HI1 : Hid (∀ (vc : Value) (B0 : Nat) (wc wd : World), wc.ownsRow B0 161 2 vc fs.length (fcells fs) → W2.heap.size ≤ B0 → W2.heap.size ≤ wc.heap.size → Below wc.heap.size wc wd →
      Calls Tryz.prog 122 #[vc, .int .i64 0, .slice (some ⟨wd.heap.size, 0, none⟩) 1 1] (wd.alloc (.cells #[.string ⟨#[99, 111, 110, 116, 101, 110, 116, 45, 108, 101, 110, 103, 116, 104]⟩, .string (bs D)] 161)) (InsPost W2.heap.size N ((clen, D) :: fs) (wd.alloc (.cells #[.string ⟨#[99, 111, 110, 116, 101, 110, 116, 45, 108, 101, 110, 103, 116, 104]⟩, .string (bs D)] 161)))) := Lib.hid (fun vc B0 wc wd h1 h2 h3 h4 => ins_one vc fs (clen, D) W2.heap.size B0 N wc wd hN h1 h2 hl h3 h4)
  have HI2 : Hid (∀ (vc : Value) (wd wc : World), wc.ownsRow (wd.alloc (.cells #[.string ⟨#[99, 111, 110, 116, 101, 110, 116, 45, 108, 101, 110, 103, 116, 104]⟩, .string (bs D)] 161)).heap.size 161 2 vc fs.length (fcells fs) → Below (wd.alloc (.cells #[.string ⟨#[99, 111, 110, 116, 101, 110, 116, 45, 108, 101, 110, 103, 116, 104]⟩, .string (bs D)] 161)).heap.size (wd.alloc (.cells #[.string ⟨#[99, 111, 110, 116, 101, 110, 116, 45, 108, 101, 110, 103, 116, 104]⟩, .string (bs D)] 161)) wc → W2.heap.size ≤ wd.heap.size →
      Calls Tryz.prog 122 #[vc, .int .i64 0, .slice (some ⟨wd.heap.size, 0, none⟩) 1 1] wc (InsPost W2.heap.size N ((clen, D) :: fs) wc)) := Lib.hid (fun vc wd wc h1 h2 h3 => ins_two vc fs (clen, D) W2.heap.size N wd wc hN h1 hl h3 h2)
  clear u0 u1 u2 l2 HB2 HE2 HO2
  go_region_held3 (fun w' => w'.cell? ⟨w.heap.size, 1, none⟩ = some (.slice av fs.length cv) ∧ w'.cell? ⟨w.heap.size, 2, none⟩ = some (.string b)) (first | exact HS3.out _ (Below.refl _ _).drew | exact HS3.out _ HA1.out | exact HS3.out _ HA2.out | exact HS3.out _ (HA1.out.alloc HA1.out.size _) | exact HS3.out _ (HA2.out.alloc HA2.out.size _) | exact HS3.out _ HA3.out)
    (first
      | (go_at_call 123; refine (HC.out _ (by first | exact (Below.refl _ _).drew | exact HA1.out | exact HA1.out.alloc HA1.out.size _)).mono ?_; rintro e wc ⟨vc, rfl, hoc, hbc⟩; (first | (have HA2 : Hid (Below W2.heap.size W2 wc) := Lib.hid (bstep HA1.out hbc)) | (have HA2 : Hid (Below W2.heap.size W2 wc) := Lib.hid (bstep (HA1.out.alloc HA1.out.size _) hbc)) | (have HA1 : Hid (Below W2.heap.size W2 wc) := Lib.hid (bstep (Below.refl _ _).drew hbc))); have HOC := Lib.hid hoc; have HBC := Lib.hid hbc; clear hoc hbc)
      | (go_at_call 118; refine (HDg.out _ (by first | exact (Below.refl _ _).drew | exact HA1.out)).mono ?_; rintro e wd ⟨rfl, hbd⟩; (first | (have HA2 : Hid (Below W2.heap.size W2 wd) := Lib.hid (bstep HA1.out hbd)) | (have HA1 : Hid (Below W2.heap.size W2 wd) := Lib.hid (bstep (Below.refl _ _).drew hbd))); have HBD := Lib.hid hbd; clear hbd)
      | (go_at_call 122; (first | refine (HI1.out _ _ _ _ HOC.out (Nat.le_refl _) HA1.out.size HBD.out).mono ?_ | refine (HI1.out _ _ _ _ HOC.out HA1.out.size HA2.out.size (Below.refl _ _)).mono ?_ | refine (HI2.out _ _ _ HOC.out HBC.out HA1.out.size).mono ?_); rintro e wi ⟨gi, ci, rfl, hoi, hbi⟩; (first | (have HA3 : Hid (Below W2.heap.size W2 wi) := Lib.hid ((HA2.out.alloc HA2.out.size _).trans hbi)) | (have HA3 : Hid (Below W2.heap.size W2 wi) := Lib.hid (HA2.out.trans hbi))); have HOI := Lib.hid hoi; clear hoi hbi))
  have hnl : ∀ f ∈ (clen, D) :: fs, f.1.length ≤ 1000000 ∧ f.2.length ≤ 1000000 := by
    intro f hfm
    rcases List.mem_cons.1 hfm with rfl | hfm
    · refine ⟨by show clen.length ≤ _; decide, ?_⟩
      have := digL_len (b.size : Int) (by omega)
      rw [HDD.out] at this
      show D.length ≤ _
      omega
    · exact hf f hfm
  have HNL := Lib.hid hnl
  have HCL : Hid (fieldE clen D = 0) := Lib.hid (by rw [← HDD.out]; exact clen_ok b.size (by omega))
  have HGS : Hid (∀ j (hj : j < ((clen, D) :: fs).length), 0 < j → ∃ h : j - 1 < fs.length, ((clen, D) :: fs)[j] = fs[j - 1]) := Lib.hid (fun j hj h0 => by
    obtain ⟨i, rfl⟩ : ∃ i, j = i + 1 := ⟨j - 1, by omega⟩
    exact ⟨by simpa using hj, rfl⟩)
  have HLN : Hid ((repLines c fs b.size) = P0.data.toList :: ((clen, D) :: fs).map (fun f => printL f.1 f.2)) := Lib.hid (by unfold repLines; rw [HP0.out, HDD.out]; rfl)
  have HG0 : Hid ((clen, D) :: fs ≠ [] ∧ ∀ h : 0 < ((clen, D) :: fs).length, ((clen, D) :: fs)[0] = (clen, D)) := Lib.hid ⟨by simp, fun _ => rfl⟩
  have hgl : ((clen, D) :: fs).length = N := hN
  generalize (clen, D) :: fs = gs at HOI HNL HGS HLN HG0 hgl
  have HOA : Hid (wi.ownsRow w1.heap.size 9 1 (.slice (some ⟨w1.heap.size, 0, none⟩) 1 1) 1 (strs [P0.data.toList])) := Lib.hid ⟨rfl, .inr ⟨w1.heap.size, 1, _, rfl, Nat.le_refl _, (HA3.out.block w1.heap.size hA).trans HBK.out, Nat.le_refl _, by decide, rfl, by rw [strs_one, bs_self]; rfl⟩⟩
  have HBI : Hid (Below w1.heap.size W2 wi) := Lib.hid (HA3.out.mono (Nat.le_of_lt hA))
  have hNl : N ≤ 1000001 := by omega
  have HW1 : Hid (w.heap.size < w1.heap.size ∧ w1.heap.size < W2.heap.size) := Lib.hid ⟨by have := hsz1; simp at this; omega, hA⟩
  have HNN := Lib.hid hN
  clear hnl hf hN HOC HBC HBD HA1 HA2 HI1 HI2 HC HDg HS3 HBK hA HO3 hsz1 HS HD
  go_wp2_with fail
  go_simp
  go_loopg [6, 44] N (fun gk s6 s44 wr => ∃ k : Nat, s44 = .int .i64 (k : Int) ∧ k + gk = N ∧ Hid (wr.ownsRow w1.heap.size 9 1 s6 (k + 1) (strs (P0.data.toList :: (gs.take k).map (fun f => printL f.1 f.2)))) ∧ Hid (wr.ownsRow W2.heap.size 161 2 (.slice (some ⟨gi, 0, none⟩) N ci) N (fcells gs)) ∧ Hid (Below w1.heap.size W2 wr) ∧ Hid (∀ j (hj : j < gs.length), j < k → (0 < j → gs[j].1 ≠ clen) ∧ fieldE gs[j].1 gs[j].2 = 0))
  case atStart => exact ⟨0, by simp, by omega, HOA, HOI, HBI, Lib.hid (fun j hj h => absurd h (Nat.not_lt_zero _))⟩
  case round =>
    obtain ⟨k, rfl, hgk, HOAr, HOFr, HBr, HK⟩ := hrel
    by_cases hk : k < N
    · obtain ⟨g', rfl⟩ : ∃ g', gk = g' + 1 := ⟨gk - 1, by omega⟩
      have hkl : k < gs.length := by omega
      obtain ⟨y, hy⟩ : ∃ y, gs[k] = y := ⟨_, rfl⟩
      obtain ⟨c0, c1⟩ := own_fcell HOFr.out k hkl
      rw [hy] at c0 c1
      have hyl := HNL.out _ (List.getElem_mem hkl)
      rw [hy] at hyl
      have HP := Lib.hid (fun w => fields_print (bs y.1) (bs y.2) w (by rw [bs_size]; exact hyl.1) (by rw [bs_size]; exact hyl.2))
      rw [bs_data, bs_data] at HP
      have HN := Lib.hid (fun w => reply_named y.1 y.2 w)
      have HY := Lib.hid hy
      have hkI : decide ((k : Int) < (N : Int)) = true := decide_eq_true (by omega)
      clear hy hyl
      have HST : Hid (P0.data.toList :: (gs.take (k + 1)).map (fun f => printL f.1 f.2) = (P0.data.toList :: (gs.take k).map (fun f => printL f.1 f.2)) ++ [printL y.1 y.2]) := Lib.hid (by
        rw [List.take_succ_eq_append_getElem hkl, List.map_append, HY.out]; rfl)
      by_cases hk0 : k = 0
      · have hy0 : y = (clen, D) := by rw [← HY.out]; subst hk0; exact HG0.out.2 hkl
        have hz : fieldE y.1 y.2 = 0 := by rw [hy0]; exact HCL.out
        have HK2 : Hid (∀ j (hj : j < gs.length), j < k + 1 → (0 < j → gs[j].1 ≠ clen) ∧ fieldE gs[j].1 gs[j].2 = 0) := Lib.hid (fun j hj h => by
          obtain rfl : j = k := by omega
          rw [HY.out]
          exact ⟨fun h => by omega, hz⟩)
        have hfs : fieldS y.1 y.2 = printL y.1 y.2 := if_pos hz
        rw [hz, hfs] at HP
        have tk0 : decide ((k : Int) > 0) = false := decide_eq_false (by omega)
        have tk1 : decide (0 < k) = false := decide_eq_false (by omega)
        have tk2 : ¬ (0 < k) := by omega
        clear hy0 hz hfs hk0 HK HY
        go_wp2_with fail
        refine (HP.out _).mono ?_
        rintro e w3 ⟨rfl, hb3⟩
        have hb03 := bstep ((Below.refl wr.heap.size wr).alloc (Nat.le_refl _) (.cells #[.string (bs y.1), .string (bs y.2)] 161)) hb3
        clear hb3 c0 c1
        have HOA3 := Lib.hid (own_keep HOAr.out hb03)
        have HOF3 := Lib.hid (own_keep HOFr.out hb03)
        have HB3r := Lib.hid (HBr.out.trans (hb03.mono (by have := HBr.out.size; have := HW1.out; omega)))
        have HS3 : Hid (k + 1 < 2147483648 ∧ w1.heap.size ≤ w3.heap.size) := Lib.hid ⟨by omega, by have := hb03.size; have := HBr.out.size; have := HW1.out; omega⟩
        clear hb03
        go_wp2_with (at_builtin; go_loud (refine append_strL w3 (by rfl) _ _ (by rfl) w1.heap.size (k + 1) _ _ (by rfl) HOA3.out _ (printL y.1 y.2) rfl (by rfl) HS3.out.1 HS3.out.2 ?_); intro g3 cap3 w4 hown4 hg4)
        go_roundg g'
        case measure => omega
        case rel =>
          refine ⟨k + 1, by simp, by omega, Lib.hid ?_, Lib.hid (own_stays HOF3.out HOA3.out (by decide) hg4), Lib.hid (below_own HB3r.out hg4 HOA3.out (Nat.le_refl _) HS3.out.2), HK2⟩
          rw [HST.out]; exact hown4
      · have tk0 : decide ((k : Int) > 0) = true := decide_eq_true (by omega)
        have tk1 : decide (0 < k) = true := decide_eq_true (by omega)
        have tk2 : 0 < k := by omega
        obtain ⟨hj1, hj2⟩ := HGS.out k hkl (by omega)
        have hyf : fs[k - 1] = y := by rw [← hj2, HY.out]
        have hokf : ∀ i (hi : i < fs.length), i < k - 1 → fs[i].1 ≠ clen ∧ fieldE fs[i].1 fs[i].2 = 0 := by
          intro i hi hik
          obtain ⟨q1, q2⟩ := HK.out (i + 1) (by omega) (by omega)
          obtain ⟨r1, r2⟩ := HGS.out (i + 1) (by omega) (by omega)
          rw [r2] at q1 q2
          exact ⟨q1 (by omega), q2⟩
        obtain ⟨o1, o2⟩ := ownE_bad fs (k - 1) hj1 hokf
        rw [hyf] at o1 o2
        have HOE := Lib.hid (And.intro o1 o2)
        clear hj2 hyf hokf o1 o2 hk0
        by_cases hnm : y.1 = clen
        · have HF : Hid (repE c fs = 22 ∧ repS c fs b.data.toList = []) := Lib.hid (by
            have : repE c fs = 22 := by rw [HR.out]; exact HOE.out.1 hnm
            exact ⟨this, by unfold repS; rw [if_neg (by rw [this]; simp)]⟩)
          rw [decide_eq_true hnm] at HN
          clear hnm HK HY
          go_wp2_with fail
          refine (HN.out _).mono ?_
          rintro e w3 ⟨rfl, hb3⟩
          have hb03 := bstep ((Below.refl wr.heap.size wr).alloc (Nat.le_refl _) (.cells #[.string (bs y.1), .string (bs y.2)] 161)) hb3
          have HBF := Lib.hid (HB3.out.trans ((HBr.out.trans (hb03.mono (by have := HBr.out.size; have := HW1.out; omega))).mono (Nat.le_of_lt HW1.out.1)))
          clear hb3 c0 c1 hb03
          go_wp2_with fail
          go_ret2
          exact ⟨by rw [HF.out.1, HF.out.2]; rfl, HBF.out⟩
        · rw [decide_eq_false hnm] at HN
          have HNM := Lib.hid hnm
          by_cases hz : fieldE y.1 y.2 = 0
          · have HK2 : Hid (∀ j (hj : j < gs.length), j < k + 1 → (0 < j → gs[j].1 ≠ clen) ∧ fieldE gs[j].1 gs[j].2 = 0) := Lib.hid (fun j hj h => by
              by_cases e : j = k
              · subst e; rw [HY.out]; exact ⟨fun _ => HNM.out, hz⟩
              · exact HK.out j hj (by omega))
            have hfs : fieldS y.1 y.2 = printL y.1 y.2 := if_pos hz
            rw [hz, hfs] at HP
            clear hz hfs hnm HK HY
            go_wp2_with fail
            refine (HN.out _).mono ?_
            rintro e w2 ⟨rfl, hb2⟩
            have hb02 := bstep ((Below.refl wr.heap.size wr).alloc (Nat.le_refl _) (.cells #[.string (bs y.1), .string (bs y.2)] 161)) hb2
            have hk0 : w2.heap[wr.heap.size]? = some (.cells #[.string (bs y.1), .string (bs y.2)] 161 (0, 0)) := (hb2.block wr.heap.size (by simp)).trans (heap_alloc_new wr _)
            have k0 : w2.cell? ⟨wr.heap.size, 0, none⟩ = some (.string (bs y.1)) := by unfold World.cell?; rw [hk0]; rfl
            have k1 : w2.cell? ⟨wr.heap.size, 1, none⟩ = some (.string (bs y.2)) := by unfold World.cell?; rw [hk0]; rfl
            have HB02 := Lib.hid hb02
            clear hb2 c0 c1 hk0 hb02
            go_wp2_with fail
            refine (HP.out _).mono ?_
            rintro e w3 ⟨rfl, hb3⟩
            have hb03 := bstep HB02.out hb3
            clear hb3 k0 k1
            have HOA3 := Lib.hid (own_keep HOAr.out hb03)
            have HOF3 := Lib.hid (own_keep HOFr.out hb03)
            have HB3r := Lib.hid (HBr.out.trans (hb03.mono (by have := HBr.out.size; have := HW1.out; omega)))
            have HS3 : Hid (k + 1 < 2147483648 ∧ w1.heap.size ≤ w3.heap.size) := Lib.hid ⟨by omega, by have := hb03.size; have := HBr.out.size; have := HW1.out; omega⟩
            clear hb03
            go_wp2_with (at_builtin; go_loud (refine append_strL w3 (by rfl) _ _ (by rfl) w1.heap.size (k + 1) _ _ (by rfl) HOA3.out _ (printL y.1 y.2) rfl (by rfl) HS3.out.1 HS3.out.2 ?_); intro g3 cap3 w4 hown4 hg4)
            go_roundg g'
            case measure => omega
            case rel =>
              refine ⟨k + 1, by simp, by omega, Lib.hid ?_, Lib.hid (own_stays HOF3.out HOA3.out (by decide) hg4), Lib.hid (below_own HB3r.out hg4 HOA3.out (Nat.le_refl _) HS3.out.2), HK2⟩
              rw [HST.out]; exact hown4
          · have HF : Hid (repE c fs = fieldE y.1 y.2 ∧ repS c fs b.data.toList = []) := Lib.hid (by
              have : repE c fs = fieldE y.1 y.2 := by rw [HR.out]; exact HOE.out.2 HNM.out hz
              exact ⟨this, by unfold repS; rw [if_neg (by rw [this]; exact hz)]⟩)
            have tz : ((fieldE y.1 y.2 : Int) != 0) = true := by rw [bne_iff_ne]; omega
            clear hz hnm HK HY
            go_wp2_with fail
            refine (HN.out _).mono ?_
            rintro e w2 ⟨rfl, hb2⟩
            have hb02 := bstep ((Below.refl wr.heap.size wr).alloc (Nat.le_refl _) (.cells #[.string (bs y.1), .string (bs y.2)] 161)) hb2
            have hk0 : w2.heap[wr.heap.size]? = some (.cells #[.string (bs y.1), .string (bs y.2)] 161 (0, 0)) := (hb2.block wr.heap.size (by simp)).trans (heap_alloc_new wr _)
            have k0 : w2.cell? ⟨wr.heap.size, 0, none⟩ = some (.string (bs y.1)) := by unfold World.cell?; rw [hk0]; rfl
            have k1 : w2.cell? ⟨wr.heap.size, 1, none⟩ = some (.string (bs y.2)) := by unfold World.cell?; rw [hk0]; rfl
            have HB02 := Lib.hid hb02
            clear hb2 c0 c1 hk0 hb02
            go_wp2_with fail
            refine (HP.out _).mono ?_
            rintro e w3 ⟨rfl, hb3⟩
            have hb03 := bstep HB02.out hb3
            have HBF := Lib.hid (HB3.out.trans ((HBr.out.trans (hb03.mono (by have := HBr.out.size; have := HW1.out; omega))).mono (Nat.le_of_lt HW1.out.1)))
            clear hb3 k0 k1 hb03
            go_wp2_with fail
            go_ret2
            exact ⟨by rw [HF.out.1, HF.out.2]; rfl, HBF.out⟩
    · obtain rfl : k = N := by omega
      have hN := HNN.out
      have hkI : decide ((k : Int) < (k : Int)) = false := decide_eq_false (by omega)
      have hN17 : k ≤ 16 := by have := HM.out; omega
      have hOE : ownE fs = 0 := ownE_good fs (fun i hi => by
        obtain ⟨q1, q2⟩ := HK.out (i + 1) (by omega) (by omega)
        obtain ⟨r1, r2⟩ := HGS.out (i + 1) (by omega) (by omega)
        rw [r2] at q1 q2
        exact ⟨q1 (by omega), q2⟩)
      have hrz : repE c fs = 0 := by rw [HR.out]; exact hOE
      have HF : Hid (repE c fs = 0 ∧ repS c fs b.data.toList = body (repLines c fs b.size) ++ 13 :: 10 :: b.data.toList) := Lib.hid ⟨hrz, by unfold repS; rw [if_pos hrz]; unfold repL; rw [size_len]⟩
      have hall : P0.data.toList :: (gs.take k).map (fun f => printL f.1 f.2) = repLines c fs b.size := by rw [HLN.out, List.take_of_length_le (by omega)]
      have hgood := good_lines c fs b.size hrz (by omega)
      obtain ⟨L, hL⟩ : ∃ L, repLines c fs b.size = L := ⟨_, rfl⟩
      rw [hall, hL] at HOAr
      rw [hL] at HF hgood
      have hLl : L.length = k + 1 := by rw [← hL, HLN.out, List.length_cons, List.length_map]; omega
      have HPut : Hid (∀ j (hj : j < (L ++ [[]]).length), (L ++ [[]])[j].length ≤ 256 ∧ putErr (L ++ [[]])[j] = 0) := Lib.hid (fun j hj => by
        by_cases hjl : j < L.length
        · rw [List.getElem_append_left hjl]
          obtain ⟨-, g1, g2⟩ := hgood.1 _ (List.getElem_mem hjl)
          exact ⟨g2, put_of _ g1 g2⟩
        · rw [List.getElem_append_right (by omega)]
          have : j - L.length = 0 := by simp at hj; omega
          simp only [this, List.getElem_cons_zero]
          exact ⟨by decide, by decide⟩)
      have HLL := Lib.hid hLl
      have HS3 : Hid (k + 1 < 2147483648 ∧ w1.heap.size ≤ wr.heap.size) := Lib.hid ⟨by omega, by have := HBr.out.size; have := HW1.out; omega⟩
      clear hOE hrz hall hgood hL hLl HK hN
      go_wp2_with (at_builtin; go_loud (refine append_strL wr (by rfl) _ _ (by rfl) w1.heap.size (k + 1) _ _ (by rfl) HOAr.out _ [] rfl (by rfl) HS3.out.1 HS3.out.2 ?_); intro g3 cap3 w4 hown4 hg4)
      have HB4 := Lib.hid (below_own HBr.out hg4 HOAr.out (Nat.le_refl _) HS3.out.2)
      have HO4 := Lib.hid hown4
      have hbody : w4.cell? ⟨w.heap.size, 2, none⟩ = some (.string b) := (HB4.out.cell (p := ⟨w.heap.size, 2, none⟩) HW1.out.1).trans v2
      have HBD := Lib.hid hbody
      clear hown4 hg4 hbody HOAr HOFr
      go_loopg [11, 72] (k + 2) (fun gk s11 s72 wy => ∃ (j : Nat) (O : ByteArray), s11 = .string O ∧ s72 = .int .i64 (j : Int) ∧ wy = w4 ∧ j + gk = k + 2 ∧ O.size ≤ j * 260 ∧ Hid (O = bs (body ((L ++ [[]]).take j))))
      case atStart => exact ⟨0, ⟨#[]⟩, rfl, by simp, rfl, by omega, by decide, Lib.hid rfl⟩
      case round =>
        obtain ⟨j, O, rfl, rfl, rfl, hgj, hOs, HO⟩ := hrel
        by_cases hj : j < k + 2
        · obtain ⟨g', rfl⟩ : ∃ g', gk = g' + 1 := ⟨gk - 1, by omega⟩
          have hjl : j < (L ++ [[]]).length := by have := HLL.out; simp; omega
          have tk : decide ((j : Int) < (k : Int) + 1 + 1) = true := decide_eq_true (by omega)
          have hc := own_scell HO4.out j hjl
          obtain ⟨p1, p2⟩ := HPut.out j hjl
          obtain ⟨x, hx⟩ : ∃ x, (L ++ [[]])[j] = x := ⟨_, rfl⟩
          rw [hx] at hc p1 p2
          obtain ⟨X, hX⟩ : ∃ X, bs x = X := ⟨_, rfl⟩
          have hXs : X.size ≤ 256 := by rw [← hX, bs_size]; exact p1
          have HPP := Lib.hid (fun w => put_good X w hXs (by rw [← hX, bs_data]; exact p2))
          rw [hX] at hc
          have HOO : Hid (O ++ (X ++ ⟨#[13, 10]⟩) = bs (body ((L ++ [[]]).take (j + 1)))) := Lib.hid (by
            rw [HO.out, ← hX, show (⟨#[13, 10]⟩ : ByteArray) = bs [13, 10] from rfl, bs_cat, bs_cat, List.take_succ_eq_append_getElem hjl, hx, body_append]
            rfl)
          have padd := fun w => run_string_add_sum (P := Tryz.prog) w O (X ++ ⟨#[13, 10]⟩) (by rw [ByteArray.size_append]; show _ + (_ + 2) ≤ _; omega)
          clear p1 p2 hx hX
          go_wp2_with fail
          refine (HPP.out _).mono ?_
          rintro e w' ⟨rfl, rfl⟩
          go_wp2_with fail
          go_roundg g'
          case measure => omega
          case rel => exact ⟨j + 1, _, rfl, by simp, rfl, by omega, by rw [ByteArray.size_append, ByteArray.size_append]; show _ + (_ + 2) ≤ _; omega, Lib.hid HOO.out⟩
        · obtain rfl : j = k + 2 := by omega
          have hbd := HBD.out
          have tk : decide (((k : Int) + 2) < (k : Int) + 1 + 1) = false := decide_eq_false (by omega)
          have padd := fun w => run_string_add_sum (P := Tryz.prog) w O b (by omega)
          have HRR : Hid (O ++ b = bs (repS c fs b.data.toList)) := Lib.hid (by
            rw [HO.out, HF.out.2]
            conv => lhs; rhs; rw [← bs_self b]
            rw [bs_cat, List.take_of_length_le (by have := HLL.out; simp; omega), body_append]
            congr 1
            simp [body])
          go_wp2_with fail
          go_ret2
          exact ⟨by rw [HF.out.1, ← HRR.out]; rfl, HB3.out.trans (HB4.out.mono (Nat.le_of_lt HW1.out.1))⟩
end Go.Proofs.YtbdmmgmcbecolaaGreatDoor
namespace Go.Proofs.YtbdmmgmcbecolaaGreatDoor
open Go.RowKit
end Go.Proofs.YtbdmmgmcbecolaaGreatDoor
namespace Go.Proofs.YtbdmmgmcbecolaaGreatDoor
open Go.RowKit
/-- the block of a reply of the document's -/
def RqB (w : World) (R : Nat) (c f b : Value) : Prop := w.heap[R]? = some (.cells #[c, f, b] 79 (0, 0))
theorem RqB.below {w w' : World} {R : Nat} {c f b : Value} (k : RqB w R c f b) (hb : Below w.heap.size w w') : RqB w' R c f b :=
  (hb.block R (Array.getElem?_eq_some_iff.1 k).1).trans k
theorem RqB.lt {w : World} {R : Nat} {c f b : Value} (k : RqB w R c f b) : R < w.heap.size := (Array.getElem?_eq_some_iff.1 k).1
theorem RqB.set1 {w : World} {R : Nat} {c f b : Value} (k : RqB w R c f b) (v : Value) : RqB (w.setCell ⟨R, 1, none⟩ v) R c v b := by
  unfold RqB at k ⊢; simp [World.setCell, Array.getElem?_modify, k]
theorem restF_len (fs : List (List UInt8 × List UInt8)) : (restF fs).length ≤ fs.length := List.length_filter_le _ _
end Go.Proofs.YtbdmmgmcbecolaaGreatDoor
namespace Go.Proofs.YtbdmmgmcbecolaaGreatDoor
open Go.RowKit
end Go.Proofs.YtbdmmgmcbecolaaGreatDoor
