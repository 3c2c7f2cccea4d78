/- The law ServeAnswers. Plain words on feeds: printed replies that come byte by byte (no program in sight). A feed in memory; rows of replies. What none, New, Rest, Bad, End and cut of package feed do. What cut of package feed does. The steps of Put of a feed: bytes and replies are appended. What Put of package feed does. What Put of package feed does: the loop. Plain words on ServePieces: a feed takes off just as many replies as were told. The law ServePieces. -/
import Derived.Test.YtfjdppngeillcaaGreatDoorPs11
import Derived.BigQuiet
import Derived.Deep.AppendLies
import Derived.Deep.RegionHeld3
set_option linter.unusedVariables false
namespace Go.Proofs.YtfjdppngeillcaaGreatDoor
open Go.RowKit
theorem strArg_below {w w' : World} {v : Value} {ls : List (List UInt8)} (h : StrArg w v ls) (hb : Below w.heap.size w w') : StrArg w' v ls := by
  obtain ⟨⟨a, c, rfl, hc, hx⟩, h2, h3⟩ := h
  refine ⟨⟨a, c, rfl, hc, fun hn => ?_⟩, h2, h3⟩
  obtain ⟨bb, ob, h4, h5, h6⟩ := hx hn
  exact ⟨bb, ob, h4, Nat.lt_of_lt_of_le h5 hb.size, fun k hk => (hb.cell (p := ⟨bb, ob + k, none⟩) h5).trans (h6 k hk)⟩
theorem srvP_count (h p f : List UInt8) (cl : Bool) (l s : List UInt8) (hf : f.length ≤ 1000000) : (srvP h p f cl l s).2.1.length ≤ l.length + s.length ∧ (srvP h p f cl l s).2.2.1 ≤ l.length + s.length + 1 := by
  unfold srvP
  cases cl with
  | true => rw [if_pos rfl]; exact ⟨Nat.le_add_right _ _, Nat.zero_le _⟩
  | false =>
    rw [if_neg (by decide)]
    have := srv_rest h p f hf (l ++ s)
    unfold SrvRest at this
    obtain ⟨-, -, h1, h2, -⟩ := this
    rw [List.length_append] at h1 h2
    exact ⟨h1, h2⟩
theorem srv_put_any {w : World} {b : Nat} {h p f : ByteArray} {l : List UInt8} {n : Nat} {cl : Bool} (s : List UInt8) (hc : CAt w b h p f (!cl) l n) (hE : ∀ W, Touch (fun g => g = b) w W → EnvF W) (hl : l.length + s.length ≤ 100000) (hf : f.size ≤ 2000) (hn : n ≤ 100000) :
    Calls Tryz.prog 13 #[.pointer (some ⟨b, 0, none⟩), .string (bs s)] w (SPost b h p f n (srvP h.data.toList p.data.toList f.data.toList cl l s) w) := by
  unfold srvP
  cases cl with
  | true =>
    rw [if_pos rfl]
    refine (srv_put_closed (bs s) hc).mono ?_
    rintro e w' ⟨rfl, rfl⟩
    exact ⟨rfl, hc, Touch.refl _ _⟩
  | false =>
    rw [if_neg (by decide)]
    have := srv_put (bs s) hc hE (by rw [bs_size]; exact hl) hf hn
    rw [bs_data] at this
    exact this
theorem ref_sput_any (h p f : ByteArray) (cl : Bool) (l : List UInt8) (n : Nat) (s : List UInt8) (w : World) (hl : l.length + s.length ≤ 100000) (hh : h.size ≤ 100000) (hp : p.size ≤ 100000) (hf : f.size ≤ 2000) (hn : n ≤ 100000) :
    Calls Tryz.prog 12 #[.agg #[.string h, .string p, .string f, .string (bs l), .bool cl, .int .i64 (n : Nat)], .string (bs s)] w (RSPost h p f n (srvP h.data.toList p.data.toList f.data.toList cl l s) w) := by
  unfold srvP
  cases cl with
  | true => rw [if_pos rfl]; exact ref_sput_closed h p f l n (bs s) w
  | false =>
    rw [if_neg (by decide)]
    have := ref_sput h p f l n (bs s) w (by rw [bs_size]; exact hl) hh hp hf hn
    rw [bs_data] at this
    exact this
/-- what the document's Put hands over lies in block q -/
def Took6 (w2 W : World) (q : Nat) (y0 y1 y2 y3 y4 y5 : Value) : Prop := W.heap[q]? = some (.cells #[y0, y1, y2, y3, y4, y5] 35 (0, 0)) ∧ Below w2.heap.size w2 W ∧ w2.heap.size ≤ q
theorem took6_one {w2 wc : World} (y0 y1 y2 y3 y4 y5 : Value) (h : Below w2.heap.size w2 wc) : Took6 w2 (wc.alloc (.cells #[y0, y1, y2, y3, y4, y5] 35)) wc.heap.size y0 y1 y2 y3 y4 y5 :=
  ⟨heap_alloc_new wc _, h.alloc h.size _, h.size⟩
theorem took6_two {w2 wc : World} {x0 x1 x2 x3 x4 x5 : Value} (y0 y1 y2 y3 y4 y5 : Value) (h : Below w2.heap.size w2 wc) (hz : wc.heap[w2.heap.size]? = some (.cells #[x0, x1, x2, x3, x4, x5] 35 (0, 0))) :
    Took6 w2 ((((((wc.setCell ⟨w2.heap.size, 0, none⟩ y0).setCell ⟨w2.heap.size, 1, none⟩ y1).setCell ⟨w2.heap.size, 2, none⟩ y2).setCell ⟨w2.heap.size, 3, none⟩ y3).setCell ⟨w2.heap.size, 4, none⟩ y4).setCell ⟨w2.heap.size, 5, none⟩ y5) w2.heap.size y0 y1 y2 y3 y4 y5 :=
  ⟨six_all hz _ _ _ _ _ _, six_below h _ (Nat.le_refl _) _ _ _ _ _ _, Nat.le_refl _⟩
theorem CAt.lowB {w w' : World} {B b : Nat} {h p f : ByteArray} {op : Bool} {l : List UInt8} {n : Nat} (k : CAt w b h p f op l n) (hb : Below B w w') (hlt : b < B) : CAt w' b h p f op l n := ⟨(hb.block b hlt).trans k.blk⟩
theorem srv_closed_is {w : World} {b : Nat} {h p f : ByteArray} {cl : Bool} {l : List UInt8} {n : Nat} (k : CAt w b h p f (!cl) l n) : Calls Tryz.prog 14 #[.pointer (some ⟨b, 0, none⟩)] w fun e w' => e = .returned (.bool cl) ∧ w' = w := by
  have := srv_closed_at k.blk
  rw [Bool.not_not] at this
  exact this
theorem srv_rest_is {w : World} {b : Nat} {h p f : ByteArray} {op : Bool} {l : List UInt8} {n : Nat} {S : ByteArray} (k : CAt w b h p f op l n) (hs : bs l = S) : Calls Tryz.prog 15 #[.pointer (some ⟨b, 0, none⟩)] w fun e w' => e = .returned (.int .i64 (S.size : Nat)) ∧ w' = w := by
  rw [← hs]
  exact srv_rest_at k.blk
/-- the state of ServeAnswers' loop -/
structure SK (w wr : World) (b X : Nat) (h p f : ByteArray) (l : List UInt8) (n : Nat) (cl : Bool) : Prop where
  c : CAt wr b h p f (!cl) l n
  x : wr.heap[X]? = some (.cells #[.string h, .string p, .string f, .string (bs l), .bool cl, .int .i64 (n : Nat)] 35 (0, 0))
  b' : Below w.heap.size w wr
  hb : w.heap.size ≤ b
  hX : b < X
theorem SK.next {w W7 wa : World} {b X : Nat} {h p f : ByteArray} {l : List UInt8} {n : Nat} {cl : Bool} (hx : wa.heap[X]? = some (.cells #[.string h, .string p, .string f, .string (bs l), .bool cl, .int .i64 (n : Nat)] 35 (0, 0))) (hc : CAt wa b h p f (!cl) l n) (hB : Below w.heap.size w W7) (ht : Touch (fun g => g = b) W7 wa) (hb : w.heap.size ≤ b) (hX : b < X) : SK w wa b X h p f l n cl :=
  ⟨hc, hx, below_touch hB ht hb, hb, hX⟩
set_option maxRecDepth 100000 in
set_option maxHeartbeats 8000000 in
theorem serveAnswers_walk (h p f : ByteArray) (v : Value) (ls : List (List UInt8)) (w : World) (hE : EnvF w) (hv : StrArg w v ls) :
    Calls Tryz.prog 3 #[.agg #[.string h, .string p, .string f], v] w fun e w' => e = .returned (.bool true) ∧ Below w.heap.size w w' := by
  have HOv := Lib.hid (fun w => ref_oover h p f 500 w)
  have HB0 := Lib.hid (below_ro3 w (.string h) (.string p) (.string f))
  have HE := Lib.hid hE
  have HV := Lib.hid hv
  have HQ0 := Lib.hid (OAt.new w 23 h p f)
  obtain ⟨⟨va, vc, rfl, hvc, -⟩, -, hll⟩ := id hv
  unfold maxLen at hll
  obtain ⟨q0, q1, q2⟩ := HQ0.out.cells
  cases h1 : overO h.data.toList p.data.toList f.data.toList 500 with
  | true =>
    rw [h1] at HOv
    clear h1 hE hv
    go_enter Tryz.func3, Tryz.ntmps3
    go_wp2_with fail
    refine (HOv.out _).mono ?_
    rintro e w1 ⟨rfl, hb1⟩
    have HB1 := Lib.hid (bstep HB0.out hb1)
    clear hb1
    go_wp2_with fail
    refine (awake46 _ (HE.out.below HB1.out)).mono ?_
    rintro e w2 ⟨rfl, hb2⟩
    go_wp2_with fail
    go_ret
    exact ⟨rfl, bstep HB1.out hb2⟩
  | false =>
  rw [h1] at HOv
  have HO := Lib.hid (fun W (hW : Below w.heap.size w W) => over46 _ ls 20 2000 W (by decide) (by decide) (strArg_below hv hW))
  cases hov : overB ls 20 2000 with
  | true =>
    rw [hov] at HO
    clear h1 hE hv hov
    go_enter Tryz.func3, Tryz.ntmps3
    go_wp2_with fail
    refine (HOv.out _).mono ?_
    rintro e w1 ⟨rfl, hb1⟩
    have HB1 := Lib.hid (bstep HB0.out hb1)
    clear hb1
    go_wp2_with fail
    refine (HO.out _ HB1.out).mono ?_
    rintro e w' ⟨rfl, hww⟩
    obtain rfl := hww.symm
    clear hww
    go_wp2_with fail
    refine (awake46 _ (HE.out.below HB1.out)).mono ?_
    rintro e w2 ⟨rfl, hb2⟩
    go_wp2_with fail
    go_ret
    exact ⟨rfl, bstep HB1.out hb2⟩
  | false =>
  rw [hov] at HO
  have HSm := Lib.hid (small46 ls hov)
  have HF := Lib.hid (overO_false h p f 500 h1)
  have HRC := Lib.hid (fun W => ref_ocheck h p f W (by have := HF.out; omega) (by have := HF.out; omega))
  by_cases he : orgE h.data.toList p.data.toList = 0
  case neg =>
    have HN := Lib.hid (fun W => srv_new_bad h p f W he)
    have h2 : orgE h.data.toList p.data.toList = 2 := by
      unfold orgE at he ⊢
      split
      · rfl
      · rename_i hh; rw [if_neg hh] at he; exact absurd rfl he
    rw [h2] at HRC
    clear h1 hE hv hov he h2
    go_enter Tryz.func3, Tryz.ntmps3
    go_wp2_with fail
    refine (HOv.out _).mono ?_
    rintro e w1 ⟨rfl, hb1⟩
    have HB1 := Lib.hid (bstep HB0.out hb1)
    have HQ1 := Lib.hid (HQ0.out.below hb1)
    clear hb1
    go_wp2_with fail
    refine (HO.out _ HB1.out).mono ?_
    rintro e w' ⟨rfl, hww⟩
    obtain rfl := hww.symm
    clear hww q0 q1 q2
    obtain ⟨q0, q1, q2⟩ := HQ1.out.cells
    go_wp2_with fail
    refine (HN.out _).mono ?_
    rintro e w2 ⟨rfl, hb2⟩
    have HB2 := Lib.hid (bstep HB1.out hb2)
    have HQ2 := Lib.hid (HQ1.out.below hb2)
    clear hb2 q0 q1 q2
    obtain ⟨q0, q1, q2⟩ := HQ2.out.cells
    go_wp2_with fail
    refine (HRC.out _).mono ?_
    rintro e w3 ⟨rfl, hb3⟩
    have HB3 := Lib.hid (bstep HB2.out hb3)
    clear hb3
    go_wp2_with fail
    refine (awake46 _ (HE.out.below HB3.out)).mono ?_
    rintro e w4 ⟨rfl, hb4⟩
    go_wp2_with fail
    go_ret
    exact ⟨rfl, bstep HB3.out hb4⟩
  have HN := Lib.hid (fun W => srv_new h p f W he)
  rw [he] at HRC
  obtain ⟨N, hn⟩ : ∃ N, ls.length = N := ⟨_, rfl⟩
  rw [hn] at hvc HV HO hll ⊢
  have HNN := Lib.hid hn
  clear h1 hE hv hov he hn
  go_enter Tryz.func3, Tryz.ntmps3
  go_wp2_with fail
  refine (HOv.out _).mono ?_
  rintro e w1 ⟨rfl, hb1⟩
  have HB1 := Lib.hid (bstep HB0.out hb1)
  have HQ1 := Lib.hid (HQ0.out.below hb1)
  clear hb1
  go_wp2_with fail
  refine (HO.out _ HB1.out).mono ?_
  rintro e w' ⟨rfl, hww⟩
  obtain rfl := hww.symm
  clear hww q0 q1 q2 HO HOv HB0 HQ0
  obtain ⟨q0, q1, q2⟩ := HQ1.out.cells
  go_wp2_with fail
  refine (HN.out _).mono ?_
  rintro e w2 ⟨b, rfl, hb, hc2, hb2⟩
  have HC2 := Lib.hid hc2
  have HLb : Hid (w.heap.size ≤ b) := Lib.hid (Nat.le_trans HB1.out.size hb)
  have HB2 := Lib.hid (bstep HB1.out hb2)
  have HQ2 := Lib.hid (HQ1.out.below hb2)
  clear hb2 q0 q1 q2 hb hc2 HN HQ1 HB1
  obtain ⟨q0, q1, q2⟩ := HQ2.out.cells
  go_wp2_with fail
  refine (HRC.out _).mono ?_
  rintro e w3 ⟨rfl, hb3⟩
  have HB3 := Lib.hid (bstep HB2.out hb3)
  have HC3 := Lib.hid (HC2.out.below hb3)
  have HQ3 := Lib.hid (HQ2.out.below hb3)
  clear hb3 q0 q1 q2 HB2 HC2 HQ2 HRC
  obtain ⟨q0, q1, q2⟩ := HQ3.out.cells
  have HK : Hid (SK w (w3.alloc (.cells #[.string h, .string p, .string f, .string ⟨#[]⟩, .bool false, .int .i64 0] 35)) b w3.heap.size h p f [] 0 false) := Lib.hid ⟨HC3.out.below ((Below.refl _ _).alloc (Nat.le_refl _) _), heap_alloc_new w3 _, HB3.out.alloc HB3.out.size _, HLb.out, HC3.out.lt⟩
  go_wp2_with fail
  generalize (w3.alloc (.cells #[.string h, .string p, .string f, .string ⟨#[]⟩, .bool false, .int .i64 0] 35)) = w4 at HK ⊢
  generalize w3.heap.size = X at HK ⊢
  clear q0 q1 q2 HC3 HQ3 HB3 HLb
  go_loopg [8] N (fun gk s8 wr => ∃ (k : Nat) (l : List UInt8) (n : Nat) (cl : Bool), s8 = .int .i64 (k : Int) ∧ k + gk = N ∧ l.length ≤ offF ls k ∧ n ≤ 2001 * k ∧ Hid (SK w wr b X h p f l n cl))
  case atStart => exact ⟨0, [], 0, false, by simp, by omega, Nat.zero_le _, Nat.le_refl _, HK⟩
  case round =>
    obtain ⟨k, l, n, cl, rfl, hgk, hlk, hnk, HKr⟩ := hrel
    by_cases hk : k < N
    · obtain ⟨g', rfl⟩ : ∃ g', gk = g' + 1 := ⟨gk - 1, by omega⟩
      have hkl : k < ls.length := by rw [HNN.out]; exact hk
      obtain ⟨⟨va', vc', hv1, -, hx⟩, hsz, -⟩ := HV.out
      obtain ⟨bb, ob, rfl, hbl, hcell⟩ := hx (fun e => by rw [e] at hkl; exact absurd hkl (Nat.not_lt_zero _))
      injection hv1 with hv1 hv2 hv3
      subst hv1
      clear hv2 hv3
      have c0 : ∀ W, Below w.heap.size w W → W.cell? ⟨bb, ob + k, none⟩ = some (.string (bs ls[k])) := fun W hW => (hW.cell (p := ⟨bb, ob + k, none⟩) hbl).trans (hcell k hkl)
      have hoff := offF_succ ls k hkl
      have hofl := offF_le ls (k + 1)
      have hsm := HSm.out
      have hff := HF.out
      obtain ⟨s, hs⟩ : ∃ s, ls[k] = s := ⟨_, rfl⟩
      rw [hs] at c0 hoff
      have hcnt := srvP_count h.data.toList p.data.toList f.data.toList cl l s (by rw [size_len]; omega)
      have HP := Lib.hid (fun (W : World) (hc : CAt W b h p f (!cl) l n) (hE : ∀ W', Touch (fun g => g = b) W W' → EnvF W') => srv_put_any s hc hE (by omega) (by omega) (by omega))
      have HRP := Lib.hid (fun W => ref_sput_any h p f cl l n s W (by omega) (by omega) (by omega) (by omega) (by omega))
      obtain ⟨⟨a, l', c', cl'⟩, hR⟩ : ∃ R, srvP h.data.toList p.data.toList f.data.toList cl l s = R := ⟨_, rfl⟩
      rw [hR] at hcnt HP HRP
      obtain ⟨n', hn'⟩ : ∃ n', n + c' = n' := ⟨_, rfl⟩
      unfold SPost at HP
      unfold RSPost at HRP
      simp only [hn'] at hcnt HP HRP
      have HL' : Hid (l'.length ≤ offF ls (k + 1)) := Lib.hid (by omega)
      have HN' : Hid (n' ≤ 2001 * (k + 1)) := Lib.hid (by omega)
      have HC0 := Lib.hid c0
      obtain ⟨S, hS⟩ : ∃ S, bs s = S := ⟨_, rfl⟩
      obtain ⟨A, hA⟩ : ∃ A, bs a = A := ⟨_, rfl⟩
      obtain ⟨S0, hS0⟩ : ∃ S0, bs l = S0 := ⟨_, rfl⟩
      obtain ⟨S', hS'⟩ : ∃ S', bs l' = S' := ⟨_, rfl⟩
      have HS' := Lib.hid hS'
      rw [hS] at HC0
      simp only [hS, hA] at HP
      simp only [hS, hA, hS0, hS'] at HRP
      have hx0 := HKr.out.x
      rw [hS0] at hx0
      have HX3 := Lib.hid hx0
      have HS2 : Hid (∀ W, Below wr.heap.size wr W → W.cell? ⟨X, 0, none⟩ = some (.string h) ∧ W.cell? ⟨X, 1, none⟩ = some (.string p) ∧ W.cell? ⟨X, 2, none⟩ = some (.string f) ∧ W.cell? ⟨X, 3, none⟩ = some (.string S0) ∧ W.cell? ⟨X, 4, none⟩ = some (.bool cl) ∧ W.cell? ⟨X, 5, none⟩ = some (.int .i64 (n : Nat)) ∧ W.cell? ⟨bb, ob + k, none⟩ = some (.string S)) := Lib.hid (fun W hW => by
        obtain ⟨⟨x0, x1, x2, x3, x4, x5⟩, -⟩ := six_facts ((hW.block X (Array.getElem?_eq_some_iff.1 HX3.out).1).trans HX3.out)
        exact ⟨x0, x1, x2, x3, x4, x5, HC0.out W (bstep HKr.out.b' hW)⟩)
      have tk : decide ((k : Int) < (N : Int)) = true := decide_eq_true (by omega)
      clear hx hsz hcell c0 hoff hofl hsm hs hR hcnt hS hA hS0 hS' HK hkl hff hx0 hn'
      have HDr : Hid (Below wr.heap.size wr wr.drew) := Lib.hid (Below.refl _ _).drew
      have HA0 : Hid (Below wr.heap.size wr (wr.alloc (.cells #[.string ⟨#[]⟩, .string ⟨#[]⟩, .string ⟨#[]⟩, .string ⟨#[]⟩, .bool false, .int .i64 0] 35)).drew) := Lib.hid ((Below.refl _ _).alloc (Nat.le_refl _) _).drew
      have HRP1 := Lib.hid (HRP.out wr.drew)
      have HRP2 := Lib.hid (HRP.out (wr.alloc (.cells #[.string ⟨#[]⟩, .string ⟨#[]⟩, .string ⟨#[]⟩, .string ⟨#[]⟩, .bool false, .int .i64 0] 35)).drew)
      clear HRP
      go_wp2_with fail
      go_region_held3 (fun w' => w'.cell? ⟨X, 0, none⟩ = some (.string h) ∧ w'.cell? ⟨X, 1, none⟩ = some (.string p) ∧ w'.cell? ⟨X, 2, none⟩ = some (.string f) ∧ w'.cell? ⟨X, 3, none⟩ = some (.string S0) ∧ w'.cell? ⟨X, 4, none⟩ = some (.bool cl) ∧ w'.cell? ⟨X, 5, none⟩ = some (.int .i64 (n : Nat)) ∧ w'.cell? ⟨bb, ob + k, none⟩ = some (.string S)) (first | with_reducible exact HS2.out _ HDr.out | with_reducible exact HS2.out _ HA0.out | with_reducible exact HS2.out _ HA1.out | with_reducible exact HS2.out _ (HA1.out.alloc HA1.out.size _) | with_reducible exact HS2.out _ (six_below HA1.out _ (Nat.le_refl _) _ _ _ _ _ _) | with_reducible exact HS2.out _ (six_below (HA1.out.alloc HA1.out.size _) _ HA1.out.size _ _ _ _ _ _))
        (first
          | (go_at_call 12; (first | (with_reducible refine HRP1.out.mono ?_) | (with_reducible refine HRP2.out.mono ?_)); rintro r wc ⟨rfl, hbc⟩; (first | (have HA1 : Hid (Below wr.heap.size wr wc) := Lib.hid (bstep HDr.out hbc)) | (have HA1 : Hid (Below wr.heap.size wr wc) := Lib.hid (bstep HA0.out hbc); have HZ := Lib.hid ((hbc.block wr.heap.size (by simp)).trans (heap_alloc_new wr _)); obtain ⟨⟨z0, z1, z2, z3, z4, z5⟩, -⟩ := six_facts HZ.out; obtain ⟨d0, d1, d2, d3, d4, d5⟩ := six_free HZ.out)); clear hbc))
      all_goals
        first
          | (have H7 : Hid (Took6 wr ((((((wc.setCell ⟨wr.heap.size, 0, none⟩ (.string h)).setCell ⟨wr.heap.size, 1, none⟩ (.string p)).setCell ⟨wr.heap.size, 2, none⟩ (.string f)).setCell ⟨wr.heap.size, 3, none⟩ (.string S')).setCell ⟨wr.heap.size, 4, none⟩ (.bool cl')).setCell ⟨wr.heap.size, 5, none⟩ (.int .i64 (n' : Nat))) wr.heap.size (.string h) (.string p) (.string f) (.string S') (.bool cl') (.int .i64 (n' : Nat))) := Lib.hid (took6_two _ _ _ _ _ _ HA1.out HZ.out)
             clear HZ z0 z1 z2 z3 z4 z5 d0 d1 d2 d3 d4 d5
             generalize ((((((wc.setCell ⟨wr.heap.size, 0, none⟩ (.string h)).setCell ⟨wr.heap.size, 1, none⟩ (.string p)).setCell ⟨wr.heap.size, 2, none⟩ (.string f)).setCell ⟨wr.heap.size, 3, none⟩ (.string S')).setCell ⟨wr.heap.size, 4, none⟩ (.bool cl')).setCell ⟨wr.heap.size, 5, none⟩ (.int .i64 (n' : Nat))) = W7 at H7 ⊢
             generalize wr.heap.size = q at H7 ⊢)
          | (have H7 : Hid (Took6 wr (wc.alloc (.cells #[.string h, .string p, .string f, .string S', .bool cl', .int .i64 (n' : Nat)] 35)) wc.heap.size (.string h) (.string p) (.string f) (.string S') (.bool cl') (.int .i64 (n' : Nat))) := Lib.hid (took6_one _ _ _ _ _ _ HA1.out)
             generalize wc.alloc (.cells #[.string h, .string p, .string f, .string S', .bool cl', .int .i64 (n' : Nat)] 35) = W7 at H7 ⊢
             generalize wc.heap.size = q at H7 ⊢)
        clear HA1 HRP1 HRP2 HS2 HDr HA0
        have hX7 := (H7.out.2.1.block X (Array.getElem?_eq_some_iff.1 HX3.out).1).trans HX3.out
        obtain ⟨⟨z0, z1, z2, z3, z4, z5⟩, -⟩ := six_facts H7.out.1
        obtain ⟨⟨x0, x1, x2, x3, x4, x5⟩, -⟩ := six_facts hX7
        obtain ⟨d0, d1, d2, d3, d4, d5⟩ := six_free hX7
        have HX7 := Lib.hid hX7
        clear hX7
        go_wp2_with fail
        have HX9 := Lib.hid (six_all HX7.out (.string h) (.string p) (.string f) (.string S') (.bool cl') (.int .i64 (n' : Nat)))
        have HC9 := Lib.hid ((HKr.out.c.below H7.out.2.1).lowB (six_below (Below.refl X W7) X (Nat.le_refl _) (.string h) (.string p) (.string f) (.string S') (.bool cl') (.int .i64 (n' : Nat))) HKr.out.hX)
        have HB9 := Lib.hid (six_below (bstep HKr.out.b' H7.out.2.1) X (Nat.le_trans HKr.out.hb (Nat.le_of_lt HKr.out.hX)) (.string h) (.string p) (.string f) (.string S') (.bool cl') (.int .i64 (n' : Nat)))
        have HXb := Lib.hid (And.intro HKr.out.hb HKr.out.hX)
        clear HX7 H7 HX3 HKr z0 z1 z2 z3 z4 z5 x0 x1 x2 x3 x4 x5 d0 d1 d2 d3 d4 d5
        generalize ((((((W7.setCell ⟨X, 0, none⟩ (.string h)).setCell ⟨X, 1, none⟩ (.string p)).setCell ⟨X, 2, none⟩ (.string f)).setCell ⟨X, 3, none⟩ (.string S')).setCell ⟨X, 4, none⟩ (.bool cl')).setCell ⟨X, 5, none⟩ (.int .i64 (n' : Nat))) = W9 at HX9 HC9 HB9 ⊢
        have HPp := Lib.hid (HP.out W9.drew (HC9.out.below (Below.refl _ _).drew) (env_touch HE.out HB9.out.drew HXb.out.1))
        have HS9 : Hid (∀ W, Touch (fun g => g = b) W9 W → W.cell? ⟨X, 3, none⟩ = some (.string S') ∧ W.cell? ⟨X, 4, none⟩ = some (.bool cl') ∧ W.cell? ⟨X, 5, none⟩ = some (.int .i64 (n' : Nat)) ∧ W.cell? ⟨bb, ob + k, none⟩ = some (.string S)) := Lib.hid (fun W hW => by
          obtain ⟨⟨-, -, -, x3, x4, x5⟩, -⟩ := six_facts ((hW.block X (Array.getElem?_eq_some_iff.1 HX9.out).1 (by show ¬ (X = b); have := HXb.out.2; omega)).trans HX9.out)
          exact ⟨x3, x4, x5, HC0.out W (below_touch HB9.out hW HXb.out.1)⟩)
        have HT0 : Hid (Touch (fun g => g = b) W9 W9.drew) := Lib.hid (Touch.of_below (Below.refl _ _).drew)
        go_region_held3 (fun w' => w'.cell? ⟨X, 3, none⟩ = some (.string S') ∧ w'.cell? ⟨X, 4, none⟩ = some (.bool cl') ∧ w'.cell? ⟨X, 5, none⟩ = some (.int .i64 (n' : Nat)) ∧ w'.cell? ⟨bb, ob + k, none⟩ = some (.string S)) (first | with_reducible exact HS9.out _ HT0.out | with_reducible exact HS9.out _ HA1.out)
          (first
            | (go_at_call 13; refine HPp.out.mono ?_; rintro r wa ⟨rfl, hca, hta⟩; have HA1 : Hid (Touch (fun g => g = b) W9 wa) := Lib.hid (HT0.out.trans hta (fun g hg => .inl hg)); have HCa := Lib.hid hca; clear hca hta)
            | (go_at_call 14; refine (srv_closed_is HCa.out).mono ?_; rintro r w' ⟨rfl, hww⟩; obtain rfl := hww.symm; clear hww)
            | (go_at_call 15; refine (srv_rest_is HCa.out HS'.out).mono ?_; rintro r w' ⟨rfl, hww⟩; obtain rfl := hww.symm; clear hww)
            | (go_at_call 16; refine (srv_served_at HCa.out.blk).mono ?_; rintro r w' ⟨rfl, hww⟩; obtain rfl := hww.symm; clear hww))
        have HKn : Hid (SK w wa b X h p f l' n' cl') := Lib.hid (SK.next (by rw [HS'.out]; exact (HA1.out.block X (Array.getElem?_eq_some_iff.1 HX9.out).1 (by show ¬ (X = b); have := HXb.out.2; omega)).trans HX9.out) HCa.out HB9.out HA1.out HXb.out.1 HXb.out.2)
        clear HX9 HC9 HB9 HPp HS9 HT0 HA1 HCa HXb
        go_wp2_with fail
        go_roundg g'
        case measure => omega
        case rel => exact ⟨k + 1, l', n', cl', by simp, by omega, HL'.out, HN'.out, HKn⟩
    · obtain rfl : k = N := by omega
      have tk : decide ((k : Int) < (k : Int)) = false := decide_eq_false (by omega)
      clear HK HSm
      go_wp2_with fail
      refine (awake46 _ (HE.out.below HKr.out.b')).mono ?_
      rintro r wz ⟨rfl, hbz⟩
      go_wp2_with fail
      go_ret
      exact ⟨rfl, bstep HKr.out.b' hbz⟩
end Go.Proofs.YtfjdppngeillcaaGreatDoor
namespace Go.Proofs.YtfjdppngeillcaaGreatDoor
open Go.RowKit
theorem rep_cutM (c : Int) (fs : List (List UInt8 × List UInt8)) (b : List UInt8) (s : ByteArray) (k : Nat) (most : Int) (hm : (b.length : Int) ≤ most) (h : repE c fs = 0) (hn : b.length ≤ 1000000) (hk : k < (repL c fs b).length) (hs : s.data.toList = (repL c fs b).take k) : takE s most = 3 := by
  obtain ⟨g1, g2⟩ := good_lines c fs b.length h hn
  by_cases hb : k < (body (repLines c fs b.length)).length + 2
  · have hs2 : s.data.toList = (body (repLines c fs b.length) ++ [13, 10]).take k := by
      rw [hs]; unfold repL
      have e5 : body (repLines c fs b.length) ++ 13 :: 10 :: b = (body (repLines c fs b.length) ++ [13, 10]) ++ b := by simp
      rw [e5, List.take_append_of_le_length (by simp; omega)]
    have := head_cut s (repLines c fs b.length) [] [] 18 k g1 (by simpa using g2) (by simp) hb (by rw [hs2]; simp)
    have hd : headOf s = ([], 0, 3) := by
      unfold headOf
      rw [show (0 : Int) = ((([] : List UInt8).length : Nat) : Int) from rfl, this]
      rfl
    unfold takE
    rw [hd]
    rfl
  · have hl : (repL c fs b).length = (body (repLines c fs b.length)).length + 2 + b.length := by unfold repL; simp only [List.length_append, List.length_cons]; omega
    have hd := head_rep c fs b (b.take (k - ((body (repLines c fs b.length)).length + 2))) s h hn (by
      rw [hs]; unfold repL
      have e5 : ∀ x, body (repLines c fs b.length) ++ 13 :: 10 :: x = (body (repLines c fs b.length) ++ [13, 10]) ++ x := fun x => by simp
      rw [e5, e5, List.take_append, List.take_of_length_le (by simp; omega)]
      simp)
    obtain ⟨e1, e2, e3, e4⟩ := hd_rep c fs b.length h hn
    have hsz : s.size = k := by rw [← size_len, hs, List.length_take]; omega
    unfold takE
    rw [hd]
    simp only [e1, e3]
    rw [if_neg (by simp), if_neg (by simp), if_neg (by omega), if_pos (by omega)]
theorem tak_nil (m : Int) : takE (bs []) m = 3 := rfl
theorem feed_nil (m : Int) : feedOf m [] = ([], [], 0) := feed_short m [] (tak_nil m)
theorem feed_cut (m : Int) (c : Int) (fs : List (List UInt8 × List UInt8)) (b : List UInt8) (k : Nat) (hm : (b.length : Int) ≤ m) (h : repE c fs = 0) (hn : b.length ≤ 1000000) (hk : k < (repL c fs b).length) : feedOf m ((repL c fs b).take k) = ([], (repL c fs b).take k, 0) :=
  feed_short m _ (rep_cutM c fs b _ k m hm h hn hk (bs_data _))
theorem feed_print (m : Int) (c : Int) (fs : List (List UInt8 × List UInt8)) (b : List UInt8) (hm : (b.length : Int) ≤ m) (h : repE c fs = 0) (hn : b.length ≤ 1000000) : feedOf m (repL c fs b) = ([(c, fs, b)], [], 0) := by
  obtain ⟨t1, t2, t3, t4, t5⟩ := rep_take c fs b [] (bs (repL c fs b)) m h hn (by rw [bs_data, List.append_nil]) hm
  rw [feed_more m _ t1, t2, t3, t4, t5, Int.toNat_natCast, List.drop_length, feed_nil]
end Go.Proofs.YtfjdppngeillcaaGreatDoor
namespace Go.Proofs.YtfjdppngeillcaaGreatDoor
open Go.RowKit

/-- a feed in memory: made, its bound, what is left, what ended it -/
structure FAt (w : World) (p : Nat) (m : Int) (l : List UInt8) (e : Nat) (v : Value) : Prop where
  blk : w.heap[p]? = some (.cells #[.bool true, .int .i64 m, v, .int .i64 (e : Nat)] 92 (0, 0))
  own : w.ownsRow 0 5 1 v l.length (bytesV l)
/-- the blocks of a feed -/
def FS (p : Nat) (v : Value) (g : Nat) : Prop := g = p ∨ v.ownBlock = some g
theorem FAt.lt {w : World} {p : Nat} {m : Int} {l : List UInt8} {e : Nat} {v : Value} (h : FAt w p m l e v) : p < w.heap.size := (Array.getElem?_eq_some_iff.1 h.blk).1
theorem FAt.keep {w w' : World} {p : Nat} {m : Int} {l : List UInt8} {e : Nat} {v : Value} (h : FAt w p m l e v) (hk : ∀ g, FS p v g → w'.heap[g]? = w.heap[g]?) : FAt w' p m l e v :=
  ⟨(hk p (.inl rfl)).trans h.blk, own_of_block h.own (fun g hg => hk g (.inr hg))⟩
theorem FAt.slt {w : World} {p : Nat} {m : Int} {l : List UInt8} {e : Nat} {v : Value} (h : FAt w p m l e v) : ∀ g, FS p v g → g < w.heap.size := fun g hg => by
  rcases hg with rfl | hg
  · exact h.lt
  · exact (h.own.lt g hg).2
theorem FAt.below {w w' : World} {p : Nat} {m : Int} {l : List UInt8} {e : Nat} {v : Value} (h : FAt w p m l e v) (hb : Below w.heap.size w w') : FAt w' p m l e v :=
  h.keep (fun g hg => hb.block g (h.slt g hg))
theorem FAt.touch {w w' : World} {p : Nat} {m : Int} {l : List UInt8} {e : Nat} {v : Value} {S : Nat → Prop} (h : FAt w p m l e v) (ht : Touch S w w') (hd : ∀ g, FS p v g → ¬ S g) : FAt w' p m l e v :=
  h.keep (fun g hg => ht.block g (h.slt g hg) (hd g hg))
theorem FAt.apart {w : World} {p : Nat} {m : Int} {l : List UInt8} {e : Nat} {v : Value} (h : FAt w p m l e v) : v.ownBlock ≠ some p := own_not_row h.own h.blk (by decide)
theorem FAt.cells {w : World} {p : Nat} {m : Int} {l : List UInt8} {e : Nat} {v : Value} (h : FAt w p m l e v) :
    w.cell? ⟨p, 0, none⟩ = some (.bool true) ∧ w.cell? ⟨p, 1, none⟩ = some (.int .i64 m) ∧ w.cell? ⟨p, 2, none⟩ = some v ∧ w.cell? ⟨p, 3, none⟩ = some (.int .i64 (e : Nat)) ∧ w.frozen? ⟨p, 2, none⟩ = false ∧ w.frozen? ⟨p, 3, none⟩ = false := by
  have k := h.blk
  refine ⟨?_, ?_, ?_, ?_, ?_, ?_⟩ <;> first | (unfold World.cell?; rw [k]; rfl) | (unfold World.frozen?; rw [k]; rfl)
theorem row_set4 {w : World} {b : Nat} {x y z u : Value} {t : TypeId} (h : w.heap[b]? = some (.cells #[x, y, z, u] t (0, 0))) (z' : Value) : (w.setCell ⟨b, 2, none⟩ z').heap[b]? = some (.cells #[x, y, z', u] t (0, 0)) := by
  simp [World.setCell, Array.getElem?_modify, h]
theorem row_set5 {w : World} {b : Nat} {x y z u : Value} {t : TypeId} (h : w.heap[b]? = some (.cells #[x, y, z, u] t (0, 0))) (u' : Value) : (w.setCell ⟨b, 3, none⟩ u').heap[b]? = some (.cells #[x, y, z, u'] t (0, 0)) := by
  simp [World.setCell, Array.getElem?_modify, h]
theorem set_far {w : World} {a : Addr} {v : Value} {k : Nat} (h : k ≠ a.block) : (w.setCell a v).heap[k]? = w.heap[k]? := Below.heap_setCell _ _ _ _ h

/-- the cells of replies: their fields' slices lie beside -/
def rcells : List (Int × List (List UInt8 × List UInt8) × List UInt8) → List Value → List Value
  | r :: rs, f :: fs => .int .i64 r.1 :: f :: .string (bs r.2.2) :: rcells rs fs
  | _, _ => []
theorem rcells_length (rs : List (Int × List (List UInt8 × List UInt8) × List UInt8)) : ∀ fs, fs.length = rs.length → (rcells rs fs).length = rs.length * 3 := by
  induction rs with
  | nil => intro fs h; cases fs with
    | nil => rfl
    | cons f t => simp at h
  | cons r t ih => intro fs h; cases fs with
    | nil => simp at h
    | cons f u => show (rcells t u).length + 1 + 1 + 1 = (t.length + 1) * 3; rw [ih u (by simpa using h)]; omega
theorem rcells_snoc (rs : List (Int × List (List UInt8 × List UInt8) × List UInt8)) (r : Int × List (List UInt8 × List UInt8) × List UInt8) (f : Value) : ∀ fs, fs.length = rs.length → rcells (rs ++ [r]) (fs ++ [f]) = rcells rs fs ++ [.int .i64 r.1, f, .string (bs r.2.2)] := by
  induction rs with
  | nil => intro fs h; cases fs with
    | nil => rfl
    | cons f t => simp at h
  | cons x t ih => intro fs h; cases fs with
    | nil => simp at h
    | cons y u => show _ :: _ :: _ :: rcells (t ++ [r]) (u ++ [f]) = _; rw [ih u (by simpa using h)]; rfl
theorem rcells_get (rs : List (Int × List (List UInt8 × List UInt8) × List UInt8)) : ∀ (fs : List Value) (h : fs.length = rs.length) (j : Nat) (hj : j < rs.length), (rcells rs fs)[j * 3]? = some (.int .i64 rs[j].1) ∧ (rcells rs fs)[j * 3 + 1]? = some (fs[j]'(by omega)) ∧ (rcells rs fs)[j * 3 + 2]? = some (.string (bs rs[j].2.2)) := by
  induction rs with
  | nil => intro fs h j hj; exact absurd hj (Nat.not_lt_zero _)
  | cons r t ih => intro fs h j hj; cases fs with
    | nil => simp at h
    | cons f u =>
      cases j with
      | zero => exact ⟨rfl, rfl, rfl⟩
      | succ j =>
        have := ih u (by simpa using h) j (by simpa using hj)
        rw [show (j + 1) * 3 = j * 3 + 1 + 1 + 1 by omega]
        exact this
/-- a row of replies; the rows of their fields -/
def ROwn (w : World) (B : Nat) (v : Value) (rs : List (Int × List (List UInt8 × List UInt8) × List UInt8)) : Prop :=
  ∃ fs : List Value, fs.length = rs.length ∧ w.ownsRow B 86 3 v rs.length (rcells rs fs) ∧ ∀ j (hj : j < rs.length) (hf : j < fs.length), ∃ a c, fs[j] = .slice a (rs[j].2.1).length c ∧ w.ownsRow 0 125 2 fs[j] (rs[j].2.1).length (fcells rs[j].2.1)
theorem ROwn.nil (w : World) (B : Nat) : ROwn w B (.slice none 0 0) [] := ⟨[], rfl, World.ownsRow_nil _ _ _ _, fun j hj => absurd hj (Nat.not_lt_zero _)⟩
/-- blocks of replies and of fields stay -/
def TagKeep (w w' : World) : Prop := ∀ (g : Nat) (cur : Array Value) (t : TypeId), w.heap[g]? = some (.cells cur t (0, 0)) → (t = 86 ∨ t = 125) → w'.heap[g]? = w.heap[g]?
theorem TagKeep.of_below {w w' : World} (h : Below w.heap.size w w') : TagKeep w w' := fun g cur t hg _ => h.block g (Array.getElem?_eq_some_iff.1 hg).1
theorem TagKeep.trans {a b c : World} (h : TagKeep a b) (k : TagKeep b c) : TagKeep a c := fun g cur t hg ht => (k g cur t ((h g cur t hg ht).trans hg) ht).trans (h g cur t hg ht)
theorem own_tagk {w w' : World} {B : Nat} {e : TypeId} {size : Nat} {v : Value} {n : Nat} {xs : List Value} (h : w.ownsRow B e size v n xs) (hk : TagKeep w w') (he : e = 86 ∨ e = 125) : w'.ownsRow B e size v n xs :=
  own_of_block h (fun g hg => let ⟨cur, hc⟩ := own_tag h g hg; hk g cur e hc he)
theorem ROwn.keep {w w' : World} {B : Nat} {v : Value} {rs : List (Int × List (List UInt8 × List UInt8) × List UInt8)} (h : ROwn w B v rs) (hk : TagKeep w w') : ROwn w' B v rs := by
  obtain ⟨fs, h1, h2, h3⟩ := h
  refine ⟨fs, h1, own_tagk h2 hk (.inl rfl), fun j hj hf => ?_⟩
  obtain ⟨a, c, e1, e2⟩ := h3 j hj hf
  exact ⟨a, c, e1, own_tagk e2 hk (.inr rfl)⟩
/-- a feed's call keeps all replies -/
theorem FAt.tag {w w' : World} {p : Nat} {m : Int} {l : List UInt8} {e : Nat} {v : Value} (h : FAt w p m l e v) (ht : Touch (FS p v) w w') : TagKeep w w' := fun g cur t hg htt => by
  refine ht.block g (Array.getElem?_eq_some_iff.1 hg).1 (fun hs => ?_)
  rcases hs with rfl | hs
  · have hb := h.blk
    rw [hg] at hb
    simp only [Option.some.injEq, Obj.cells.injEq] at hb
    rcases htt with e | e <;> rw [e] at hb <;> exact absurd hb.2.1 (by decide)
  · obtain ⟨c, hc⟩ := own_tag h.own g hs
    rw [hg] at hc
    simp only [Option.some.injEq, Obj.cells.injEq] at hc
    rcases htt with e | e <;> rw [e] at hc <;> exact absurd hc.2.1 (by decide)
theorem ROwn.form {w : World} {B : Nat} {v : Value} {rs : List (Int × List (List UInt8 × List UInt8) × List UInt8)} (h : ROwn w B v rs) : ∃ a c, v = .slice a rs.length c := by
  obtain ⟨fs, h1, h2, h3⟩ := h
  exact slice_of_own h2
/-- one reply of a row -/
theorem ROwn.at {w : World} {B g n cp : Nat} {rs : List (Int × List (List UInt8 × List UInt8) × List UInt8)} (h : ROwn w B (.slice (some ⟨g, 0, none⟩) n cp) rs) (j : Nat) (hj : j < rs.length) :
    ∃ a c, w.cell? ⟨g, j * 3, none⟩ = some (.int .i64 rs[j].1) ∧ w.cell? ⟨g, j * 3 + 1, none⟩ = some (.slice a (rs[j].2.1).length c) ∧ w.cell? ⟨g, j * 3 + 2, none⟩ = some (.string (bs rs[j].2.2)) ∧ w.ownsRow 0 125 2 (.slice a (rs[j].2.1).length c) (rs[j].2.1).length (fcells rs[j].2.1) ∧ g < w.heap.size := by
  obtain ⟨fs, h1, h2, h3⟩ := h
  obtain ⟨a, c, e1, e2⟩ := h3 j hj (by omega)
  obtain ⟨g1, g2, g3⟩ := rcells_get rs fs h1 j hj
  have e0 : ∀ k, (⟨g, 0, none⟩ : Addr).add k = ⟨g, k, none⟩ := fun k => by unfold Addr.add; split <;> simp_all
  have k1 := h2.cells (g := g) rfl _ _ g1
  have k2 := h2.cells (g := g) rfl _ _ g2
  have k3 := h2.cells (g := g) rfl _ _ g3
  rw [e0] at k1 k2 k3
  rw [e1] at k2 e2
  exact ⟨a, c, k1, k2, k3, e2, (h2.lt g rfl).2⟩
theorem info_reply : (Tryz.prog.info? 86).map (fun i => (i.zero, i.size, i.bytes)) = some (some (.agg #[.int .i64 0, .slice none 0 0, .string ByteArray.empty]), 3, 48) := by kernel_rfl
theorem info_byteF : (Tryz.prog.info? 5).map (fun i => (i.zero, i.size, i.bytes)) = some (some (.int .u8 0), 1, 1) := by kernel_rfl
end Go.Proofs.YtfjdppngeillcaaGreatDoor
namespace Go.Proofs.YtfjdppngeillcaaGreatDoor
open Go.RowKit Go.Shelf Go.Lib
theorem bytes_oneF (l : List UInt8) : ∀ u ∈ bytesV l, u.oneCell' = true := by
  intro u hu
  obtain ⟨b, -, rfl⟩ := List.mem_map.1 hu
  rfl
theorem clone_bytes (g o n c : Nat) (l : List UInt8) (w : World) (hn : l.length = n) (hl : n ≤ 2000000) (hg : g < w.heap.size) (hc : ∀ j u, (bytesV l)[j]? = some u → w.cell? ⟨g, o + j, none⟩ = some u) :
    Calls Tryz.prog 67 #[.slice (some ⟨g, o, none⟩) n c] w fun e w' => ∃ v', e = .returned v' ∧ w'.ownsRow w.heap.size 5 1 v' n (bytesV l) ∧ Below w.heap.size w w' := by
  have hi := info_byteF
  cases e : Tryz.prog.info? 5 with
  | none => rw [e] at hi; cases hi
  | some i =>
    rw [e] at hi
    simp only [Option.map_some, Option.some.injEq, Prod.mk.injEq] at hi
    obtain ⟨i1, i2, i3⟩ := hi
    refine (AnyE.slices_Clone layCloneB i _ 1 1 e i1 i2 i3 rfl (by decide) Tryz.sizeOf5 g o n c (bytesV l) w (by rw [bytesV_length, hn]; omega) (by unfold maxLen; omega) (by omega) hc (bytes_oneF l)).mono ?_
    rintro e w' ⟨v', rfl, h3, -, h4⟩
    exact ⟨v', rfl, h3, h4⟩
theorem conv_own (w : World) (v : Value) (l : List UInt8) (h : w.ownsRow 0 5 1 v l.length (bytesV l)) : (convert 66 9 v).run Tryz.prog w = .ok (.string (bs l)) w := by
  rcases h.2 with ⟨rfl, h0⟩ | ⟨g, cap, cur, rfl, -⟩
  · obtain rfl : l = [] := List.length_eq_zero_iff.1 h0
    exact run_convert_bytes_nil w 66 5 Tryz.underlying66 Tryz.underlying5 0 0 9 Tryz.underlying9
  · have hc := h.cells (g := g) rfl
    exact run_convert_bytes_back w 66 9 5 ⟨g, 0, none⟩ cap l Tryz.underlying66 Tryz.underlying5 Tryz.underlying9 (fun j hj => hc j _ (by unfold bytesV; rw [List.getElem?_map, List.getElem?_eq_getElem hj]; rfl))
theorem feed_none_at {p : Nat} {m : Int} {l : List UInt8} {e : Nat} {v : Value} {w : World} (h : FAt w p m l e v) : Calls Tryz.prog 36 #[.pointer (some ⟨p, 0, none⟩)] w fun e w' => e = .returned (.bool false) ∧ w' = w := by
  obtain ⟨c0, -, -, -, -, -⟩ := h.cells
  go_enter Tryz.func36, Tryz.ntmps36
  go_wp2_with fail
  go_ret
  exact ⟨rfl, rfl⟩
theorem feed_none_nil (w : World) : Calls Tryz.prog 36 #[.pointer none] w fun e w' => e = .returned (.bool true) ∧ w' = w := by
  go_enter Tryz.func36, Tryz.ntmps36
  go_wp2_with fail
  go_ret
  exact ⟨rfl, rfl⟩
theorem feed_none_zero (p : Nat) (w : World) (h : w.cell? ⟨p, 0, none⟩ = some (.bool false)) : Calls Tryz.prog 36 #[.pointer (some ⟨p, 0, none⟩)] w fun e w' => e = .returned (.bool true) ∧ w' = w := by
  go_enter Tryz.func36, Tryz.ntmps36
  go_wp2_with fail
  go_ret
  exact ⟨rfl, rfl⟩
theorem feed_new_bad (m : Int) (w : World) (h : m < 0 ∨ 1048576 < m) : Calls Tryz.prog 19 #[.int .i64 m] w fun e w' => e = .returned (.tuple #[.pointer none, .int .i64 2]) ∧ w' = w := by
  by_cases h0 : m < 0
  · have t0 : decide (m < 0) = true := decide_eq_true h0
    go_enter Tryz.func19, Tryz.ntmps19
    go_wp2_with fail
    go_ret2
    exact ⟨rfl, rfl⟩
  · have t0 : decide (m < 0) = false := decide_eq_false h0
    have t1 : decide (m > 1048576) = true := decide_eq_true (by omega)
    clear h h0
    go_enter Tryz.func19, Tryz.ntmps19
    go_wp2_with fail
    go_ret2
    exact ⟨rfl, rfl⟩
theorem feed_new (m : Int) (w : World) (h0 : 0 ≤ m) (h1 : m ≤ 1048576) : Calls Tryz.prog 19 #[.int .i64 m] w fun e w' => e = .returned (.tuple #[.pointer (some ⟨w.heap.size, 0, none⟩), .int .i64 0]) ∧ FAt w' w.heap.size m [] 0 (.slice none 0 0) ∧ Below w.heap.size w w' := by
  have t0 : decide (m < 0) = false := decide_eq_false (by omega)
  have t1 : decide (m > 1048576) = false := decide_eq_false (by omega)
  clear h0 h1
  go_enter Tryz.func19, Tryz.ntmps19
  go_wp2_with fail
  go_ret2
  exact ⟨rfl, ⟨heap_alloc_new w _, World.ownsRow_nil _ _ _ _⟩, (Below.refl _ _).alloc (Nat.le_refl _) _⟩
def endE (l : List UInt8) (e : Nat) : Nat := if e ≠ 0 then e else if l = [] then 0 else 3
theorem feed_end_at {p : Nat} {m : Int} {l : List UInt8} {e : Nat} {v : Value} {w : World} (h : FAt w p m l e v) : Calls Tryz.prog 21 #[.pointer (some ⟨p, 0, none⟩)] w fun r w' => r = .returned (.int .i64 (endE l e : Nat)) ∧ Below w.heap.size w w' := by
  have HN := Lib.hid (feed_none_at h)
  obtain ⟨c0, c1, c2, c3, -, -⟩ := h.cells
  obtain ⟨a, c, rfl⟩ := slice_of_own h.own
  clear h
  by_cases he : e = 0
  case neg =>
    have HF : Hid (endE l e = e) := Lib.hid (if_pos he)
    have tz : ((e : Int) != 0) = true := by rw [bne_iff_ne]; omega
    have tz2 : ¬ (e = 0) := he
    clear he
    go_enter Tryz.func21, Tryz.ntmps21
    go_wp2_with fail
    refine HN.out.mono ?_
    rintro r w' ⟨rfl, hww⟩
    obtain rfl := hww.symm
    go_wp2_with fail
    try (go_quiet (fail))
    try go_wp2_with fail
    go_ret
    exact ⟨by rw [HF.out]; rfl, ⟨rfl, rfl, rfl, Nat.le_refl _, fun _ _ => rfl⟩⟩
  subst he
  by_cases hl : l = []
  · subst hl
    go_enter Tryz.func21, Tryz.ntmps21
    go_wp2_with fail
    refine HN.out.mono ?_
    rintro r w' ⟨rfl, hww⟩
    obtain rfl := hww.symm
    go_wp2_with fail
    go_ret
    exact ⟨rfl, Below.refl _ _⟩
  · have hp : 0 < l.length := List.length_pos_iff.2 hl
    have HF : Hid (endE l 0 = 3) := Lib.hid (by unfold endE; rw [if_neg (by simp), if_neg hl])
    have tp : decide ((l.length : Int) > 0) = true := decide_eq_true (by omega)
    clear hl
    go_enter Tryz.func21, Tryz.ntmps21
    go_wp2_with fail
    refine HN.out.mono ?_
    rintro r w' ⟨rfl, hww⟩
    obtain rfl := hww.symm
    go_wp2_with fail
    go_ret
    exact ⟨by rw [HF.out]; rfl, Below.refl _ _⟩
end Go.Proofs.YtfjdppngeillcaaGreatDoor
namespace Go.Proofs.YtfjdppngeillcaaGreatDoor
open Go.RowKit Go.Shelf Go.Lib
theorem cut_fin {p : Nat} {m : Int} {l l' : List UInt8} {v v1 : Value} {w w1 : World} {b : Nat} {e : Nat} (hF : FAt w p m l e v) (hB : Below w.heap.size w w1) (h1 : w1.ownsRow b 5 1 v1 l'.length (bytesV l')) (hb : w.heap.size ≤ b) :
    ∃ v', FAt (w1.setCell ⟨p, 2, none⟩ v1) p m l' e v' ∧ Touch (fun g => g = p) w (w1.setCell ⟨p, 2, none⟩ v1) ∧ (∀ g, v'.ownBlock = some g → w.heap.size ≤ g) := by
  have hpl := hF.lt
  refine ⟨v1, ⟨row_set4 ((hB.block p hpl).trans hF.blk) v1, ?_⟩, touch_set v1 (Touch.of_below hB) (.inl rfl), fun g hg => Nat.le_trans hb (h1.lt g hg).1⟩
  refine own_of_block (own_mono h1 (Nat.zero_le _)) (fun g hg => set_far (fun e => ?_))
  have := (h1.lt g hg).1
  have e2 : g = p := e
  omega
set_option maxRecDepth 100000 in
set_option maxHeartbeats 2000000 in
theorem feed_cut_at {p : Nat} {m : Int} {l : List UInt8} {v : Value} {w : World} (n : Nat) (h : FAt w p m l 0 v) (hn : n ≤ l.length) (hp : 0 < l.length) (hl : l.length ≤ 2000000) :
    Calls Tryz.prog 38 #[.pointer (some ⟨p, 0, none⟩), .int .i64 n] w fun e w' => e = .returned (.tuple #[]) ∧ ∃ v', FAt w' p m (l.drop n) 0 v' ∧ Touch (fun g => g = p) w w' ∧ (∀ g, v'.ownBlock = some g → w.heap.size ≤ g) := by
  obtain ⟨c0, c1, c2, c3, f2, f3⟩ := h.cells
  obtain ⟨g, cap, rfl, hg0⟩ : ∃ g cap, v = .slice (some ⟨g, 0, none⟩) l.length cap ∧ l.length ≤ cap := by
    rcases h.own.2 with ⟨-, h0⟩ | ⟨g, cap, cur, rfl, h1, h2, h3, h4⟩
    · omega
    · exact ⟨g, cap, rfl, h3⟩
  have hgl : g < w.heap.size := (h.own.lt g rfl).2
  have hcell := h.own.cells (g := g) rfl
  have HC := Lib.hid (fun W o k (hW : Below w.heap.size w W) (ho : o = n ∨ l.length = n) (hk : k = l.length - n) => clone_bytes g o k k (l.drop n) W (by rw [List.length_drop, hk]) (by omega) (Nat.lt_of_lt_of_le hgl hW.size) (fun j u hu => by
    have e0 : ∀ k, (⟨g, 0, none⟩ : Addr).add k = ⟨g, k, none⟩ := fun k => by unfold Addr.add; split <;> simp_all
    rcases ho with rfl | ho
    · have hd : (bytesV l)[o + j]? = some u := by
        rw [← hu]; unfold bytesV; rw [List.map_drop, List.getElem?_drop]
      have := hcell (o + j) u hd
      rw [e0] at this
      exact (hW.cell (p := ⟨g, o + j, none⟩) hgl).trans this
    · rw [List.drop_eq_nil_of_le (by omega)] at hu
      cases hu))
  have HF := Lib.hid h
  have hpl := h.lt
  obtain ⟨L, hL⟩ : ∃ L, l.length = L := ⟨_, rfl⟩
  rw [hL] at c2 hn hp hg0
  have HL := Lib.hid hL
  rw [hL] at HC
  have hnI : (n : Int) ≤ (L : Int) := by omega
  have hLc : (L : Int) ≤ (cap : Int) := by omega
  clear hcell h hL
  go_enter Tryz.func38, Tryz.ntmps38
  go_wp2_with fail
  go_quiet (fail)
  have hbq : Below w.heap.size w (w.drewN nq) := ⟨rfl, rfl, rfl, Nat.le_refl _, fun _ _ => rfl⟩
  have HBQ := Lib.hid hbq
  generalize hwq : w.drewN nq = wq at HBQ ⊢
  clear hbq hwq
  go_wp2_with fail
  case' inl h => have HC1 := HC.out wq 0 0 HBQ.out (.inr h) (by omega)
  case' inr => have HC1 := HC.out wq n (L - n) HBQ.out (.inl rfl) rfl
  all_goals
    refine HC1.mono ?_
    rintro e w1 ⟨v1, rfl, h1, h2⟩
    obtain ⟨N1, hN1, hown⟩ : ∃ N1, N1 = (l.drop n).length ∧ w1.ownsRow wq.heap.size 5 1 v1 N1 (bytesV (l.drop n)) := ⟨_, by first | (rw [List.length_drop, HL.out]; done) | (rw [List.length_drop, HL.out]; omega), h1⟩
    subst hN1
    obtain ⟨a1, k1, hv1⟩ := slice_of_own hown
    have H1 := Lib.hid hown
    obtain ⟨N2, hN2⟩ : ∃ N2, (l.drop n).length = N2 := ⟨_, rfl⟩
    rw [hN2] at hv1
    subst hv1
    have H2 := Lib.hid h2
    have B1 := HBQ.out.trans (h2.mono HBQ.out.size)
    have HB1 := Lib.hid B1
    have c2' := (B1.cell (p := ⟨p, 2, none⟩) hpl).trans c2
    have f2' := (B1.frozen (p := ⟨p, 2, none⟩) hpl).trans f2
    clear h1 h2 hown hN2 HC1 B1 c0 c1 c2 c3 f2 f3
    try clear h
    go_wp2_with fail
    go_end0
    exact ⟨rfl, cut_fin HF.out HB1.out H1.out HBQ.out.size⟩
end Go.Proofs.YtfjdppngeillcaaGreatDoor
namespace Go.Proofs.YtfjdppngeillcaaGreatDoor
open Go.RowKit Go.Shelf Go.Lib
theorem run_append_string_at0 (w : World) (t u ty e : TypeId) (i : TypeInfo) (ht : Tryz.prog.underlying t = some (.slice e)) (hu : Tryz.prog.underlying u = some .string) (hi : Tryz.prog.info? e = some i) (hz : i.zero = some (.int .u8 0)) (hsize : i.size = 1) (hby : i.bytes = 1)
    (v : Value) (n : Nat) (xs : List Value) (hown : w.ownsRow 0 e 1 v n xs) (s : ByteArray) (h63 : n + s.size ≤ maxLen) (hbytes : n + s.size ≤ 140737488355328) (v' : Value) (w' : World) (hr : (Builtin.append_ #[t, u] ty #[v, .string s]).run Tryz.prog w = .ok v' w') (h0 : v = .slice none 0 0 → s.size = 0 → v' = .slice none 0 0) :
    v'.ownBlock = v.ownBlock ∨ v'.ownBlock = some w.heap.size := by
  by_cases hs : 0 < s.size
  · exact run_append_string_at w t u ty e i ht hu hi hz hsize hby v n xs hown s hs h63 hbytes v' w' hr
  have hs0 : s.size = 0 := by omega
  have hown2 := hown
  rcases hown2.2 with ⟨hv, rfl⟩ | ⟨g, cap, cur, rfl, hbg, hg, hnc, hcm, hcs, htake⟩
  · rw [h0 hv hs0, hv]; exact .inl rfl
  · have h := Lib.run_append_room_string (P := Tryz.prog) w t u ty e i ht hu hi hsize g n cap cur hg s (by omega) (by have : cur.size = cap := (by simpa using hcs); omega)
    rw [h] at hr
    injection hr with e1 _
    exact .inl (by rw [← e1]; rfl)
/-- bytes are appended to what is left -/
theorem append_left {ops : Array Oper} {rest : List Oper} {o : Oper} {a : Act} {Q : Exit → Act → World → Prop} (W : World) {p : Nat} {m : Int} {l : List UInt8} {e : Nat} {v : Value} (S : ByteArray) (h : FAt W p m l e v) (hl : l.length + S.size ≤ 4000000)
    (hgd : o.guard = none) (x y : Operand) (ho : o.op = .call { callee := .builtin .append, args := #[x, y], argTypes := #[66, 9] }) (hx : a.eval x = v) (hy : a.eval y = .string S)
    (k : ∀ a1 n1 c1 w1, w1.cell? ⟨p, 2, none⟩ = some v → w1.frozen? ⟨p, 2, none⟩ = false → FAt (w1.setCell ⟨p, 2, none⟩ (.slice a1 n1 c1)) p m (l ++ S.data.toList) e (.slice a1 n1 c1) → Touch (FS p v) W (w1.setCell ⟨p, 2, none⟩ (.slice a1 n1 c1)) → (∀ g, (Value.slice a1 n1 c1).ownBlock = some g → v.ownBlock = some g ∨ W.heap.size ≤ g) → wpList Tryz.prog ops Q rest (a.put o.dst (.slice a1 n1 c1)) w1) :
    wpList Tryz.prog ops Q (o :: rest) a W := by
  refine wpList_plain hgd fun K hK => ?_
  obtain ⟨i0, hi, hz0, hz1, hz2⟩ := info_parts info_byteF
  have hb := h.blk
  have hpl := h.lt
  obtain ⟨v', w1, hr, h1, h2, h3⟩ := Lib.run_append_own_string (P := Tryz.prog) W 0 66 9 o.type 5 i0 Tryz.underlying66 Tryz.underlying9 hi hz0 hz1 hz2 v l.length (bytesV l) h.own S (by unfold maxLen; omega) (by omega) (Nat.zero_le _)
  have h4 := run_append_string_at0 W 66 9 o.type 5 i0 Tryz.underlying66 Tryz.underlying9 hi hz0 hz1 hz2 v l.length (bytesV l) h.own S (by unfold maxLen; omega) (by omega) v' w1 hr (fun e1 e2 => h3.2 ⟨e1, e2⟩)
  have hown : w1.ownsRow 0 5 1 v' (l ++ S.data.toList).length (bytesV (l ++ S.data.toList)) := by
    rw [bytesV_str, ← bytesV_append] at h1
    rw [List.length_append, size_len]
    exact h1
  obtain ⟨a1, c1, hv'⟩ := slice_of_own hown
  have hne : v.ownBlock ≠ some p := h.apart
  have hb1 : w1.heap[p]? = some (.cells #[.bool true, .int .i64 m, v, .int .i64 (e : Nat)] 92 (0, 0)) := (h2.block p hpl (fun e => hne e.symm)).trans hb
  have hne' : v'.ownBlock ≠ some p := own_not_row hown hb1 (by decide)
  have hc : w1.cell? ⟨p, 2, none⟩ = some v := by unfold World.cell?; rw [hb1]; rfl
  have hf : w1.frozen? ⟨p, 2, none⟩ = false := by unfold World.frozen?; rw [hb1]; rfl
  generalize (l ++ S.data.toList).length = n1 at hv'
  subst hv'
  unfold Oper.wp execOp
  simp only [ho, resolve, invoke, builtin, Sem.run_bind, Sem.run_pure, Result.andThen_ok, List.map_toArray, List.map_cons, List.map_nil, hx, hy, hr]
  refine hK _ _ (k a1 n1 c1 w1 hc hf ⟨row_set4 hb1 _, own_of_block hown (fun g hg => set_far (fun e => hne' (by rw [hg, show g = p from e])))⟩ ?_ ?_)
  · exact touch_set _ (Touch.of_grown h2 (fun g hg => .inl (.inr hg))) (.inl (.inl rfl))
  · intro g hg
    rcases h4 with h4 | h4
    · exact .inl (h4 ▸ hg)
    · rw [h4] at hg
      exact .inr (by injection hg with hg; omega)
/-- a reply is appended -/
theorem append_reply {ops : Array Oper} {rest : List Oper} {o : Oper} {a : Act} {Q : Exit → Act → World → Prop} (w0 : World) (c : Int) (af : Option Addr) (cf : Nat) (F : List (List UInt8 × List UInt8)) (B : ByteArray) (hgd : o.guard = none) (s x : Operand)
    (ho : o.op = .call { callee := .builtin .append, args := #[s, x], argTypes := #[56, 56] })
    (base : Nat) (v : Value) (rs : List (Int × List (List UInt8 × List UInt8) × List UInt8)) (hs : a.eval s = v) (hown : ROwn w0 base v rs) (r : Int × List (List UInt8 × List UInt8) × List UInt8) (hr : r.1 = c ∧ r.2.1 = F ∧ bs r.2.2 = B) (hF : w0.ownsRow 0 125 2 (.slice af F.length cf) F.length (fcells F))
    (hx : a.eval x = .slice (some ⟨w0.heap.size, 0, none⟩) 1 1) (hn : rs.length < 2147483648) (hbase : base ≤ w0.heap.size)
    (h : ∀ g n cap w', ROwn w' base (.slice (some ⟨g, 0, none⟩) n cap) (rs ++ [r]) → w0.grownBy w' v.ownBlock → wpList Tryz.prog ops Q rest (a.put o.dst (.slice (some ⟨g, 0, none⟩) n cap)) w') :
    wpList Tryz.prog ops Q (o :: rest) a (w0.alloc (.cells #[.int .i64 c, .slice af F.length cf, .string B] 86)) := by
  obtain ⟨i0, hi, hz0, hz1, hz2⟩ := info_parts info_reply
  obtain ⟨fs, h1, h2, h3⟩ := hown
  obtain ⟨r1, r2, r3⟩ := hr
  refine wpList_append_lies _ hgd s x 56 ho base 86 i0 _ 3 48 Tryz.underlying56 hi hz0 hz1 hz2 rfl (by decide) v rs.length (rcells rs fs) hs (h2.alloc _) ⟨w0.heap.size, 0, none⟩ 1 1 [.int .i64 c, .slice af F.length cf, .string B] hx rfl (World.news_of_block (heap_alloc_new w0 _)) (by simp [Value.oneCell']) (by decide) (by unfold maxLen; omega) (by omega) (by simp; omega) _ rfl ?_
  intro g cap w' k2 k3 k4 k5
  have hg : w0.grownBy w' v.ownBlock := ⟨k3.os, k3.tape, k3.output, Nat.le_trans (by simp) k3.size, fun k hk hne => (k3.block k (by simp; omega) hne).trans (heap_alloc_old w0 _ hk)⟩
  have keepF : ∀ u n ys, w0.ownsRow 0 125 2 u n ys → w'.ownsRow 0 125 2 u n ys := fun u n ys hu => own_of_block hu (fun g' hg' => hg.block g' (hu.lt g' hg').2 (fun e => by
    rcases own_apart hu h2 (by decide) with hh | hh
    · rw [hh] at hg'; cases hg'
    · exact hh (by rw [hg', e])))
  refine h g _ cap w' ⟨fs ++ [.slice af F.length cf], by rw [List.length_append, List.length_append, h1]; rfl, ?_, fun j hj hf => ?_⟩ hg
  · rw [rcells_snoc rs r _ fs h1, r1, r3, List.length_append]
    exact k2
  · by_cases hj2 : j < rs.length
    · obtain ⟨a, c, e1, e2⟩ := h3 j hj2 (by omega)
      rw [List.getElem_append_left hj2, List.getElem_append_left (by omega)]
      exact ⟨a, c, e1, keepF _ _ _ e2⟩
    · have hjl : j = rs.length := by simp at hj; omega
      subst hjl
      have e1 : (fs ++ [.slice af F.length cf])[rs.length]'hf = .slice af F.length cf := by
        rw [List.getElem_append_right (by omega)]; simp [h1]
      have e2 : (rs ++ [r])[rs.length]'hj = r := by
        rw [List.getElem_append_right (by omega)]; simp
      rw [e1, e2, r2]
      exact ⟨af, cf, rfl, keepF _ _ _ hF⟩
end Go.Proofs.YtfjdppngeillcaaGreatDoor
namespace Go.Proofs.YtfjdppngeillcaaGreatDoor
open Go.RowKit Go.Shelf Go.Lib
/-- what Put leaves -/
def FPost (p : Nat) (m : Int) (v : Value) (R : List (Int × List (List UInt8 × List UInt8) × List UInt8) × List UInt8 × Nat) (w : World) (r : Ending) (w' : World) : Prop :=
  ∃ rv v', r = .returned (.tuple #[rv, .int .i64 (R.2.2 : Nat)]) ∧ FAt w' p m R.2.1 R.2.2 v' ∧ ROwn w' w.heap.size rv R.1 ∧ Touch (FS p v) w w' ∧ (∀ g, v'.ownBlock = some g → v.ownBlock = some g ∨ w.heap.size ≤ g)
structure PRel (w wr : World) (p : Nat) (m : Int) (v : Value) (L0 : List UInt8) (so : Value) (l1 : List UInt8) (v1 : Value) (rs : List (Int × List (List UInt8 × List UInt8) × List UInt8)) : Prop where
  fat : FAt wr p m l1 0 v1
  own : ROwn wr w.heap.size so rs
  tch : Touch (FS p v) w wr
  new : ∀ g, v1.ownBlock = some g → v.ownBlock = some g ∨ w.heap.size ≤ g
  eq : feedOf m L0 = (rs ++ (feedOf m l1).1, (feedOf m l1).2)
  len : rs.length + l1.length ≤ L0.length
theorem FS.sub {p : Nat} {v v1 : Value} {w : World} (h : ∀ g, v1.ownBlock = some g → v.ownBlock = some g ∨ w.heap.size ≤ g) : ∀ g, FS p v1 g → FS p v g ∨ w.heap.size ≤ g := fun g hg => by
  rcases hg with hg | hg
  · exact .inl (.inl hg)
  · exact (h g hg).elim (fun h => .inl (.inr h)) .inr
theorem PRel.below {w wr wr' : World} {p : Nat} {m : Int} {v so v1 : Value} {L0 l1 : List UInt8} {rs : List (Int × List (List UInt8 × List UInt8) × List UInt8)} (h : PRel w wr p m v L0 so l1 v1 rs) (hb : Below wr.heap.size wr wr') : PRel w wr' p m v L0 so l1 v1 rs :=
  ⟨h.fat.below hb, h.own.keep (TagKeep.of_below hb), h.tch.trans (Touch.of_below (S := FS p v) hb) (fun _ hg => .inl hg), h.new, h.eq, h.len⟩
theorem PRel.short {w wr : World} {p : Nat} {m : Int} {v so v1 : Value} {L0 l1 : List UInt8} {rs : List (Int × List (List UInt8 × List UInt8) × List UInt8)} (h : PRel w wr p m v L0 so l1 v1 rs) (h3 : takE (bs l1) m = 3) :
    FPost p m v (feedOf m L0) w (.returned (.tuple #[so, .int .i64 0])) wr := by
  have e := h.eq
  rw [feed_short m l1 h3, List.append_nil] at e
  rw [e]
  exact ⟨so, v1, rfl, h.fat, h.own, h.tch, h.new⟩
theorem PRel.bad {w wr : World} {p : Nat} {m : Int} {v so v1 : Value} {L0 l1 : List UInt8} {rs : List (Int × List (List UInt8 × List UInt8) × List UInt8)} {E : Nat} (h : PRel w wr p m v L0 so l1 v1 rs) (hE : takE (bs l1) m = E) (h0 : E ≠ 0) (h3 : E ≠ 3) :
    FPost p m v (feedOf m L0) w (.returned (.tuple #[so, .int .i64 (E : Nat)])) ((wr.setCell ⟨p, 2, none⟩ (.slice none 0 0)).setCell ⟨p, 3, none⟩ (.int .i64 (E : Nat))) := by
  have e := h.eq
  rw [feed_bad m l1 (by rw [hE]; exact h0) (by rw [hE]; exact h3), List.append_nil, hE] at e
  have ht : Touch (FS p v1) wr ((wr.setCell ⟨p, 2, none⟩ (.slice none 0 0)).setCell ⟨p, 3, none⟩ (.int .i64 (E : Nat))) := touch_set _ (touch_set _ (Touch.refl _ _) (.inl (.inl rfl))) (.inl (.inl rfl))
  rw [e]
  exact ⟨so, .slice none 0 0, rfl, ⟨row_set5 (row_set4 h.fat.blk _) _, World.ownsRow_nil _ _ _ _⟩, h.own.keep (h.fat.tag ht), h.tch.trans ht (FS.sub h.new), (fun g hg => by cases hg)⟩
theorem PRel.grown {w wr w6 : World} {p : Nat} {m : Int} {v so v1 : Value} {L0 l1 : List UInt8} {rs : List (Int × List (List UInt8 × List UInt8) × List UInt8)} (h : PRel w wr p m v L0 so l1 v1 rs) (hg : wr.grownBy w6 so.ownBlock) :
    FAt w6 p m l1 0 v1 ∧ Touch (FS p v) w w6 := by
  obtain ⟨fs, f1, f2, f3⟩ := h.own
  have hso : ∀ g, so.ownBlock = some g → w.heap.size ≤ g := fun g hg => (f2.lt g hg).1
  refine ⟨h.fat.keep (fun g hgs => hg.block g (h.fat.slt g hgs) (fun e => ?_)), h.tch.trans (S' := fun g => so.ownBlock = some g) (Touch.of_grown hg (fun g hg => .inl hg)) (fun g hg => .inr (hso g hg))⟩
  rcases hgs with rfl | hgs
  · exact own_not_row f2 h.fat.blk (by decide) e.symm
  · rcases own_apart h.fat.own f2 (by decide) with hh | hh
    · rw [hh] at hgs; cases hgs
    · exact hh (by rw [hgs, e])
theorem PRel.step {w wr w6 w7 : World} {p : Nat} {m : Int} {v so so' v1 v2 : Value} {L0 l1 : List UInt8} {rs : List (Int × List (List UInt8 × List UInt8) × List UInt8)} (h : PRel w wr p m v L0 so l1 v1 rs) (hg : wr.grownBy w6 so.ownBlock) (h0 : takE (bs l1) m = 0)
    (ho : ROwn w6 w.heap.size so' (rs ++ [(takC (bs l1) m, takF (bs l1) m, takB (bs l1) m)])) (hf : FAt w7 p m (l1.drop (takN (bs l1) m).toNat) 0 v2) (ht : Touch (fun g => g = p) w6 w7) (hn : ∀ g, v2.ownBlock = some g → w6.heap.size ≤ g) :
    PRel w w7 p m v L0 so' (l1.drop (takN (bs l1) m).toNat) v2 (rs ++ [(takC (bs l1) m, takF (bs l1) m, takB (bs l1) m)]) := by
  obtain ⟨g1, g2⟩ := h.grown hg
  obtain ⟨n1, n2, n3⟩ := tak_n l1 m h0
  have he := h.eq
  have hl := h.len
  refine ⟨hf, ho.keep (g1.tag (ht.mono (fun g hg => .inl hg))), g2.trans ht (fun g hg => .inl (.inl hg)), fun g hg => .inr (Nat.le_trans g2.size (hn g hg)), ?_, ?_⟩
  · rw [he, feed_more m l1 h0, List.append_assoc]; rfl
  · rw [List.length_append, List.length_drop, List.length_singleton]; omega
/-- the cells that Put's region reads -/
def PutS (p : Nat) (m : Int) (x : Value) (S : ByteArray) (w' : World) : Prop := w'.cell? ⟨p, 2, none⟩ = some x ∧ w'.cell? ⟨p, 1, none⟩ = some (.int .i64 m) ∧ (convert 66 9 x).run Tryz.prog w' = .ok (.string S) w'
theorem PRel.reads {w wr : World} {p : Nat} {m : Int} {v so v1 : Value} {L0 l1 : List UInt8} {rs : List (Int × List (List UInt8 × List UInt8) × List UInt8)} (h : PRel w wr p m v L0 so l1 v1 rs) : ∀ W, Below wr.heap.size wr W → PutS p m v1 (bs l1) W := fun W hW => by
  have hF := h.fat.below hW
  obtain ⟨-, c1, c2, -, -, -⟩ := hF.cells
  exact ⟨c2, c1, conv_own W v1 l1 hF.own⟩
set_option maxRecDepth 100000 in
set_option maxHeartbeats 4000000 in
theorem feed_put_bad {p : Nat} {m : Int} {l : List UInt8} {e : Nat} {v : Value} {w : World} (s : ByteArray) (h : FAt w p m l e v) (he : e ≠ 0) :
    Calls Tryz.prog 20 #[.pointer (some ⟨p, 0, none⟩), .string s] w (FPost p m v ([], l, e) w) := by
  have HN := Lib.hid (feed_none_at h)
  obtain ⟨c0, c1, c2, c3, f2, f3⟩ := h.cells
  have HH := Lib.hid h
  have tz : ((e : Int) != 0) = true := by rw [bne_iff_ne]; omega
  have tz2 : ¬ (e = 0) := he
  clear he h
  go_enter Tryz.func20, Tryz.ntmps20
  go_wp2_with fail
  refine HN.out.mono ?_
  rintro r w' ⟨rfl, hww⟩
  obtain rfl := hww.symm
  go_wp2_with fail
  go_quiet (fail)
  have hbq : Below w.heap.size w (w.drewN nq) := ⟨rfl, rfl, rfl, Nat.le_refl _, fun _ _ => rfl⟩
  go_wp2_with fail
  go_ret2
  exact ⟨.slice none 0 0, v, rfl, HH.out.below hbq, ROwn.nil _ _, Touch.of_below hbq, fun g hg => .inl hg⟩
end Go.Proofs.YtfjdppngeillcaaGreatDoor
namespace Go.Proofs.YtfjdppngeillcaaGreatDoor
open Go.RowKit Go.Shelf Go.Lib
theorem three_block {w : World} {b : Nat} {x y z : Value} {t : TypeId} (h : w.heap[b]? = some (.cells #[x, y, z] t (0, 0))) (x' y' z' : Value) : (((w.setCell ⟨b, 0, none⟩ x').setCell ⟨b, 1, none⟩ y').setCell ⟨b, 2, none⟩ z').heap[b]? = some (.cells #[x', y', z'] t (0, 0)) := by
  simp [World.setCell, Array.getElem?_modify, h]
/-- what Put's region hands over: a reply in a block -/
def Seven (wr W : World) (q : Nat) (C : Int) (a : Option Addr) (cc : Nat) (F : List (List UInt8 × List UInt8)) (B : ByteArray) : Prop :=
  W.heap[q]? = some (.cells #[.int .i64 C, .slice a F.length cc, .string B] 86 (0, 0)) ∧ Below wr.heap.size wr W ∧ W.ownsRow 0 125 2 (.slice a F.length cc) F.length (fcells F)
theorem seven_one {wr wc : World} {b : Nat} {C : Int} {a : Option Addr} {cc : Nat} {F : List (List UInt8 × List UInt8)} {B : ByteArray} (h : Below wr.heap.size wr wc) (ho : wc.ownsRow b 125 2 (.slice a F.length cc) F.length (fcells F)) :
    Seven wr (wc.alloc (.cells #[.int .i64 C, .slice a F.length cc, .string B] 86)) wc.heap.size C a cc F B :=
  ⟨heap_alloc_new wc _, h.alloc h.size _, (own_mono ho (Nat.zero_le _)).alloc _⟩
theorem seven_two {wr wc : World} {b : Nat} {C : Int} {a : Option Addr} {cc : Nat} {F : List (List UInt8 × List UInt8)} {B : ByteArray} {x y z : Value} (h : Below wr.heap.size wr wc) (ho : wc.ownsRow b 125 2 (.slice a F.length cc) F.length (fcells F)) (hz : wc.heap[wr.heap.size]? = some (.cells #[x, y, z] 86 (0, 0))) :
    Seven wr (((wc.setCell ⟨wr.heap.size, 0, none⟩ (.int .i64 C)).setCell ⟨wr.heap.size, 1, none⟩ (.slice a F.length cc)).setCell ⟨wr.heap.size, 2, none⟩ (.string B)) wr.heap.size C a cc F B :=
  ⟨three_block hz _ _ _, three_below h _ (Nat.le_refl _) _ _ _, own_of_block (own_mono ho (Nat.zero_le _)) (fun g hg => by
    have hne : g ≠ wr.heap.size := fun e => own_not_row ho hz (by decide) (by rw [hg, e])
    exact (set_far (a := ⟨wr.heap.size, 2, none⟩) hne).trans ((set_far (a := ⟨wr.heap.size, 1, none⟩) hne).trans (set_far (a := ⟨wr.heap.size, 0, none⟩) hne)))⟩
set_option maxRecDepth 100000 in
set_option maxHeartbeats 8000000 in
theorem feed_put {p : Nat} {m : Int} {l : List UInt8} {v : Value} {w : World} (s : ByteArray) (h : FAt w p m l 0 v) (hE : ∀ W, Touch (FS p v) w W → EnvF W) (hl : l.length + s.size ≤ 1000000) :
    Calls Tryz.prog 20 #[.pointer (some ⟨p, 0, none⟩), .string s] w (FPost p m v (feedOf m (l ++ s.data.toList)) w) := by
  have HN := Lib.hid (feed_none_at h)
  obtain ⟨c0, c1, c2, c3, f2, f3⟩ := h.cells
  have HH := Lib.hid h
  have HE := Lib.hid hE
  have HL := Lib.hid (show l.length + s.size ≤ 4000000 by omega)
  obtain ⟨L0, hL0⟩ : ∃ L0, l ++ s.data.toList = L0 := ⟨_, rfl⟩
  have HL0 := Lib.hid hL0
  have HLL : Hid (L0.length ≤ 1000000) := Lib.hid (by rw [← hL0, List.length_append, size_len]; exact hl)
  have HSL := Lib.hid (fun a c n => (rfl : Value.slice a n c = Value.slice a n c))
  obtain ⟨av, cv, hv⟩ := slice_of_own h.own
  obtain ⟨ln, hln⟩ : ∃ ln, l.length = ln := ⟨_, rfl⟩
  rw [hln] at hv
  rw [hL0]
  clear hE h hl hL0 hln HSL
  subst hv
  go_enter Tryz.func20, Tryz.ntmps20
  go_wp2_with fail
  refine HN.out.mono ?_
  rintro r w' ⟨rfl, hww⟩
  obtain rfl := hww.symm
  clear HN
  go_wp2_with (at_builtin; go_loud (refine append_left w s HH.out HL.out (by rfl) _ _ (by rfl) (by rfl) (by rfl) ?_); intro a1 n1 k1 w1 c2' f2' hF1 ht1 hn1)
  have HR : Hid (PRel w (w1.setCell ⟨p, 2, none⟩ (.slice a1 n1 k1)) p m (.slice av ln cv) L0 (.slice none 0 0) L0 (.slice a1 n1 k1) []) := Lib.hid ⟨by rw [HL0.out] at hF1; exact hF1, ROwn.nil _ _, ht1, hn1, rfl, by simp⟩
  generalize w1.setCell ⟨p, 2, none⟩ (.slice a1 n1 k1) = w2 at HR ⊢
  clear c0 c1 c2 c3 f2 f3 c2' f2' hF1 ht1 hn1 HH HL HL0
  go_loopg [6] (L0.length + 1) (fun gk s6 wr => ∃ l1 v1 rs, l1.length < gk ∧ Hid (PRel w wr p m (.slice av ln cv) L0 s6 l1 v1 rs))
  case atStart => exact ⟨L0, _, [], by omega, HR⟩
  case round =>
    obtain ⟨l1, v1, rs, hlen, HRr⟩ := hrel
    obtain ⟨g', rfl⟩ : ∃ g', gk = g' + 1 := ⟨gk - 1, by omega⟩
    have hl1 : l1.length ≤ 1000000 := by have := HRr.out.len; have := HLL.out; omega
    have hEr := HE.out wr HRr.out.tch
    obtain ⟨S1, hS1⟩ : ∃ S1, bs l1 = S1 := ⟨_, rfl⟩
    have hS1s : S1.size ≤ 1000000 := by rw [← hS1, bs_size]; exact hl1
    obtain ⟨ax, cx, hvx⟩ := slice_of_own HRr.out.fat.own
    have HLX := Lib.hid (show l1.length ≤ 2000000 by omega)
    have hS2 := HRr.out.reads
    rw [hvx, hS1] at hS2
    obtain ⟨nx, hnx⟩ : ∃ nx, l1.length = nx := ⟨_, rfl⟩
    rw [hnx] at hS2 hvx hlen
    subst hvx
    have HS2 := Lib.hid hS2
    have HNX := Lib.hid hnx
    have HDr : Hid (Below wr.heap.size wr wr.drew) := Lib.hid (Below.refl _ _).drew
    have HA0 : Hid (Below wr.heap.size wr (wr.alloc (.cells #[.int .i64 0, .slice none 0 0, .string ⟨#[]⟩] 86)).drew) := Lib.hid ((Below.refl _ _).alloc (Nat.le_refl _) _).drew
    have HE1 := Lib.hid (hEr.below HDr.out)
    have HE2 := Lib.hid (hEr.below HA0.out)
    have HS1 := Lib.hid hS1
    have HS1s := Lib.hid hS1s
    obtain ⟨E, hE⟩ : ∃ E, takE S1 m = E := ⟨_, rfl⟩
    clear hS2 hnx hEr hl1 hS1 hS1s HR
    by_cases h0 : E = 0
    · subst h0
      obtain ⟨K, hK⟩ : ∃ K : Nat, takN S1 m = (K : Int) := ⟨_, by have := (tak_n l1 m (by rw [HS1.out]; exact hE)).2.2; rw [HS1.out] at this; exact this⟩
      obtain ⟨C, hC⟩ : ∃ C, takC S1 m = C := ⟨_, rfl⟩
      obtain ⟨F, hF⟩ : ∃ F, takF S1 m = F := ⟨_, rfl⟩
      obtain ⟨B, hB⟩ : ∃ B, bs (takB S1 m) = B := ⟨_, rfl⟩
      have HC1 := Lib.hid (parse_is S1 m C (K : Int) F B 0 ⟨hE, hC, hF, hB, hK⟩ wr.drew HS1s.out HE1.out)
      have HC2 := Lib.hid (parse_is S1 m C (K : Int) F B 0 ⟨hE, hC, hF, hB, hK⟩ _ HS1s.out HE2.out)
      have HX := Lib.hid (And.intro hE (And.intro hC (And.intro hF (And.intro hB hK))))
      unfold ParseAt at HC1 HC2
      clear hE hC hF hB hK HE1 HE2
      go_wp2_with fail
      unfold PutS at HS2
      go_region_held3 (fun w' => w'.cell? ⟨p, 2, none⟩ = some (.slice ax nx cx) ∧ w'.cell? ⟨p, 1, none⟩ = some (.int .i64 m) ∧ (convert 66 9 (.slice ax nx cx)).run Tryz.prog w' = .ok (.string S1) w') (first | exact HS2.out _ HDr.out | exact HS2.out _ HA0.out | exact HS2.out _ HA1.out | exact HS2.out _ (HA1.out.alloc HA1.out.size _) | exact HS2.out _ (three_below HA1.out _ (Nat.le_refl _) _ _ _) | exact HS2.out _ (three_below (HA1.out.alloc HA1.out.size _) _ HA1.out.size _ _ _))
        (first
          | (go_at_call 37; (first | (with_reducible refine HC1.out.mono ?_) | (with_reducible refine HC2.out.mono ?_)); rintro e wc ⟨ac, cc, rfl, hoc, hbc⟩; (first | (have HA1 : Hid (Below wr.heap.size wr wc) := Lib.hid (bstep HDr.out hbc)) | (have HA1 : Hid (Below wr.heap.size wr wc) := Lib.hid (bstep HA0.out hbc); have HZ := Lib.hid ((hbc.block wr.heap.size (by simp)).trans (heap_alloc_new wr _)); obtain ⟨z0, z1, z2, y0, y1, y2⟩ := three_facts HZ.out)); have HO1 := Lib.hid hoc; clear hoc hbc))
      all_goals
        first
          | (have H7 : Hid (Seven wr (((wc.setCell ⟨wr.heap.size, 0, none⟩ (.int .i64 C)).setCell ⟨wr.heap.size, 1, none⟩ (.slice ac F.length cc)).setCell ⟨wr.heap.size, 2, none⟩ (.string B)) wr.heap.size C ac cc F B) := Lib.hid (seven_two HA1.out HO1.out HZ.out)
             clear HZ z0 z1 z2 y0 y1 y2
             generalize (((wc.setCell ⟨wr.heap.size, 0, none⟩ (.int .i64 C)).setCell ⟨wr.heap.size, 1, none⟩ (.slice ac F.length cc)).setCell ⟨wr.heap.size, 2, none⟩ (.string B)) = W7 at H7 ⊢
             generalize wr.heap.size = q at H7 ⊢)
          | (have H7 : Hid (Seven wr (wc.alloc (.cells #[.int .i64 C, .slice ac F.length cc, .string B] 86)) wc.heap.size C ac cc F B) := Lib.hid (seven_one HA1.out HO1.out)
             generalize wc.alloc (.cells #[.int .i64 C, .slice ac F.length cc, .string B] 86) = W7 at H7 ⊢
             generalize wc.heap.size = q at H7 ⊢)
        clear HA1 HO1 HC1 HC2 HS2 HDr HA0
        obtain ⟨z0, z1, z2, -, -, -⟩ := three_facts H7.out.1
        have HR7 := Lib.hid (HRr.out.below H7.out.2.1)
        have HN1 : Hid (rs.length < 2147483648 ∧ w.heap.size ≤ W7.heap.size) := Lib.hid ⟨by have := HRr.out.len; have := HLL.out; omega, HR7.out.tch.size⟩
        obtain ⟨FL, hFL⟩ : ∃ FL, F.length = FL := ⟨_, rfl⟩
        have HFL := Lib.hid hFL
        rw [hFL] at z1 ⊢
        clear hFL HRr
        go_wp2_with (at_builtin; (rw [← HFL.out]); go_loud (refine append_reply W7 C ac cc F B (by rfl) _ _ (by rfl) w.heap.size u6 rs (by rfl) HR7.out.own (takC S1 m, takF S1 m, takB S1 m) ⟨HX.out.2.1, HX.out.2.2.1, HX.out.2.2.2.1⟩ H7.out.2.2 (by rfl) HN1.out.1 HN1.out.2 ?_); intro g6 n6 k6 w6 ho6 hg6)
        obtain ⟨hF6, ht6⟩ := HR7.out.grown hg6
        have htk := tak_n l1 m (by rw [HS1.out]; exact HX.out.1)
        rw [HS1.out, HX.out.2.2.2.2, Int.toNat_natCast] at htk
        have HCU := Lib.hid (feed_cut_at K hF6 htk.2.1 (by omega) HLX.out)
        refine HCU.out.mono ?_
        rintro e w8 ⟨rfl, v2, hF8, ht8, hn8⟩
        have HRn : Hid (PRel w w8 p m (.slice av ln cv) L0 (.slice (some ⟨g6, 0, none⟩) n6 k6) (l1.drop K) v2 (rs ++ [(takC S1 m, takF S1 m, takB S1 m)])) := Lib.hid (by
          have := HR7.out.step (so' := .slice (some ⟨g6, 0, none⟩) n6 k6) (v2 := v2) (w7 := w8) hg6 (by rw [HS1.out]; exact HX.out.1) (by rw [HS1.out]; exact ho6) (by rw [HS1.out, HX.out.2.2.2.2, Int.toNat_natCast]; exact hF8) ht8 hn8
          rw [HS1.out, HX.out.2.2.2.2, Int.toNat_natCast] at this
          exact this)
        have HLT : Hid ((l1.drop K).length < g') := Lib.hid (by rw [List.length_drop]; have := HNX.out; omega)
        clear hF6 ht6 htk HCU hF8 ht8 hn8 ho6 hg6 HR7 H7 z0 z1 z2
        go_wp2_with fail
        go_roundg g'
        case measure => omega
        case rel => exact ⟨_, _, _, HLT.out, HRn⟩
    · by_cases h3 : E = 3
      · subst h3
        have HC1 := Lib.hid (parse_err S1 m 3 hE (by decide) wr.drew HS1s.out HE1.out)
        have HC2 := Lib.hid (parse_err S1 m 3 hE (by decide) _ HS1s.out HE2.out)
        have HX := Lib.hid hE
        unfold ParseAt at HC1 HC2
        clear hE HE1 HE2 h0
        go_wp2_with fail
        unfold PutS at HS2
        go_region_held3 (fun w' => w'.cell? ⟨p, 2, none⟩ = some (.slice ax nx cx) ∧ w'.cell? ⟨p, 1, none⟩ = some (.int .i64 m) ∧ (convert 66 9 (.slice ax nx cx)).run Tryz.prog w' = .ok (.string S1) w') (first | exact HS2.out _ HDr.out | exact HS2.out _ HA0.out | exact HS2.out _ HA1.out | exact HS2.out _ (HA1.out.alloc HA1.out.size _) | exact HS2.out _ (three_below HA1.out _ (Nat.le_refl _) _ _ _) | exact HS2.out _ (three_below (HA1.out.alloc HA1.out.size _) _ HA1.out.size _ _ _))
          (first
            | (go_at_call 37; (first | (with_reducible refine HC1.out.mono ?_) | (with_reducible refine HC2.out.mono ?_)); rintro e wc ⟨ac, cc, rfl, hoc, hbc⟩; (first | (have HA1 : Hid (Below wr.heap.size wr wc) := Lib.hid (bstep HDr.out hbc)) | (have HA1 : Hid (Below wr.heap.size wr wc) := Lib.hid (bstep HA0.out hbc); have HZ := Lib.hid ((hbc.block wr.heap.size (by simp)).trans (heap_alloc_new wr _)); obtain ⟨z0, z1, z2, y0, y1, y2⟩ := three_facts HZ.out)); clear hoc hbc))
        all_goals
          first
            | (have HR7 := Lib.hid (HRr.out.below (three_below HA1.out _ (Nat.le_refl _) (.int .i64 0) (.slice ac 0 cc) (.string ⟨#[]⟩)))
               clear HZ z0 z1 z2 y0 y1 y2
               generalize (((wc.setCell ⟨wr.heap.size, 0, none⟩ (.int .i64 0)).setCell ⟨wr.heap.size, 1, none⟩ (.slice ac 0 cc)).setCell ⟨wr.heap.size, 2, none⟩ (.string ⟨#[]⟩)) = W7 at HR7 ⊢)
            | (have HR7 := Lib.hid (HRr.out.below (HA1.out.alloc HA1.out.size (.cells #[.int .i64 0, .slice ac 0 cc, .string ⟨#[]⟩] 86)))
               generalize wc.alloc (.cells #[.int .i64 0, .slice ac 0 cc, .string ⟨#[]⟩] 86) = W7 at HR7 ⊢)
          clear HA1 HC1 HC2 HS2 HDr HA0 HRr
          go_wp2_with fail
          go_ret2
          exact HR7.out.short (by rw [HS1.out]; exact HX.out)
      · have HC1 := Lib.hid (parse_err S1 m E hE h0 wr.drew HS1s.out HE1.out)
        have HC2 := Lib.hid (parse_err S1 m E hE h0 _ HS1s.out HE2.out)
        have HX := Lib.hid hE
        unfold ParseAt at HC1 HC2
        have HNE := Lib.hid (And.intro h0 h3)
        have tz : ((E : Int) == 0) = false := by rw [beq_eq_false_iff_ne]; omega
        have tz3 : ((E : Int) == 3) = false := by rw [beq_eq_false_iff_ne]; omega
        clear hE HE1 HE2
        go_wp2_with fail
        unfold PutS at HS2
        go_region_held3 (fun w' => w'.cell? ⟨p, 2, none⟩ = some (.slice ax nx cx) ∧ w'.cell? ⟨p, 1, none⟩ = some (.int .i64 m) ∧ (convert 66 9 (.slice ax nx cx)).run Tryz.prog w' = .ok (.string S1) w') (first | exact HS2.out _ HDr.out | exact HS2.out _ HA0.out | exact HS2.out _ HA1.out | exact HS2.out _ (HA1.out.alloc HA1.out.size _) | exact HS2.out _ (three_below HA1.out _ (Nat.le_refl _) _ _ _) | exact HS2.out _ (three_below (HA1.out.alloc HA1.out.size _) _ HA1.out.size _ _ _))
          (first
            | (go_at_call 37; (first | (with_reducible refine HC1.out.mono ?_) | (with_reducible refine HC2.out.mono ?_)); rintro e wc ⟨ac, cc, rfl, hoc, hbc⟩; (first | (have HA1 : Hid (Below wr.heap.size wr wc) := Lib.hid (bstep HDr.out hbc)) | (have HA1 : Hid (Below wr.heap.size wr wc) := Lib.hid (bstep HA0.out hbc); have HZ := Lib.hid ((hbc.block wr.heap.size (by simp)).trans (heap_alloc_new wr _)); obtain ⟨z0, z1, z2, y0, y1, y2⟩ := three_facts HZ.out)); clear hoc hbc))
        all_goals
          first
            | (have HR7 := Lib.hid (HRr.out.below (three_below HA1.out _ (Nat.le_refl _) (.int .i64 0) (.slice ac 0 cc) (.string ⟨#[]⟩)))
               clear HZ z0 z1 z2 y0 y1 y2
               generalize (((wc.setCell ⟨wr.heap.size, 0, none⟩ (.int .i64 0)).setCell ⟨wr.heap.size, 1, none⟩ (.slice ac 0 cc)).setCell ⟨wr.heap.size, 2, none⟩ (.string ⟨#[]⟩)) = W7 at HR7 ⊢)
            | (have HR7 := Lib.hid (HRr.out.below (HA1.out.alloc HA1.out.size (.cells #[.int .i64 0, .slice ac 0 cc, .string ⟨#[]⟩] 86)))
               generalize wc.alloc (.cells #[.int .i64 0, .slice ac 0 cc, .string ⟨#[]⟩] 86) = W7 at HR7 ⊢)
          clear HA1 HC1 HC2 HS2 HDr HA0 HRr
          obtain ⟨-, -, c2, c3, f2, f3⟩ := HR7.out.fat.cells
          go_wp2_with fail
          go_ret2
          exact HR7.out.bad (by rw [HS1.out]; exact HX.out) HNE.out.1 HNE.out.2
end Go.Proofs.YtfjdppngeillcaaGreatDoor
namespace Go.Proofs.YtfjdppngeillcaaGreatDoor
open Go.RowKit
def SrvFeed (h p f : List UInt8) (l : List UInt8) : Prop := (feedOf 500 (srvOf h p f l).1).1.length = (srvOf h p f l).2.2.1 ∧ (feedOf 500 (srvOf h p f l).1).2 = ([], 0)
theorem feed_ans (h p f : List UInt8) (s : ByteArray) (he : orgE h p = 0) (hf : f.length ≤ 500) : ∃ r, feedOf 500 (orgS h p f s) = ([r], [], 0) := by
  have hy := orgY_len h p f s
  rw [orgS_eq h p f s (by omega) he]
  exact ⟨_, feed_print 500 _ _ _ (by omega) (org_good h p f s (by omega)) (by omega)⟩
theorem srv_feed (h p f : List UInt8) (he : orgE h p = 0) (hf : f.length ≤ 500) : ∀ l, SrvFeed h p f l := by
  refine srv_ind (SrvFeed h p f) ?_
  intro l ih
  unfold SrvFeed at ih ⊢
  by_cases h0 : askE (bs l) = 0
  · have ih0 := ih h0
    rw [srv_more h p f l h0]
    obtain ⟨r, hr⟩ := feed_ans h p f (bs (l.take (askN (bs l)).toNat)) he hf
    generalize srvOf h p f (l.drop (askN (bs l)).toNat) = R at ih0 ⊢
    have hb := feed_behind 500 R.1 (orgS h p f (bs (l.take (askN (bs l)).toNat)))
    unfold PieceOk at hb
    rw [hr, if_pos rfl, List.nil_append] at hb
    simp only
    rw [hb]
    exact ⟨by rw [List.length_append, ih0.1, List.length_singleton, Nat.add_comm], ih0.2⟩
  · by_cases h3 : askE (bs l) = 3
    · rw [srv_short h p f l h3]
      rw [feed_nil]
      exact ⟨rfl, rfl⟩
    · rw [srv_bad h p f l h0 h3]
      obtain ⟨r, hr⟩ := feed_ans h p f (bs l) he hf
      simp only
      rw [hr]
      exact ⟨rfl, rfl⟩
/-- one piece more -/
theorem srv_step (h p f : List UInt8) (Q P l s : List UInt8) (n : Nat) (cl : Bool) (e : srvOf h p f Q = (P, l, n, cl)) : srvOf h p f (Q ++ s) = (P ++ (srvP h p f cl l s).1, (srvP h p f cl l s).2.1, n + (srvP h p f cl l s).2.2.1, (srvP h p f cl l s).2.2.2) := by
  have hb := srv_behind h p f s Q
  unfold SrvPiece at hb
  rw [e] at hb
  rw [hb]
  unfold srvP
  cases cl with
  | true => rw [if_pos rfl, if_pos rfl, List.append_nil, Nat.add_zero]
  | false => rw [if_neg (show ¬ (false = true) by decide), if_neg (show ¬ (false = true) by decide)]
theorem srv_nil (h p f : List UInt8) : srvOf h p f [] = ([], [], 0, false) := srv_short h p f [] (by decide +kernel)
/-- what is told to at most 2000 bytes is short -/
theorem srv_len (h p f : List UInt8) (l : List UInt8) (hl : l.length ≤ 2000) (hf : f.length ≤ 500) : (srvOf h p f l).1.length ≤ 600000 ∧ (srvOf h p f l).2.2.1 ≤ 118 := by
  have h1 := srv_few h p f l
  unfold SrvFew at h1
  have h2 := srv_rest h p f (by omega) l
  unfold SrvRest at h2
  obtain ⟨-, -, -, -, h3⟩ := h2
  have h4 : (srvOf h p f l).2.2.1 ≤ 118 := by omega
  exact ⟨Nat.le_trans h3 (Nat.le_trans (Nat.mul_le_mul h4 (show 4400 + f.length ≤ 4900 by omega)) (by decide)), h4⟩
end Go.Proofs.YtfjdppngeillcaaGreatDoor
namespace Go.Proofs.YtfjdppngeillcaaGreatDoor
open Go.RowKit
/-- the state of ServePieces' loop: two connections and a feed -/
structure PK (w wr : World) (b1 b2 p3 : Nat) (h p f : ByteArray) (l : List UInt8) (n : Nat) (cl : Bool) : Prop where
  c : CAt wr b1 h p f (!cl) l n
  d : CAt wr b2 h p f true [] 0
  g : FAt wr p3 500 [] 0 (.slice none 0 0)
  b' : Below w.heap.size w wr
  h1 : w.heap.size ≤ b1
  h2 : b1 < b2
  h3 : b2 < p3
theorem fs_none {p g : Nat} (h : FS p (.slice none 0 0) g) : g = p := h.elim id (fun e => by cases e)
theorem PK.next {w wr wa : World} {b1 b2 p3 : Nat} {h p f : ByteArray} {l l' : List UInt8} {n n' : Nat} {cl cl' : Bool} (k : PK w wr b1 b2 p3 h p f l n cl) (hc : CAt wa b1 h p f (!cl') l' n') (ht : Touch (fun g => g = b1) wr wa) : PK w wa b1 b2 p3 h p f l' n' cl' :=
  ⟨hc, k.d.touch ht (by have := k.h2; show ¬ (b2 = b1); omega), k.g.touch ht (fun g hg e => by have := fs_none hg; have : g = b1 := e; have := k.h2; have := k.h3; omega), below_touch k.b' ht k.h1, k.h1, k.h2, k.h3⟩
set_option maxRecDepth 100000 in
set_option maxHeartbeats 8000000 in
theorem servePieces_walk (h p f : ByteArray) (v : Value) (ls : List (List UInt8)) (w : World) (hE : EnvF w) (hv : StrArg w v ls) :
    Calls Tryz.prog 6 #[.agg #[.string h, .string p, .string f], v] w fun e w' => e = .returned (.bool true) ∧ Below w.heap.size w w' := by
  have HOv := Lib.hid (fun w => ref_oover h p f 500 w)
  have HB0 := Lib.hid (below_ro3 w (.string h) (.string p) (.string f))
  have HE := Lib.hid hE
  have HV := Lib.hid hv
  have HQ0 := Lib.hid (OAt.new w 23 h p f)
  obtain ⟨⟨va, vc, rfl, hvc, -⟩, -, hll⟩ := id hv
  unfold maxLen at hll
  obtain ⟨q0, q1, q2⟩ := HQ0.out.cells
  cases h1 : overO h.data.toList p.data.toList f.data.toList 500 with
  | true =>
    rw [h1] at HOv
    clear h1 hE hv
    go_enter Tryz.func6, Tryz.ntmps6
    go_wp2_with fail
    refine (HOv.out _).mono ?_
    rintro e w1 ⟨rfl, hb1⟩
    have HB1 := Lib.hid (bstep HB0.out hb1)
    clear hb1
    go_wp2_with fail
    refine (awake46 _ (HE.out.below HB1.out)).mono ?_
    rintro e w2 ⟨rfl, hb2⟩
    go_wp2_with fail
    go_ret
    exact ⟨rfl, bstep HB1.out hb2⟩
  | false =>
  rw [h1] at HOv
  have HO := Lib.hid (fun W (hW : Below w.heap.size w W) => over46 _ ls 20 2000 W (by decide) (by decide) (strArg_below hv hW))
  cases hov : overB ls 20 2000 with
  | true =>
    rw [hov] at HO
    clear h1 hE hv hov
    go_enter Tryz.func6, Tryz.ntmps6
    go_wp2_with fail
    refine (HOv.out _).mono ?_
    rintro e w1 ⟨rfl, hb1⟩
    have HB1 := Lib.hid (bstep HB0.out hb1)
    clear hb1
    go_wp2_with fail
    refine (HO.out _ HB1.out).mono ?_
    rintro e w' ⟨rfl, hww⟩
    obtain rfl := hww.symm
    clear hww
    go_wp2_with fail
    refine (awake46 _ (HE.out.below HB1.out)).mono ?_
    rintro e w2 ⟨rfl, hb2⟩
    go_wp2_with fail
    go_ret
    exact ⟨rfl, bstep HB1.out hb2⟩
  | false =>
  rw [hov] at HO
  have HSm := Lib.hid (small46 ls hov)
  have HF := Lib.hid (overO_false h p f 500 h1)
  have HFn := Lib.hid (fun W => feed_new 500 W (by decide) (by decide))
  by_cases he : orgE h.data.toList p.data.toList = 0
  case neg =>
    have HN := Lib.hid (fun W => srv_new_bad h p f W he)
    clear h1 hE hv hov he
    go_enter Tryz.func6, Tryz.ntmps6
    go_wp2_with fail
    refine (HOv.out _).mono ?_
    rintro e w1 ⟨rfl, hb1⟩
    have HB1 := Lib.hid (bstep HB0.out hb1)
    have HQ1 := Lib.hid (HQ0.out.below hb1)
    clear hb1
    go_wp2_with fail
    refine (HO.out _ HB1.out).mono ?_
    rintro e w' ⟨rfl, hww⟩
    obtain rfl := hww.symm
    clear hww q0 q1 q2
    obtain ⟨q0, q1, q2⟩ := HQ1.out.cells
    go_wp2_with fail
    refine (HN.out _).mono ?_
    rintro e w2 ⟨rfl, hb2⟩
    have HB2 := Lib.hid (bstep HB1.out hb2)
    have HQ2 := Lib.hid (HQ1.out.below hb2)
    clear hb2 q0 q1 q2
    obtain ⟨q0, q1, q2⟩ := HQ2.out.cells
    go_wp2_with fail
    refine (HN.out _).mono ?_
    rintro e w3 ⟨rfl, hb3⟩
    have HB3 := Lib.hid (bstep HB2.out hb3)
    clear hb3
    go_wp2_with fail
    refine (HFn.out _).mono ?_
    rintro e w4 ⟨rfl, -, hb4⟩
    have HB4 := Lib.hid (bstep HB3.out hb4)
    clear hb4
    go_wp2_with fail
    refine (awake46 _ (HE.out.below HB4.out)).mono ?_
    rintro e w5 ⟨rfl, hb5⟩
    go_wp2_with fail
    go_ret
    exact ⟨rfl, bstep HB4.out hb5⟩
  have HN := Lib.hid (fun W => srv_new h p f W he)
  have HFd := Lib.hid (fun l => srv_feed h.data.toList p.data.toList f.data.toList he (by rw [size_len]; have := HF.out; omega) l)
  obtain ⟨N, hn⟩ : ∃ N, ls.length = N := ⟨_, rfl⟩
  rw [hn] at hvc HV HO hll ⊢
  have HNN := Lib.hid hn
  clear h1 hE hv hov he hn
  go_enter Tryz.func6, Tryz.ntmps6
  go_wp2_with fail
  refine (HOv.out _).mono ?_
  rintro e w1 ⟨rfl, hb1⟩
  have HB1 := Lib.hid (bstep HB0.out hb1)
  have HQ1 := Lib.hid (HQ0.out.below hb1)
  clear hb1
  go_wp2_with fail
  refine (HO.out _ HB1.out).mono ?_
  rintro e w' ⟨rfl, hww⟩
  obtain rfl := hww.symm
  clear hww q0 q1 q2 HO HOv HB0 HQ0
  obtain ⟨q0, q1, q2⟩ := HQ1.out.cells
  go_wp2_with fail
  refine (HN.out _).mono ?_
  rintro e w2 ⟨b1, rfl, hb, hc2, hb2⟩
  have HC2 := Lib.hid hc2
  have HLb : Hid (w.heap.size ≤ b1) := Lib.hid (Nat.le_trans HB1.out.size hb)
  have HB2 := Lib.hid (bstep HB1.out hb2)
  have HQ2 := Lib.hid (HQ1.out.below hb2)
  clear hb2 q0 q1 q2 hb hc2 HQ1 HB1
  obtain ⟨q0, q1, q2⟩ := HQ2.out.cells
  go_wp2_with fail
  refine (HN.out _).mono ?_
  rintro e w3 ⟨b2, rfl, hb, hd3, hb3⟩
  have HB3 := Lib.hid (bstep HB2.out hb3)
  have HC3 := Lib.hid (HC2.out.below hb3)
  have HD3 := Lib.hid hd3
  have HLc : Hid (b1 < b2) := Lib.hid (Nat.lt_of_lt_of_le HC2.out.lt hb)
  clear hb3 q0 q1 q2 HB2 HC2 HQ2 HN hd3 hb
  go_wp2_with fail
  refine (HFn.out _).mono ?_
  rintro e w4 ⟨rfl, hg4, hb4⟩
  have HK : Hid (PK w w4 b1 b2 w3.heap.size h p f [] 0 false) := Lib.hid ⟨HC3.out.below hb4, HD3.out.below hb4, hg4, bstep HB3.out hb4, HLb.out, HLc.out, HD3.out.lt⟩
  clear HC3 HB3 HLb HLc HD3 hg4 hb4 HFn
  go_wp2_with fail
  generalize w3.heap.size = p3 at HK ⊢
  go_loopg [11, 12, 13] N (fun gk s11 s12 s13 wr => ∃ (k : Nat) (Q P l : List UInt8) (n : Nat) (cl : Bool), s13 = .int .i64 (k : Int) ∧ s12 = .string (bs Q) ∧ s11 = .string (bs P) ∧ k + gk = N ∧ Q = (ls.take k).flatten ∧ Hid (srvOf h.data.toList p.data.toList f.data.toList Q = (P, l, n, cl)) ∧ Hid (PK w wr b1 b2 p3 h p f l n cl))
  case atStart => exact ⟨0, [], [], [], 0, false, by simp, rfl, rfl, by omega, rfl, Lib.hid (srv_nil _ _ _), HK⟩
  case round =>
    obtain ⟨k, Q, P, l, n, cl, rfl, rfl, rfl, hgk, hQ, HR, HKr⟩ := hrel
    have hQl : Q.length ≤ 2000 := by have h1 := offF_le ls k; unfold offF at h1; rw [← hQ] at h1; have := HSm.out; omega
    have hff := HF.out
    have hPl := srv_len h.data.toList p.data.toList f.data.toList Q hQl (by rw [size_len]; omega)
    have hrst := srv_rest h.data.toList p.data.toList f.data.toList (by rw [size_len]; omega) Q
    unfold SrvRest at hrst
    rw [HR.out] at hPl hrst
    simp only at hPl hrst
    by_cases hk : k < N
    · obtain ⟨g', rfl⟩ : ∃ g', gk = g' + 1 := ⟨gk - 1, by omega⟩
      have hkl : k < ls.length := by rw [HNN.out]; exact hk
      obtain ⟨⟨va', vc', hv1, -, hx⟩, hsz, -⟩ := HV.out
      obtain ⟨bb, ob, rfl, hbl, hcell⟩ := hx (fun e => by rw [e] at hkl; exact absurd hkl (Nat.not_lt_zero _))
      injection hv1 with hv1 hv2 hv3
      subst hv1
      clear hv2 hv3
      have c0 : ∀ W, Below w.heap.size w W → W.cell? ⟨bb, ob + k, none⟩ = some (.string (bs ls[k])) := fun W hW => (hW.cell (p := ⟨bb, ob + k, none⟩) hbl).trans (hcell k hkl)
      have hQ2 : Q ++ ls[k] = (ls.take (k + 1)).flatten := by rw [hQ, List.take_succ_eq_append_getElem hkl, List.flatten_append]; simp
      have hQl2 : (Q ++ ls[k]).length ≤ 2000 := by have h1 := offF_le ls (k + 1); unfold offF at h1; rw [← hQ2] at h1; have := HSm.out; omega
      have hoff := hQl2
      rw [List.length_append] at hoff
      have hstep := srv_step h.data.toList p.data.toList f.data.toList Q P l ls[k] n cl HR.out
      have hPl2 := srv_len h.data.toList p.data.toList f.data.toList (Q ++ ls[k]) hQl2 (by rw [size_len]; omega)
      rw [hstep] at hPl2
      obtain ⟨s, hs⟩ : ∃ s, ls[k] = s := ⟨_, rfl⟩
      rw [hs] at c0 hQ2 hstep hPl2 hoff
      have HP := Lib.hid (fun (W : World) (hc : CAt W b1 h p f (!cl) l n) (hE : ∀ W', Touch (fun g => g = b1) W W' → EnvF W') => srv_put_any s hc hE (by omega) (by omega) (by omega))
      obtain ⟨⟨a, l', c', cl'⟩, hR⟩ : ∃ R, srvP h.data.toList p.data.toList f.data.toList cl l s = R := ⟨_, rfl⟩
      rw [hR] at hstep hPl2 HP
      unfold SPost at HP
      simp only at hstep hPl2 HP
      have HR2 := Lib.hid hstep
      have HQ2 := Lib.hid hQ2
      have paddQ := fun w => run_string_add_sum (P := Tryz.prog) w (bs Q) (bs s) (by rw [bs_size, bs_size]; omega)
      have paddP := fun w => run_string_add_sum (P := Tryz.prog) w (bs P) (bs a) (by rw [bs_size, bs_size]; rw [List.length_append] at hPl2; omega)
      rw [bs_cat] at paddQ paddP
      have HPp := Lib.hid (HP.out wr HKr.out.c (env_touch HE.out HKr.out.b' HKr.out.h1))
      have HC0 := Lib.hid c0
      have c1 := c0 wr HKr.out.b'
      have tk : decide ((k : Int) < (N : Int)) = true := decide_eq_true (by omega)
      clear hx hsz hcell c0 hs hR HK hkl hff hPl hPl2 hrst hstep hQ2 hQl hQl2 hoff hQ HP
      generalize bs s = S at c1 HC0 paddQ HPp
      go_wp2_with fail
      refine HPp.out.mono ?_
      rintro r wa ⟨rfl, hca, hta⟩
      have HKn := Lib.hid (HKr.out.next hca hta)
      have c1 := HC0.out wa HKn.out.b'
      clear hca hta HKr HPp
      go_wp2_with fail
      go_roundg g'
      case measure => omega
      case rel => exact ⟨k + 1, _, _, l', n + c', cl', by simp, rfl, rfl, by omega, HQ2.out, HR2, HKn⟩
    · obtain rfl : k = N := by omega
      have tk : decide ((k : Int) < (k : Int)) = false := decide_eq_false (by omega)
      have HPd := srv_put_any (cl := false) Q HKr.out.d (env_touch HE.out HKr.out.b' (Nat.le_trans HKr.out.h1 (Nat.le_of_lt HKr.out.h2))) (by simp only [List.length_nil]; omega) (by omega) (by decide)
      unfold srvP SPost at HPd
      rw [if_neg (show ¬ (false = true) by decide), List.nil_append, HR.out] at HPd
      simp only [Nat.zero_add] at HPd
      have HPd := Lib.hid HPd
      have hfd := HFd.out Q
      unfold SrvFeed at hfd
      rw [HR.out] at hfd
      simp only at hfd
      have HFe := Lib.hid hfd
      have HPl := Lib.hid hPl
      clear HK HSm hfd hff hPl hrst hQl hQ
      go_wp2_with fail
      refine HPd.out.mono ?_
      rintro r wa ⟨rfl, hda, hta⟩
      have hb2 : w.heap.size ≤ b2 := Nat.le_trans HKr.out.h1 (Nat.le_of_lt HKr.out.h2)
      have HDa := Lib.hid hda
      have HCa := Lib.hid (HKr.out.c.touch hta (by have := HKr.out.h2; show ¬ (b1 = b2); omega))
      have hga := HKr.out.g.touch hta (fun g hg e => by have := fs_none hg; have : g = b2 := e; have := HKr.out.h3; omega)
      have hba := below_touch HKr.out.b' hta hb2
      have HPf := feed_put (bs P) hga (fun W hW => HE.out.below (hba.trans (hW.below (fun g hg => by rw [fs_none hg]; exact Nat.le_trans hb2 (Nat.le_of_lt HKr.out.h3)) hba.size))) (by rw [bs_size]; have := HPl.out; simp only [List.length_nil]; omega)
      unfold FPost at HPf
      rw [bs_data, List.nil_append, HFe.out.2] at HPf
      have HPf := Lib.hid HPf
      have HBa := Lib.hid hba
      have HXb := Lib.hid (And.intro HKr.out.h2 (And.intro HKr.out.h3 hb2))
      clear hda hta hga hba hb2 HPd HKr
      go_wp2_with fail
      refine HPf.out.mono ?_
      rintro r wb ⟨rv, v', rfl, hgb, hrb, htb, -⟩
      obtain ⟨a, c, rfl⟩ := hrb.form
      have hbb : Below w.heap.size w wb := HBa.out.trans (htb.below (fun g hg => by rw [fs_none hg]; have := HXb.out; omega) HBa.out.size)
      have hcb := HCa.out.touch htb (fun hg => by have := fs_none hg; have := HXb.out; omega)
      have hdb := HDa.out.touch htb (fun hg => by have := fs_none hg; have := HXb.out; omega)
      have HCl1 := Lib.hid (srv_closed_is hcb)
      have HCl2 := Lib.hid (srv_closed_is hdb)
      have HSv1 := Lib.hid (srv_served_at hcb.blk)
      have HSv2 := Lib.hid (srv_served_at hdb.blk)
      have HRs1 := Lib.hid (srv_rest_at hcb.blk)
      have HRs2 := Lib.hid (srv_rest_at hdb.blk)
      have HEn := Lib.hid (feed_end_at hgb)
      rw [show endE [] 0 = 0 from rfl] at HEn
      have HBb := Lib.hid hbb
      rw [HFe.out.1]
      clear hcb hdb hgb hrb htb hbb HPf HBa HXb HCa HDa
      go_wp2_with fail
      refine HCl1.out.mono ?_
      rintro r w' ⟨rfl, hww⟩
      obtain rfl := hww.symm
      clear hww
      go_wp2_with fail
      refine HCl2.out.mono ?_
      rintro r w' ⟨rfl, hww⟩
      obtain rfl := hww.symm
      clear hww
      go_wp2_with fail
      refine HSv1.out.mono ?_
      rintro r w' ⟨rfl, hww⟩
      obtain rfl := hww.symm
      clear hww
      go_wp2_with fail
      refine HSv2.out.mono ?_
      rintro r w' ⟨rfl, hww⟩
      obtain rfl := hww.symm
      clear hww
      go_wp2_with fail
      refine HRs1.out.mono ?_
      rintro r w' ⟨rfl, hww⟩
      obtain rfl := hww.symm
      clear hww
      go_wp2_with fail
      refine HRs2.out.mono ?_
      rintro r w' ⟨rfl, hww⟩
      obtain rfl := hww.symm
      clear hww
      go_wp2_with fail
      refine HSv2.out.mono ?_
      rintro r w' ⟨rfl, hww⟩
      obtain rfl := hww.symm
      clear hww
      go_wp2_with fail
      refine HEn.out.mono ?_
      rintro r wc ⟨rfl, hbc⟩
      have HBc := Lib.hid (bstep HBb.out hbc)
      clear hbc
      go_wp2_with fail
      refine (awake46 _ (HE.out.below HBc.out)).mono ?_
      rintro r wz ⟨rfl, hbz⟩
      go_wp2_with fail
      go_ret
      exact ⟨rfl, bstep HBc.out hbz⟩
end Go.Proofs.YtfjdppngeillcaaGreatDoor
