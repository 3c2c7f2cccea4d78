/- strings.Map with the closure of titled, at an ASCII text. -/
import Derived.Test.YtgaojfebmcmpaaaGreatDoorTitledWalk
namespace Go.Proofs.YtgaojfebmcmpaaaGreatDoor
open Go.RowKit Go.Lib

theorem titL_step (b : Bool) (l : List UInt8) (k : Nat) (h : k < l.length) : titL b (l.drop k) = UInt8.ofNat (titN b l[k].toNat) :: titL (stB l[k]) (l.drop (k + 1)) := by
  rw [List.drop_eq_getElem_cons h]; rfl

theorem c_grow (b n : Nat) (w : World) (hbk : w.heap[b]? = some (.cells #[.pointer none, .slice none 0 0] 177 (0, 0))) (hBw : b ≤ w.heap.size) (hn : n ≤ 281474976710656) :
    Calls Tryz.prog 112 #[.pointer (some ⟨b, 0, none⟩), .int .i64 n] w fun e w' => e = .returned (.tuple #[]) ∧ (Lib.BuilderAt 177 5 b b (.pointer (some ⟨b, 0, none⟩)) [] w' ∧ Below b w w') ∧ ∃ p cap, w'.cell? ⟨b, 1, none⟩ = some (.slice p 0 cap) ∧ n ≤ cap :=
  Any.Builder_Grow_fresh_cap { Tryz.lays230 with } Tryz.Builder_Extra_230 b b n w (Nat.le_refl _) hbk hBw hn
theorem c_writeString (b : Nat) (l : List Value) (s : ByteArray) (w : World) (h : Lib.IsBuilderF 177 5 b b l w) (hlen : l.length + s.size ≤ 140737488355328) (hBw : b ≤ w.heap.size) :
    Calls Tryz.prog 113 #[.pointer (some ⟨b, 0, none⟩), .string s] w fun e w' => e = .returned (.tuple #[.int .i64 s.size, .nilIface]) ∧ (Lib.BuilderAtF 177 5 b b (.pointer (some ⟨b, 0, none⟩)) (l ++ Lib.strCells s) w' ∧ Below b w w' ∧ Lib.OthersKept 5 (some b) w w') ∧ ∀ v0, w.cell? ⟨b, 1, none⟩ = some v0 → ∃ v1, w'.cell? ⟨b, 1, none⟩ = some v1 ∧ v0.capOf ≤ v1.capOf :=
  Any.Builder_WriteString_kc { Tryz.lays230 with } Tryz.Builder_Extra_230 b b l s w h hlen hBw
theorem c_writeByte (b : Nat) (l : List Value) (c : Int) (w : World) (h : Lib.IsBuilderF 177 5 b b l w) (hlen : l.length + 1 ≤ 140737488355328) (hBw : b ≤ w.heap.size) :
    Calls Tryz.prog 197 #[.pointer (some ⟨b, 0, none⟩), .int .u8 c] w fun e w' => e = .returned .nilIface ∧ (Lib.BuilderAtF 177 5 b b (.pointer (some ⟨b, 0, none⟩)) (l ++ [.int .u8 c]) w' ∧ Below b w w' ∧ Lib.OthersKept 5 (some b) w w') :=
  Any.Builder_WriteByte_k { Tryz.lays230 with } Tryz.Builder_Extra_230 b b l c w h hlen hBw
theorem c_writeRune (b : Nat) (l : List Value) (r : Nat) (hr : r < 128) (w : World) (h : Lib.IsBuilderF 177 5 b b l w) (hlen : l.length + 4 ≤ 140737488355328) (hBw : b ≤ w.heap.size) :
    Calls Tryz.prog 195 #[.pointer (some ⟨b, 0, none⟩), .int .i32 (r : Int)] w fun e w' => e = .returned (.tuple #[.int .i64 1, .nilIface]) ∧ (Lib.BuilderAtF 177 5 b b (.pointer (some ⟨b, 0, none⟩)) (l ++ [.int .u8 (r : Int)]) w' ∧ Below b w w' ∧ Lib.OthersKept 5 (some b) w w') := by
  have h := Any.Builder_WriteRune_k { Tryz.lays230 with } Tryz.Builder_Extra_230 b b l (r : Int) (by omega) (by omega) w h hlen hBw
  have e : Lib.runeCells (r : Int) = [.int .u8 (r : Int)] := by unfold Lib.runeCells; rw [Lib.encodeRuneZ_one (by omega) (by omega)]; rfl
  rw [e] at h
  exact h
theorem c_string (b : Nat) (l : List UInt8) (w : World) (h : Lib.IsBuilderF 177 5 b b (Lib.byteCells l) w) (hBw : b ≤ w.heap.size) :
    Calls Tryz.prog 114 #[.pointer (some ⟨b, 0, none⟩)] w fun e w' => e = .returned (.string (bs l)) ∧ (Lib.IsBuilderF 177 5 b b (Lib.byteCells l) w' ∧ Below b w w') :=
  Any.Builder_String_any_f { Tryz.lays230 with } Tryz.Builder_Extra_230 b b l w h hBw
theorem c_cap (b : Nat) (p : Option Addr) (n cap : Nat) (w : World) (c1 : w.cell? ⟨b, 1, none⟩ = some (.slice p n cap)) :
    Calls Tryz.prog 196 #[.pointer (some ⟨b, 0, none⟩)] w fun e w' => e = .returned (.int .i64 cap) ∧ w' = w :=
  Any.Builder_Cap_cell { Tryz.lays230 with } b p n cap w c1
theorem c_runeLen (r : Nat) (hr : r < 128) (w : World) : Calls Tryz.prog 194 #[.int .i32 (r : Int)] w fun e w' => e = .returned (.int .i64 1) ∧ w' = w := by
  have h := Any.utf8_RuneLen { Tryz.lays230 with } (r : Int) w
  have e : Lib.runeLen (r : Int) = 1 := by unfold Lib.runeLen; rw [if_neg (by omega), if_pos (by omega)]
  rw [e] at h
  exact h

set_option maxRecDepth 100000 in
set_option maxHeartbeats 400000 in
theorem map_titled (s : ByteArray) (w : World) (c : Nat) (hs : s.size ≤ 1000000) (hasc : ∀ j (h : j < s.size), s[j].toNat < 128) (hcw : c < w.heap.size) (hcell : w.heap[c]? = some (.cells #[.bool true] 4 (0, 0))) :
    Calls Tryz.prog 164 #[.func (.func 178) #[] #[.pointer (some ⟨c, 0, none⟩)], .string s] w fun e w' => e = .returned (.string (bs (titL true s.data.toList))) ∧ Below c w w' := by
  have eg : ∀ args w, (callFunc 178 args).run Tryz.prog w = .ok (.enter 178 args) w := enters_of Tryz.func178 (by kernel_rfl) rfl
  obtain ⟨ANS, hANS⟩ : ∃ ANS, ANS = titL true s.data.toList := ⟨_, rfl⟩
  have hlen : s.data.toList.length = s.size := size_len s
  rw [← hANS]
  have HASC := Lib.hid hasc
  clear hasc
  go_enter Tryz.func164, Tryz.ntmps164
  go_wp2
  go_loopg [1] s.size (fun gk s1 wx => s1 = .string s ∧ ∃ (k : Nat) (b : Bool), wx.heap[w.heap.size]? = some (.cells #[.pointer none, .slice none 0 0] 177 (0, 0)) ∧ wx.heap[w.heap.size + 1]? = some (.stringIter s k) ∧ AtT w c b wx ∧
    s.data.toList.take k ++ titL b (s.data.toList.drop k) = ANS ∧ s.size ≤ k + gk ∧ k ≤ s.size)
  case atStart =>
    refine ⟨rfl, 0, true, ?_, ?_, ⟨?_, ?_⟩, by rw [hANS]; rfl, by omega, by omega⟩
    · have h1 := heap_alloc_new w (.cells #[.pointer none, .slice none 0 0] 177)
      exact (Below.heap_alloc _ _ _ (by simp)).trans h1
    · have := World.iter_heap (w.alloc (.cells #[.pointer none, .slice none 0 0] 177)) s 0
      simpa using this
    · exact (Below.heap_alloc _ _ _ (by simp; omega)).trans ((Below.heap_alloc _ _ _ (by omega)).trans hcell)
    · exact ((Below.refl c w).alloc (by omega) _).alloc (by simp; omega) _
  case round =>
    obtain ⟨rfl, k, b, hfr, hit, hAt, hsp, hfu, hks⟩ := hrel
    by_cases hlt : k < s.size
    · obtain ⟨g', rfl⟩ : ∃ g', gk = g' + 1 := ⟨gk - 1, by omega⟩
      have hch := HASC.out k hlt
      have hdec := decode_low s k hlt hch
      have hnx : ∀ ty, (Instr.next (.pointer (some ⟨w.heap.size + 1, 0, none⟩)) true ty).run Tryz.prog wr = _ := fun ty => Lib.run_next_any_at wr (w.heap.size + 1) s k ty hit hlt
      rw [hdec] at hnx
      have hst := titL_step b s.data.toList k (by rw [hlen]; exact hlt)
      change titL b (s.data.toList.drop k) = UInt8.ofNat (titN b s[k].toNat) :: titL (stB s[k]) (s.data.toList.drop (k + 1)) at hst
      obtain ⟨ch, hchq⟩ : ∃ ch, ch = s[k] := ⟨_, rfl⟩
      have htk : s.data.toList.take (k + 1) = s.data.toList.take k ++ [ch] := by
        rw [List.take_succ_eq_append_getElem (by rw [hlen]; exact hlt), hchq]; rfl
      rw [← hchq] at hst hch hnx
      have hit2 := Lib.iterAt_heap wr (w.heap.size + 1) s k (k + 1) hit
      have hfr2 : (wr.iterAt (w.heap.size + 1) s (k + 1)).heap[w.heap.size]? = _ := (Lib.iterAt_other wr (w.heap.size + 1) w.heap.size s (k + 1) (by omega)).trans hfr
      have hAt2 : AtT w c b (wr.iterAt (w.heap.size + 1) s (k + 1)) := hAt.below (Lib.below_iterAt (Below.refl (w.heap.size + 1) wr) (Nat.le_refl _) s (k + 1)) (by omega)
      obtain ⟨W, hW⟩ : ∃ W, wr.iterAt (w.heap.size + 1) s (k + 1) = W := ⟨_, rfl⟩
      rw [hW] at hnx hit2 hfr2 hAt2
      have cS := titled1 ch.toNat c b W hAt2.1 hch
      have hAt3 : AtT w c (stB ch) (W.setCell ⟨c, 0, none⟩ (.bool (stB ch))) := hAt2.set (stB ch)
      have hfr3 : (W.setCell ⟨c, 0, none⟩ (.bool (stB ch))).heap[w.heap.size]? = _ := (setCell_other W c w.heap.size (.bool (stB ch)) (by omega)).trans hfr2
      have hit3 : (W.setCell ⟨c, 0, none⟩ (.bool (stB ch))).heap[w.heap.size + 1]? = _ := (setCell_other W c (w.heap.size + 1) (.bool (stB ch)) (by omega)).trans hit2
      have hn1 : ((ch.toNat : Int) != 65533) = true := by rw [bne_iff_ne]; omega
      have hn2 : ((ch.toNat : Int) == 65533) = false := by rw [beq_eq_false_iff_ne]; omega
      have hn3 : ¬ (ch.toNat : Int) = 65533 := by omega
      have hM := titN_le b ch.toNat hch
      obtain ⟨M, hMq⟩ : ∃ M, M = titN b ch.toNat := ⟨_, rfl⟩
      rw [← hMq] at cS hst hM
      obtain ⟨W3, hW3⟩ : ∃ W3, W3 = W.setCell ⟨c, 0, none⟩ (.bool (stB ch)) := ⟨_, rfl⟩
      change Calls _ _ _ _ fun e w' => _ ∧ w' = W.setCell ⟨c, 0, none⟩ (.bool (stB ch)) at cS
      rw [← hW3] at cS hAt3 hfr3 hit3
      clear hit hfr hAt hW hAt2 hfr2 hit2 hMq hW3 hchq hdec
      by_cases hc : M = ch.toNat
      · have HS : Hid (s.data.toList.take (k + 1) ++ titL (stB ch) (s.data.toList.drop (k + 1)) = ANS) := Lib.hid (by
          rw [← hsp, hst, htk, hc, List.append_assoc]; simp)
        subst hc
        clear hst hsp htk
        go_wp2_with (go_at_fn 178; go_must (refine cS.mono ?_; rintro e W' ⟨rfl, rfl⟩))
        go_roundg g'
        case measure => omega
        case rel => exact ⟨rfl, k + 1, stB ch, hfr3, hit3, hAt3, HS.out, by omega, by omega⟩
      · have HS : Hid ((s.data.toList.take k ++ [UInt8.ofNat M]) ++ titL (stB ch) (s.data.toList.drop (k + 1)) = ANS) := Lib.hid (by
          rw [← hsp, hst, List.append_assoc]; rfl)
        have t1 : ((M : Int) == (ch.toNat : Int)) = false := by rw [beq_eq_false_iff_ne]; omega
        have hxs : (s.extract 0 k).size = k := by rw [ByteArray.size_extract]; omega
        have hxd : (s.extract 0 k).data.toList = s.data.toList.take k := by rw [extract_bs, bs_data, List.drop_zero]
        have hMch : ¬ (M : Int) = (ch.toNat : Int) := by omega
        clear hst hsp htk hc
        go_wp2_with fail
        refine cS.mono ?_
        rintro e W' ⟨rfl, rfl⟩
        go_wp2_with fail
        refine (c_runeLen ch.toNat hch _).mono ?_
        rintro e W' ⟨rfl, rfl⟩
        go_wp2_with fail
        have hsz3 : w.heap.size ≤ W'.heap.size := by have := (Array.getElem?_eq_some_iff.1 hfr3).1; omega
        have cG := c_grow w.heap.size (s.size + 4) W' hfr3 hsz3 (by omega)
        rw [show ((s.size + 4 : Nat) : Int) = (s.size : Int) + 4 by omega] at cG
        refine cG.mono ?_
        rintro e W4 ⟨rfl, ⟨h4, b4⟩, p4, cap4, hc4, hcap4⟩
        have hAt4 := hAt3.below b4 hcw
        have hsz4 : w.heap.size ≤ W4.heap.size := by have := b4.size; omega
        clear cG hfr3 hit3 hAt3 cS
        go_wp2_with fail
        refine (c_writeString w.heap.size [] (s.extract 0 k) W4 (Lib.IsBuilderF.of (Or.inr h4)) (by rw [hxs]; simp; omega) hsz4).mono ?_
        rintro e W5 ⟨rfl, ⟨h5, b5, -⟩, hk5⟩
        obtain ⟨v5, hv5, hcap5⟩ := hk5 _ hc4
        have hcap5' : 4 ≤ v5.capOf := by
          have : cap4 ≤ v5.capOf := hcap5
          omega
        have hAt5 := hAt4.below b5 hcw
        have hsz5 : w.heap.size ≤ W5.heap.size := by have := b5.size; omega
        clear hk5 hc4 h4 hAt4 b4 b5 hv5 hcap5 hcap5'
        go_wp2_with fail
        refine (c_writeRune w.heap.size _ M hM W5 (Or.inr h5) (by simp [Lib.strCells_length, hxs]; omega) hsz5).mono ?_
        rintro e W6 ⟨rfl, h6, b6, -⟩
        have hAt6 := hAt5.below b6 hcw
        have hsz6 : w.heap.size ≤ W6.heap.size := by have := b6.size; omega
        have hcells : [] ++ Lib.strCells (s.extract 0 k) ++ [Value.int .u8 (M : Int)] = Lib.byteCells (s.data.toList.take k ++ [UInt8.ofNat M]) := by
          rw [List.nil_append, Lib.strCells_eq, hxd, Lib.byteCells_append]
          congr 1
          unfold Lib.byteCells
          simp [UInt8.toNat_ofNat']
          omega
        rw [hcells] at h6
        obtain ⟨g6, n6, cap6, hc6, hcap6⟩ : ∃ g n cap, W6.cell? ⟨w.heap.size, 1, none⟩ = some (.slice (some ⟨g, 0, none⟩) n cap) ∧ 1 ≤ cap := by
          obtain ⟨_, v6, hv6, hown6, _⟩ := h6
          rcases hown6.2 with ⟨_, h0⟩ | ⟨g6, cap6, _, _, rfl, _, _, _, hnc, _⟩
          · exfalso
            simp [Lib.byteCells] at h0
          · refine ⟨g6, _, cap6, by rw [Lib.cell_of_heap hv6]; rfl, ?_⟩
            have : 1 ≤ (Lib.byteCells (s.data.toList.take k ++ [UInt8.ofNat M])).length := by rw [Lib.byteCells_length]; simp
            omega
        have hcz : ((cap6 : Int) == 0) = false := by rw [beq_eq_false_iff_ne]; omega
        have hBlt : w.heap.size < W6.heap.size := h6.lt
        clear h5 hAt5 hsz5 b6
        go_wp2_with fail
        refine (c_cap w.heap.size _ _ cap6 W6 hc6).mono ?_
        rintro e W' ⟨rfl, rfl⟩
        obtain ⟨s2, hs2⟩ : ∃ s2, s.extract (k + 1) s.size = s2 := ⟨_, rfl⟩
        have hl2 : s2.data.toList = s.data.toList.drop (k + 1) := by rw [← hs2, extract_bs, bs_data, ← hlen, List.take_length]
        have hz2 : s2.size = s.size - (k + 1) := by rw [← size_len, hl2, List.length_drop, hlen]
        have HASC2 : Hid (∀ j (h : j < s2.size), s2[j].toNat < 128) := Lib.hid (fun j h => by
          have := HASC.out (k + 1 + j) (by omega)
          have e : s2[j] = s[k + 1 + j] := by
            have : s2.data.toList[j]'(by rw [size_len]; exact h) = s.data.toList[k + 1 + j]'(by rw [size_len]; omega) := by
              simp only [hl2, List.getElem_drop]
            exact this
          rw [e]; exact this)
        go_wp2_with fail
        go_loopg [] s2.size (fun gk wx => ∃ (p : Nat) (acc : List UInt8) (st : Bool), Lib.IsBuilderF 177 5 w.heap.size w.heap.size (Lib.byteCells acc) wx ∧ wx.heap[W'.heap.size]? = some (.stringIter s2 p) ∧ AtT w c st wx ∧
          acc ++ titL st (s2.data.toList.drop p) = ANS ∧ s2.size ≤ p + gk ∧ p ≤ s2.size ∧ acc.length ≤ k + 1 + p)
        case atStart =>
          refine ⟨0, s.data.toList.take k ++ [UInt8.ofNat M], stB ch, Lib.IsBuilderF.alloc (Or.inr h6) _, World.iter_heap W' s2 0, hAt6.below ((Below.refl W'.heap.size W').alloc (Nat.le_refl _) _) (by omega), ?_, by omega, by omega, ?_⟩
          · rw [List.drop_zero, hl2]; exact HS.out
          · rw [List.length_append, List.length_take, hlen]; simp; omega
        case round =>
          obtain ⟨p, acc, st, hI, hit, hAt, hacc, hfu2, hp2, hal⟩ := hrel
          have hszI : W'.heap.size < wr.heap.size := (Array.getElem?_eq_some_iff.1 hit).1
          by_cases hlt2 : p < s2.size
          · obtain ⟨g2, rfl⟩ : ∃ g2, gk = g2 + 1 := ⟨gk - 1, by omega⟩
            have hch2 := HASC2.out p hlt2
            have hnx : ∀ ty, (Instr.next (.pointer (some ⟨W'.heap.size, 0, none⟩)) true ty).run Tryz.prog wr = _ := fun ty => Lib.run_next_any_at wr W'.heap.size s2 p ty hit hlt2
            rw [decode_low s2 p hlt2 hch2] at hnx
            have hst := titL_step st s2.data.toList p (by rw [size_len]; exact hlt2)
            change titL st (s2.data.toList.drop p) = UInt8.ofNat (titN st s2[p].toNat) :: titL (stB s2[p]) (s2.data.toList.drop (p + 1)) at hst
            obtain ⟨d, hd⟩ : ∃ d, d = s2[p] := ⟨_, rfl⟩
            rw [← hd] at hst hch2 hnx
            have hI2 := hI.iterAt hit (p + 1)
            have hit2 := Lib.iterAt_heap wr W'.heap.size s2 p (p + 1) hit
            have hAt2 : AtT w c st (wr.iterAt W'.heap.size s2 (p + 1)) := hAt.below (Lib.below_iterAt (Below.refl W'.heap.size wr) (Nat.le_refl _) s2 (p + 1)) (by omega)
            obtain ⟨Wa, hWa⟩ : ∃ Wa, wr.iterAt W'.heap.size s2 (p + 1) = Wa := ⟨_, rfl⟩
            rw [hWa] at hnx hI2 hit2 hAt2
            have cS := titled1 d.toNat c st Wa hAt2.1 hch2
            change Calls _ _ _ _ fun e w' => _ ∧ w' = Wa.setCell ⟨c, 0, none⟩ (.bool (stB d)) at cS
            have hAt3 := hAt2.set (stB d)
            have hit3 : (Wa.setCell ⟨c, 0, none⟩ (.bool (stB d))).heap[W'.heap.size]? = _ := (setCell_other Wa c W'.heap.size (.bool (stB d)) (by omega)).trans hit2
            have hI3 := isBuilder_keeps hI2 hcw (.bool (stB d))
            have hN := titN_le st d.toNat hch2
            obtain ⟨N, hNq⟩ : ∃ N, N = titN st d.toNat := ⟨_, rfl⟩
            rw [← hNq] at cS hst hN
            have HS2 : Hid ((acc ++ [UInt8.ofNat N]) ++ titL (stB d) (s2.data.toList.drop (p + 1)) = ANS) := Lib.hid (by
              rw [← hacc, hst, List.append_assoc]; rfl)
            obtain ⟨W3, hW3⟩ : ∃ W3, W3 = Wa.setCell ⟨c, 0, none⟩ (.bool (stB d)) := ⟨_, rfl⟩
            rw [← hW3] at cS hAt3 hit3 hI3
            have hsz3 : W'.heap.size < W3.heap.size := (Array.getElem?_eq_some_iff.1 hit3).1
            have n0 : (0 : Int) ≤ (N : Int) := by omega
            clear hd hI hit hAt hI2 hit2 hAt2 hWa hNq hW3 hst hacc
            go_wp2_with fail
            refine cS.mono ?_
            rintro e W7 ⟨rfl, rfl⟩
            go_wp2_with fail
            refine (c_writeByte w.heap.size _ (N : Int) W7 hI3 (by rw [Lib.byteCells_length]; omega) (by omega)).mono ?_
            rintro e W8 ⟨rfl, h8, b8, k8⟩
            go_wp2_with fail
            go_roundg g2
            case measure => omega
            case rel =>
              refine ⟨p + 1, acc ++ [UInt8.ofNat N], stB d, Or.inr ?_, k8.iter hit3 (by omega), hAt3.below b8 hcw, HS2.out, by omega, by omega, by rw [List.length_append]; simp; omega⟩
              rw [Lib.byteCells_append]
              have e1 : Lib.byteCells [UInt8.ofNat N] = [Value.int .u8 (N : Int)] := by
                unfold Lib.byteCells
                simp [UInt8.toNat_ofNat']
                omega
              rw [e1]; exact h8
          · obtain rfl : p = s2.size := by omega
            have hnx : ∀ ty, (Instr.next (.pointer (some ⟨W'.heap.size, 0, none⟩)) true ty).run Tryz.prog wr = _ := fun ty => Lib.run_next_end_at wr W'.heap.size s2 s2.size ty hit hlt2
            have HS2 : Hid (acc = ANS) := Lib.hid (by rw [← hacc, ← size_len s2, List.drop_length]; exact (List.append_nil _).symm)
            clear hacc hit
            go_wp2_with fail
            refine (c_string w.heap.size acc wr hI (by omega)).mono ?_
            rintro e W8 ⟨rfl, _, b8⟩
            go_wp2_with fail
            go_ret
            exact ⟨ret_str (by rw [HS2.out]), (hAt.below b8 hcw).2⟩
    · obtain rfl : k = s.size := by omega
      have hnx : ∀ ty, (Instr.next (.pointer (some ⟨w.heap.size + 1, 0, none⟩)) true ty).run Tryz.prog wr = _ := fun ty => Lib.run_next_end_at wr (w.heap.size + 1) s s.size ty hit hlt
      have cC : Calls Tryz.prog 196 #[.pointer (some ⟨w.heap.size, 0, none⟩)] wr fun e w' => e = .returned (.int .i64 0) ∧ w' = wr := c_cap w.heap.size none 0 0 wr (by rw [Lib.cell_of_heap hfr]; rfl)
      have HS : Hid (s = bs ANS) := Lib.hid (by rw [← hsp, ← hlen, List.drop_length, List.take_length]; show s = bs (_ ++ []); rw [List.append_nil, bs_self])
      clear hsp
      clear hit hfr
      go_wp2_with fail
      refine cC.mono ?_
      rintro e W' ⟨rfl, rfl⟩
      go_wp2_with fail
      go_ret
      exact ⟨ret_str HS.out, hAt.2⟩
end Go.Proofs.YtgaojfebmcmpaaaGreatDoor
