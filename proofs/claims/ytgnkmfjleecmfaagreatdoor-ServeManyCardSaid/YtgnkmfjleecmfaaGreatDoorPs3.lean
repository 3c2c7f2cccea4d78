/- What titled of package fields returns: strings.Map with a closure that keeps a state. strings.Map with the closure of titled, at an ASCII text. titled, small. Plain laws for names and lines of fields. Plain functions: what a field's line is parsed as (no program in sight). What Parse of package fields returns. Slices of fields in memory; what Get of package fields returns. A number's digits, as the reference lays them. What the law's Own and the reference's Get, Number and Digits of fields return. What Check and text of package ranges, and Check of its reference return. What numbers of package ranges returns. -/
import Derived.Test.YtgnkmfjleecmfaaGreatDoorPs2
import Derived.OneCell
import Derived.Shelf.Strings.MapAny
import Derived.Shelf.Strings.BuilderCap
import Derived.Deep.LoopGhost
import Derived.Deep.DeepMust
import Derived.Deep.DeepFit
import Derived.Deep.DeepCutAuto
import Derived.Lib.IndexMore
import Derived.Lib.SlTrimSet
import Derived.Lib.MapLaws
import Derived.Lib.TrimAscii
import Derived.Shelf.Strings.SlTrimAscii
import Derived.Shelf.Unicode.DecodeSlow
import Derived.Lib.LaidTab
import Derived.Lib.ItoaNum
import Derived.WalkSmall
import Derived.Laws.ResultCell
import Derived.Laws.Rows
import Derived.Laws.NewBlocks
set_option linter.unusedVariables false
namespace Go.Proofs.YtgnkmfjleecmfaaGreatDoor
open Go.RowKit

def titN (b : Bool) (c : Nat) : Nat := if (b && letN c) = true then c - 32 else c

theorem letN_lo (c : Nat) (h : c < 97) : letN c = false := by unfold letN; rw [decide_eq_false (by omega)]; rfl
theorem letN_hi (c : Nat) (h : 122 < c) : letN c = false := by unfold letN; rw [decide_eq_false (show ¬ c ≤ 122 by omega), Bool.and_false]
theorem letN_in (c : Nat) (h : 97 ≤ c) (h2 : c ≤ 122) : letN c = true := by unfold letN; rw [decide_eq_true h, decide_eq_true h2]; rfl

theorem titled1 (c B : Nat) (b : Bool) (w : World) (hblk : w.heap[B]? = some (.cells #[.bool b] 4 (0, 0))) (hc : c < 128) :
    Calls Tryz.prog 158 #[.int .i32 (c : Int), .pointer (some ⟨B, 0, none⟩)] w fun e w' => e = .returned (.int .i32 (titN b c : Nat)) ∧ w' = w.setCell ⟨B, 0, none⟩ (.bool ((c : Int) == 45)) := by
  have hcell : w.cell? ⟨B, 0, none⟩ = some (.bool b) := by unfold World.cell?; rw [hblk]; rfl
  have hfr : w.frozen? ⟨B, 0, none⟩ = false := by unfold World.frozen?; rw [hblk]; rfl
  cases b
  · have H : Hid (titN false c = c) := Lib.hid rfl
    go_enter Tryz.func158, Tryz.ntmps158
    go_wp2_with fail
    go_ret
    exact ⟨by rw [H.out]; rfl, rfl⟩
  · by_cases h1 : c < 97
    · have H : Hid (titN true c = c) := Lib.hid (by unfold titN; rw [letN_lo c h1]; rfl)
      have t1 : decide ((c : Int) ≥ 97) = false := by simp; omega
      go_enter Tryz.func158, Tryz.ntmps158
      go_wp2_with fail
      go_ret
      exact ⟨by rw [H.out]; rfl, rfl⟩
    · by_cases h2 : 122 < c
      · have H : Hid (titN true c = c) := Lib.hid (by unfold titN; rw [letN_hi c h2]; rfl)
        have t1 : decide ((c : Int) ≤ 122) = false := by simp; omega
        go_enter Tryz.func158, Tryz.ntmps158
        go_wp2_with fail
        go_ret
        exact ⟨by rw [H.out]; rfl, rfl⟩
      · have H : Hid (titN true c = c - 32) := Lib.hid (by unfold titN; rw [letN_in c (by omega) (by omega)]; rfl)
        have t1 : decide ((c : Int) ≤ 122) = true := by simp; omega
        have h3 : 97 ≤ c := by omega
        go_enter Tryz.func158, Tryz.ntmps158
        go_wp2_with fail
        go_ret
        refine ⟨ret_int ?_, rfl⟩
        rw [H.out]; omega

def stB (c : UInt8) : Bool := ((c.toNat : Nat) : Int) == 45
def titL : Bool → List UInt8 → List UInt8
  | _, [] => []
  | b, c :: t => UInt8.ofNat (titN b c.toNat) :: titL (stB c) t
theorem titN_le (b : Bool) (c : Nat) (h : c < 128) : titN b c < 128 := by unfold titN; split <;> omega

theorem builder_keeps {T e : TypeId} {B b c : Nat} {p : Value} {l : List Value} {w : World} (h : Go.Lib.BuilderAtF T e B b p l w) (hc : c < B) (v : Value) : Go.Lib.BuilderAtF T e B b p l (w.setCell ⟨c, 0, none⟩ v) := by
  obtain ⟨hB, x, hx, hown, hne⟩ := h
  have hnc : x.ownBlock ≠ some c := by
    rcases hown.2 with ⟨rfl, _⟩ | ⟨g, cap, cur, fz, rfl, hg, _⟩
    · simp [Value.ownBlock]
    · intro e
      have : g = c := by simpa [Value.ownBlock] using e
      omega
  refine ⟨hB, x, ?_, hown.kept (row := some c) ⟨rfl, rfl, rfl, by simp [World.setCell], fun k _ hk => Below.heap_setCell _ _ _ _ (fun e => hk (by simp [e]))⟩ (Or.inr hnc), hne⟩
  rw [← hx]
  exact Below.heap_setCell _ _ _ _ (show b ≠ c by omega)
theorem isBuilder_keeps {T e : TypeId} {B b c : Nat} {l : List Value} {w : World} (h : Go.Lib.IsBuilderF T e B b l w) (hc : c < B) (v : Value) : Go.Lib.IsBuilderF T e B b l (w.setCell ⟨c, 0, none⟩ v) :=
  h.elim (fun x => .inl (builder_keeps x hc v)) (fun x => .inr (builder_keeps x hc v))

/-- the closure's cell and what lies below it -/
def AtT (w0 : World) (c : Nat) (b : Bool) (w : World) : Prop := w.heap[c]? = some (.cells #[.bool b] 4 (0, 0)) ∧ Below c w0 w
theorem AtT.below {w0 w w' : World} {c B : Nat} {b : Bool} (h : AtT w0 c b w) (hb : Below B w w') (hB : c < B) : AtT w0 c b w' :=
  ⟨(hb.block c hB).trans h.1, h.2.trans (hb.mono (by omega))⟩
theorem AtT.set {w0 w : World} {c : Nat} {b : Bool} (h : AtT w0 c b w) (b' : Bool) : AtT w0 c b' (w.setCell ⟨c, 0, none⟩ (.bool b')) := by
  refine ⟨?_, h.2.setCell (p := ⟨c, 0, none⟩) (Nat.le_refl _) _⟩
  simp [World.setCell, Array.getElem?_modify, h.1]
theorem setCell_other (w : World) (c j : Nat) (v : Value) (h : j ≠ c) : (w.setCell ⟨c, 0, none⟩ v).heap[j]? = w.heap[j]? := Below.heap_setCell _ _ _ _ h
theorem setCell_size (w : World) (c : Nat) (v : Value) : (w.setCell ⟨c, 0, none⟩ v).heap.size = w.heap.size := by simp [World.setCell]
end Go.Proofs.YtgnkmfjleecmfaaGreatDoor
namespace Go.Proofs.YtgnkmfjleecmfaaGreatDoor
open Go.RowKit Go.Lib

theorem titL_step (b : Bool) (l : List UInt8) (k : Nat) (h : k < l.length) : titL b (l.drop k) = UInt8.ofNat (titN b l[k].toNat) :: titL (stB l[k]) (l.drop (k + 1)) := by
  rw [List.drop_eq_getElem_cons h]; rfl

theorem c_grow (b n : Nat) (w : World) (hbk : w.heap[b]? = some (.cells #[.pointer none, .slice none 0 0] 104 (0, 0))) (hBw : b ≤ w.heap.size) (hn : n ≤ 281474976710656) :
    Calls Tryz.prog 166 #[.pointer (some ⟨b, 0, none⟩), .int .i64 n] w fun e w' => e = .returned (.tuple #[]) ∧ (Lib.BuilderAt 104 5 b b (.pointer (some ⟨b, 0, none⟩)) [] w' ∧ Below b w w') ∧ ∃ p cap, w'.cell? ⟨b, 1, none⟩ = some (.slice p 0 cap) ∧ n ≤ cap :=
  Any.Builder_Grow_fresh_cap { Tryz.lays230 with } Tryz.Builder_Extra_230 b b n w (Nat.le_refl _) hbk hBw hn
theorem c_writeString (b : Nat) (l : List Value) (s : ByteArray) (w : World) (h : Lib.IsBuilderF 104 5 b b l w) (hlen : l.length + s.size ≤ 140737488355328) (hBw : b ≤ w.heap.size) :
    Calls Tryz.prog 54 #[.pointer (some ⟨b, 0, none⟩), .string s] w fun e w' => e = .returned (.tuple #[.int .i64 s.size, .nilIface]) ∧ (Lib.BuilderAtF 104 5 b b (.pointer (some ⟨b, 0, none⟩)) (l ++ Lib.strCells s) w' ∧ Below b w w' ∧ Lib.OthersKept 5 (some b) w w') ∧ ∀ v0, w.cell? ⟨b, 1, none⟩ = some v0 → ∃ v1, w'.cell? ⟨b, 1, none⟩ = some v1 ∧ v0.capOf ≤ v1.capOf :=
  Any.Builder_WriteString_kc { Tryz.lays230 with } Tryz.Builder_Extra_230 b b l s w h hlen hBw
theorem c_writeByte (b : Nat) (l : List Value) (c : Int) (w : World) (h : Lib.IsBuilderF 104 5 b b l w) (hlen : l.length + 1 ≤ 140737488355328) (hBw : b ≤ w.heap.size) :
    Calls Tryz.prog 169 #[.pointer (some ⟨b, 0, none⟩), .int .u8 c] w fun e w' => e = .returned .nilIface ∧ (Lib.BuilderAtF 104 5 b b (.pointer (some ⟨b, 0, none⟩)) (l ++ [.int .u8 c]) w' ∧ Below b w w' ∧ Lib.OthersKept 5 (some b) w w') :=
  Any.Builder_WriteByte_k { Tryz.lays230 with } Tryz.Builder_Extra_230 b b l c w h hlen hBw
theorem c_writeRune (b : Nat) (l : List Value) (r : Nat) (hr : r < 128) (w : World) (h : Lib.IsBuilderF 104 5 b b l w) (hlen : l.length + 4 ≤ 140737488355328) (hBw : b ≤ w.heap.size) :
    Calls Tryz.prog 167 #[.pointer (some ⟨b, 0, none⟩), .int .i32 (r : Int)] w fun e w' => e = .returned (.tuple #[.int .i64 1, .nilIface]) ∧ (Lib.BuilderAtF 104 5 b b (.pointer (some ⟨b, 0, none⟩)) (l ++ [.int .u8 (r : Int)]) w' ∧ Below b w w' ∧ Lib.OthersKept 5 (some b) w w') := by
  have h := Any.Builder_WriteRune_k { Tryz.lays230 with } Tryz.Builder_Extra_230 b b l (r : Int) (by omega) (by omega) w h hlen hBw
  have e : Lib.runeCells (r : Int) = [.int .u8 (r : Int)] := by unfold Lib.runeCells; rw [Lib.encodeRuneZ_one (by omega) (by omega)]; rfl
  rw [e] at h
  exact h
theorem c_string (b : Nat) (l : List UInt8) (w : World) (h : Lib.IsBuilderF 104 5 b b (Lib.byteCells l) w) (hBw : b ≤ w.heap.size) :
    Calls Tryz.prog 53 #[.pointer (some ⟨b, 0, none⟩)] w fun e w' => e = .returned (.string (bs l)) ∧ (Lib.IsBuilderF 104 5 b b (Lib.byteCells l) w' ∧ Below b w w') :=
  Any.Builder_String_any_f { Tryz.lays230 with } Tryz.Builder_Extra_230 b b l w h hBw
theorem c_cap (b : Nat) (p : Option Addr) (n cap : Nat) (w : World) (c1 : w.cell? ⟨b, 1, none⟩ = some (.slice p n cap)) :
    Calls Tryz.prog 168 #[.pointer (some ⟨b, 0, none⟩)] w fun e w' => e = .returned (.int .i64 cap) ∧ w' = w :=
  Any.Builder_Cap_cell { Tryz.lays230 with } b p n cap w c1
theorem c_runeLen (r : Nat) (hr : r < 128) (w : World) : Calls Tryz.prog 165 #[.int .i32 (r : Int)] w fun e w' => e = .returned (.int .i64 1) ∧ w' = w := by
  have h := Any.utf8_RuneLen { Tryz.lays230 with } (r : Int) w
  have e : Lib.runeLen (r : Int) = 1 := by unfold Lib.runeLen; rw [if_neg (by omega), if_pos (by omega)]
  rw [e] at h
  exact h

set_option maxRecDepth 100000 in
set_option maxHeartbeats 400000 in
theorem map_titled (s : ByteArray) (w : World) (c : Nat) (hs : s.size ≤ 1000000) (hasc : ∀ j (h : j < s.size), s[j].toNat < 128) (hcw : c < w.heap.size) (hcell : w.heap[c]? = some (.cells #[.bool true] 4 (0, 0))) :
    Calls Tryz.prog 131 #[.func (.func 158) #[] #[.pointer (some ⟨c, 0, none⟩)], .string s] w fun e w' => e = .returned (.string (bs (titL true s.data.toList))) ∧ Below c w w' := by
  have eg : ∀ args w, (callFunc 158 args).run Tryz.prog w = .ok (.enter 158 args) w := enters_of Tryz.func158 (by kernel_rfl) rfl
  obtain ⟨ANS, hANS⟩ : ∃ ANS, ANS = titL true s.data.toList := ⟨_, rfl⟩
  have hlen : s.data.toList.length = s.size := size_len s
  rw [← hANS]
  have HASC := Lib.hid hasc
  clear hasc
  go_enter Tryz.func131, Tryz.ntmps131
  go_wp2
  go_loopg [1] s.size (fun gk s1 wx => s1 = .string s ∧ ∃ (k : Nat) (b : Bool), wx.heap[w.heap.size]? = some (.cells #[.pointer none, .slice none 0 0] 104 (0, 0)) ∧ wx.heap[w.heap.size + 1]? = some (.stringIter s k) ∧ AtT w c b wx ∧
    s.data.toList.take k ++ titL b (s.data.toList.drop k) = ANS ∧ s.size ≤ k + gk ∧ k ≤ s.size)
  case atStart =>
    refine ⟨rfl, 0, true, ?_, ?_, ⟨?_, ?_⟩, by rw [hANS]; rfl, by omega, by omega⟩
    · have h1 := heap_alloc_new w (.cells #[.pointer none, .slice none 0 0] 104)
      exact (Below.heap_alloc _ _ _ (by simp)).trans h1
    · have := World.iter_heap (w.alloc (.cells #[.pointer none, .slice none 0 0] 104)) s 0
      simpa using this
    · exact (Below.heap_alloc _ _ _ (by simp; omega)).trans ((Below.heap_alloc _ _ _ (by omega)).trans hcell)
    · exact ((Below.refl c w).alloc (by omega) _).alloc (by simp; omega) _
  case round =>
    obtain ⟨rfl, k, b, hfr, hit, hAt, hsp, hfu, hks⟩ := hrel
    by_cases hlt : k < s.size
    · obtain ⟨g', rfl⟩ : ∃ g', gk = g' + 1 := ⟨gk - 1, by omega⟩
      have hch := HASC.out k hlt
      have hdec := decode_low s k hlt hch
      have hnx : ∀ ty, (Instr.next (.pointer (some ⟨w.heap.size + 1, 0, none⟩)) true ty).run Tryz.prog wr = _ := fun ty => Lib.run_next_any_at wr (w.heap.size + 1) s k ty hit hlt
      rw [hdec] at hnx
      have hst := titL_step b s.data.toList k (by rw [hlen]; exact hlt)
      change titL b (s.data.toList.drop k) = UInt8.ofNat (titN b s[k].toNat) :: titL (stB s[k]) (s.data.toList.drop (k + 1)) at hst
      obtain ⟨ch, hchq⟩ : ∃ ch, ch = s[k] := ⟨_, rfl⟩
      have htk : s.data.toList.take (k + 1) = s.data.toList.take k ++ [ch] := by
        rw [List.take_succ_eq_append_getElem (by rw [hlen]; exact hlt), hchq]; rfl
      rw [← hchq] at hst hch hnx
      have hit2 := Lib.iterAt_heap wr (w.heap.size + 1) s k (k + 1) hit
      have hfr2 : (wr.iterAt (w.heap.size + 1) s (k + 1)).heap[w.heap.size]? = _ := (Lib.iterAt_other wr (w.heap.size + 1) w.heap.size s (k + 1) (by omega)).trans hfr
      have hAt2 : AtT w c b (wr.iterAt (w.heap.size + 1) s (k + 1)) := hAt.below (Lib.below_iterAt (Below.refl (w.heap.size + 1) wr) (Nat.le_refl _) s (k + 1)) (by omega)
      obtain ⟨W, hW⟩ : ∃ W, wr.iterAt (w.heap.size + 1) s (k + 1) = W := ⟨_, rfl⟩
      rw [hW] at hnx hit2 hfr2 hAt2
      have cS := titled1 ch.toNat c b W hAt2.1 hch
      have hAt3 : AtT w c (stB ch) (W.setCell ⟨c, 0, none⟩ (.bool (stB ch))) := hAt2.set (stB ch)
      have hfr3 : (W.setCell ⟨c, 0, none⟩ (.bool (stB ch))).heap[w.heap.size]? = _ := (setCell_other W c w.heap.size (.bool (stB ch)) (by omega)).trans hfr2
      have hit3 : (W.setCell ⟨c, 0, none⟩ (.bool (stB ch))).heap[w.heap.size + 1]? = _ := (setCell_other W c (w.heap.size + 1) (.bool (stB ch)) (by omega)).trans hit2
      have hn1 : ((ch.toNat : Int) != 65533) = true := by rw [bne_iff_ne]; omega
      have hn2 : ((ch.toNat : Int) == 65533) = false := by rw [beq_eq_false_iff_ne]; omega
      have hn3 : ¬ (ch.toNat : Int) = 65533 := by omega
      have hM := titN_le b ch.toNat hch
      obtain ⟨M, hMq⟩ : ∃ M, M = titN b ch.toNat := ⟨_, rfl⟩
      rw [← hMq] at cS hst hM
      obtain ⟨W3, hW3⟩ : ∃ W3, W3 = W.setCell ⟨c, 0, none⟩ (.bool (stB ch)) := ⟨_, rfl⟩
      change Calls _ _ _ _ fun e w' => _ ∧ w' = W.setCell ⟨c, 0, none⟩ (.bool (stB ch)) at cS
      rw [← hW3] at cS hAt3 hfr3 hit3
      clear hit hfr hAt hW hAt2 hfr2 hit2 hMq hW3 hchq hdec
      by_cases hc : M = ch.toNat
      · have HS : Hid (s.data.toList.take (k + 1) ++ titL (stB ch) (s.data.toList.drop (k + 1)) = ANS) := Lib.hid (by
          rw [← hsp, hst, htk, hc, List.append_assoc]; simp)
        subst hc
        clear hst hsp htk
        go_wp2_with (go_at_fn 158; go_must (refine cS.mono ?_; rintro e W' ⟨rfl, rfl⟩))
        go_roundg g'
        case measure => omega
        case rel => exact ⟨rfl, k + 1, stB ch, hfr3, hit3, hAt3, HS.out, by omega, by omega⟩
      · have HS : Hid ((s.data.toList.take k ++ [UInt8.ofNat M]) ++ titL (stB ch) (s.data.toList.drop (k + 1)) = ANS) := Lib.hid (by
          rw [← hsp, hst, List.append_assoc]; rfl)
        have t1 : ((M : Int) == (ch.toNat : Int)) = false := by rw [beq_eq_false_iff_ne]; omega
        have hxs : (s.extract 0 k).size = k := by rw [ByteArray.size_extract]; omega
        have hxd : (s.extract 0 k).data.toList = s.data.toList.take k := by rw [extract_bs, bs_data, List.drop_zero]
        have hMch : ¬ (M : Int) = (ch.toNat : Int) := by omega
        clear hst hsp htk hc
        go_wp2_with fail
        refine cS.mono ?_
        rintro e W' ⟨rfl, rfl⟩
        go_wp2_with fail
        refine (c_runeLen ch.toNat hch _).mono ?_
        rintro e W' ⟨rfl, rfl⟩
        go_wp2_with fail
        have hsz3 : w.heap.size ≤ W'.heap.size := by have := (Array.getElem?_eq_some_iff.1 hfr3).1; omega
        have cG := c_grow w.heap.size (s.size + 4) W' hfr3 hsz3 (by omega)
        rw [show ((s.size + 4 : Nat) : Int) = (s.size : Int) + 4 by omega] at cG
        refine cG.mono ?_
        rintro e W4 ⟨rfl, ⟨h4, b4⟩, p4, cap4, hc4, hcap4⟩
        have hAt4 := hAt3.below b4 hcw
        have hsz4 : w.heap.size ≤ W4.heap.size := by have := b4.size; omega
        clear cG hfr3 hit3 hAt3 cS
        go_wp2_with fail
        refine (c_writeString w.heap.size [] (s.extract 0 k) W4 (Lib.IsBuilderF.of (Or.inr h4)) (by rw [hxs]; simp; omega) hsz4).mono ?_
        rintro e W5 ⟨rfl, ⟨h5, b5, -⟩, hk5⟩
        obtain ⟨v5, hv5, hcap5⟩ := hk5 _ hc4
        have hcap5' : 4 ≤ v5.capOf := by
          have : cap4 ≤ v5.capOf := hcap5
          omega
        have hAt5 := hAt4.below b5 hcw
        have hsz5 : w.heap.size ≤ W5.heap.size := by have := b5.size; omega
        clear hk5 hc4 h4 hAt4 b4 b5 hv5 hcap5 hcap5'
        go_wp2_with fail
        refine (c_writeRune w.heap.size _ M hM W5 (Or.inr h5) (by simp [Lib.strCells_length, hxs]; omega) hsz5).mono ?_
        rintro e W6 ⟨rfl, h6, b6, -⟩
        have hAt6 := hAt5.below b6 hcw
        have hsz6 : w.heap.size ≤ W6.heap.size := by have := b6.size; omega
        have hcells : [] ++ Lib.strCells (s.extract 0 k) ++ [Value.int .u8 (M : Int)] = Lib.byteCells (s.data.toList.take k ++ [UInt8.ofNat M]) := by
          rw [List.nil_append, Lib.strCells_eq, hxd, Lib.byteCells_append]
          congr 1
          unfold Lib.byteCells
          simp [UInt8.toNat_ofNat']
          omega
        rw [hcells] at h6
        obtain ⟨g6, n6, cap6, hc6, hcap6⟩ : ∃ g n cap, W6.cell? ⟨w.heap.size, 1, none⟩ = some (.slice (some ⟨g, 0, none⟩) n cap) ∧ 1 ≤ cap := by
          obtain ⟨_, v6, hv6, hown6, _⟩ := h6
          rcases hown6.2 with ⟨_, h0⟩ | ⟨g6, cap6, _, _, rfl, _, _, _, hnc, _⟩
          · exfalso
            simp [Lib.byteCells] at h0
          · refine ⟨g6, _, cap6, by rw [Lib.cell_of_heap hv6]; rfl, ?_⟩
            have : 1 ≤ (Lib.byteCells (s.data.toList.take k ++ [UInt8.ofNat M])).length := by rw [Lib.byteCells_length]; simp
            omega
        have hcz : ((cap6 : Int) == 0) = false := by rw [beq_eq_false_iff_ne]; omega
        have hBlt : w.heap.size < W6.heap.size := h6.lt
        clear h5 hAt5 hsz5 b6
        go_wp2_with fail
        refine (c_cap w.heap.size _ _ cap6 W6 hc6).mono ?_
        rintro e W' ⟨rfl, rfl⟩
        obtain ⟨s2, hs2⟩ : ∃ s2, s.extract (k + 1) s.size = s2 := ⟨_, rfl⟩
        have hl2 : s2.data.toList = s.data.toList.drop (k + 1) := by rw [← hs2, extract_bs, bs_data, ← hlen, List.take_length]
        have hz2 : s2.size = s.size - (k + 1) := by rw [← size_len, hl2, List.length_drop, hlen]
        have HASC2 : Hid (∀ j (h : j < s2.size), s2[j].toNat < 128) := Lib.hid (fun j h => by
          have := HASC.out (k + 1 + j) (by omega)
          have e : s2[j] = s[k + 1 + j] := by
            have : s2.data.toList[j]'(by rw [size_len]; exact h) = s.data.toList[k + 1 + j]'(by rw [size_len]; omega) := by
              simp only [hl2, List.getElem_drop]
            exact this
          rw [e]; exact this)
        go_wp2_with fail
        go_loopg [] s2.size (fun gk wx => ∃ (p : Nat) (acc : List UInt8) (st : Bool), Lib.IsBuilderF 104 5 w.heap.size w.heap.size (Lib.byteCells acc) wx ∧ wx.heap[W'.heap.size]? = some (.stringIter s2 p) ∧ AtT w c st wx ∧
          acc ++ titL st (s2.data.toList.drop p) = ANS ∧ s2.size ≤ p + gk ∧ p ≤ s2.size ∧ acc.length ≤ k + 1 + p)
        case atStart =>
          refine ⟨0, s.data.toList.take k ++ [UInt8.ofNat M], stB ch, Lib.IsBuilderF.alloc (Or.inr h6) _, World.iter_heap W' s2 0, hAt6.below ((Below.refl W'.heap.size W').alloc (Nat.le_refl _) _) (by omega), ?_, by omega, by omega, ?_⟩
          · rw [List.drop_zero, hl2]; exact HS.out
          · rw [List.length_append, List.length_take, hlen]; simp; omega
        case round =>
          obtain ⟨p, acc, st, hI, hit, hAt, hacc, hfu2, hp2, hal⟩ := hrel
          have hszI : W'.heap.size < wr.heap.size := (Array.getElem?_eq_some_iff.1 hit).1
          by_cases hlt2 : p < s2.size
          · obtain ⟨g2, rfl⟩ : ∃ g2, gk = g2 + 1 := ⟨gk - 1, by omega⟩
            have hch2 := HASC2.out p hlt2
            have hnx : ∀ ty, (Instr.next (.pointer (some ⟨W'.heap.size, 0, none⟩)) true ty).run Tryz.prog wr = _ := fun ty => Lib.run_next_any_at wr W'.heap.size s2 p ty hit hlt2
            rw [decode_low s2 p hlt2 hch2] at hnx
            have hst := titL_step st s2.data.toList p (by rw [size_len]; exact hlt2)
            change titL st (s2.data.toList.drop p) = UInt8.ofNat (titN st s2[p].toNat) :: titL (stB s2[p]) (s2.data.toList.drop (p + 1)) at hst
            obtain ⟨d, hd⟩ : ∃ d, d = s2[p] := ⟨_, rfl⟩
            rw [← hd] at hst hch2 hnx
            have hI2 := hI.iterAt hit (p + 1)
            have hit2 := Lib.iterAt_heap wr W'.heap.size s2 p (p + 1) hit
            have hAt2 : AtT w c st (wr.iterAt W'.heap.size s2 (p + 1)) := hAt.below (Lib.below_iterAt (Below.refl W'.heap.size wr) (Nat.le_refl _) s2 (p + 1)) (by omega)
            obtain ⟨Wa, hWa⟩ : ∃ Wa, wr.iterAt W'.heap.size s2 (p + 1) = Wa := ⟨_, rfl⟩
            rw [hWa] at hnx hI2 hit2 hAt2
            have cS := titled1 d.toNat c st Wa hAt2.1 hch2
            change Calls _ _ _ _ fun e w' => _ ∧ w' = Wa.setCell ⟨c, 0, none⟩ (.bool (stB d)) at cS
            have hAt3 := hAt2.set (stB d)
            have hit3 : (Wa.setCell ⟨c, 0, none⟩ (.bool (stB d))).heap[W'.heap.size]? = _ := (setCell_other Wa c W'.heap.size (.bool (stB d)) (by omega)).trans hit2
            have hI3 := isBuilder_keeps hI2 hcw (.bool (stB d))
            have hN := titN_le st d.toNat hch2
            obtain ⟨N, hNq⟩ : ∃ N, N = titN st d.toNat := ⟨_, rfl⟩
            rw [← hNq] at cS hst hN
            have HS2 : Hid ((acc ++ [UInt8.ofNat N]) ++ titL (stB d) (s2.data.toList.drop (p + 1)) = ANS) := Lib.hid (by
              rw [← hacc, hst, List.append_assoc]; rfl)
            obtain ⟨W3, hW3⟩ : ∃ W3, W3 = Wa.setCell ⟨c, 0, none⟩ (.bool (stB d)) := ⟨_, rfl⟩
            rw [← hW3] at cS hAt3 hit3 hI3
            have hsz3 : W'.heap.size < W3.heap.size := (Array.getElem?_eq_some_iff.1 hit3).1
            have n0 : (0 : Int) ≤ (N : Int) := by omega
            clear hd hI hit hAt hI2 hit2 hAt2 hWa hNq hW3 hst hacc
            go_wp2_with fail
            refine cS.mono ?_
            rintro e W7 ⟨rfl, rfl⟩
            go_wp2_with fail
            refine (c_writeByte w.heap.size _ (N : Int) W7 hI3 (by rw [Lib.byteCells_length]; omega) (by omega)).mono ?_
            rintro e W8 ⟨rfl, h8, b8, k8⟩
            go_wp2_with fail
            go_roundg g2
            case measure => omega
            case rel =>
              refine ⟨p + 1, acc ++ [UInt8.ofNat N], stB d, Or.inr ?_, k8.iter hit3 (by omega), hAt3.below b8 hcw, HS2.out, by omega, by omega, by rw [List.length_append]; simp; omega⟩
              rw [Lib.byteCells_append]
              have e1 : Lib.byteCells [UInt8.ofNat N] = [Value.int .u8 (N : Int)] := by
                unfold Lib.byteCells
                simp [UInt8.toNat_ofNat']
                omega
              rw [e1]; exact h8
          · obtain rfl : p = s2.size := by omega
            have hnx : ∀ ty, (Instr.next (.pointer (some ⟨W'.heap.size, 0, none⟩)) true ty).run Tryz.prog wr = _ := fun ty => Lib.run_next_end_at wr W'.heap.size s2 s2.size ty hit hlt2
            have HS2 : Hid (acc = ANS) := Lib.hid (by rw [← hacc, ← size_len s2, List.drop_length]; exact (List.append_nil _).symm)
            clear hacc hit
            go_wp2_with fail
            refine (c_string w.heap.size acc wr hI (by omega)).mono ?_
            rintro e W8 ⟨rfl, _, b8⟩
            go_wp2_with fail
            go_ret
            exact ⟨ret_str (by rw [HS2.out]), (hAt.below b8 hcw).2⟩
    · obtain rfl : k = s.size := by omega
      have hnx : ∀ ty, (Instr.next (.pointer (some ⟨w.heap.size + 1, 0, none⟩)) true ty).run Tryz.prog wr = _ := fun ty => Lib.run_next_end_at wr (w.heap.size + 1) s s.size ty hit hlt
      have cC : Calls Tryz.prog 168 #[.pointer (some ⟨w.heap.size, 0, none⟩)] wr fun e w' => e = .returned (.int .i64 0) ∧ w' = wr := c_cap w.heap.size none 0 0 wr (by rw [Lib.cell_of_heap hfr]; rfl)
      have HS : Hid (s = bs ANS) := Lib.hid (by rw [← hsp, ← hlen, List.drop_length, List.take_length]; show s = bs (_ ++ []); rw [List.append_nil, bs_self])
      clear hsp
      clear hit hfr
      go_wp2_with fail
      refine cC.mono ?_
      rintro e W' ⟨rfl, rfl⟩
      go_wp2_with fail
      go_ret
      exact ⟨ret_str HS.out, hAt.2⟩
end Go.Proofs.YtgnkmfjleecmfaaGreatDoor
namespace Go.Proofs.YtgnkmfjleecmfaaGreatDoor
open Go.RowKit

theorem fields_titled (s : ByteArray) (w : World) (hs : s.size ≤ 1000000) (hasc : ∀ j (h : j < s.size), s[j].toNat < 128) :
    Calls Tryz.prog 123 #[.string s] w fun e w' => e = .returned (.string (bs (titL true s.data.toList))) ∧ Below w.heap.size w w' := by
  have HM := Lib.hid (fun w c => map_titled s w c hs hasc)
  obtain ⟨A, hA⟩ : ∃ A, A = bs (titL true s.data.toList) := ⟨_, rfl⟩
  rw [← hA] at HM ⊢
  clear hasc hA
  go_enter Tryz.func123, Tryz.ntmps123
  go_wp2_with fail
  refine (HM.out _ w.heap.size (box_lt _ _ _) (heap_alloc_new w _)).mono ?_
  rintro e w1 ⟨rfl, hb⟩
  go_wp2_with fail
  go_ret
  exact ⟨rfl, (below_box w _ _).trans hb⟩

/-- a letter as a small one -/
def smallN (c : Nat) : Nat := if 65 ≤ c ∧ c ≤ 90 then c + 32 else c
theorem fields_small (c : Nat) (w : World) (hc : c ≤ 1114111) : Calls Tryz.prog 132 #[.int .i32 (c : Int)] w fun e w' => e = .returned (.int .i32 (smallN c : Nat)) ∧ w' = w := by
  by_cases h1 : c < 65
  · have H : Hid (smallN c = c) := Lib.hid (if_neg (by omega))
    have t : decide ((c : Int) ≥ 65) = false := by simp; omega
    go_enter Tryz.func132, Tryz.ntmps132
    go_wp2_with fail
    go_ret
    exact ⟨by rw [H.out]; rfl, rfl⟩
  · by_cases h2 : 90 < c
    · have H : Hid (smallN c = c) := Lib.hid (if_neg (by omega))
      have t : decide ((c : Int) ≤ 90) = false := by simp; omega
      go_enter Tryz.func132, Tryz.ntmps132
      go_wp2_with fail
      go_ret
      exact ⟨by rw [H.out]; rfl, rfl⟩
    · have H : Hid (smallN c = c + 32) := Lib.hid (if_pos (by omega))
      have t : decide ((c : Int) ≤ 90) = true := by simp; omega
      have h3 : 65 ≤ c := by omega
      go_enter Tryz.func132, Tryz.ntmps132
      go_wp2_with fail
      go_ret
      refine ⟨ret_int ?_, rfl⟩
      rw [H.out]; omega

def gapB (c : UInt8) : Bool := c == 32 || c == 9
end Go.Proofs.YtgnkmfjleecmfaaGreatDoor
namespace Go.Proofs.YtgnkmfjleecmfaaGreatDoor
open Go.RowKit
theorem all_at (q : UInt8 → Bool) (s : ByteArray) (k : Nat) (h : k < s.size) (hq : q s[k] = false) : s.data.toList.all q = false := by
  rw [List.all_eq_false]
  exact ⟨s[k], List.getElem_mem (by rw [size_len]; exact h), by simp [hq]⟩
theorem all_of (q : UInt8 → Bool) (s : ByteArray) (h : ∀ j (hj : j < s.size), q s[j] = true) : s.data.toList.all q = true := by
  rw [List.all_eq_true]
  intro c hc
  obtain ⟨k, hk, rfl⟩ := List.getElem_of_mem hc
  exact h k (by rw [← size_len]; exact hk)
theorem upto_step (q : UInt8 → Bool) (s : ByteArray) (k : Nat) (h : ∀ j, j < k → ∀ hj : j < s.size, q (s[j]'hj) = true) (hk : k < s.size) (hq : q s[k] = true) : ∀ j, j < k + 1 → ∀ hj : j < s.size, q (s[j]'hj) = true := by
  intro j hj hjs
  by_cases e : j = k
  · subst e; exact hq
  · exact h j (by omega) hjs

theorem named_cases (n : Nat) : (97 ≤ n ∧ n ≤ 122 ∧ namedN n = true) ∨ (48 ≤ n ∧ n ≤ 57 ∧ namedN n = true) ∨ (n = 45 ∧ namedN n = true) ∨ (n < 48 ∧ n ≠ 45 ∧ namedN n = false) ∨ (57 < n ∧ n < 97 ∧ namedN n = false) ∨ (122 < n ∧ namedN n = false) := by
  unfold namedN letN digN
  simp only [Bool.or_eq_true, Bool.and_eq_true, decide_eq_true_eq, beq_iff_eq, Bool.or_eq_false_iff, Bool.and_eq_false_iff, decide_eq_false_iff_not, beq_eq_false_iff_ne]
  omega
theorem nameL_not (l : List UInt8) (h : l.all (fun c => namedN c.toNat) = false) : nameL l = false := by unfold nameL; rw [h, Bool.and_false]
theorem nameL_len (s : ByteArray) (h : s.data.toList.all (fun c => namedN c.toNat) = true) : nameL s.data.toList = (decide (1 ≤ s.size) && decide (s.size ≤ 32)) := by
  unfold nameL
  rw [h, Bool.and_true, size_len]
  congr 1
  cases hl : s.data.toList with
  | nil => rw [decide_eq_false (by rw [← size_len, hl]; decide)]; rfl
  | cons a t => rw [decide_eq_true (by rw [← size_len, hl]; simp)]; rfl
end Go.Proofs.YtgnkmfjleecmfaaGreatDoor
namespace Go.Proofs.YtgnkmfjleecmfaaGreatDoor
open Go.RowKit

def smallB (c : UInt8) : UInt8 := UInt8.ofNat (smallN c.toNat)
/-- what stands ahead of the first colon -/
def ahead (l : List UInt8) : List UInt8 := l.takeWhile (fun c => c != 58)
def gapL : List UInt8 := [32, 9]
def parseName (l : List UInt8) : List UInt8 := (ahead l).map smallB
def parseVal (l : List UInt8) : List UInt8 := Go.Lib.trimS (l.drop ((ahead l).length + 1)) gapL
def plainAll (l : List UInt8) : Bool := l.all (fun c => plainB c.toNat)
def parseOk (l : List UInt8) : Bool := plainAll l && decide ((ahead l).length < l.length) && nameL (parseName l)
def parseN (l : List UInt8) : List UInt8 := if parseOk l = true then parseName l else []
def parseV (l : List UInt8) : List UInt8 := if parseOk l = true then parseVal l else []
def parseE (l : List UInt8) : Nat := if parseOk l = true then 0 else 4

theorem ahead_le (l : List UInt8) : (ahead l).length ≤ l.length := (List.takeWhile_prefix _).length_le
theorem ahead_take (l : List UInt8) : l.take (ahead l).length = ahead l := (List.prefix_iff_eq_take.1 (List.takeWhile_prefix _)).symm
theorem index58 (l : List UInt8) : Go.Lib.index l [58] = if (ahead l).length < l.length then ((ahead l).length : Int) else -1 := by
  induction l with
  | nil => rfl
  | cons c t ih =>
    unfold Go.Lib.index
    by_cases hc : c = 58
    · subst hc
      have : ahead (58 :: t) = [] := by unfold ahead; rw [List.takeWhile_cons_of_neg (by decide)]
      rw [this, if_pos (by simp [List.isPrefixOf]), if_pos (by simp)]; rfl
    · have ha : ahead (c :: t) = c :: ahead t := by unfold ahead; rw [List.takeWhile_cons_of_pos (by simpa using hc)]
      rw [if_neg (by simp [List.isPrefixOf]; exact fun h => hc h.symm), ih, ha]
      by_cases hlt : (ahead t).length < t.length
      · rw [if_pos hlt, if_neg (by rw [beq_iff_eq]; omega), if_pos (by simp; omega)]; simp
      · rw [if_neg hlt, if_pos (by decide), if_neg (by simp; omega)]
theorem cut58 (l : List UInt8) : Go.Lib.cut l [58] = if (ahead l).length < l.length then (ahead l, l.drop ((ahead l).length + 1), true) else (l, [], false) := by
  unfold Go.Lib.cut
  rw [index58]
  by_cases hlt : (ahead l).length < l.length
  · rw [if_pos hlt, if_pos (by omega), if_pos hlt, Int.toNat_natCast, ahead_take]; rfl
  · rw [if_neg hlt, if_neg (by decide), if_neg hlt]

theorem smallN_lt (c : Nat) (h : c < 128) : smallN c < 128 := by
  unfold smallN; split <;> omega
theorem mapD_small (l : List UInt8) (f : Int → Int) (hf : ∀ x : Nat, x < 128 → f x = (smallN x : Nat)) : ∀ h : (∀ c ∈ l, c.toNat < 128), Go.Lib.mapD f l = l.map smallB := by
  induction l with
  | nil => intro _; rfl
  | cons c t ih =>
    intro h
    have hc : c.toNat < 128 := h c (List.mem_cons_self ..)
    have hs := smallN_lt _ hc
    rw [Go.Lib.mapD_step f _ (by simp), Go.Lib.decodeL_ascii c t hc, hf _ hc, if_pos (by omega)]
    have e : Go.Lib.encodeRune ((smallN c.toNat : Nat) : Int) = [smallB c] := by
      unfold Go.Lib.encodeRune
      rw [Go.Lib.encodeRuneZ_one (by omega) (by omega)]
      rfl
    rw [e]
    show smallB c :: Go.Lib.mapD f t = _
    rw [ih (fun d hd => h d (List.mem_cons_of_mem _ hd))]; rfl
theorem plainB_lt (n : Nat) (h : plainB n = true) : n < 128 := by
  unfold plainB at h
  simp only [Bool.or_eq_true, beq_iff_eq, Bool.and_eq_true, decide_eq_true_eq] at h
  omega
theorem plainAll_lt (l : List UInt8) (h : plainAll l = true) : ∀ c ∈ l, c.toNat < 128 := fun c hc => plainB_lt _ (List.all_eq_true.1 h c hc)
theorem ahead_sub (l : List UInt8) (c : UInt8) (h : c ∈ ahead l) : c ∈ l := (List.takeWhile_subset _) h
end Go.Proofs.YtgnkmfjleecmfaaGreatDoor
namespace Go.Proofs.YtgnkmfjleecmfaaGreatDoor
open Go.RowKit

theorem c_cut (s : ByteArray) (w : World) (hs : s.size ≤ 1000000) (hE : EnvF w) (A V : ByteArray) (B : Bool)
    (h : Go.Lib.cut s.data.toList [58] = (A.data.toList, V.data.toList, B)) :
    Calls Tryz.prog 130 #[.string s, .string ⟨#[58]⟩] w fun e w' => e = .returned (.tuple #[.string A, .string V, .bool B]) ∧ Below w.heap.size w w' := by
  obtain ⟨m, hm⟩ := hE.m
  have hc := Tryz.strings_Cut s ⟨#[58]⟩ m w (by omega) hm
  refine hc.mono ?_
  rintro e w' ⟨rfl, n, rfl⟩
  refine ⟨?_, (fun n => by induction n with | zero => exact Below.refl _ _ | succ n ih => exact ih.drew : ∀ n, Below w.heap.size w (w.drewN n)) n⟩
  have h2 : Go.Lib.cut s.data.toList (ByteArray.mk #[58]).data.toList = (A.data.toList, V.data.toList, B) := h
  rw [h2]
theorem c_mapSmall (s : ByteArray) (w : World) (hs : s.size ≤ 1000000) (hE : EnvF w) (hasc : ∀ c ∈ s.data.toList, c.toNat < 128) :
    Calls Tryz.prog 131 #[.func (.func 132) #[] #[], .string s] w fun e w' => e = .returned (.string (bs (s.data.toList.map smallB))) ∧ Below w.heap.size w w' := by
  have h := Tryz.strings_Map_grows 132 #[] (enters_of Tryz.func132 (by kernel_rfl) rfl) (fun x => (smallN x.toNat : Nat)) s w (by omega)
    (fun W x hx _ => (fields_small x W hx).mono fun e w' ⟨he, hw⟩ => ⟨he, hw ▸ Below.refl _ _⟩)
    (fun x hx => by unfold smallN; rw [Int.toNat_natCast]; split <;> constructor <;> omega) hE.tabs
  rw [mapD_small s.data.toList _ (fun x hx => by rw [Int.toNat_natCast]) hasc] at h
  exact h
theorem c_trim (s : ByteArray) (w : World) (hs : s.size ≤ 1000000) :
    Calls Tryz.prog 121 #[.string s, .string ⟨#[32, 9]⟩] w fun e w' => e = .returned (.string (bs (Go.Lib.trimS s.data.toList gapL))) ∧ Below w.heap.size w w' :=
  Any.strings_Trim_laid Tryz.lays160 (by kernel_rfl) s ⟨#[32, 9]⟩ w (by omega) (by decide) (Go.Proofs.ascii_of_all (by decide))

/-- a block of two texts -/
structure Two (w : World) (b : Nat) (x y : Value) : Prop where
  c0 : w.cell? ⟨b, 0, none⟩ = some x
  c1 : w.cell? ⟨b, 1, none⟩ = some y
  f0 : w.frozen? ⟨b, 0, none⟩ = false
  f1 : w.frozen? ⟨b, 1, none⟩ = false
theorem two_of {w : World} {b : Nat} {x y : Value} {t : TypeId} (h : w.heap[b]? = some (.cells #[x, y] t (0, 0))) : Two w b x y :=
  ⟨by unfold World.cell?; rw [h]; rfl, by unfold World.cell?; rw [h]; rfl, by unfold World.frozen?; rw [h]; rfl, by unfold World.frozen?; rw [h]; rfl⟩
theorem two_box {w w1 : World} {x y : Value} {t : TypeId} (hb : Below (w.alloc (.cells #[x, y] t)).heap.size (w.alloc (.cells #[x, y] t)) w1) : w1.heap[w.heap.size]? = some (.cells #[x, y] t (0, 0)) :=
  (hb.block _ (by simp)).trans (heap_alloc_new w _)

/-- a result that lies in a block of two texts, and a number -/
theorem ret_field {fn : Func} {R : Ending → World → Prop} {a : Act} {w : World} {b : Nat} {x y E : Value} {p u : Tmp} {ty : TypeId} (hres : fn.results = #[.cell p ty, .tmp u])
    (hload : (loadVar ty ⟨b, 0, none⟩).run Tryz.prog w = .ok (.agg #[x, y]) w)
    (hp : a.tmps.getD p undef = .pointer (some ⟨b, 0, none⟩)) (hE : a.tmps.getD u undef = E) (hdef : a.defers = [])
    (hR : R (.returned (.tuple #[.agg #[x, y], E])) w) : bodyPost Tryz.prog fn R .ret a w := by
  refine bodyPost_ret_by (v := .tuple #[.agg #[x, y], E]) ?_ hdef hR
  rw [results_cell_tmp hres, hp, hE]
  simp [asAddr, hload, Result.andThen]
theorem load_own (w : World) (b : Nat) (t : TypeId) (x y : Value) (h : w.heap[b]? = some (.cells #[x, y] t (0, 0))) : (loadVar 149 ⟨b, 0, none⟩).run Tryz.prog w = .ok (.agg #[x, y]) w :=
  run_loadVar_row w b t 149 #[x, y] (0, 0) _ h Tryz.underlying149 rfl (by kernel_rfl)
theorem load_ref (w : World) (b : Nat) (t : TypeId) (x y : Value) (h : w.heap[b]? = some (.cells #[x, y] t (0, 0))) : (loadVar 74 ⟨b, 0, none⟩).run Tryz.prog w = .ok (.agg #[x, y]) w :=
  run_loadVar_row w b t 74 #[x, y] (0, 0) _ h Tryz.underlying74 rfl (by kernel_rfl)
theorem two_set {w : World} {b : Nat} {x y : Value} {t : TypeId} (h : w.heap[b]? = some (.cells #[x, y] t (0, 0))) (x' y' : Value) :
    ((w.setCell ⟨b, 0, none⟩ x').setCell ⟨b, 1, none⟩ y').heap[b]? = some (.cells #[x', y'] t (0, 0)) := by
  simp [World.setCell, Array.getElem?_modify, h]
theorem two_below {B : Nat} {w0 w : World} (h : Below B w0 w) (b : Nat) (hB : B ≤ b) (x' y' : Value) : Below B w0 ((w.setCell ⟨b, 0, none⟩ x').setCell ⟨b, 1, none⟩ y') :=
  (h.setCell (p := ⟨b, 0, none⟩) hB _).setCell (p := ⟨b, 1, none⟩) hB _

set_option maxRecDepth 100000 in
set_option maxHeartbeats 1000000 in
theorem fields_parse (s : ByteArray) (w : World) (hs : s.size ≤ 1000000) (hE : EnvF w) :
    Calls Tryz.prog 94 #[.string s] w fun e w' => e = .returned (.tuple #[.agg #[.string (bs (parseN s.data.toList)), .string (bs (parseV s.data.toList))], .int .i64 (parseE s.data.toList)]) ∧ Below w.heap.size w w' := by
  have HE := Lib.hid hE
  clear hE
  by_cases hcol : (ahead s.data.toList).length < s.data.toList.length
  · have hcut := cut58 s.data.toList
    rw [if_pos hcol] at hcut
    obtain ⟨A, hA⟩ : ∃ A, A = bs (ahead s.data.toList) := ⟨_, rfl⟩
    obtain ⟨V, hV⟩ : ∃ V, V = bs (s.data.toList.drop ((ahead s.data.toList).length + 1)) := ⟨_, rfl⟩
    have HC := Lib.hid (fun w hE => c_cut s w hs hE A V true (by rw [hcut, hA, hV, bs_data, bs_data]))
    have hsl := size_len s
    have hAl : A.size ≤ 1000000 := by rw [hA, bs_size]; have := ahead_le s.data.toList; omega
    have hVl : V.size ≤ 1000000 := by rw [hV, bs_size, List.length_drop]; omega
    cases hpl : plainAll s.data.toList with
    | false =>
      have HP : Hid (parseN s.data.toList = [] ∧ parseV s.data.toList = [] ∧ parseE s.data.toList = 4) := Lib.hid (by
        have : parseOk s.data.toList = false := by unfold parseOk; rw [hpl]; rfl
        unfold parseN parseV parseE; rw [this]; exact ⟨rfl, rfl, rfl⟩)
      have hfp := fun w => fields_plain s w (by omega)
      rw [show (s.data.toList.all (fun c => plainB c.toNat)) = false from hpl] at hfp
      have HFP := Lib.hid hfp
      clear hcol hcut hpl hfp hsl hA hV hAl hVl
      go_enter Tryz.func94, Tryz.ntmps94
      go_wp2_with fail
      refine (HC.out _ (HE.out.below ((Below.refl _ _).alloc (Nat.le_refl _) _))).mono ?_
      rintro e w1 ⟨rfl, hb1⟩
      obtain ⟨k0, k1, f0, f1⟩ := two_of (two_box hb1)
      go_wp2_with (go_at_call 120; refine (HFP.out _).mono ?_; rintro e w' ⟨rfl, rfl⟩)
      refine ret_field (b := w.heap.size) (x := .string ⟨#[]⟩) (y := .string ⟨#[]⟩) rfl (load_own _ _ _ _ _ (two_set (two_box hb1) _ _)) rfl rfl rfl ?_
      refine ⟨?_, two_below (((Below.refl _ _).alloc (Nat.le_refl _) _).trans (hb1.mono (by simp))) _ (Nat.le_refl _) _ _⟩
      rw [HP.out.1, HP.out.2.1, HP.out.2.2]; rfl
    | true =>
      have hfp := fun w => fields_plain s w (by omega)
      rw [show (s.data.toList.all (fun c => plainB c.toNat)) = true from hpl] at hfp
      have HFP := Lib.hid hfp
      have hasc : ∀ c ∈ A.data.toList, c.toNat < 128 := by
        rw [hA, bs_data]; intro c hc; exact plainAll_lt _ hpl c (ahead_sub _ c hc)
      have hms := fun w hE => c_mapSmall A w hAl hE hasc
      rw [show A.data.toList.map smallB = parseName s.data.toList by rw [hA, bs_data]; rfl] at hms
      have HMS := Lib.hid hms
      have HFN := Lib.hid (fun w => fields_name (bs (parseName s.data.toList)) w)
      have HT := Lib.hid (fun w => c_trim V w hVl)
      have hvv : bs (Go.Lib.trimS V.data.toList gapL) = bs (parseVal s.data.toList) := by rw [hV, bs_data]; rfl
      rw [hvv] at HT
      rw [bs_data] at HFN
      cases hnm : nameL (parseName s.data.toList) with
      | false =>
        have HP : Hid (parseN s.data.toList = [] ∧ parseV s.data.toList = [] ∧ parseE s.data.toList = 4) := Lib.hid (by
          have : parseOk s.data.toList = false := by unfold parseOk; rw [hnm, Bool.and_false]
          unfold parseN parseV parseE; rw [this]; exact ⟨rfl, rfl, rfl⟩)
        rw [hnm] at HFN
        obtain ⟨N, hN⟩ : ∃ N, N = bs (parseName s.data.toList) := ⟨_, rfl⟩
        rw [← hN] at HMS HFN
        clear hcol hcut hpl hfp hsl hA hV hAl hVl hasc hms hvv hnm hN HT
        go_enter Tryz.func94, Tryz.ntmps94
        go_wp2_with fail
        refine (HC.out _ (HE.out.below ((Below.refl _ _).alloc (Nat.le_refl _) _))).mono ?_
        rintro e w1 ⟨rfl, hb1⟩
        have HE1 := Lib.hid ((HE.out.below ((Below.refl _ _).alloc (Nat.le_refl _) _)).below hb1)
        go_wp2_with (go_at_call 120; refine (HFP.out _).mono ?_; rintro e w' ⟨rfl, rfl⟩)
        refine (HMS.out _ HE1.out).mono ?_
        rintro e w2 ⟨rfl, hb2⟩
        go_wp2_with fail
        refine (HFN.out _).mono ?_
        rintro e w3 ⟨rfl, hb3⟩
        have hb13 := bstep hb1 (bstep hb2 hb3)
        clear hb1 hb2 hb3
        obtain ⟨k0, k1, f0, f1⟩ := two_of (two_box hb13)
        go_wp2_with fail
        refine ret_field (b := w.heap.size) (x := .string ⟨#[]⟩) (y := .string ⟨#[]⟩) rfl (load_own _ _ _ _ _ (two_set (two_box hb13) _ _)) rfl rfl rfl ?_
        refine ⟨?_, two_below (((Below.refl _ _).alloc (Nat.le_refl _) _).trans (hb13.mono (by simp))) _ (Nat.le_refl _) _ _⟩
        rw [HP.out.1, HP.out.2.1, HP.out.2.2]; rfl
      | true =>
        have HP : Hid (parseN s.data.toList = parseName s.data.toList ∧ parseV s.data.toList = parseVal s.data.toList ∧ parseE s.data.toList = 0) := Lib.hid (by
          have : parseOk s.data.toList = true := by unfold parseOk; rw [hnm, hpl, decide_eq_true hcol]; rfl
          unfold parseN parseV parseE; rw [this]; exact ⟨rfl, rfl, rfl⟩)
        rw [hnm] at HFN
        obtain ⟨N, hN⟩ : ∃ N, N = bs (parseName s.data.toList) := ⟨_, rfl⟩
        obtain ⟨T, hT⟩ : ∃ T, T = bs (parseVal s.data.toList) := ⟨_, rfl⟩
        rw [← hN] at HMS HFN
        rw [← hT] at HT
        have HNT := Lib.hid (And.intro hN hT)
        clear hcol hcut hpl hfp hsl hA hV hAl hVl hasc hms hvv hnm hN hT
        go_enter Tryz.func94, Tryz.ntmps94
        go_wp2_with fail
        refine (HC.out _ (HE.out.below ((Below.refl _ _).alloc (Nat.le_refl _) _))).mono ?_
        rintro e w1 ⟨rfl, hb1⟩
        have HE1 := Lib.hid ((HE.out.below ((Below.refl _ _).alloc (Nat.le_refl _) _)).below hb1)
        go_wp2_with (go_at_call 120; refine (HFP.out _).mono ?_; rintro e w' ⟨rfl, rfl⟩)
        refine (HMS.out _ HE1.out).mono ?_
        rintro e w2 ⟨rfl, hb2⟩
        go_wp2_with fail
        refine (HFN.out _).mono ?_
        rintro e w3 ⟨rfl, hb3⟩
        go_wp2_with fail
        refine (HT.out _).mono ?_
        rintro e w4 ⟨rfl, hb4⟩
        have hb13 := bstep hb1 (bstep hb2 (bstep hb3 hb4))
        clear hb1 hb2 hb3 hb4
        obtain ⟨k0, k1, f0, f1⟩ := two_of (two_box hb13)
        go_wp2_with fail
        refine ret_field (b := w.heap.size) (x := .string N) (y := .string T) rfl (load_own _ _ _ _ _ (two_set (two_box hb13) _ _)) rfl rfl rfl ?_
        refine ⟨?_, two_below (((Below.refl _ _).alloc (Nat.le_refl _) _).trans (hb13.mono (by simp))) _ (Nat.le_refl _) _ _⟩
        rw [HP.out.1, HP.out.2.1, HP.out.2.2, ← HNT.out.1, ← HNT.out.2]; rfl
  · have hcut := cut58 s.data.toList
    rw [if_neg hcol] at hcut
    have HC := Lib.hid (fun w hE => c_cut s w hs hE s ⟨#[]⟩ false hcut)
    have HP : Hid (parseN s.data.toList = [] ∧ parseV s.data.toList = [] ∧ parseE s.data.toList = 4) := Lib.hid (by
      have : parseOk s.data.toList = false := by unfold parseOk; rw [decide_eq_false hcol, Bool.and_false, Bool.false_and]
      unfold parseN parseV parseE; rw [this]; exact ⟨rfl, rfl, rfl⟩)
    clear hcol hcut
    go_enter Tryz.func94, Tryz.ntmps94
    go_wp2_with fail
    refine (HC.out _ (HE.out.below ((Below.refl _ _).alloc (Nat.le_refl _) _))).mono ?_
    rintro e w1 ⟨rfl, hb1⟩
    obtain ⟨k0, k1, f0, f1⟩ := two_of (two_box hb1)
    go_wp2_with fail
    refine ret_field (b := w.heap.size) (x := .string ⟨#[]⟩) (y := .string ⟨#[]⟩) rfl (load_own _ _ _ _ _ (two_set (two_box hb1) _ _)) rfl rfl rfl ?_
    refine ⟨?_, two_below (((Below.refl _ _).alloc (Nat.le_refl _) _).trans (hb1.mono (by simp))) _ (Nat.le_refl _) _ _⟩
    rw [HP.out.1, HP.out.2.1, HP.out.2.2]; rfl
end Go.Proofs.YtgnkmfjleecmfaaGreatDoor
namespace Go.Proofs.YtgnkmfjleecmfaaGreatDoor
open Go.RowKit

/-- the slice v reads, in the world w, as the fields fs. -/
def HoldsF (w : World) (v : Value) (fs : List (List UInt8 × List UInt8)) : Prop :=
  ∃ a c, v = .slice a fs.length c ∧ fs.length ≤ c ∧ (fs ≠ [] → ∃ b o, a = some ⟨b, o, none⟩ ∧ b < w.heap.size ∧ ∀ j (hj : j < fs.length), w.cell? ⟨b, o + j * 2, none⟩ = some (.string (bs fs[j].1)) ∧ w.cell? ⟨b, o + j * 2 + 1, none⟩ = some (.string (bs fs[j].2)))
theorem HoldsF.below {w w' : World} {v : Value} {fs : List (List UInt8 × List UInt8)} (h : HoldsF w v fs) (hb : Below w.heap.size w w') : HoldsF w' v fs := by
  obtain ⟨a, c, hv, hc, hx⟩ := h
  refine ⟨a, c, hv, hc, fun hne => ?_⟩
  obtain ⟨b, o, ha, hlt, hcell⟩ := hx hne
  exact ⟨b, o, ha, Nat.lt_of_lt_of_le hlt hb.size, fun j hj => ⟨(hb.cell (p := ⟨b, o + j * 2, none⟩) hlt).trans (hcell j hj).1, (hb.cell (p := ⟨b, o + j * 2 + 1, none⟩) hlt).trans (hcell j hj).2⟩⟩
theorem HoldsF.nil (w : World) (a : Option Addr) (c : Nat) : HoldsF w (.slice a 0 c) [] := ⟨a, c, rfl, Nat.zero_le _, fun h => absurd rfl h⟩

/-- the cells of some fields -/
def fcells : List (List UInt8 × List UInt8) → List Value
  | [] => []
  | f :: t => .string (bs f.1) :: .string (bs f.2) :: fcells t
theorem fcells_length (fs : List (List UInt8 × List UInt8)) : (fcells fs).length = fs.length * 2 := by
  induction fs with
  | nil => rfl
  | cons f t ih => show (fcells t).length + 1 + 1 = (t.length + 1) * 2; omega
theorem fcells_get (fs : List (List UInt8 × List UInt8)) (j : Nat) (hj : j < fs.length) : (fcells fs)[j * 2]? = some (.string (bs fs[j].1)) ∧ (fcells fs)[j * 2 + 1]? = some (.string (bs fs[j].2)) := by
  induction fs generalizing j with
  | nil => exact absurd hj (Nat.not_lt_zero _)
  | cons f t ih =>
    cases j with
    | zero => exact ⟨rfl, rfl⟩
    | succ j =>
      have := ih j (by simp at hj; omega)
      rw [show (j + 1) * 2 = j * 2 + 1 + 1 by omega]
      exact this
theorem fcells_append (a b : List (List UInt8 × List UInt8)) : fcells (a ++ b) = fcells a ++ fcells b := by
  induction a with
  | nil => rfl
  | cons f t ih => show _ :: _ :: fcells (t ++ b) = _; rw [ih]; rfl
theorem HoldsF.of_cells {w : World} {b : Nat} {C : Array Value} {t : TypeId} {fs : List (List UInt8 × List UInt8)} {n : Nat} (hb : w.heap[b]? = some (.cells C t (0, 0))) (hC : C.toList = fcells fs) (hn : n = fs.length) : HoldsF w (.slice (some ⟨b, 0, none⟩) n n) fs := by
  subst hn
  refine ⟨_, _, rfl, Nat.le_refl _, fun _ => ⟨b, 0, rfl, (Array.getElem?_eq_some_iff.1 hb).1, fun j hj => ?_⟩⟩
  have h := fcells_get fs j hj
  rw [cell_of_row w b _ C t (0, 0) hb, cell_of_row w b _ C t (0, 0) hb, ← Array.getElem?_toList, ← Array.getElem?_toList, hC, Nat.zero_add]
  exact h
theorem HoldsF.of_own {w : World} {base n : Nat} {e : TypeId} {v : Value} {fs : List (List UInt8 × List UInt8)} (h : w.ownsRow base e 2 v n (fcells fs)) : HoldsF w v fs := by
  have hn : fs.length = n := by have := h.1; rw [fcells_length] at this; omega
  subst hn
  rcases h.2 with ⟨rfl, h0⟩ | ⟨g, cap, cur, rfl, hb, hg, hle, hm, hs, ht⟩
  · have : fs = [] := List.eq_nil_of_length_eq_zero h0
    subst this
    exact HoldsF.nil w none 0
  · refine ⟨_, cap, rfl, hle, fun _ => ⟨g, 0, rfl, (Array.getElem?_eq_some_iff.1 hg).1, fun j hj => ?_⟩⟩
    have h1 := h.cells (g := g) rfl (j * 2) _ (fcells_get fs j hj).1
    have h2 := h.cells (g := g) rfl (j * 2 + 1) _ (fcells_get fs j hj).2
    have e0 : ∀ k, (⟨g, 0, none⟩ : Addr).add k = ⟨g, 0 + k, none⟩ := fun k => by unfold Addr.add; split <;> simp_all
    rw [e0] at h1 h2
    exact ⟨h1, h2⟩

/-- the values of a name -/
def hits (fs : List (List UInt8 × List UInt8)) (n : List UInt8) : List (List UInt8) := (fs.filter (fun f => f.1 == n)).map (·.2)
def getE (fs : List (List UInt8 × List UInt8)) (n : List UInt8) : Nat := match hits fs n with | [] => 6 | [_] => 0 | _ => 22
def getS (fs : List (List UInt8 × List UInt8)) (n : List UInt8) : List UInt8 := match hits fs n with | [v] => v | _ => []
theorem hits_step (fs : List (List UInt8 × List UInt8)) (n : List UInt8) (k : Nat) (h : k < fs.length) : hits (fs.take (k + 1)) n = hits (fs.take k) n ++ (if fs[k].1 = n then [fs[k].2] else []) := by
  unfold hits
  rw [List.take_succ_eq_append_getElem h, List.filter_append, List.map_append]
  congr 1
  by_cases e : fs[k].1 = n
  · rw [if_pos e]; simp [e]
  · rw [if_neg e]; simp [e]
theorem hits_prefix (fs : List (List UInt8 × List UInt8)) (n : List UInt8) (k : Nat) : ∃ t, hits fs n = hits (fs.take k) n ++ t := by
  refine ⟨hits (fs.drop k) n, ?_⟩
  unfold hits
  rw [← List.map_append, ← List.filter_append, List.take_append_drop]
def GetSt (fs : List (List UInt8 × List UInt8)) (n : List UInt8) (k : Nat) (x e : Value) : Prop :=
  (hits (fs.take k) n = [] ∧ x = .string ⟨#[]⟩ ∧ e = .int .i64 6) ∨ ∃ v, hits (fs.take k) n = [v] ∧ x = .string (bs v) ∧ e = .int .i64 0
theorem get_end (fs : List (List UInt8 × List UInt8)) (n : List UInt8) (k : Nat) (hk : fs.length ≤ k) (x e : Value) (h : GetSt fs n k x e) : x = .string (bs (getS fs n)) ∧ e = .int .i64 (getE fs n) := by
  have ht : fs.take k = fs := List.take_of_length_le hk
  unfold GetSt at h
  rw [ht] at h
  unfold getS getE
  rcases h with ⟨h, hx, he⟩ | ⟨v, h, hx, he⟩
  · rw [h]; exact ⟨hx, he⟩
  · rw [h]; exact ⟨hx, he⟩
theorem get_twice (fs : List (List UInt8 × List UInt8)) (n : List UInt8) (k : Nat) (hk : k < fs.length) (v : List UInt8) (h : hits (fs.take k) n = [v]) (hn : fs[k].1 = n) : getS fs n = [] ∧ getE fs n = 22 := by
  obtain ⟨t, ht⟩ := hits_prefix fs n (k + 1)
  rw [hits_step fs n k hk, h, if_pos hn] at ht
  unfold getS getE
  rw [ht]
  exact ⟨rfl, rfl⟩
theorem ret_two {x y x' y' : Value} (h : x = x') (h2 : y = y') : Ending.returned (.tuple #[x, y]) = .returned (.tuple #[x', y']) := by rw [h, h2]

set_option maxRecDepth 100000 in
set_option maxHeartbeats 2000000 in
theorem fields_get (v : Value) (fs : List (List UInt8 × List UInt8)) (n : ByteArray) (w : World) (hv : HoldsF w v fs) (hlen : fs.length ≤ 1000000) :
    Calls Tryz.prog 95 #[v, .string n] w fun e w' => e = .returned (.tuple #[.string (bs (getS fs n.data.toList)), .int .i64 (getE fs n.data.toList)]) ∧ Below w.heap.size w w' := by
  obtain ⟨a, c, rfl, hc, hx⟩ := hv
  have HX := Lib.hid hx
  clear hx
  obtain ⟨m, rfl⟩ : ∃ m, n = bs m := ⟨n.data.toList, (bs_self n).symm⟩
  rw [bs_data]
  go_enter Tryz.func95, Tryz.ntmps95
  go_wp2_with fail
  go_loopw [6, 7, 12] (fun x e i wr => ∃ k : Nat, k ≤ fs.length ∧ i = .int .i64 k ∧ Below w.heap.size w wr ∧ GetSt fs m k x e) (fun _ _ i _ => fs.length - (intOf i).toNat)
  case atStart => exact ⟨0, by omega, rfl, Below.refl _ _, .inl ⟨rfl, rfl, rfl⟩⟩
  case round =>
    obtain ⟨k, hk, rfl, hb, hst⟩ := hrel
    by_cases hlt : k < fs.length
    · obtain ⟨b, o, rfl, hbl, hcell⟩ := HX.out (fun e => by rw [e] at hlt; exact absurd hlt (Nat.not_lt_zero _))
      have c0 := (hb.cell (p := ⟨b, o + k * 2, none⟩) hbl).trans (hcell k hlt).1
      have c1 := (hb.cell (p := ⟨b, o + k * 2 + 1, none⟩) hbl).trans (hcell k hlt).2
      have hstep := hits_step fs m k hlt
      have hcmp := bs_beq fs[k].1 m
      clear hcell
      by_cases hn : fs[k].1 = m
      · rw [if_pos hn] at hstep
        rw [decide_eq_true hn] at hcmp
        rcases hst with ⟨h0, rfl, rfl⟩ | ⟨v, h1, rfl, rfl⟩
        · have Hn : Hid (hits (fs.take (k + 1)) m = [fs[k].2]) := Lib.hid (by rw [hstep, h0]; rfl)
          have HF : Hid (fs = fs) := Lib.hid rfl
          clear hstep h0 hn HX
          obtain ⟨X, hX⟩ : ∃ X, X = bs fs[k].1 := ⟨_, rfl⟩
          obtain ⟨y, hy⟩ : ∃ y, y = fs[k].2 := ⟨_, rfl⟩
          rw [← hX] at c0 hcmp
          rw [← hy] at c1 Hn
          clear hX hy
          go_wp2_with fail
          go_roundw
          case rel => exact ⟨k + 1, by omega, by go_num, hb.trans (((Below.refl _ _).alloc (Nat.le_refl _) _).mono hb.size), .inr ⟨y, Hn.out, rfl, rfl⟩⟩
          case measure => simp [intOf]; omega
        · have HE := Lib.hid (get_twice fs m k hlt v h1 hn)
          clear hstep h1 hn HX
          obtain ⟨X, hX⟩ : ∃ X, X = bs fs[k].1 := ⟨_, rfl⟩
          rw [← hX] at c0 hcmp
          clear hX
          go_wp2_with fail
          go_ret2
          exact ⟨ret_two (by rw [HE.out.1]; rfl) (by rw [HE.out.2]; rfl), hb.trans (((Below.refl _ _).alloc (Nat.le_refl _) _).mono hb.size)⟩
      · rw [if_neg hn, List.append_nil] at hstep
        rw [decide_eq_false hn] at hcmp
        have Hst : Hid (GetSt fs m (k + 1) u6 u7) := Lib.hid (by unfold GetSt at hst ⊢; rw [hstep]; exact hst)
        clear hstep hst hn HX
        obtain ⟨X, hX⟩ : ∃ X, X = bs fs[k].1 := ⟨_, rfl⟩
        rw [← hX] at c0 hcmp
        clear hX
        go_wp2_with fail
        go_roundw
        case rel => exact ⟨k + 1, by omega, by go_num, hb.trans (((Below.refl _ _).alloc (Nat.le_refl _) _).mono hb.size), Hst.out⟩
        case measure => simp [intOf]; omega
    · have H := Lib.hid (get_end fs m k (by omega) _ _ hst)
      clear hst
      go_wp2_with fail
      go_ret2
      exact ⟨ret_two H.out.1 H.out.2, hb⟩
end Go.Proofs.YtgnkmfjleecmfaaGreatDoor
namespace Go.Proofs.YtgnkmfjleecmfaaGreatDoor
open Go.RowKit

theorem decDigits_len (n : Nat) (h : n < 18446744073709551616) : (Go.Lib.decDigits n).length ≤ 20 := by
  rw [Go.Lib.decDigits_length]
  have h1 := Go.Lib.numDigits_eq n
  rcases Nat.eq_zero_or_pos n with h0 | h0
  · subst h0; rw [Go.Lib.nDigits_small (by decide)]; decide
  · obtain ⟨h2, h3⟩ := h1 h0 h
    rw [← h2]; split <;> omega
theorem itoa_len (n : Int) (h0 : -9223372036854775808 ≤ n) (h1 : n ≤ 9223372036854775807) : (Go.Lib.itoa n).length ≤ 21 := by
  unfold Go.Lib.itoa
  split
  · have := decDigits_len n.natAbs (by omega); simp; omega
  · have := decDigits_len n.toNat (by omega); omega
theorem digit_slice (n : Nat) (h : n < 10) : (ByteArray.mk #[48, 49, 50, 51, 52, 53, 54, 55, 56, 57]).extract n (n + 1) = bs (Go.Lib.decDigits n) := by
  rw [extract_bs, Go.Lib.decDigits_one h]
  congr 1
  have : ∀ k : Fin 10, (((ByteArray.mk #[48, 49, 50, 51, 52, 53, 54, 55, 56, 57]).data.toList.take (k.val + 1)).drop k.val) = [UInt8.ofNat (48 + k.val)] := by decide +kernel
  exact this ⟨n, h⟩
theorem dec_split (n : Nat) (h : ¬ n < 10) : bs (Go.Lib.decDigits (n / 10)) ++ bs (Go.Lib.decDigits (n % 10)) = bs (Go.Lib.decDigits n) := by
  rw [bs_cat, Go.Lib.decDigits_one (show n % 10 < 10 by omega)]
  conv => rhs; rw [Go.Lib.decDigits, dif_neg h]
theorem ref_digits (k : Nat) : ∀ (n : Nat) (w : World), n ≤ k → n ≤ 9223372036854775807 →
    Calls Tryz.prog 39 #[.int .i64 n] w fun e w' => e = .returned (.string (bs (Go.Lib.decDigits n))) ∧ w' = w := by
  induction k using Nat.strongRecOn with
  | _ k ih =>
    intro n w hk hn
    by_cases h : n < 10
    · have hd := digit_slice n h
      have Hd := Lib.hid hd
      clear hd
      go_enter Tryz.func39, Tryz.ntmps39
      go_wp2_with fail
      go_ret
      exact ⟨ret_str Hd.out, rfl⟩
    · have Hs := Lib.hid (dec_split n h)
      have l1 := decDigits_len (n / 10) (by omega)
      have l2 := decDigits_len (n % 10) (by omega)
      obtain ⟨A, hA⟩ : ∃ A, A = bs (Go.Lib.decDigits (n / 10)) := ⟨_, rfl⟩
      obtain ⟨B, hB⟩ : ∃ B, B = bs (Go.Lib.decDigits (n % 10)) := ⟨_, rfl⟩
      have hAB : A.size + B.size ≤ 9223372036854775807 := by rw [hA, hB, bs_size, bs_size]; omega
      have HA := Lib.hid hA
      have HB := Lib.hid hB
      have h10 : 10 ≤ n := by omega
      have i1 := ih (n / 10) (by omega) (n / 10) w (Nat.le_refl _) (by omega)
      have i2 := ih (n % 10) (by omega) (n % 10) w (Nat.le_refl _) (by omega)
      rw [← hA] at i1
      rw [← hB] at i2
      have I1 := Lib.hid i1
      have I2 := Lib.hid i2
      clear hA hB i1 i2 h l1 l2
      go_enter Tryz.func39, Tryz.ntmps39
      go_wp2_with fail
      rw [show ((n : Int) / 10) = ((n / 10 : Nat) : Int) by omega]
      refine I1.out.mono ?_
      rintro e w' ⟨rfl, rfl⟩
      go_wp2_with fail
      rw [show ((n : Int) % 10) = ((n % 10 : Nat) : Int) by omega]
      refine I2.out.mono ?_
      rintro e w' ⟨rfl, rfl⟩
      go_wp2_with fail
      go_ret
      refine ⟨ret_str ?_, rfl⟩
      rw [HA.out, HB.out, Hs.out]
theorem itoa_nonneg (n : Int) (h : 0 ≤ n) : Go.Lib.itoa n = Go.Lib.decDigits n.toNat := by
  unfold Go.Lib.itoa; rw [if_neg (by omega)]
end Go.Proofs.YtgnkmfjleecmfaaGreatDoor
namespace Go.Proofs.YtgnkmfjleecmfaaGreatDoor
open Go.RowKit

theorem info_field : (Tryz.prog.info? 149).map (fun i => (i.zero, i.size, i.bytes)) = some (some (.agg #[.string ByteArray.empty, .string ByteArray.empty]), 2, 32) := by kernel_rfl
theorem cell_two_new (w : World) (x y : Value) (t : TypeId) : ∀ j u, [x, y][j]? = some u → (w.alloc (.cells #[x, y] t)).cell? ((⟨w.heap.size, 0, none⟩ : Addr).add j) = some u := by
  intro j u hj
  have hh := heap_alloc_new w (.cells #[x, y] t)
  have e0 : (⟨w.heap.size, 0, none⟩ : Addr).add j = ⟨w.heap.size, 0 + j, none⟩ := by unfold Addr.add; split <;> simp_all
  rw [e0]
  match j, hj with
  | 0, hj => simp at hj; subst hj; unfold World.cell?; rw [hh]; rfl
  | 1, hj => simp at hj; subst hj; unfold World.cell?; rw [hh]; rfl
/-- append of one field to a slice of the call's own. -/
theorem append_field {ops : Array Oper} {rest : List Oper} {o : Oper} {a : Act} {Q : Exit → Act → World → Prop} (w0 : World) (hgd : o.guard = none) (s x : Operand)
    (ho : o.op = .call { callee := .builtin .append, args := #[s, x], argTypes := #[61, 61] })
    (base : Nat) (v : Value) (fs : List (List UInt8 × List UInt8)) (hs : a.eval s = v) (hown : w0.ownsRow base 149 2 v fs.length (fcells fs))
    (p q : ByteArray) (f : List UInt8 × List UInt8) (hp : p = bs f.1) (hq : q = bs f.2) (hx : a.eval x = .slice (some ⟨w0.heap.size, 0, none⟩) 1 1) (hn : fs.length < 2147483648) (hbase : base ≤ w0.heap.size)
    (h : ∀ v' w', w'.ownsRow base 149 2 v' (fs ++ [f]).length (fcells (fs ++ [f])) → w0.grownBy w' v.ownBlock → v' ≠ .slice none 0 0 → wpList Tryz.prog ops Q rest (a.put o.dst v') w') :
    wpList Tryz.prog ops Q (o :: rest) a (w0.alloc (.cells #[.string p, .string q] 149)) := by
  obtain ⟨i0, hi, hz0, hz1, hz2⟩ := info_parts info_field
  subst hp hq
  refine wpList_append_own _ hgd s x 61 ho base 149 i0 _ 2 32 Tryz.underlying61 hi hz0 hz1 hz2 rfl (by decide) v fs.length (fcells fs) hs (hown.alloc _) ⟨w0.heap.size, 0, none⟩ 1 1 [.string (bs f.1), .string (bs f.2)] hx rfl (cell_two_new w0 _ _ _) (by simp [Value.oneCell']) (by unfold maxLen; omega) (by omega) (by simp; omega) ?_
  intro v' w' h2 h3 h4
  refine h v' w' ?_ ?_ (fun e => by have := (h4.1 e).2; omega)
  · rw [List.length_append, fcells_append]; exact h2
  · exact ⟨h3.os, h3.tape, h3.output, Nat.le_trans (by simp) h3.size, fun k hk hne => (h3.block k (by simp; omega) hne).trans (heap_alloc_old w0 _ hk)⟩
theorem below_ownF {B : Nat} {w wr w' : World} {base : Nat} {e : TypeId} {size : Nat} {v : Value} {n : Nat} {xs : List Value} (hb : Below B w wr) (hg : wr.grownBy w' v.ownBlock) (hown : wr.ownsRow base e size v n xs) (hB : B ≤ base) (hB2 : B ≤ wr.heap.size) : Below B w w' :=
  hb.grown hg hB2 fun k hk => Nat.le_trans hB (hown.lt k hk).1

def OwnPost (fs : List (List UInt8 × List UInt8)) (w : World) (e : Ending) (w' : World) : Prop := ∃ v, e = .returned v ∧ HoldsF w' v fs ∧ Below w.heap.size w w'
/-- where a name stands, told as the reference counts. -/
def RGet (fs : List (List UInt8 × List UInt8)) (m : List UInt8) (k : Nat) (x y : Value) : Prop :=
  ∃ c t : Nat, x = .int .i64 c ∧ y = .int .i64 t ∧ c = (hits (fs.take k) m).length ∧ c ≤ k ∧ (0 < c → ∃ h : t < fs.length, (hits (fs.take k) m).getLast? = some fs[t].2)
theorem hits_all (fs : List (List UInt8 × List UInt8)) (m : List UInt8) (k : Nat) (h : fs.length ≤ k) : hits (fs.take k) m = hits fs m := by rw [List.take_of_length_le h]
theorem ref_digitsZ (n : Int) (w : World) (h1 : n ≤ 9223372036854775807) :
    Calls Tryz.prog 39 #[.int .i64 n] w fun e w' => e = .returned (.string (bs (digL n))) ∧ w' = w := by
  by_cases hn : n < 0
  · have H : Hid (digL n = []) := Lib.hid (if_pos hn)
    go_enter Tryz.func39, Tryz.ntmps39
    go_wp2_with fail
    go_ret
    exact ⟨by rw [H.out]; rfl, rfl⟩
  · obtain ⟨k, rfl⟩ := Int.eq_ofNat_of_zero_le (show 0 ≤ n by omega)
    have := ref_digits k k w (Nat.le_refl _) (by omega)
    rw [show digL (k : Int) = Go.Lib.decDigits k from if_neg hn]
    exact this

/-- the reference's reading of a number: what is known behind k digits -/
def RNum (l : List UInt8) (k : Nat) (x y : Value) : Prop := ∃ (n : Nat) (b : Bool), x = .int .i64 n ∧ y = .bool b ∧ n ≤ 9007199254740991 ∧ b = decide (9007199254740991 < decV (l.take k)) ∧ (b = false → n = decV (l.take k))
theorem rnum_step (l : List UInt8) (k n : Nat) (b : Bool) (hk : k < l.length) (hn : n ≤ 9007199254740991) (hb : b = decide (9007199254740991 < decV (l.take k))) (hv : b = false → n = decV (l.take k)) (hd : 48 ≤ l[k].toNat ∧ l[k].toNat ≤ 57) :
    (9007199254740991 < n * 10 + (l[k].toNat - 48) → RNum l (k + 1) (.int .i64 0) (.bool true)) ∧ (¬ 9007199254740991 < n * 10 + (l[k].toNat - 48) → RNum l (k + 1) (.int .i64 ((n * 10 + (l[k].toNat - 48) : Nat) : Int)) (.bool b)) := by
  have hs : decV (l.take (k + 1)) = decV (l.take k) * 10 + (l[k].toNat - 48) := by
    rw [List.take_succ_eq_append_getElem hk, decV_snoc]
  constructor
  · intro h
    refine ⟨0, true, rfl, rfl, by omega, ?_, fun h => absurd h (by decide)⟩
    rw [eq_comm, decide_eq_true_eq, hs]
    cases b with
    | true => have := of_decide_eq_true hb.symm; omega
    | false => have := hv rfl; omega
  · intro h
    refine ⟨_, b, rfl, rfl, by omega, ?_, fun e => by rw [hs, ← hv e]⟩
    cases b with
    | true => have := of_decide_eq_true hb.symm; rw [eq_comm, decide_eq_true_eq, hs]; omega
    | false => have := hv rfl; rw [eq_comm, decide_eq_false_iff_not, hs]; omega

end Go.Proofs.YtgnkmfjleecmfaaGreatDoor
namespace Go.Proofs.YtgnkmfjleecmfaaGreatDoor
open Go.RowKit

set_option maxRecDepth 100000 in
theorem ranges_check (a b : Int) (w : World) :
    Calls Tryz.prog 113 #[.agg #[.int .i64 a, .int .i64 b]] w fun e w' => e = .returned (.int .i64 (rErr a b : Nat)) ∧ Below w.heap.size w w' := by
  by_cases h1 : a < 0
  · have H : Hid (rErr a b = 8) := Lib.hid (if_pos (.inl h1))
    have t1 : decide (a < 0) = true := decide_eq_true h1
    go_enter Tryz.func113, Tryz.ntmps113
    go_wp2_with fail
    go_ret
    exact ⟨by rw [H.out]; rfl, (Below.refl _ _).alloc (Nat.le_refl _) _⟩
  have t1 : decide (a < 0) = false := decide_eq_false h1
  by_cases h2 : b < a
  · have H : Hid (rErr a b = 8) := Lib.hid (if_pos (.inr (.inl h2)))
    have t2 : decide (a > b) = true := decide_eq_true h2
    go_enter Tryz.func113, Tryz.ntmps113
    go_wp2_with fail
    go_ret
    exact ⟨by rw [H.out]; rfl, (Below.refl _ _).alloc (Nat.le_refl _) _⟩
  have t2 : decide (a > b) = false := decide_eq_false h2
  by_cases h3 : 9007199254740990 < b
  · have H : Hid (rErr a b = 8) := Lib.hid (if_pos (.inr (.inr h3)))
    have t3 : decide (b > 9007199254740990) = true := decide_eq_true h3
    go_enter Tryz.func113, Tryz.ntmps113
    go_wp2_with fail
    go_ret
    exact ⟨by rw [H.out]; rfl, (Below.refl _ _).alloc (Nat.le_refl _) _⟩
  · have H : Hid (rErr a b = 0) := Lib.hid (if_neg (fun h => h.elim h1 (fun h => h.elim h2 h3)))
    have t3 : decide (b > 9007199254740990) = false := decide_eq_false h3
    go_enter Tryz.func113, Tryz.ntmps113
    go_wp2_with fail
    go_ret
    exact ⟨by rw [H.out]; rfl, (Below.refl _ _).alloc (Nat.le_refl _) _⟩
set_option maxRecDepth 100000 in
theorem ref_rcheck (a b : Int) (w : World) :
    Calls Tryz.prog 79 #[.agg #[.int .i64 a, .int .i64 b]] w fun e w' => e = .returned (.int .i64 (rErr a b : Nat)) ∧ Below w.heap.size w w' := by
  by_cases h1 : a < 0
  · have H : Hid (rErr a b = 8) := Lib.hid (if_pos (.inl h1))
    have t1 : decide (a < 0) = true := decide_eq_true h1
    go_enter Tryz.func79, Tryz.ntmps79
    go_wp2_with fail
    go_ret
    exact ⟨by rw [H.out]; rfl, (Below.refl _ _).alloc (Nat.le_refl _) _⟩
  have t1 : decide (a < 0) = false := decide_eq_false h1
  by_cases h2 : b < a
  · have H : Hid (rErr a b = 8) := Lib.hid (if_pos (.inr (.inl h2)))
    have t2 : decide (a > b) = true := decide_eq_true h2
    go_enter Tryz.func79, Tryz.ntmps79
    go_wp2_with fail
    go_ret
    exact ⟨by rw [H.out]; rfl, (Below.refl _ _).alloc (Nat.le_refl _) _⟩
  have t2 : decide (a > b) = false := decide_eq_false h2
  by_cases h3 : 9007199254740990 < b
  · have H : Hid (rErr a b = 8) := Lib.hid (if_pos (.inr (.inr h3)))
    have t3 : decide (b > 9007199254740990) = true := decide_eq_true h3
    go_enter Tryz.func79, Tryz.ntmps79
    go_wp2_with fail
    go_ret
    exact ⟨by rw [H.out]; rfl, (Below.refl _ _).alloc (Nat.le_refl _) _⟩
  · have H : Hid (rErr a b = 0) := Lib.hid (if_neg (fun h => h.elim h1 (fun h => h.elim h2 h3)))
    have t3 : decide (b > 9007199254740990) = false := decide_eq_false h3
    go_enter Tryz.func79, Tryz.ntmps79
    go_wp2_with fail
    go_ret
    exact ⟨by rw [H.out]; rfl, (Below.refl _ _).alloc (Nat.le_refl _) _⟩
theorem box2 (w : World) (x y : Value) (t : TypeId) : (w.alloc (.cells #[x, y] t)).cell? ⟨w.heap.size, 0, none⟩ = some x ∧ (w.alloc (.cells #[x, y] t)).cell? ⟨w.heap.size, 1, none⟩ = some y := by
  have hh := heap_alloc_new w (.cells #[x, y] t)
  constructor <;> (unfold World.cell?; rw [hh]; rfl)
theorem digL_len (n : Int) (h1 : n ≤ 9223372036854775807) : (digL n).length ≤ 20 := by
  unfold digL; split
  · exact Nat.zero_le _
  · exact decDigits_len _ (by omega)
set_option maxRecDepth 100000 in
set_option maxHeartbeats 1000000 in
theorem ranges_text (a b : Int) (w : World) (hE : EnvF w) (ha0 : -9223372036854775808 ≤ a) (ha : a ≤ 9223372036854775807) (hb0 : -9223372036854775808 ≤ b) (hb : b ≤ 9223372036854775807) :
    Calls Tryz.prog 245 #[.agg #[.int .i64 a, .int .i64 b]] w fun e w' => e = .returned (.string (bs (textR a b))) ∧ Below w.heap.size w w' := by
  have HA := Lib.hid (fun w hE => fields_digits a ha0 ha w hE)
  have HB := Lib.hid (fun w hE => fields_digits b hb0 hb w hE)
  obtain ⟨X, hX⟩ : ∃ X, bs (digL a) = X := ⟨_, rfl⟩
  obtain ⟨Y, hY⟩ : ∃ Y, bs (digL b) = Y := ⟨_, rfl⟩
  have hXs : X.size ≤ 20 := by rw [← hX, bs_size]; exact digL_len a ha
  have hYs : Y.size ≤ 20 := by rw [← hY, bs_size]; exact digL_len b hb
  have HR : Hid ((X ++ ⟨#[45]⟩) ++ Y = bs (textR a b)) := Lib.hid (by
    rw [← hX, ← hY, show (⟨#[45]⟩ : ByteArray) = bs [45] from rfl, bs_cat, bs_cat]
    unfold textR; simp)
  rw [hX] at HA
  rw [hY] at HB
  have padd1 := fun w => run_string_add_sum (P := Tryz.prog) w X ⟨#[45]⟩ (by show _ + 1 ≤ _; omega)
  have padd2 := fun w => run_string_add_sum (P := Tryz.prog) w (X ++ ⟨#[45]⟩) Y (by rw [ByteArray.size_append]; show _ + 1 + _ ≤ _; omega)
  have box := box2 w (.int .i64 a) (.int .i64 b) 105
  have hb0' : Below w.heap.size w (w.alloc (.cells #[.int .i64 a, .int .i64 b] 105)) := (Below.refl _ _).alloc (Nat.le_refl _) _
  have hbl : w.heap.size < (w.alloc (.cells #[.int .i64 a, .int .i64 b] 105)).heap.size := by simp
  have HE := Lib.hid (hE.below hb0')
  clear hE hX hY
  go_enter Tryz.func245, Tryz.ntmps245
  go_wp2_with fail
  generalize hW0 : w.alloc (.cells #[.int .i64 a, .int .i64 b] 105) = W0 at box hb0' hbl HE ⊢
  clear hW0
  have k0 : ∀ p : BelowOf W0, p.world.cell? ⟨w.heap.size, 0, none⟩ = some (.int .i64 a) := fun p => cell_of p hbl box.1
  have k1 : ∀ p : BelowOf W0, p.world.cell? ⟨w.heap.size, 1, none⟩ = some (.int .i64 b) := fun p => cell_of p hbl box.2
  have hb0 := Lib.hid hb0'
  clear box hb0'
  refine wp_region_quiet_below (by kernel_rfl) (by kernel_rfl) ?_
  repeat (go_big_quiet_step ((first
    | (go_at_call 83; exact below_of (HA.out _ (HE.out.below (BelowOf.below _))))
    | (go_at_call 83; exact below_of (HB.out _ (HE.out.below (BelowOf.below _))))
    | fail)))
  refine wpQuiet_nil ?_
  intro W1 hw'
  have hb1 := of_class hw'
  clear hw'
  go_wp2_with fail
  go_ret
  exact ⟨by rw [← HR.out]; rfl, bstep hb0.out hb1⟩
end Go.Proofs.YtgnkmfjleecmfaaGreatDoor
namespace Go.Proofs.YtgnkmfjleecmfaaGreatDoor
open Go.RowKit

theorem own_keep {B : Nat} {e : TypeId} {k : Nat} {v : Value} {n : Nat} {xs : List Value} {w w' : World} (h : w.ownsRow B e k v n xs) (hb : Below w.heap.size w w') : w'.ownsRow B e k v n xs := by
  refine ⟨h.1, ?_⟩
  rcases h.2 with h0 | ⟨g, cap, cur, e1, e2, e3, e4⟩
  · exact .inl h0
  · exact .inr ⟨g, cap, cur, e1, e2, (hb.block g (Array.getElem?_eq_some_iff.1 e3).1).trans e3, e4⟩
def intsV (ns : List Nat) : List Value := ns.map fun (n : Nat) => .int .i64 (n : Int)
theorem intsV_length (ns : List Nat) : (intsV ns).length = ns.length := by simp [intsV]
theorem intsV_append (a b : List Nat) : intsV (a ++ b) = intsV a ++ intsV b := by simp [intsV]
/-- the slice v reads, in the world w, as the numbers ns; it lies behind block B -/
def HoldsI (B : Nat) (w : World) (v : Value) (ns : List Nat) : Prop :=
  ∃ b c, v = .slice (some ⟨b, 0, none⟩) ns.length c ∧ B ≤ b ∧ b < w.heap.size ∧ ns.length ≤ c ∧ ∀ j (hj : j < ns.length), w.cell? ⟨b, j, none⟩ = some (.int .i64 (ns[j] : Int))
theorem HoldsI.of_own {w : World} {base n : Nat} {e : TypeId} {v : Value} {ns : List Nat} (h : w.ownsRow base e 1 v n (intsV ns)) (hne : ns ≠ []) : HoldsI base w v ns := by
  have hn : ns.length = n := by have := h.1; rw [intsV_length, Nat.mul_one] at this; exact this
  subst hn
  rcases h.2 with ⟨rfl, h0⟩ | ⟨g, cap, cur, rfl, hb, hg, hle, hm, hs, ht⟩
  · exact absurd (List.eq_nil_of_length_eq_zero h0) hne
  · refine ⟨g, cap, rfl, hb, (Array.getElem?_eq_some_iff.1 hg).1, hle, fun j hj => ?_⟩
    have := h.cells (g := g) rfl j (.int .i64 (ns[j] : Int)) (by unfold intsV; rw [List.getElem?_map, List.getElem?_eq_getElem hj]; rfl)
    have e0 : (⟨g, 0, none⟩ : Addr).add j = ⟨g, j, none⟩ := by unfold Addr.add; split <;> simp_all
    rwa [e0] at this
theorem info_int : (Tryz.prog.info? 3).map (fun i => (i.zero, i.size, i.bytes)) = some (some (.int .i64 0), 1, 8) := by kernel_rfl
theorem append_int {ops : Array Oper} {rest : List Oper} {o : Oper} {a : Act} {Q : Exit → Act → World → Prop} (w0 : World) (hgd : o.guard = none) (s x : Operand)
    (ho : o.op = .call { callee := .builtin .append, args := #[s, x], argTypes := #[178, 178] })
    (base : Nat) (v : Value) (ns : List Nat) (hs : a.eval s = v) (hown : w0.ownsRow base 3 1 v ns.length (intsV ns))
    (m : Nat) (hx : a.eval x = .slice (some ⟨w0.heap.size, 0, none⟩) 1 1) (hn : ns.length < 2147483648) (hbase : base ≤ w0.heap.size)
    (h : ∀ v' w', w'.ownsRow base 3 1 v' (ns ++ [m]).length (intsV (ns ++ [m])) → w0.grownBy w' v.ownBlock → v' ≠ .slice none 0 0 → wpList Tryz.prog ops Q rest (a.put o.dst v') w') :
    wpList Tryz.prog ops Q (o :: rest) a (w0.alloc (.cells #[.int .i64 (m : Int)] 3)) := by
  obtain ⟨i0, hi, hz0, hz1, hz2⟩ := info_parts info_int
  refine wpList_append_own _ hgd s x 178 ho base 3 i0 _ 1 8 Tryz.underlying178 hi hz0 hz1 hz2 rfl (by decide) v ns.length (intsV ns) hs (hown.alloc _) ⟨w0.heap.size, 0, none⟩ 1 1 [.int .i64 (m : Int)] hx rfl (cell_one_new w0 _ _) (by simp [Value.oneCell']) (by unfold maxLen; omega) (by omega) (by simp; omega) ?_
  intro v' w' h2 h3 h4
  refine h v' w' ?_ ?_ (fun e => by have := (h4.1 e).2; omega)
  · rw [List.length_append, intsV_append]; simpa [intsV] using h2
  · exact ⟨h3.os, h3.tape, h3.output, Nat.le_trans (by simp) h3.size, fun k hk hne => (h3.block k (by simp; omega) hne).trans (heap_alloc_old w0 _ hk)⟩
/-- the first error of some texts that are to be numbers -/
def numsE : List (List UInt8) → Nat
  | [] => 0
  | l :: t => if numE l ≠ 0 then numE l else numsE t
theorem numsE_skip (xs : List (List UInt8)) : ∀ k, (∀ j (hj : j < xs.length), j < k → numE xs[j] = 0) → numsE xs = numsE (xs.drop k) := by
  induction xs with
  | nil => intro k _; simp
  | cons x t ih =>
    intro k h
    cases k with
    | zero => rfl
    | succ k =>
      have h0 := h 0 (by simp) (by omega)
      show (if numE x ≠ 0 then numE x else numsE t) = numsE (t.drop k)
      rw [if_neg (fun hh => hh h0)]
      exact ih k (fun j hj hk => h (j + 1) (by simp; omega) (by omega))
theorem numsE_at (xs : List (List UInt8)) (k : Nat) (hk : k < xs.length) (h : ∀ j (hj : j < xs.length), j < k → numE xs[j] = 0) (hb : numE xs[k] ≠ 0) : numsE xs = numE xs[k] := by
  rw [numsE_skip xs k h, List.drop_eq_getElem_cons hk]
  exact if_pos hb
theorem numsE_all (xs : List (List UInt8)) (h : ∀ j (hj : j < xs.length), numE xs[j] = 0) : numsE xs = 0 := by
  rw [numsE_skip xs xs.length (fun j hj _ => h j hj), List.drop_length]; rfl
def NumsPost (xs : List (List UInt8)) (w : World) (e : Ending) (w' : World) : Prop := ∃ v, e = .returned (.tuple #[v, .int .i64 (numsE xs : Nat)]) ∧ (numsE xs = 0 → HoldsI w.heap.size w' v (xs.map numV)) ∧ Below w.heap.size w w'
set_option maxRecDepth 100000 in
set_option maxHeartbeats 2000000 in
theorem ranges_numbers (v : Value) (xs : List (List UInt8)) (w : World) (hv : HoldsS w v xs) (hne : xs ≠ []) (hlen : xs.length ≤ 1000) (hx : ∀ x ∈ xs, x.length ≤ 1000000) (hE : EnvF w) :
    Calls Tryz.prog 159 #[v] w (NumsPost xs w) := by
  obtain ⟨a, c, rfl, hc, hh⟩ := hv
  obtain ⟨b, o, rfl, hbl, hcell⟩ := hh hne
  have HC := Lib.hid hcell
  have HE := Lib.hid hE
  have HX := Lib.hid hx
  clear hh hcell hE hx
  go_enter Tryz.func159, Tryz.ntmps159
  go_wp2_with fail
  go_loopw [4, 11] (fun u i wr => ∃ k : Nat, k ≤ xs.length ∧ i = .int .i64 k ∧ wr.ownsRow w.heap.size 3 1 u ((xs.take k).map numV).length (intsV ((xs.take k).map numV)) ∧ Below w.heap.size w wr ∧ Hid (∀ j (hj : j < xs.length), j < k → numE xs[j] = 0)) (fun _ i _ => xs.length - (intOf i).toNat)
  case atStart => exact ⟨0, by omega, rfl, by rw [List.take_zero]; exact World.ownsRow_nil _ _ _ _, Below.refl _ _, Lib.hid (fun j hj h => absurd h (Nat.not_lt_zero _))⟩
  case round =>
    obtain ⟨k, hk, rfl, hown, hb, HK⟩ := hrel
    by_cases hlt : k < xs.length
    · have c0 := (hb.cell (p := ⟨b, o + k, none⟩) hbl).trans (HC.out k hlt)
      obtain ⟨S, hS⟩ : ∃ S, bs xs[k] = S := ⟨_, rfl⟩
      have hSd : S.data.toList = xs[k] := by rw [← hS, bs_data]
      have hSs : S.size ≤ 1000000 := by rw [← hS, bs_size]; exact HX.out _ (List.getElem_mem hlt)
      rw [hS] at c0
      have HN := Lib.hid (fun w hE => fields_number S w hSs hE)
      rw [hSd] at HN
      have hkl : ((xs.take k).map numV).length < 2147483648 := by rw [List.length_map, List.length_take]; omega
      have tl : decide ((k : Int) < (xs.length : Int)) = true := decide_eq_true (by omega)
      have HEr := Lib.hid (HE.out.below hb)
      by_cases hz : numE xs[k] = 0
      · rw [hz] at HN
        have HK2 : Hid (∀ j (hj : j < xs.length), j < k + 1 → numE xs[j] = 0) := Lib.hid (fun j hj h => by
          by_cases e : j = k
          · subst e; exact hz
          · exact HK.out j hj (by omega))
        have hstep : Hid ((xs.take (k + 1)).map numV = (xs.take k).map numV ++ [numV xs[k]]) := Lib.hid (by rw [List.take_succ_eq_append_getElem hlt, List.map_append]; rfl)
        clear hz hS hSd HK
        go_wp2_with fail
        refine (HN.out _ HEr.out).mono ?_
        rintro e w1 ⟨rfl, hb1⟩
        have hown1 : w1.ownsRow w.heap.size 3 1 _ ((xs.take k).map numV).length (intsV ((xs.take k).map numV)) := own_keep hown hb1
        have hb2 := bstep hb hb1
        clear hown c0
        go_wp2_with (at_builtin; go_loud (refine append_int w1 (by rfl) _ _ (by rfl) w.heap.size _ ((xs.take k).map numV) (by rfl) hown1 (numV xs[k]) (by rfl) hkl hb2.size ?_); intro v' w2 hown2 hg2 hne2)
        go_roundw
        case rel => exact ⟨k + 1, by omega, by go_num, by rw [hstep.out]; exact hown2, below_ownF hb2 hg2 hown1 (Nat.le_refl _) hb2.size, HK2⟩
        case measure => simp [intOf]; omega
      · have HR : Hid (numsE xs = numE xs[k]) := Lib.hid (numsE_at xs k hlt HK.out hz)
        have tz : ((numE xs[k] : Int) != 0) = true := by rw [bne_iff_ne]; omega
        have hz2 : Hid (numE xs[k] ≠ 0) := Lib.hid hz
        clear hz hS hSd HK
        go_wp2_with fail
        refine (HN.out _ HEr.out).mono ?_
        rintro e w1 ⟨rfl, hb1⟩
        have hb2 := bstep hb hb1
        clear c0 hown
        go_wp2_with fail
        go_ret2
        exact ⟨_, by rw [HR.out]; rfl, fun h => absurd (HR.out ▸ h) hz2.out, hb2⟩
    · have hall : xs.take k = xs := List.take_of_length_le (by omega)
      have HR : Hid (numsE xs = 0) := Lib.hid (numsE_all xs (fun j hj => HK.out j hj (by omega)))
      rw [hall] at hown
      have tl : decide ((k : Int) < (xs.length : Int)) = false := decide_eq_false (by omega)
      clear hall HK
      go_wp2_with fail
      go_ret2
      exact ⟨_, by rw [HR.out]; rfl, fun _ => HoldsI.of_own hown (by simpa using hne), hb⟩
end Go.Proofs.YtgnkmfjleecmfaaGreatDoor
