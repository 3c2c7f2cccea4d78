/- What the helpers of package fields, and of its reference, return. What titled of package fields returns: strings.Map with a closure that keeps a state. strings.Map with the closure of titled, at an ASCII text. titled, small. Plain laws for names and lines of fields. Plain functions: what a field's line is parsed as (no program in sight). What the library's variables hold, carried along a call. What Parse of package fields returns. Plain words on faults: what comes of an answer's bytes (no program in sight). (*strings.byteStringReplacer).Replace where two bytes become nothing. (*strings.byteStringReplacer).Replace: the walk. fault.Clean, and the document's Clean, tell a text without ends of lines. -/
import Derived.Test.YtbdmmgmcbecolaaGreatDoorPr2
import Derived.OneCell
import Derived.Shelf.Strings.MapAny
import Derived.Shelf.Strings.BuilderCap
import Derived.Deep.LoopGhost
import Derived.Deep.DeepMust
import Derived.Deep.DeepFit
import Derived.Deep.DeepCutAuto
import Derived.Lib.IndexMore
import Derived.Lib.SlTrimSet
import Derived.Lib.MapLaws
import Derived.Lib.TrimAscii
import Derived.Shelf.Unicode.DecodeSlow
import Derived.Lib.LaidTab
import Derived.Lib.ItoaNum
import Derived.WalkSmall
import Derived.Shelf.Strings.SlTrimAscii
import Derived.Laws.ResultCell
import Derived.Laws.Rows
import Derived.Laws.NewBlocks
import Derived.Lib.SlBytesRow
import Derived.Lib.SmallJoins
set_option linter.unusedVariables false
set_option linter.unusedSimpArgs false
namespace Go.Proofs.YtbdmmgmcbecolaaGreatDoor
open Go.RowKit

theorem fields_digit (x : Nat) (w : World) : Calls Tryz.prog 149 #[.int .i32 (x : Int)] w fun e w' => e = .returned (.bool (digN x)) ∧ w' = w := by
  by_cases h1 : x < 48
  · have H : Hid (digN x = false) := Lib.hid (by unfold digN; rw [decide_eq_false (by omega)]; rfl)
    go_enter Tryz.func149, Tryz.ntmps149
    go_wp2_with fail
    go_ret
    exact ⟨ret_bool H.out.symm, rfl⟩
  · by_cases h2 : 57 < x
    · have H : Hid (digN x = false) := Lib.hid (by unfold digN; rw [decide_eq_false (show ¬ x ≤ 57 by omega), Bool.and_false])
      have t1 : decide ((x : Int) ≤ 57) = false := by simp; omega
      go_enter Tryz.func149, Tryz.ntmps149
      go_wp2_with fail
      go_ret
      exact ⟨ret_bool H.out.symm, rfl⟩
    · have H : Hid (digN x = true) := Lib.hid (by unfold digN; rw [decide_eq_true (show x ≤ 57 by omega), decide_eq_true (show 48 ≤ x by omega)]; rfl)
      have t1 : decide ((x : Int) ≤ 57) = true := by simp; omega
      go_enter Tryz.func149, Tryz.ntmps149
      go_wp2_with fail
      go_ret
      exact ⟨ret_bool H.out.symm, rfl⟩
theorem fields_named (x : Nat) (w : World) : Calls Tryz.prog 177 #[.int .i32 (x : Int)] w fun e w' => e = .returned (.bool (namedN x)) ∧ w' = w := by
  by_cases h1 : x < 97
  · have hl : letN x = false := by unfold letN; rw [decide_eq_false (by omega)]; rfl
    cases hd : digN x with
    | true =>
      have hcon := fun w => fields_digit x w
      rw [hd] at hcon
      have H : Hid (namedN x = true) := Lib.hid (by unfold namedN; rw [hl, hd]; rfl)
      have Hcon := Lib.hid hcon
      clear hd hcon hl
      go_enter Tryz.func177, Tryz.ntmps177
      go_wp2_with (go_at_call 149; refine (Hcon.out _).mono ?_; rintro e w' ⟨rfl, rfl⟩)
      go_ret
      exact ⟨ret_bool H.out.symm, rfl⟩
    | false =>
      have hcon := fun w => fields_digit x w
      rw [hd] at hcon
      have H : Hid (namedN x = decide ((x : Int) = 45)) := Lib.hid (by
        unfold namedN; rw [hl, hd, Bool.false_or, Bool.false_or, Bool.eq_iff_iff, beq_iff_eq, decide_eq_true_iff]; omega)
      have Hcon := Lib.hid hcon
      clear hd hcon hl
      by_cases h45 : x = 45
      · have t : ((x : Int) == 45) = true := by rw [beq_iff_eq]; omega
        have H2 : Hid (namedN x = true) := Lib.hid (H.out.trans (decide_eq_true (by omega)))
        clear h45 H
        go_enter Tryz.func177, Tryz.ntmps177
        go_wp2_with (go_at_call 149; refine (Hcon.out _).mono ?_; rintro e w' ⟨rfl, rfl⟩)
        go_ret
        exact ⟨ret_bool H2.out.symm, rfl⟩
      · have t : ((x : Int) == 45) = false := by rw [beq_eq_false_iff_ne]; omega
        go_enter Tryz.func177, Tryz.ntmps177
        go_wp2_with (go_at_call 149; refine (Hcon.out _).mono ?_; rintro e w' ⟨rfl, rfl⟩)
        go_ret
        exact ⟨ret_bool (by rw [H.out, decide_eq_false (by omega)]), rfl⟩
  · by_cases h2 : 122 < x
    · have hl : letN x = false := by unfold letN; rw [decide_eq_false (show ¬ x ≤ 122 by omega), Bool.and_false]
      have hd : digN x = false := by unfold digN; rw [decide_eq_false (show ¬ x ≤ 57 by omega), Bool.and_false]
      have H : Hid (namedN x = false) := Lib.hid (by unfold namedN; rw [hl, hd, show (x == 45) = false by rw [beq_eq_false_iff_ne]; omega]; rfl)
      have t1 : decide ((x : Int) ≤ 122) = false := by simp; omega
      have t2 : ((x : Int) == 45) = false := by rw [beq_eq_false_iff_ne]; omega
      have hcon := fun w => fields_digit x w
      rw [hd] at hcon
      have Hcon := Lib.hid hcon
      clear hd hcon hl
      go_enter Tryz.func177, Tryz.ntmps177
      go_wp2_with (go_at_call 149; refine (Hcon.out _).mono ?_; rintro e w' ⟨rfl, rfl⟩)
      go_ret
      exact ⟨ret_bool H.out.symm, rfl⟩
    · have hl : letN x = true := by unfold letN; rw [decide_eq_true (show x ≤ 122 by omega), decide_eq_true (show 97 ≤ x by omega)]; rfl
      have H : Hid (namedN x = true) := Lib.hid (by unfold namedN; rw [hl]; rfl)
      have t1 : decide ((x : Int) ≤ 122) = true := by simp; omega
      clear hl
      go_enter Tryz.func177, Tryz.ntmps177
      go_wp2_with fail
      go_ret
      exact ⟨ret_bool H.out.symm, rfl⟩
theorem all1_digit (x B : Nat) (w : World) (hc : w.cell? ⟨B, 0, none⟩ = some (.func (.func 149) #[] #[])) :
    Calls Tryz.prog 185 #[.int .i32 (x : Int), .pointer (some ⟨B, 0, none⟩)] w fun e w' => e = .returned (.bool (!digN x)) ∧ w' = w := by
  go_enter Tryz.func185, Tryz.ntmps185
  go_wp2_with (go_at_call 149; refine (fields_digit _ _).mono ?_; rintro e w' ⟨rfl, rfl⟩)
  go_ret
  exact ⟨rfl, rfl⟩
theorem all1_named (x B : Nat) (w : World) (hc : w.cell? ⟨B, 0, none⟩ = some (.func (.func 177) #[] #[])) :
    Calls Tryz.prog 185 #[.int .i32 (x : Int), .pointer (some ⟨B, 0, none⟩)] w fun e w' => e = .returned (.bool (!namedN x)) ∧ w' = w := by
  go_enter Tryz.func185, Tryz.ntmps185
  go_wp2_with (go_at_call 177; refine (fields_named _ _).mono ?_; rintro e w' ⟨rfl, rfl⟩)
  go_ret
  exact ⟨rfl, rfl⟩

theorem idx_digit (s : ByteArray) (B : Nat) (w : World) (hB : B < w.heap.size) (hc : w.cell? ⟨B, 0, none⟩ = some (.func (.func 149) #[] #[])) :
    Calls Tryz.prog 103 #[.string s, .func (.func 185) #[] #[.pointer (some ⟨B, 0, none⟩)]] w fun e w' => e = .returned (.int .i64 (Lib.idxFunc (fun x => !digN x) true s)) ∧ Below w.heap.size w w' :=
  Tryz.strings_IndexFunc_grows 185 #[.pointer (some ⟨B, 0, none⟩)] (enters_of Tryz.func185 (by kernel_rfl) rfl) (fun x => !digN x) s w
    (fun W x _ hb => (all1_digit x B W ((hb.cell (p := ⟨B, 0, none⟩) hB).trans hc)).mono fun e w' ⟨he, hw⟩ => ⟨he, hw ▸ Below.refl _ _⟩)
theorem idx_named (s : ByteArray) (B : Nat) (w : World) (hB : B < w.heap.size) (hc : w.cell? ⟨B, 0, none⟩ = some (.func (.func 177) #[] #[])) :
    Calls Tryz.prog 103 #[.string s, .func (.func 185) #[] #[.pointer (some ⟨B, 0, none⟩)]] w fun e w' => e = .returned (.int .i64 (Lib.idxFunc (fun x => !namedN x) true s)) ∧ Below w.heap.size w w' :=
  Tryz.strings_IndexFunc_grows 185 #[.pointer (some ⟨B, 0, none⟩)] (enters_of Tryz.func185 (by kernel_rfl) rfl) (fun x => !namedN x) s w
    (fun W x _ hb => (all1_named x B W ((hb.cell (p := ⟨B, 0, none⟩) hB).trans hc)).mono fun e w' ⟨he, hw⟩ => ⟨he, hw ▸ Below.refl _ _⟩)

theorem all_digit_eq (s : ByteArray) : decide (Lib.idxFunc (fun x => !digN x) true s < 0) = s.data.toList.all (fun c => digN c.toNat) := by
  rw [idx_all _ (fun x h => by rw [digN_ge x h]; rfl)]; simp
theorem all_named_eq (s : ByteArray) : decide (Lib.idxFunc (fun x => !namedN x) true s < 0) = s.data.toList.all (fun c => namedN c.toNat) := by
  rw [idx_all _ (fun x h => by rw [namedN_ge x h]; rfl)]; simp

theorem below_box (w : World) (v : Value) (t : TypeId) : Below w.heap.size w (w.alloc (.cells #[v] t)) := (Below.refl _ _).alloc (Nat.le_refl _) _
theorem box_lt (w : World) (v : Value) (t : TypeId) : w.heap.size < (w.alloc (.cells #[v] t)).heap.size := by simp
theorem box_cell (w : World) (v : Value) (t : TypeId) : (w.alloc (.cells #[v] t)).cell? ⟨w.heap.size, 0, none⟩ = some v := by
  have h : (w.alloc (.cells #[v] t)).heap[w.heap.size]? = some (.cells #[v] t) := by
    show (w.heap.push _)[w.heap.size]? = _
    simp
  unfold World.cell?
  rw [h]; rfl

theorem fields_all_digit (s : ByteArray) (w : World) :
    Calls Tryz.prog 148 #[.string s, .func (.func 149) #[] #[]] w fun e w' => e = .returned (.bool (s.data.toList.all (fun c => digN c.toNat))) ∧ Below w.heap.size w w' := by
  have H := Lib.hid (all_digit_eq s)
  obtain ⟨i, hi⟩ : ∃ i, i = Lib.idxFunc (fun x => !digN x) true s := ⟨_, rfl⟩
  have HI := Lib.hid (fun B w hB hc => hi ▸ idx_digit s B w hB hc)
  rw [← hi] at H
  clear hi
  go_enter Tryz.func148, Tryz.ntmps148
  go_wp2_with fail
  refine (HI.out _ _ (box_lt _ _ _) (box_cell _ _ _)).mono ?_
  rintro e w1 ⟨rfl, hb⟩
  go_wp2_with fail
  go_ret
  exact ⟨ret_bool H.out, bstep (below_box _ _ _) hb⟩
theorem fields_all_named (s : ByteArray) (w : World) :
    Calls Tryz.prog 148 #[.string s, .func (.func 177) #[] #[]] w fun e w' => e = .returned (.bool (s.data.toList.all (fun c => namedN c.toNat))) ∧ Below w.heap.size w w' := by
  have H := Lib.hid (all_named_eq s)
  obtain ⟨i, hi⟩ : ∃ i, i = Lib.idxFunc (fun x => !namedN x) true s := ⟨_, rfl⟩
  have HI := Lib.hid (fun B w hB hc => hi ▸ idx_named s B w hB hc)
  rw [← hi] at H
  clear hi
  go_enter Tryz.func148, Tryz.ntmps148
  go_wp2_with fail
  refine (HI.out _ _ (box_lt _ _ _) (box_cell _ _ _)).mono ?_
  rintro e w1 ⟨rfl, hb⟩
  go_wp2_with fail
  go_ret
  exact ⟨ret_bool H.out, bstep (below_box _ _ _) hb⟩

theorem fields_name (s : ByteArray) (w : World) :
    Calls Tryz.prog 146 #[.string s] w fun e w' => e = .returned (.bool (nameL s.data.toList)) ∧ Below w.heap.size w w' := by
  by_cases he : s.size = 0
  · have H : Hid (nameL s.data.toList = false) := Lib.hid (by
      unfold nameL; rw [List.length_eq_zero_iff.1 (show s.data.toList.length = 0 by rw [size_len]; exact he)]; rfl)
    have t : s.toList.isEmpty = true := by
      rw [ByteArray.toList_eq, List.isEmpty_iff]; exact List.length_eq_zero_iff.1 (by rw [size_len]; exact he)
    go_enter Tryz.func146, Tryz.ntmps146
    go_wp2_with fail
    go_ret
    exact ⟨ret_bool H.out.symm, Below.refl _ _⟩
  · have t : s.toList.isEmpty = false := by
      rw [ByteArray.toList_eq, Bool.eq_false_iff, Ne, List.isEmpty_iff]; intro e; exact he (by rw [← size_len, e]; rfl)
    by_cases h32 : 32 < s.size
    · have H : Hid (nameL s.data.toList = false) := Lib.hid (by
        unfold nameL; rw [decide_eq_false (by rw [size_len]; omega), Bool.and_false, Bool.false_and])
      have t1 : decide ((s.size : Int) ≤ 32) = false := by simp; omega
      go_enter Tryz.func146, Tryz.ntmps146
      go_wp2_with fail
      go_ret
      exact ⟨ret_bool H.out.symm, Below.refl _ _⟩
    · have H : Hid (nameL s.data.toList = s.data.toList.all (fun c => namedN c.toNat)) := Lib.hid (by
        unfold nameL; rw [decide_eq_true (by rw [size_len]; omega), ← ByteArray.toList_eq, t]; rfl)
      have t1 : decide ((s.size : Int) ≤ 32) = true := by simp; omega
      have HA := Lib.hid (fun w => fields_all_named s w)
      obtain ⟨b, hb⟩ : ∃ b, b = s.data.toList.all (fun c => namedN c.toNat) := ⟨_, rfl⟩
      rw [← hb] at H HA
      clear hb
      cases b
      all_goals
        go_enter Tryz.func146, Tryz.ntmps146
        go_wp2_with fail
        refine (HA.out _).mono ?_
        rintro e w1 ⟨rfl, hb1⟩
        go_wp2_with fail
        go_ret
        exact ⟨ret_bool H.out.symm, hb1⟩

theorem fields_plain (s : ByteArray) (w : World) (hs : s.size ≤ 9223372036854775807) :
    Calls Tryz.prog 143 #[.string s] w fun e w' => e = .returned (.bool (s.data.toList.all (fun c => plainB c.toNat))) ∧ w' = w := by
  have hp := fun w => lines_put s w hs
  obtain ⟨L, hL⟩ : ∃ L, L = putLine s := ⟨_, rfl⟩
  rw [← hL] at hp
  cases hb : s.data.toList.all (fun c => plainB c.toNat) with
  | true =>
    obtain ⟨E, hE⟩ : ∃ E, E = putErr s.data.toList := ⟨_, rfl⟩
    have h4 : E ≠ 4 := by rw [hE]; unfold putErr; rw [if_neg (by rw [hb]; decide)]; split <;> decide
    rw [← hE] at hp
    have HP := Lib.hid hp
    have t : ((E : Int) != 4) = true := by rw [bne_iff_ne]; omega
    clear hp hE hb hL h4
    go_enter Tryz.func143, Tryz.ntmps143
    go_wp2_with (go_at_call 61; refine (HP.out _).mono ?_; rintro e w' ⟨rfl, rfl⟩)
    go_ret
    exact ⟨ret_bool rfl, rfl⟩
  | false =>
    rw [show putErr s.data.toList = 4 from if_pos hb] at hp
    have HP := Lib.hid hp
    clear hp hb hL
    go_enter Tryz.func143, Tryz.ntmps143
    go_wp2_with (go_at_call 61; refine (HP.out _).mono ?_; rintro e w' ⟨rfl, rfl⟩)
    go_ret
    exact ⟨ret_bool rfl, rfl⟩
end Go.Proofs.YtbdmmgmcbecolaaGreatDoor
namespace Go.Proofs.YtbdmmgmcbecolaaGreatDoor
open Go.RowKit

def titN (b : Bool) (c : Nat) : Nat := if (b && letN c) = true then c - 32 else c

theorem letN_lo (c : Nat) (h : c < 97) : letN c = false := by unfold letN; rw [decide_eq_false (by omega)]; rfl
theorem letN_hi (c : Nat) (h : 122 < c) : letN c = false := by unfold letN; rw [decide_eq_false (show ¬ c ≤ 122 by omega), Bool.and_false]
theorem letN_in (c : Nat) (h : 97 ≤ c) (h2 : c ≤ 122) : letN c = true := by unfold letN; rw [decide_eq_true h, decide_eq_true h2]; rfl

theorem titled1 (c B : Nat) (b : Bool) (w : World) (hblk : w.heap[B]? = some (.cells #[.bool b] 4 (0, 0))) (hc : c < 128) :
    Calls Tryz.prog 192 #[.int .i32 (c : Int), .pointer (some ⟨B, 0, none⟩)] w fun e w' => e = .returned (.int .i32 (titN b c : Nat)) ∧ w' = w.setCell ⟨B, 0, none⟩ (.bool ((c : Int) == 45)) := by
  have hcell : w.cell? ⟨B, 0, none⟩ = some (.bool b) := by unfold World.cell?; rw [hblk]; rfl
  have hfr : w.frozen? ⟨B, 0, none⟩ = false := by unfold World.frozen?; rw [hblk]; rfl
  cases b
  · have H : Hid (titN false c = c) := Lib.hid rfl
    go_enter Tryz.func192, Tryz.ntmps192
    go_wp2_with fail
    go_ret
    exact ⟨by rw [H.out]; rfl, rfl⟩
  · by_cases h1 : c < 97
    · have H : Hid (titN true c = c) := Lib.hid (by unfold titN; rw [letN_lo c h1]; rfl)
      have t1 : decide ((c : Int) ≥ 97) = false := by simp; omega
      go_enter Tryz.func192, Tryz.ntmps192
      go_wp2_with fail
      go_ret
      exact ⟨by rw [H.out]; rfl, rfl⟩
    · by_cases h2 : 122 < c
      · have H : Hid (titN true c = c) := Lib.hid (by unfold titN; rw [letN_hi c h2]; rfl)
        have t1 : decide ((c : Int) ≤ 122) = false := by simp; omega
        go_enter Tryz.func192, Tryz.ntmps192
        go_wp2_with fail
        go_ret
        exact ⟨by rw [H.out]; rfl, rfl⟩
      · have H : Hid (titN true c = c - 32) := Lib.hid (by unfold titN; rw [letN_in c (by omega) (by omega)]; rfl)
        have t1 : decide ((c : Int) ≤ 122) = true := by simp; omega
        have h3 : 97 ≤ c := by omega
        go_enter Tryz.func192, Tryz.ntmps192
        go_wp2_with fail
        go_ret
        refine ⟨ret_int ?_, rfl⟩
        rw [H.out]; omega

def stB (c : UInt8) : Bool := ((c.toNat : Nat) : Int) == 45
def titL : Bool → List UInt8 → List UInt8
  | _, [] => []
  | b, c :: t => UInt8.ofNat (titN b c.toNat) :: titL (stB c) t
theorem titN_le (b : Bool) (c : Nat) (h : c < 128) : titN b c < 128 := by unfold titN; split <;> omega

theorem builder_keeps {T e : TypeId} {B b c : Nat} {p : Value} {l : List Value} {w : World} (h : Go.Lib.BuilderAtF T e B b p l w) (hc : c < B) (v : Value) : Go.Lib.BuilderAtF T e B b p l (w.setCell ⟨c, 0, none⟩ v) := by
  obtain ⟨hB, x, hx, hown, hne⟩ := h
  have hnc : x.ownBlock ≠ some c := by
    rcases hown.2 with ⟨rfl, _⟩ | ⟨g, cap, cur, fz, rfl, hg, _⟩
    · simp [Value.ownBlock]
    · intro e
      have : g = c := by simpa [Value.ownBlock] using e
      omega
  refine ⟨hB, x, ?_, hown.kept (row := some c) ⟨rfl, rfl, rfl, by simp [World.setCell], fun k _ hk => Below.heap_setCell _ _ _ _ (fun e => hk (by simp [e]))⟩ (Or.inr hnc), hne⟩
  rw [← hx]
  exact Below.heap_setCell _ _ _ _ (show b ≠ c by omega)
theorem isBuilder_keeps {T e : TypeId} {B b c : Nat} {l : List Value} {w : World} (h : Go.Lib.IsBuilderF T e B b l w) (hc : c < B) (v : Value) : Go.Lib.IsBuilderF T e B b l (w.setCell ⟨c, 0, none⟩ v) :=
  h.elim (fun x => .inl (builder_keeps x hc v)) (fun x => .inr (builder_keeps x hc v))

/-- the closure's cell and what lies below it -/
def AtT (w0 : World) (c : Nat) (b : Bool) (w : World) : Prop := w.heap[c]? = some (.cells #[.bool b] 4 (0, 0)) ∧ Below c w0 w
theorem AtT.below {w0 w w' : World} {c B : Nat} {b : Bool} (h : AtT w0 c b w) (hb : Below B w w') (hB : c < B) : AtT w0 c b w' :=
  ⟨(hb.block c hB).trans h.1, h.2.trans (hb.mono (by omega))⟩
theorem AtT.set {w0 w : World} {c : Nat} {b : Bool} (h : AtT w0 c b w) (b' : Bool) : AtT w0 c b' (w.setCell ⟨c, 0, none⟩ (.bool b')) := by
  refine ⟨?_, h.2.setCell (p := ⟨c, 0, none⟩) (Nat.le_refl _) _⟩
  simp [World.setCell, Array.getElem?_modify, h.1]
theorem setCell_other (w : World) (c j : Nat) (v : Value) (h : j ≠ c) : (w.setCell ⟨c, 0, none⟩ v).heap[j]? = w.heap[j]? := Below.heap_setCell _ _ _ _ h
end Go.Proofs.YtbdmmgmcbecolaaGreatDoor
namespace Go.Proofs.YtbdmmgmcbecolaaGreatDoor
open Go.RowKit Go.Lib

theorem titL_step (b : Bool) (l : List UInt8) (k : Nat) (h : k < l.length) : titL b (l.drop k) = UInt8.ofNat (titN b l[k].toNat) :: titL (stB l[k]) (l.drop (k + 1)) := by
  rw [List.drop_eq_getElem_cons h]; rfl

theorem c_grow (b n : Nat) (w : World) (hbk : w.heap[b]? = some (.cells #[.pointer none, .slice none 0 0] 194 (0, 0))) (hBw : b ≤ w.heap.size) (hn : n ≤ 281474976710656) :
    Calls Tryz.prog 88 #[.pointer (some ⟨b, 0, none⟩), .int .i64 n] w fun e w' => e = .returned (.tuple #[]) ∧ (Lib.BuilderAt 194 5 b b (.pointer (some ⟨b, 0, none⟩)) [] w' ∧ Below b w w') ∧ ∃ p cap, w'.cell? ⟨b, 1, none⟩ = some (.slice p 0 cap) ∧ n ≤ cap :=
  Any.Builder_Grow_fresh_cap { Tryz.lays230 with } Tryz.Builder_Extra_230 b b n w (Nat.le_refl _) hbk hBw hn
theorem c_writeString (b : Nat) (l : List Value) (s : ByteArray) (w : World) (h : Lib.IsBuilderF 194 5 b b l w) (hlen : l.length + s.size ≤ 140737488355328) (hBw : b ≤ w.heap.size) :
    Calls Tryz.prog 89 #[.pointer (some ⟨b, 0, none⟩), .string s] w fun e w' => e = .returned (.tuple #[.int .i64 s.size, .nilIface]) ∧ (Lib.BuilderAtF 194 5 b b (.pointer (some ⟨b, 0, none⟩)) (l ++ Lib.strCells s) w' ∧ Below b w w' ∧ Lib.OthersKept 5 (some b) w w') ∧ ∀ v0, w.cell? ⟨b, 1, none⟩ = some v0 → ∃ v1, w'.cell? ⟨b, 1, none⟩ = some v1 ∧ v0.capOf ≤ v1.capOf :=
  Any.Builder_WriteString_kc { Tryz.lays230 with } Tryz.Builder_Extra_230 b b l s w h hlen hBw
theorem c_writeByte (b : Nat) (l : List Value) (c : Int) (w : World) (h : Lib.IsBuilderF 194 5 b b l w) (hlen : l.length + 1 ≤ 140737488355328) (hBw : b ≤ w.heap.size) :
    Calls Tryz.prog 176 #[.pointer (some ⟨b, 0, none⟩), .int .u8 c] w fun e w' => e = .returned .nilIface ∧ (Lib.BuilderAtF 194 5 b b (.pointer (some ⟨b, 0, none⟩)) (l ++ [.int .u8 c]) w' ∧ Below b w w' ∧ Lib.OthersKept 5 (some b) w w') :=
  Any.Builder_WriteByte_k { Tryz.lays230 with } Tryz.Builder_Extra_230 b b l c w h hlen hBw
theorem c_writeRune (b : Nat) (l : List Value) (r : Nat) (hr : r < 128) (w : World) (h : Lib.IsBuilderF 194 5 b b l w) (hlen : l.length + 4 ≤ 140737488355328) (hBw : b ≤ w.heap.size) :
    Calls Tryz.prog 174 #[.pointer (some ⟨b, 0, none⟩), .int .i32 (r : Int)] w fun e w' => e = .returned (.tuple #[.int .i64 1, .nilIface]) ∧ (Lib.BuilderAtF 194 5 b b (.pointer (some ⟨b, 0, none⟩)) (l ++ [.int .u8 (r : Int)]) w' ∧ Below b w w' ∧ Lib.OthersKept 5 (some b) w w') := by
  have h := Any.Builder_WriteRune_k { Tryz.lays230 with } Tryz.Builder_Extra_230 b b l (r : Int) (by omega) (by omega) w h hlen hBw
  have e : Lib.runeCells (r : Int) = [.int .u8 (r : Int)] := by unfold Lib.runeCells; rw [Lib.encodeRuneZ_one (by omega) (by omega)]; rfl
  rw [e] at h
  exact h
theorem c_string (b : Nat) (l : List UInt8) (w : World) (h : Lib.IsBuilderF 194 5 b b (Lib.byteCells l) w) (hBw : b ≤ w.heap.size) :
    Calls Tryz.prog 90 #[.pointer (some ⟨b, 0, none⟩)] w fun e w' => e = .returned (.string (bs l)) ∧ (Lib.IsBuilderF 194 5 b b (Lib.byteCells l) w' ∧ Below b w w') :=
  Any.Builder_String_any_f { Tryz.lays230 with } Tryz.Builder_Extra_230 b b l w h hBw
theorem c_cap (b : Nat) (p : Option Addr) (n cap : Nat) (w : World) (c1 : w.cell? ⟨b, 1, none⟩ = some (.slice p n cap)) :
    Calls Tryz.prog 175 #[.pointer (some ⟨b, 0, none⟩)] w fun e w' => e = .returned (.int .i64 cap) ∧ w' = w :=
  Any.Builder_Cap_cell { Tryz.lays230 with } b p n cap w c1
theorem c_runeLen (r : Nat) (hr : r < 128) (w : World) : Calls Tryz.prog 173 #[.int .i32 (r : Int)] w fun e w' => e = .returned (.int .i64 1) ∧ w' = w := by
  have h := Any.utf8_RuneLen { Tryz.lays230 with } (r : Int) w
  have e : Lib.runeLen (r : Int) = 1 := by unfold Lib.runeLen; rw [if_neg (by omega), if_pos (by omega)]
  rw [e] at h
  exact h

set_option maxRecDepth 100000 in
set_option maxHeartbeats 400000 in
theorem map_titled (s : ByteArray) (w : World) (c : Nat) (hs : s.size ≤ 1000000) (hasc : ∀ j (h : j < s.size), s[j].toNat < 128) (hcw : c < w.heap.size) (hcell : w.heap[c]? = some (.cells #[.bool true] 4 (0, 0))) :
    Calls Tryz.prog 144 #[.func (.func 192) #[] #[.pointer (some ⟨c, 0, none⟩)], .string s] w fun e w' => e = .returned (.string (bs (titL true s.data.toList))) ∧ Below c w w' := by
  have eg : ∀ args w, (callFunc 192 args).run Tryz.prog w = .ok (.enter 192 args) w := enters_of Tryz.func192 (by kernel_rfl) rfl
  obtain ⟨ANS, hANS⟩ : ∃ ANS, ANS = titL true s.data.toList := ⟨_, rfl⟩
  have hlen : s.data.toList.length = s.size := size_len s
  rw [← hANS]
  have HASC := Lib.hid hasc
  clear hasc
  go_enter Tryz.func144, Tryz.ntmps144
  go_wp2
  go_loopg [1] s.size (fun gk s1 wx => s1 = .string s ∧ ∃ (k : Nat) (b : Bool), wx.heap[w.heap.size]? = some (.cells #[.pointer none, .slice none 0 0] 194 (0, 0)) ∧ wx.heap[w.heap.size + 1]? = some (.stringIter s k) ∧ AtT w c b wx ∧
    s.data.toList.take k ++ titL b (s.data.toList.drop k) = ANS ∧ s.size ≤ k + gk ∧ k ≤ s.size)
  case atStart =>
    refine ⟨rfl, 0, true, ?_, ?_, ⟨?_, ?_⟩, by rw [hANS]; rfl, by omega, by omega⟩
    · have h1 := heap_alloc_new w (.cells #[.pointer none, .slice none 0 0] 194)
      exact (Below.heap_alloc _ _ _ (by simp)).trans h1
    · have := World.iter_heap (w.alloc (.cells #[.pointer none, .slice none 0 0] 194)) s 0
      simpa using this
    · exact (Below.heap_alloc _ _ _ (by simp; omega)).trans ((Below.heap_alloc _ _ _ (by omega)).trans hcell)
    · exact ((Below.refl c w).alloc (by omega) _).alloc (by simp; omega) _
  case round =>
    obtain ⟨rfl, k, b, hfr, hit, hAt, hsp, hfu, hks⟩ := hrel
    by_cases hlt : k < s.size
    · obtain ⟨g', rfl⟩ : ∃ g', gk = g' + 1 := ⟨gk - 1, by omega⟩
      have hch := HASC.out k hlt
      have hdec := decode_low s k hlt hch
      have hnx : ∀ ty, (Instr.next (.pointer (some ⟨w.heap.size + 1, 0, none⟩)) true ty).run Tryz.prog wr = _ := fun ty => Lib.run_next_any_at wr (w.heap.size + 1) s k ty hit hlt
      rw [hdec] at hnx
      have hst := titL_step b s.data.toList k (by rw [hlen]; exact hlt)
      change titL b (s.data.toList.drop k) = UInt8.ofNat (titN b s[k].toNat) :: titL (stB s[k]) (s.data.toList.drop (k + 1)) at hst
      obtain ⟨ch, hchq⟩ : ∃ ch, ch = s[k] := ⟨_, rfl⟩
      have htk : s.data.toList.take (k + 1) = s.data.toList.take k ++ [ch] := by
        rw [List.take_succ_eq_append_getElem (by rw [hlen]; exact hlt), hchq]; rfl
      rw [← hchq] at hst hch hnx
      have hit2 := Lib.iterAt_heap wr (w.heap.size + 1) s k (k + 1) hit
      have hfr2 : (wr.iterAt (w.heap.size + 1) s (k + 1)).heap[w.heap.size]? = _ := (Lib.iterAt_other wr (w.heap.size + 1) w.heap.size s (k + 1) (by omega)).trans hfr
      have hAt2 : AtT w c b (wr.iterAt (w.heap.size + 1) s (k + 1)) := hAt.below (Lib.below_iterAt (Below.refl (w.heap.size + 1) wr) (Nat.le_refl _) s (k + 1)) (by omega)
      obtain ⟨W, hW⟩ : ∃ W, wr.iterAt (w.heap.size + 1) s (k + 1) = W := ⟨_, rfl⟩
      rw [hW] at hnx hit2 hfr2 hAt2
      have cS := titled1 ch.toNat c b W hAt2.1 hch
      have hAt3 : AtT w c (stB ch) (W.setCell ⟨c, 0, none⟩ (.bool (stB ch))) := hAt2.set (stB ch)
      have hfr3 : (W.setCell ⟨c, 0, none⟩ (.bool (stB ch))).heap[w.heap.size]? = _ := (setCell_other W c w.heap.size (.bool (stB ch)) (by omega)).trans hfr2
      have hit3 : (W.setCell ⟨c, 0, none⟩ (.bool (stB ch))).heap[w.heap.size + 1]? = _ := (setCell_other W c (w.heap.size + 1) (.bool (stB ch)) (by omega)).trans hit2
      have hn1 : ((ch.toNat : Int) != 65533) = true := by rw [bne_iff_ne]; omega
      have hn2 : ((ch.toNat : Int) == 65533) = false := by rw [beq_eq_false_iff_ne]; omega
      have hn3 : ¬ (ch.toNat : Int) = 65533 := by omega
      have hM := titN_le b ch.toNat hch
      obtain ⟨M, hMq⟩ : ∃ M, M = titN b ch.toNat := ⟨_, rfl⟩
      rw [← hMq] at cS hst hM
      obtain ⟨W3, hW3⟩ : ∃ W3, W3 = W.setCell ⟨c, 0, none⟩ (.bool (stB ch)) := ⟨_, rfl⟩
      change Calls _ _ _ _ fun e w' => _ ∧ w' = W.setCell ⟨c, 0, none⟩ (.bool (stB ch)) at cS
      rw [← hW3] at cS hAt3 hfr3 hit3
      clear hit hfr hAt hW hAt2 hfr2 hit2 hMq hW3 hchq hdec
      by_cases hc : M = ch.toNat
      · have HS : Hid (s.data.toList.take (k + 1) ++ titL (stB ch) (s.data.toList.drop (k + 1)) = ANS) := Lib.hid (by
          rw [← hsp, hst, htk, hc, List.append_assoc]; simp)
        subst hc
        clear hst hsp htk
        go_wp2_with (go_at_fn 192; go_must (refine cS.mono ?_; rintro e W' ⟨rfl, rfl⟩))
        go_roundg g'
        case measure => omega
        case rel => exact ⟨rfl, k + 1, stB ch, hfr3, hit3, hAt3, HS.out, by omega, by omega⟩
      · have HS : Hid ((s.data.toList.take k ++ [UInt8.ofNat M]) ++ titL (stB ch) (s.data.toList.drop (k + 1)) = ANS) := Lib.hid (by
          rw [← hsp, hst, List.append_assoc]; rfl)
        have t1 : ((M : Int) == (ch.toNat : Int)) = false := by rw [beq_eq_false_iff_ne]; omega
        have hxs : (s.extract 0 k).size = k := by rw [ByteArray.size_extract]; omega
        have hxd : (s.extract 0 k).data.toList = s.data.toList.take k := by rw [extract_bs, bs_data, List.drop_zero]
        have hMch : ¬ (M : Int) = (ch.toNat : Int) := by omega
        clear hst hsp htk hc
        go_wp2_with fail
        refine cS.mono ?_
        rintro e W' ⟨rfl, rfl⟩
        go_wp2_with fail
        refine (c_runeLen ch.toNat hch _).mono ?_
        rintro e W' ⟨rfl, rfl⟩
        go_wp2_with fail
        have hsz3 : w.heap.size ≤ W'.heap.size := by have := (Array.getElem?_eq_some_iff.1 hfr3).1; omega
        have cG := c_grow w.heap.size (s.size + 4) W' hfr3 hsz3 (by omega)
        rw [show ((s.size + 4 : Nat) : Int) = (s.size : Int) + 4 by omega] at cG
        refine cG.mono ?_
        rintro e W4 ⟨rfl, ⟨h4, b4⟩, p4, cap4, hc4, hcap4⟩
        have hAt4 := hAt3.below b4 hcw
        have hsz4 : w.heap.size ≤ W4.heap.size := by have := b4.size; omega
        clear cG hfr3 hit3 hAt3 cS
        go_wp2_with fail
        refine (c_writeString w.heap.size [] (s.extract 0 k) W4 (Lib.IsBuilderF.of (Or.inr h4)) (by rw [hxs]; simp; omega) hsz4).mono ?_
        rintro e W5 ⟨rfl, ⟨h5, b5, -⟩, hk5⟩
        obtain ⟨v5, hv5, hcap5⟩ := hk5 _ hc4
        have hcap5' : 4 ≤ v5.capOf := by
          have : cap4 ≤ v5.capOf := hcap5
          omega
        have hAt5 := hAt4.below b5 hcw
        have hsz5 : w.heap.size ≤ W5.heap.size := by have := b5.size; omega
        clear hk5 hc4 h4 hAt4 b4 b5 hv5 hcap5 hcap5'
        go_wp2_with fail
        refine (c_writeRune w.heap.size _ M hM W5 (Or.inr h5) (by simp [Lib.strCells_length, hxs]; omega) hsz5).mono ?_
        rintro e W6 ⟨rfl, h6, b6, -⟩
        have hAt6 := hAt5.below b6 hcw
        have hsz6 : w.heap.size ≤ W6.heap.size := by have := b6.size; omega
        have hcells : [] ++ Lib.strCells (s.extract 0 k) ++ [Value.int .u8 (M : Int)] = Lib.byteCells (s.data.toList.take k ++ [UInt8.ofNat M]) := by
          rw [List.nil_append, Lib.strCells_eq, hxd, Lib.byteCells_append]
          congr 1
          unfold Lib.byteCells
          simp [UInt8.toNat_ofNat']
          omega
        rw [hcells] at h6
        obtain ⟨g6, n6, cap6, hc6, hcap6⟩ : ∃ g n cap, W6.cell? ⟨w.heap.size, 1, none⟩ = some (.slice (some ⟨g, 0, none⟩) n cap) ∧ 1 ≤ cap := by
          obtain ⟨_, v6, hv6, hown6, _⟩ := h6
          rcases hown6.2 with ⟨_, h0⟩ | ⟨g6, cap6, _, _, rfl, _, _, _, hnc, _⟩
          · exfalso
            simp [Lib.byteCells] at h0
          · refine ⟨g6, _, cap6, by rw [Lib.cell_of_heap hv6]; rfl, ?_⟩
            have : 1 ≤ (Lib.byteCells (s.data.toList.take k ++ [UInt8.ofNat M])).length := by rw [Lib.byteCells_length]; simp
            omega
        have hcz : ((cap6 : Int) == 0) = false := by rw [beq_eq_false_iff_ne]; omega
        have hBlt : w.heap.size < W6.heap.size := h6.lt
        clear h5 hAt5 hsz5 b6
        go_wp2_with fail
        refine (c_cap w.heap.size _ _ cap6 W6 hc6).mono ?_
        rintro e W' ⟨rfl, rfl⟩
        obtain ⟨s2, hs2⟩ : ∃ s2, s.extract (k + 1) s.size = s2 := ⟨_, rfl⟩
        have hl2 : s2.data.toList = s.data.toList.drop (k + 1) := by rw [← hs2, extract_bs, bs_data, ← hlen, List.take_length]
        have hz2 : s2.size = s.size - (k + 1) := by rw [← size_len, hl2, List.length_drop, hlen]
        have HASC2 : Hid (∀ j (h : j < s2.size), s2[j].toNat < 128) := Lib.hid (fun j h => by
          have := HASC.out (k + 1 + j) (by omega)
          have e : s2[j] = s[k + 1 + j] := by
            have : s2.data.toList[j]'(by rw [size_len]; exact h) = s.data.toList[k + 1 + j]'(by rw [size_len]; omega) := by
              simp only [hl2, List.getElem_drop]
            exact this
          rw [e]; exact this)
        go_wp2_with fail
        go_loopg [] s2.size (fun gk wx => ∃ (p : Nat) (acc : List UInt8) (st : Bool), Lib.IsBuilderF 194 5 w.heap.size w.heap.size (Lib.byteCells acc) wx ∧ wx.heap[W'.heap.size]? = some (.stringIter s2 p) ∧ AtT w c st wx ∧
          acc ++ titL st (s2.data.toList.drop p) = ANS ∧ s2.size ≤ p + gk ∧ p ≤ s2.size ∧ acc.length ≤ k + 1 + p)
        case atStart =>
          refine ⟨0, s.data.toList.take k ++ [UInt8.ofNat M], stB ch, Lib.IsBuilderF.alloc (Or.inr h6) _, World.iter_heap W' s2 0, hAt6.below ((Below.refl W'.heap.size W').alloc (Nat.le_refl _) _) (by omega), ?_, by omega, by omega, ?_⟩
          · rw [List.drop_zero, hl2]; exact HS.out
          · rw [List.length_append, List.length_take, hlen]; simp; omega
        case round =>
          obtain ⟨p, acc, st, hI, hit, hAt, hacc, hfu2, hp2, hal⟩ := hrel
          have hszI : W'.heap.size < wr.heap.size := (Array.getElem?_eq_some_iff.1 hit).1
          by_cases hlt2 : p < s2.size
          · obtain ⟨g2, rfl⟩ : ∃ g2, gk = g2 + 1 := ⟨gk - 1, by omega⟩
            have hch2 := HASC2.out p hlt2
            have hnx : ∀ ty, (Instr.next (.pointer (some ⟨W'.heap.size, 0, none⟩)) true ty).run Tryz.prog wr = _ := fun ty => Lib.run_next_any_at wr W'.heap.size s2 p ty hit hlt2
            rw [decode_low s2 p hlt2 hch2] at hnx
            have hst := titL_step st s2.data.toList p (by rw [size_len]; exact hlt2)
            change titL st (s2.data.toList.drop p) = UInt8.ofNat (titN st s2[p].toNat) :: titL (stB s2[p]) (s2.data.toList.drop (p + 1)) at hst
            obtain ⟨d, hd⟩ : ∃ d, d = s2[p] := ⟨_, rfl⟩
            rw [← hd] at hst hch2 hnx
            have hI2 := hI.iterAt hit (p + 1)
            have hit2 := Lib.iterAt_heap wr W'.heap.size s2 p (p + 1) hit
            have hAt2 : AtT w c st (wr.iterAt W'.heap.size s2 (p + 1)) := hAt.below (Lib.below_iterAt (Below.refl W'.heap.size wr) (Nat.le_refl _) s2 (p + 1)) (by omega)
            obtain ⟨Wa, hWa⟩ : ∃ Wa, wr.iterAt W'.heap.size s2 (p + 1) = Wa := ⟨_, rfl⟩
            rw [hWa] at hnx hI2 hit2 hAt2
            have cS := titled1 d.toNat c st Wa hAt2.1 hch2
            change Calls _ _ _ _ fun e w' => _ ∧ w' = Wa.setCell ⟨c, 0, none⟩ (.bool (stB d)) at cS
            have hAt3 := hAt2.set (stB d)
            have hit3 : (Wa.setCell ⟨c, 0, none⟩ (.bool (stB d))).heap[W'.heap.size]? = _ := (setCell_other Wa c W'.heap.size (.bool (stB d)) (by omega)).trans hit2
            have hI3 := isBuilder_keeps hI2 hcw (.bool (stB d))
            have hN := titN_le st d.toNat hch2
            obtain ⟨N, hNq⟩ : ∃ N, N = titN st d.toNat := ⟨_, rfl⟩
            rw [← hNq] at cS hst hN
            have HS2 : Hid ((acc ++ [UInt8.ofNat N]) ++ titL (stB d) (s2.data.toList.drop (p + 1)) = ANS) := Lib.hid (by
              rw [← hacc, hst, List.append_assoc]; rfl)
            obtain ⟨W3, hW3⟩ : ∃ W3, W3 = Wa.setCell ⟨c, 0, none⟩ (.bool (stB d)) := ⟨_, rfl⟩
            rw [← hW3] at cS hAt3 hit3 hI3
            have hsz3 : W'.heap.size < W3.heap.size := (Array.getElem?_eq_some_iff.1 hit3).1
            have n0 : (0 : Int) ≤ (N : Int) := by omega
            clear hd hI hit hAt hI2 hit2 hAt2 hWa hNq hW3 hst hacc
            go_wp2_with fail
            refine cS.mono ?_
            rintro e W7 ⟨rfl, rfl⟩
            go_wp2_with fail
            refine (c_writeByte w.heap.size _ (N : Int) W7 hI3 (by rw [Lib.byteCells_length]; omega) (by omega)).mono ?_
            rintro e W8 ⟨rfl, h8, b8, k8⟩
            go_wp2_with fail
            go_roundg g2
            case measure => omega
            case rel =>
              refine ⟨p + 1, acc ++ [UInt8.ofNat N], stB d, Or.inr ?_, k8.iter hit3 (by omega), hAt3.below b8 hcw, HS2.out, by omega, by omega, by rw [List.length_append]; simp; omega⟩
              rw [Lib.byteCells_append]
              have e1 : Lib.byteCells [UInt8.ofNat N] = [Value.int .u8 (N : Int)] := by
                unfold Lib.byteCells
                simp [UInt8.toNat_ofNat']
                omega
              rw [e1]; exact h8
          · obtain rfl : p = s2.size := by omega
            have hnx : ∀ ty, (Instr.next (.pointer (some ⟨W'.heap.size, 0, none⟩)) true ty).run Tryz.prog wr = _ := fun ty => Lib.run_next_end_at wr W'.heap.size s2 s2.size ty hit hlt2
            have HS2 : Hid (acc = ANS) := Lib.hid (by rw [← hacc, ← size_len s2, List.drop_length]; exact (List.append_nil _).symm)
            clear hacc hit
            go_wp2_with fail
            refine (c_string w.heap.size acc wr hI (by omega)).mono ?_
            rintro e W8 ⟨rfl, _, b8⟩
            go_wp2_with fail
            go_ret
            exact ⟨ret_str (by rw [HS2.out]), (hAt.below b8 hcw).2⟩
    · obtain rfl : k = s.size := by omega
      have hnx : ∀ ty, (Instr.next (.pointer (some ⟨w.heap.size + 1, 0, none⟩)) true ty).run Tryz.prog wr = _ := fun ty => Lib.run_next_end_at wr (w.heap.size + 1) s s.size ty hit hlt
      have cC : Calls Tryz.prog 175 #[.pointer (some ⟨w.heap.size, 0, none⟩)] wr fun e w' => e = .returned (.int .i64 0) ∧ w' = wr := c_cap w.heap.size none 0 0 wr (by rw [Lib.cell_of_heap hfr]; rfl)
      have HS : Hid (s = bs ANS) := Lib.hid (by rw [← hsp, ← hlen, List.drop_length, List.take_length]; show s = bs (_ ++ []); rw [List.append_nil, bs_self])
      clear hsp
      clear hit hfr
      go_wp2_with fail
      refine cC.mono ?_
      rintro e W' ⟨rfl, rfl⟩
      go_wp2_with fail
      go_ret
      exact ⟨ret_str HS.out, hAt.2⟩
end Go.Proofs.YtbdmmgmcbecolaaGreatDoor
namespace Go.Proofs.YtbdmmgmcbecolaaGreatDoor
open Go.RowKit

theorem fields_titled (s : ByteArray) (w : World) (hs : s.size ≤ 1000000) (hasc : ∀ j (h : j < s.size), s[j].toNat < 128) :
    Calls Tryz.prog 159 #[.string s] w fun e w' => e = .returned (.string (bs (titL true s.data.toList))) ∧ Below w.heap.size w w' := by
  have HM := Lib.hid (fun w c => map_titled s w c hs hasc)
  obtain ⟨A, hA⟩ : ∃ A, A = bs (titL true s.data.toList) := ⟨_, rfl⟩
  rw [← hA] at HM ⊢
  clear hasc hA
  go_enter Tryz.func159, Tryz.ntmps159
  go_wp2_with fail
  refine (HM.out _ w.heap.size (box_lt _ _ _) (heap_alloc_new w _)).mono ?_
  rintro e w1 ⟨rfl, hb⟩
  go_wp2_with fail
  go_ret
  exact ⟨rfl, (below_box w _ _).trans hb⟩

/-- a letter as a small one -/
def smallN (c : Nat) : Nat := if 65 ≤ c ∧ c ≤ 90 then c + 32 else c
theorem fields_small (c : Nat) (w : World) (hc : c ≤ 1114111) : Calls Tryz.prog 145 #[.int .i32 (c : Int)] w fun e w' => e = .returned (.int .i32 (smallN c : Nat)) ∧ w' = w := by
  by_cases h1 : c < 65
  · have H : Hid (smallN c = c) := Lib.hid (if_neg (by omega))
    have t : decide ((c : Int) ≥ 65) = false := by simp; omega
    go_enter Tryz.func145, Tryz.ntmps145
    go_wp2_with fail
    go_ret
    exact ⟨by rw [H.out]; rfl, rfl⟩
  · by_cases h2 : 90 < c
    · have H : Hid (smallN c = c) := Lib.hid (if_neg (by omega))
      have t : decide ((c : Int) ≤ 90) = false := by simp; omega
      go_enter Tryz.func145, Tryz.ntmps145
      go_wp2_with fail
      go_ret
      exact ⟨by rw [H.out]; rfl, rfl⟩
    · have H : Hid (smallN c = c + 32) := Lib.hid (if_pos (by omega))
      have t : decide ((c : Int) ≤ 90) = true := by simp; omega
      have h3 : 65 ≤ c := by omega
      go_enter Tryz.func145, Tryz.ntmps145
      go_wp2_with fail
      go_ret
      refine ⟨ret_int ?_, rfl⟩
      rw [H.out]; omega

def gapB (c : UInt8) : Bool := c == 32 || c == 9
end Go.Proofs.YtbdmmgmcbecolaaGreatDoor
namespace Go.Proofs.YtbdmmgmcbecolaaGreatDoor
open Go.RowKit
theorem named_cases (n : Nat) : (97 ≤ n ∧ n ≤ 122 ∧ namedN n = true) ∨ (48 ≤ n ∧ n ≤ 57 ∧ namedN n = true) ∨ (n = 45 ∧ namedN n = true) ∨ (n < 48 ∧ n ≠ 45 ∧ namedN n = false) ∨ (57 < n ∧ n < 97 ∧ namedN n = false) ∨ (122 < n ∧ namedN n = false) := by
  unfold namedN letN digN
  simp only [Bool.or_eq_true, Bool.and_eq_true, decide_eq_true_eq, beq_iff_eq, Bool.or_eq_false_iff, Bool.and_eq_false_iff, decide_eq_false_iff_not, beq_eq_false_iff_ne]
  omega
end Go.Proofs.YtbdmmgmcbecolaaGreatDoor
namespace Go.Proofs.YtbdmmgmcbecolaaGreatDoor
open Go.RowKit

def smallB (c : UInt8) : UInt8 := UInt8.ofNat (smallN c.toNat)
/-- what stands ahead of the first colon -/
def ahead (l : List UInt8) : List UInt8 := l.takeWhile (fun c => c != 58)
def gapL : List UInt8 := [32, 9]
def parseName (l : List UInt8) : List UInt8 := (ahead l).map smallB
def parseVal (l : List UInt8) : List UInt8 := Go.Lib.trimS (l.drop ((ahead l).length + 1)) gapL
def plainAll (l : List UInt8) : Bool := l.all (fun c => plainB c.toNat)
def parseOk (l : List UInt8) : Bool := plainAll l && decide ((ahead l).length < l.length) && nameL (parseName l)
def parseN (l : List UInt8) : List UInt8 := if parseOk l = true then parseName l else []
def parseV (l : List UInt8) : List UInt8 := if parseOk l = true then parseVal l else []
def parseE (l : List UInt8) : Nat := if parseOk l = true then 0 else 4

theorem ahead_le (l : List UInt8) : (ahead l).length ≤ l.length := (List.takeWhile_prefix _).length_le
theorem ahead_take (l : List UInt8) : l.take (ahead l).length = ahead l := (List.prefix_iff_eq_take.1 (List.takeWhile_prefix _)).symm
theorem index58 (l : List UInt8) : Go.Lib.index l [58] = if (ahead l).length < l.length then ((ahead l).length : Int) else -1 := by
  induction l with
  | nil => rfl
  | cons c t ih =>
    unfold Go.Lib.index
    by_cases hc : c = 58
    · subst hc
      have : ahead (58 :: t) = [] := by unfold ahead; rw [List.takeWhile_cons_of_neg (by decide)]
      rw [this, if_pos (by simp [List.isPrefixOf]), if_pos (by simp)]; rfl
    · have ha : ahead (c :: t) = c :: ahead t := by unfold ahead; rw [List.takeWhile_cons_of_pos (by simpa using hc)]
      rw [if_neg (by simp [List.isPrefixOf]; exact fun h => hc h.symm), ih, ha]
      by_cases hlt : (ahead t).length < t.length
      · rw [if_pos hlt, if_neg (by rw [beq_iff_eq]; omega), if_pos (by simp; omega)]; simp
      · rw [if_neg hlt, if_pos (by decide), if_neg (by simp; omega)]
theorem cut58 (l : List UInt8) : Go.Lib.cut l [58] = if (ahead l).length < l.length then (ahead l, l.drop ((ahead l).length + 1), true) else (l, [], false) := by
  unfold Go.Lib.cut
  rw [index58]
  by_cases hlt : (ahead l).length < l.length
  · rw [if_pos hlt, if_pos (by omega), if_pos hlt, Int.toNat_natCast, ahead_take]; rfl
  · rw [if_neg hlt, if_neg (by decide), if_neg hlt]

theorem smallN_lt (c : Nat) (h : c < 128) : smallN c < 128 := by
  unfold smallN; split <;> omega
theorem mapD_small (l : List UInt8) (f : Int → Int) (hf : ∀ x : Nat, x < 128 → f x = (smallN x : Nat)) : ∀ h : (∀ c ∈ l, c.toNat < 128), Go.Lib.mapD f l = l.map smallB := by
  induction l with
  | nil => intro _; rfl
  | cons c t ih =>
    intro h
    have hc : c.toNat < 128 := h c (List.mem_cons_self ..)
    have hs := smallN_lt _ hc
    rw [Go.Lib.mapD_step f _ (by simp), Go.Lib.decodeL_ascii c t hc, hf _ hc, if_pos (by omega)]
    have e : Go.Lib.encodeRune ((smallN c.toNat : Nat) : Int) = [smallB c] := by
      unfold Go.Lib.encodeRune
      rw [Go.Lib.encodeRuneZ_one (by omega) (by omega)]
      rfl
    rw [e]
    show smallB c :: Go.Lib.mapD f t = _
    rw [ih (fun d hd => h d (List.mem_cons_of_mem _ hd))]; rfl
theorem plainB_lt (n : Nat) (h : plainB n = true) : n < 128 := by
  unfold plainB at h
  simp only [Bool.or_eq_true, beq_iff_eq, Bool.and_eq_true, decide_eq_true_eq] at h
  omega
theorem plainAll_lt (l : List UInt8) (h : plainAll l = true) : ∀ c ∈ l, c.toNat < 128 := fun c hc => plainB_lt _ (List.all_eq_true.1 h c hc)
theorem ahead_sub (l : List UInt8) (c : UInt8) (h : c ∈ ahead l) : c ∈ l := (List.takeWhile_subset _) h
end Go.Proofs.YtbdmmgmcbecolaaGreatDoor
namespace Go.Proofs.YtbdmmgmcbecolaaGreatDoor
open Go.RowKit

/-- what the library's variables hold, carried along a call -/
structure EnvF (w : World) : Prop where
  m : ∃ m, w.cell? ⟨1, 0, none⟩ = some (.int .i64 m)
  mlt : 1 < w.heap.size
  tabs : Lib.Utf8Tabs 4 5 w
  pow : Go.Lib.TabIs Tryz.prog w "internal/strconv.uint64pow10" .u64 Go.Lib.pow10Tab
  big : 6 < w.heap.size
  rng : ∃ tp p, w.cell? ⟨3, 0, none⟩ = some (.iface tp p)
  rlt : 3 < w.heap.size
theorem EnvF.below {w w' : World} (h : EnvF w) (hb : Below w.heap.size w w') : EnvF w' :=
  ⟨let ⟨m, hm⟩ := h.m; ⟨m, (hb.cell (p := ⟨1, 0, none⟩) h.mlt).trans hm⟩, Nat.lt_of_lt_of_le h.mlt hb.size, Utf8Tabs_below h.tabs hb, var?_below hb g_pow10 h.big h.pow, Nat.lt_of_lt_of_le h.big hb.size,
   let ⟨t, p, hp⟩ := h.rng; ⟨t, p, (hb.cell (p := ⟨3, 0, none⟩) h.rlt).trans hp⟩, Nat.lt_of_lt_of_le h.rlt hb.size⟩

/-- the same, without the error of a number that is too great (rows that reach no such number do not list it) -/
structure EnvW (w : World) : Prop where
  m : ∃ m, w.cell? ⟨1, 0, none⟩ = some (.int .i64 m)
  mlt : 1 < w.heap.size
  tabs : Lib.Utf8Tabs 4 5 w
  pow : Go.Lib.TabIs Tryz.prog w "internal/strconv.uint64pow10" .u64 Go.Lib.pow10Tab
  big : 6 < w.heap.size
theorem EnvW.below {w w' : World} (h : EnvW w) (hb : Below w.heap.size w w') : EnvW w' :=
  ⟨let ⟨m, hm⟩ := h.m; ⟨m, (hb.cell (p := ⟨1, 0, none⟩) h.mlt).trans hm⟩, Nat.lt_of_lt_of_le h.mlt hb.size, Utf8Tabs_below h.tabs hb, var?_below hb g_pow10 h.big h.pow, Nat.lt_of_lt_of_le h.big hb.size⟩
theorem EnvF.weak {w : World} (h : EnvF w) : EnvW w := ⟨h.m, h.mlt, h.tabs, h.pow, h.big⟩
end Go.Proofs.YtbdmmgmcbecolaaGreatDoor
namespace Go.Proofs.YtbdmmgmcbecolaaGreatDoor
open Go.RowKit

theorem c_cut (s : ByteArray) (w : World) (hs : s.size ≤ 1000000) (hE : EnvW w) (A V : ByteArray) (B : Bool)
    (h : Go.Lib.cut s.data.toList [58] = (A.data.toList, V.data.toList, B)) :
    Calls Tryz.prog 77 #[.string s, .string ⟨#[58]⟩] w fun e w' => e = .returned (.tuple #[.string A, .string V, .bool B]) ∧ Below w.heap.size w w' := by
  obtain ⟨m, hm⟩ := hE.m
  have hc := Tryz.strings_Cut s ⟨#[58]⟩ m w (by omega) hm
  refine hc.mono ?_
  rintro e w' ⟨rfl, n, rfl⟩
  refine ⟨?_, (fun n => by induction n with | zero => exact Below.refl _ _ | succ n ih => exact ih.drew : ∀ n, Below w.heap.size w (w.drewN n)) n⟩
  have h2 : Go.Lib.cut s.data.toList (ByteArray.mk #[58]).data.toList = (A.data.toList, V.data.toList, B) := h
  rw [h2]
theorem c_mapSmall (s : ByteArray) (w : World) (hs : s.size ≤ 1000000) (hE : EnvW w) (hasc : ∀ c ∈ s.data.toList, c.toNat < 128) :
    Calls Tryz.prog 144 #[.func (.func 145) #[] #[], .string s] w fun e w' => e = .returned (.string (bs (s.data.toList.map smallB))) ∧ Below w.heap.size w w' := by
  have h := Tryz.strings_Map_grows 145 #[] (enters_of Tryz.func145 (by kernel_rfl) rfl) (fun x => (smallN x.toNat : Nat)) s w (by omega)
    (fun W x hx _ => (fields_small x W hx).mono fun e w' ⟨he, hw⟩ => ⟨he, hw ▸ Below.refl _ _⟩)
    (fun x hx => by unfold smallN; rw [Int.toNat_natCast]; split <;> constructor <;> omega) hE.tabs
  rw [mapD_small s.data.toList _ (fun x hx => by rw [Int.toNat_natCast]) hasc] at h
  exact h
theorem c_trim (s : ByteArray) (w : World) (hs : s.size ≤ 1000000) :
    Calls Tryz.prog 147 #[.string s, .string ⟨#[32, 9]⟩] w fun e w' => e = .returned (.string (bs (Go.Lib.trimS s.data.toList gapL))) ∧ Below w.heap.size w w' :=
  Any.strings_Trim_laid Tryz.lays160 (by kernel_rfl) s ⟨#[32, 9]⟩ w (by omega) (by decide) (Go.Proofs.ascii_of_all (by decide))

/-- a block of two texts -/
structure Two (w : World) (b : Nat) (x y : Value) : Prop where
  c0 : w.cell? ⟨b, 0, none⟩ = some x
  c1 : w.cell? ⟨b, 1, none⟩ = some y
  f0 : w.frozen? ⟨b, 0, none⟩ = false
  f1 : w.frozen? ⟨b, 1, none⟩ = false
theorem two_of {w : World} {b : Nat} {x y : Value} {t : TypeId} (h : w.heap[b]? = some (.cells #[x, y] t (0, 0))) : Two w b x y :=
  ⟨by unfold World.cell?; rw [h]; rfl, by unfold World.cell?; rw [h]; rfl, by unfold World.frozen?; rw [h]; rfl, by unfold World.frozen?; rw [h]; rfl⟩
theorem two_box {w w1 : World} {x y : Value} {t : TypeId} (hb : Below (w.alloc (.cells #[x, y] t)).heap.size (w.alloc (.cells #[x, y] t)) w1) : w1.heap[w.heap.size]? = some (.cells #[x, y] t (0, 0)) :=
  (hb.block _ (by simp)).trans (heap_alloc_new w _)

/-- a result that lies in a block of two texts, and a number -/
theorem ret_field {fn : Func} {R : Ending → World → Prop} {a : Act} {w : World} {b : Nat} {x y E : Value} {p u : Tmp} {ty : TypeId} (hres : fn.results = #[.cell p ty, .tmp u])
    (hload : (loadVar ty ⟨b, 0, none⟩).run Tryz.prog w = .ok (.agg #[x, y]) w)
    (hp : a.tmps.getD p undef = .pointer (some ⟨b, 0, none⟩)) (hE : a.tmps.getD u undef = E) (hdef : a.defers = [])
    (hR : R (.returned (.tuple #[.agg #[x, y], E])) w) : bodyPost Tryz.prog fn R .ret a w := by
  refine bodyPost_ret_by (v := .tuple #[.agg #[x, y], E]) ?_ hdef hR
  rw [results_cell_tmp hres, hp, hE]
  simp [asAddr, hload, Result.andThen]
theorem load_own (w : World) (b : Nat) (t : TypeId) (x y : Value) (h : w.heap[b]? = some (.cells #[x, y] t (0, 0))) : (loadVar 161 ⟨b, 0, none⟩).run Tryz.prog w = .ok (.agg #[x, y]) w :=
  run_loadVar_row w b t 161 #[x, y] (0, 0) _ h Tryz.underlying161 rfl (by kernel_rfl)
theorem two_set {w : World} {b : Nat} {x y : Value} {t : TypeId} (h : w.heap[b]? = some (.cells #[x, y] t (0, 0))) (x' y' : Value) :
    ((w.setCell ⟨b, 0, none⟩ x').setCell ⟨b, 1, none⟩ y').heap[b]? = some (.cells #[x', y'] t (0, 0)) := by
  simp [World.setCell, Array.getElem?_modify, h]
theorem two_below {B : Nat} {w0 w : World} (h : Below B w0 w) (b : Nat) (hB : B ≤ b) (x' y' : Value) : Below B w0 ((w.setCell ⟨b, 0, none⟩ x').setCell ⟨b, 1, none⟩ y') :=
  (h.setCell (p := ⟨b, 0, none⟩) hB _).setCell (p := ⟨b, 1, none⟩) hB _

set_option maxRecDepth 100000 in
set_option maxHeartbeats 1000000 in
theorem fields_parseW (s : ByteArray) (w : World) (hs : s.size ≤ 1000000) (hE : EnvW w) :
    Calls Tryz.prog 107 #[.string s] w fun e w' => e = .returned (.tuple #[.agg #[.string (bs (parseN s.data.toList)), .string (bs (parseV s.data.toList))], .int .i64 (parseE s.data.toList)]) ∧ Below w.heap.size w w' := by
  have HE := Lib.hid hE
  clear hE
  by_cases hcol : (ahead s.data.toList).length < s.data.toList.length
  · have hcut := cut58 s.data.toList
    rw [if_pos hcol] at hcut
    obtain ⟨A, hA⟩ : ∃ A, A = bs (ahead s.data.toList) := ⟨_, rfl⟩
    obtain ⟨V, hV⟩ : ∃ V, V = bs (s.data.toList.drop ((ahead s.data.toList).length + 1)) := ⟨_, rfl⟩
    have HC := Lib.hid (fun w hE => c_cut s w hs hE A V true (by rw [hcut, hA, hV, bs_data, bs_data]))
    have hsl := size_len s
    have hAl : A.size ≤ 1000000 := by rw [hA, bs_size]; have := ahead_le s.data.toList; omega
    have hVl : V.size ≤ 1000000 := by rw [hV, bs_size, List.length_drop]; omega
    cases hpl : plainAll s.data.toList with
    | false =>
      have HP : Hid (parseN s.data.toList = [] ∧ parseV s.data.toList = [] ∧ parseE s.data.toList = 4) := Lib.hid (by
        have : parseOk s.data.toList = false := by unfold parseOk; rw [hpl]; rfl
        unfold parseN parseV parseE; rw [this]; exact ⟨rfl, rfl, rfl⟩)
      have hfp := fun w => fields_plain s w (by omega)
      rw [show (s.data.toList.all (fun c => plainB c.toNat)) = false from hpl] at hfp
      have HFP := Lib.hid hfp
      clear hcol hcut hpl hfp hsl hA hV hAl hVl
      go_enter Tryz.func107, Tryz.ntmps107
      go_wp2_with fail
      refine (HC.out _ (HE.out.below ((Below.refl _ _).alloc (Nat.le_refl _) _))).mono ?_
      rintro e w1 ⟨rfl, hb1⟩
      obtain ⟨k0, k1, f0, f1⟩ := two_of (two_box hb1)
      go_wp2_with (go_at_call 143; refine (HFP.out _).mono ?_; rintro e w' ⟨rfl, rfl⟩)
      refine ret_field (b := w.heap.size) (x := .string ⟨#[]⟩) (y := .string ⟨#[]⟩) rfl (load_own _ _ _ _ _ (two_set (two_box hb1) _ _)) rfl rfl rfl ?_
      refine ⟨?_, two_below (((Below.refl _ _).alloc (Nat.le_refl _) _).trans (hb1.mono (by simp))) _ (Nat.le_refl _) _ _⟩
      rw [HP.out.1, HP.out.2.1, HP.out.2.2]; rfl
    | true =>
      have hfp := fun w => fields_plain s w (by omega)
      rw [show (s.data.toList.all (fun c => plainB c.toNat)) = true from hpl] at hfp
      have HFP := Lib.hid hfp
      have hasc : ∀ c ∈ A.data.toList, c.toNat < 128 := by
        rw [hA, bs_data]; intro c hc; exact plainAll_lt _ hpl c (ahead_sub _ c hc)
      have hms := fun w hE => c_mapSmall A w hAl hE hasc
      rw [show A.data.toList.map smallB = parseName s.data.toList by rw [hA, bs_data]; rfl] at hms
      have HMS := Lib.hid hms
      have HFN := Lib.hid (fun w => fields_name (bs (parseName s.data.toList)) w)
      have HT := Lib.hid (fun w => c_trim V w hVl)
      have hvv : bs (Go.Lib.trimS V.data.toList gapL) = bs (parseVal s.data.toList) := by rw [hV, bs_data]; rfl
      rw [hvv] at HT
      rw [bs_data] at HFN
      cases hnm : nameL (parseName s.data.toList) with
      | false =>
        have HP : Hid (parseN s.data.toList = [] ∧ parseV s.data.toList = [] ∧ parseE s.data.toList = 4) := Lib.hid (by
          have : parseOk s.data.toList = false := by unfold parseOk; rw [hnm, Bool.and_false]
          unfold parseN parseV parseE; rw [this]; exact ⟨rfl, rfl, rfl⟩)
        rw [hnm] at HFN
        obtain ⟨N, hN⟩ : ∃ N, N = bs (parseName s.data.toList) := ⟨_, rfl⟩
        rw [← hN] at HMS HFN
        clear hcol hcut hpl hfp hsl hA hV hAl hVl hasc hms hvv hnm hN HT
        go_enter Tryz.func107, Tryz.ntmps107
        go_wp2_with fail
        refine (HC.out _ (HE.out.below ((Below.refl _ _).alloc (Nat.le_refl _) _))).mono ?_
        rintro e w1 ⟨rfl, hb1⟩
        have HE1 := Lib.hid ((HE.out.below ((Below.refl _ _).alloc (Nat.le_refl _) _)).below hb1)
        go_wp2_with (go_at_call 143; refine (HFP.out _).mono ?_; rintro e w' ⟨rfl, rfl⟩)
        refine (HMS.out _ HE1.out).mono ?_
        rintro e w2 ⟨rfl, hb2⟩
        go_wp2_with fail
        refine (HFN.out _).mono ?_
        rintro e w3 ⟨rfl, hb3⟩
        have hb13 := bstep hb1 (bstep hb2 hb3)
        clear hb1 hb2 hb3
        obtain ⟨k0, k1, f0, f1⟩ := two_of (two_box hb13)
        go_wp2_with fail
        refine ret_field (b := w.heap.size) (x := .string ⟨#[]⟩) (y := .string ⟨#[]⟩) rfl (load_own _ _ _ _ _ (two_set (two_box hb13) _ _)) rfl rfl rfl ?_
        refine ⟨?_, two_below (((Below.refl _ _).alloc (Nat.le_refl _) _).trans (hb13.mono (by simp))) _ (Nat.le_refl _) _ _⟩
        rw [HP.out.1, HP.out.2.1, HP.out.2.2]; rfl
      | true =>
        have HP : Hid (parseN s.data.toList = parseName s.data.toList ∧ parseV s.data.toList = parseVal s.data.toList ∧ parseE s.data.toList = 0) := Lib.hid (by
          have : parseOk s.data.toList = true := by unfold parseOk; rw [hnm, hpl, decide_eq_true hcol]; rfl
          unfold parseN parseV parseE; rw [this]; exact ⟨rfl, rfl, rfl⟩)
        rw [hnm] at HFN
        obtain ⟨N, hN⟩ : ∃ N, N = bs (parseName s.data.toList) := ⟨_, rfl⟩
        obtain ⟨T, hT⟩ : ∃ T, T = bs (parseVal s.data.toList) := ⟨_, rfl⟩
        rw [← hN] at HMS HFN
        rw [← hT] at HT
        have HNT := Lib.hid (And.intro hN hT)
        clear hcol hcut hpl hfp hsl hA hV hAl hVl hasc hms hvv hnm hN hT
        go_enter Tryz.func107, Tryz.ntmps107
        go_wp2_with fail
        refine (HC.out _ (HE.out.below ((Below.refl _ _).alloc (Nat.le_refl _) _))).mono ?_
        rintro e w1 ⟨rfl, hb1⟩
        have HE1 := Lib.hid ((HE.out.below ((Below.refl _ _).alloc (Nat.le_refl _) _)).below hb1)
        go_wp2_with (go_at_call 143; refine (HFP.out _).mono ?_; rintro e w' ⟨rfl, rfl⟩)
        refine (HMS.out _ HE1.out).mono ?_
        rintro e w2 ⟨rfl, hb2⟩
        go_wp2_with fail
        refine (HFN.out _).mono ?_
        rintro e w3 ⟨rfl, hb3⟩
        go_wp2_with fail
        refine (HT.out _).mono ?_
        rintro e w4 ⟨rfl, hb4⟩
        have hb13 := bstep hb1 (bstep hb2 (bstep hb3 hb4))
        clear hb1 hb2 hb3 hb4
        obtain ⟨k0, k1, f0, f1⟩ := two_of (two_box hb13)
        go_wp2_with fail
        refine ret_field (b := w.heap.size) (x := .string N) (y := .string T) rfl (load_own _ _ _ _ _ (two_set (two_box hb13) _ _)) rfl rfl rfl ?_
        refine ⟨?_, two_below (((Below.refl _ _).alloc (Nat.le_refl _) _).trans (hb13.mono (by simp))) _ (Nat.le_refl _) _ _⟩
        rw [HP.out.1, HP.out.2.1, HP.out.2.2, ← HNT.out.1, ← HNT.out.2]; rfl
  · have hcut := cut58 s.data.toList
    rw [if_neg hcol] at hcut
    have HC := Lib.hid (fun w hE => c_cut s w hs hE s ⟨#[]⟩ false hcut)
    have HP : Hid (parseN s.data.toList = [] ∧ parseV s.data.toList = [] ∧ parseE s.data.toList = 4) := Lib.hid (by
      have : parseOk s.data.toList = false := by unfold parseOk; rw [decide_eq_false hcol, Bool.and_false, Bool.false_and]
      unfold parseN parseV parseE; rw [this]; exact ⟨rfl, rfl, rfl⟩)
    clear hcol hcut
    go_enter Tryz.func107, Tryz.ntmps107
    go_wp2_with fail
    refine (HC.out _ (HE.out.below ((Below.refl _ _).alloc (Nat.le_refl _) _))).mono ?_
    rintro e w1 ⟨rfl, hb1⟩
    obtain ⟨k0, k1, f0, f1⟩ := two_of (two_box hb1)
    go_wp2_with fail
    refine ret_field (b := w.heap.size) (x := .string ⟨#[]⟩) (y := .string ⟨#[]⟩) rfl (load_own _ _ _ _ _ (two_set (two_box hb1) _ _)) rfl rfl rfl ?_
    refine ⟨?_, two_below (((Below.refl _ _).alloc (Nat.le_refl _) _).trans (hb1.mono (by simp))) _ (Nat.le_refl _) _ _⟩
    rw [HP.out.1, HP.out.2.1, HP.out.2.2]; rfl
theorem fields_parse (s : ByteArray) (w : World) (hs : s.size ≤ 1000000) (hE : EnvF w) :
    Calls Tryz.prog 107 #[.string s] w fun e w' => e = .returned (.tuple #[.agg #[.string (bs (parseN s.data.toList)), .string (bs (parseV s.data.toList))], .int .i64 (parseE s.data.toList)]) ∧ Below w.heap.size w w' := fields_parseW s w hs hE.weak
end Go.Proofs.YtbdmmgmcbecolaaGreatDoor
namespace Go.Proofs.YtbdmmgmcbecolaaGreatDoor
open Go.RowKit
/-- a text without ends of lines -/
def cleanL (l : List UInt8) : List UInt8 := l.filter fun b => b != 13 && b != 10
theorem cleanL_len (l : List UInt8) : (cleanL l).length ≤ l.length := List.length_filter_le _ _
/-- where line k begins -/
def atF (s : ByteArray) : Nat → Int
  | 0 => 0
  | k + 1 => takeNext s (atF s k)
/-- s with another text in line k -/
def putF (s : ByteArray) (k : Nat) (t : List UInt8) : List UInt8 := s.data.toList.take (atF s k).toNat ++ t ++ s.data.toList.drop ((atF s k).toNat + (takeLine s (atF s k)).size)
theorem scan_le : ∀ (l : List UInt8) (n : Nat), (scan l n).2 = 0 → n ≤ (scan l n).1 ∧ (scan l n).1 + 2 ≤ l.length + n := by
  intro l
  induction l with
  | nil => intro n h; exact absurd (show (3 : Nat) = 0 from h) (by decide)
  | cons x l ih =>
    intro n h
    rw [scan] at h ⊢
    by_cases h1 : x = 13 ∧ l = []
    · rw [if_pos h1] at h; exact absurd (show (3 : Nat) = 0 from h) (by decide)
    rw [if_neg h1] at h ⊢
    by_cases h2 : x = 13 ∧ l.head? = some 10
    · rw [if_pos h2]
      cases l with
      | nil => exact absurd ⟨h2.1, rfl⟩ h1
      | cons y t => simp only [List.length_cons]; omega
    rw [if_neg h2] at h ⊢
    by_cases h3 : plainB x.toNat = false
    · rw [if_pos h3] at h; exact absurd (show (4 : Nat) = 0 from h) (by decide)
    rw [if_neg h3] at h ⊢
    by_cases h4 : n = 256
    · rw [if_pos h4] at h; exact absurd (show (5 : Nat) = 0 from h) (by decide)
    rw [if_neg h4] at h ⊢
    have := ih (n + 1) h
    rw [List.length_cons]; omega
theorem take_in (s : ByteArray) (a : Nat) (ha : a ≤ s.size) : ∃ b : Nat, takeNext s (a : Int) = (b : Int) ∧ b ≤ s.size ∧ a + (takeLine s (a : Int)).size ≤ s.size := by
  unfold takeNext takeLine
  by_cases h : takeErr s (a : Int) = 0
  · rw [if_pos h, if_pos h]
    rw [takeErr_in s a ha] at h
    have h1 := scan_le (s.data.toList.drop a) 0 h
    rw [List.length_drop, size_len] at h1
    have h2 : (scanAt s.data.toList a 0).1 + 2 ≤ s.size - a := by unfold scanAt; omega
    refine ⟨a + (scanAt s.data.toList a 0).1 + 2, by rw [Int.toNat_natCast]; omega, by omega, ?_⟩
    rw [Int.toNat_natCast, ByteArray.size_extract]
    omega
  · rw [if_neg h, if_neg h]
    exact ⟨a, rfl, ha, ha⟩
theorem atF_in (s : ByteArray) : ∀ k, ∃ b : Nat, atF s k = (b : Int) ∧ b ≤ s.size
  | 0 => ⟨0, rfl, Nat.zero_le _⟩
  | k + 1 => by
    obtain ⟨a, h1, h2⟩ := atF_in s k
    obtain ⟨b, h3, h4, -⟩ := take_in s a h2
    exact ⟨b, by rw [atF, h1]; exact h3, h4⟩
/-- the first line but the first that tells a range -/
def placeF (c : List UInt8) : List (List UInt8) → Nat → Option Nat
  | [], _ => none
  | x :: xs, i => if 0 < i ∧ parseE x = 0 ∧ parseN x = c then some i else placeF c xs (i + 1)
def crangeN : List UInt8 := [99, 111, 110, 116, 101, 110, 116, 45, 114, 97, 110, 103, 101]
def crangeF : List UInt8 := [67, 111, 110, 116, 101, 110, 116, 45, 82, 97, 110, 103, 101, 58, 32]
/-- what comes of s -/
def applyF (k n : Int) (t : List UInt8) (s : ByteArray) : List UInt8 :=
  if k = 1 then []
  else if k = 2 then s.data.toList.take (max 0 (min n (s.size : Int))).toNat
  else if (headOf s).2.2 ≠ 0 ∨ (headOf s).1 = [] then s.data.toList
  else if k = 3 then (if printErr n ≠ 0 then s.data.toList else putF s 0 (printOf n).data.toList)
  else if k = 5 then (if (headOf s).1.length < 2 then s.data.toList else putF s 1 (cleanL t))
  else if k = 4 then (match placeF crangeN (headOf s).1 0 with | none => s.data.toList | some i => putF s i (crangeF ++ cleanL t))
  else s.data.toList
end Go.Proofs.YtbdmmgmcbecolaaGreatDoor
namespace Go.Proofs.YtbdmmgmcbecolaaGreatDoor
open Go.RowKit
def badB (b : UInt8) : Bool := b == 10 || b == 13
def badN (l : List UInt8) : Nat := l.countP badB
theorem clean_bad (l : List UInt8) : (cleanL l).length + badN l = l.length := by
  induction l with
  | nil => rfl
  | cons c t ih =>
    unfold cleanL badN at ih ⊢
    rw [List.filter_cons, List.countP_cons]
    by_cases h : c = 10
    · subst h; simp [badB] at ih ⊢; omega
    · by_cases h2 : c = 13
      · subst h2; simp [badB] at ih ⊢; omega
      · simp [badB, h, h2] at ih ⊢; omega
theorem bad_two (l : List UInt8) : badN l = l.count 10 + l.count 13 := by
  induction l with
  | nil => rfl
  | cons c t ih =>
    unfold badN at ih ⊢
    rw [List.countP_cons, List.count_cons, List.count_cons, ih]
    by_cases h : c = 10
    · subst h; simp [badB]; omega
    · by_cases h2 : c = 13
      · subst h2; simp [badB]; omega
      · simp [badB, h, h2]
theorem clean_none (l : List UInt8) (h : badN l = 0) : cleanL l = l := by
  have h2 := clean_bad l
  have := List.filter_sublist (l := l) (p := fun b => b != 13 && b != 10)
  exact List.Sublist.eq_of_length this (by show (cleanL l).length = l.length; omega)
theorem clean_step (l : List UInt8) (k : Nat) (h : k < l.length) : cleanL (l.take (k + 1)) = cleanL (l.take k) ++ (if badB l[k] = true then [] else [l[k]]) := by
  unfold cleanL
  rw [List.take_succ_eq_append_getElem h, List.filter_append]
  congr 1
  by_cases h1 : l[k] = 10
  · rw [h1]; rfl
  · by_cases h2 : l[k] = 13
    · rw [h2]; rfl
    · simp [badB, h1, h2]
theorem bad_step (l : List UInt8) (k : Nat) (h : k < l.length) : badN (l.take (k + 1)) = badN (l.take k) + (if badB l[k] = true then 1 else 0) := by
  unfold badN
  rw [List.take_succ_eq_append_getElem h, List.countP_append]
  congr 1
  by_cases h1 : badB l[k] = true
  · rw [if_pos h1]; simp [h1]
  · rw [if_neg h1]; simp [h1]
theorem clean_take_le (l : List UInt8) (k : Nat) : (cleanL (l.take k)).length ≤ (cleanL l).length :=
  ((List.take_sublist k l).filter _).length_le
theorem copy_none (d : Option Addr) (n c : Nat) (x : Addr) (cx : Nat) (ty : TypeId) (w : World) : (Builtin.copy_ #[192, 192] ty #[.slice d n c, .slice (some x) 0 cx]).run Tryz.prog w = .ok (.int .i64 0) w := by
  have hz : ∀ w, (Go.sizeOf 5).run Tryz.prog w = .ok 1 w := fun w => by simp
  cases d <;> simp [Builtin.copy_, run_underlying Tryz.underlying192, Builtin.lenOf, Builtin.firstCells, hz, storeCells, loadCells, goInt, loadCellsFrom]
theorem neq_nil (w : World) (a : Option Addr) (l c : Nat) : (binOp .neq 192 (.slice a l c) (.slice none 0 0)).run Tryz.prog w = .ok (.bool (!a.isNone)) w := run_neq_slice_nil w _ _ a l c Tryz.underlying192
end Go.Proofs.YtbdmmgmcbecolaaGreatDoor
namespace Go.Proofs.YtbdmmgmcbecolaaGreatDoor
open Go.RowKit
def twoC (s : ByteArray) (k : Nat) : Nat := if k = 0 then 0 else if k = 1 then s.data.toList.count 10 else s.data.toList.count 10 + s.data.toList.count 13
theorem twoC_end (s : ByteArray) : twoC s 2 = badN s.data.toList := (bad_two _).symm
theorem bs_clean (s : ByteArray) (h : badN s.data.toList = 0) : s = bs (cleanL s.data.toList) := by rw [clean_none _ h, bs_self]
theorem bad_cell {b : UInt8} (h : badB b = true) {x y : Addr} {cx cy : Nat} {v : Value} : ∃ x' cx', bsF (.slice (some x) 0 cx) (.slice (some y) 0 cy) v b.toNat = .slice (some x') 0 cx' := by
  unfold badB at h
  rw [Bool.or_eq_true, beq_iff_eq, beq_iff_eq] at h
  rcases h with rfl | rfl
  · exact ⟨x, cx, rfl⟩
  · exact ⟨y, cy, rfl⟩
theorem good_cell {b : UInt8} (h : ¬ badB b = true) {x y v : Value} : bsF x y v b.toNat = .slice none 0 0 := by
  unfold badB at h
  rw [Bool.or_eq_true, beq_iff_eq, beq_iff_eq] at h
  have h1 : b.toNat ≠ 10 := fun e => h (.inl (UInt8.toNat_inj.1 e))
  have h2 : b.toNat ≠ 13 := fun e => h (.inr (UInt8.toNat_inj.1 e))
  have h3 := UInt8.toNat_lt b
  unfold bsF
  rw [if_neg (by omega), if_neg h1, if_neg h2]
theorem make_bytes (N : Nat) (h : N ≤ 1000000) (w : World) : (Instr.makeSlice 192 (.int .i64 (N : Int)) (.int .i64 (N : Int))).run Tryz.prog w = .ok (.slice (some ⟨w.heap.size, 0, none⟩) N N) (w.alloc (.cells (madeCells #[.int .u8 0] N) 5)) := by
  obtain ⟨i0, hi, hz0, hz1, hz2⟩ := info_parts (show (Tryz.prog.info? 5).map (fun i => (i.zero, i.size, i.bytes)) = some (some (.int .u8 0), 1, 1) by kernel_rfl)
  have := run_make (P := Tryz.prog) w 192 5 i0 _ Tryz.underlying192 hi hz0 .i64 .i64 N N (by omega) (by omega) (by rw [hz2]; omega) (by omega)
  rw [this, hz1, Int.toNat_natCast, Nat.mul_one]
  rfl
theorem conv_row {w : World} {B N : Nat} {l : List UInt8} (h : w.rowIs B 5 N (Lib.Lz.bytes l)) (hl : N = l.length) : (convert 192 9 (.slice (some ⟨B, 0, none⟩) N N)).run Tryz.prog w = .ok (.string (bs l)) w := by
  subst hl
  refine run_convert_bytes_back (P := Tryz.prog) w 192 9 5 ⟨B, 0, none⟩ l.length l Tryz.underlying192 Tryz.underlying5 Tryz.underlying9 (fun j hj => ?_)
  have e : (⟨B, 0, none⟩ : Addr).add j = ⟨B, j, none⟩ := by unfold Addr.add; split <;> simp_all
  rw [e, World.rowIs.cell h hj]
  unfold Lib.Lz.bytes
  rw [List.getElem?_eq_getElem hj]
  rfl
structure BSt (w0 w : World) (G : Nat) (x y : Value) (H c : Nat) : Prop where
  reps : BsR w G x y (.slice (some ⟨H, 0, none⟩) 2 c)
  h0 : w.cell? ⟨H, 0, none⟩ = some (.string ⟨#[10]⟩)
  h1 : w.cell? ⟨H, 1, none⟩ = some (.string ⟨#[13]⟩)
  bel : Below w0.heap.size w0 w
theorem BSt.drewN {w0 w : World} {G : Nat} {x y : Value} {H c : Nat} (h : BSt w0 w G x y H c) (n : Nat) : BSt w0 (w.drewN n) G x y H c where
  reps := World.rowIs.of_block h.reps rfl
  h0 := h.h0
  h1 := h.h1
  bel := ⟨h.bel.os, h.bel.tape, h.bel.output, h.bel.size, h.bel.block⟩
theorem BSt.cells {w0 w : World} {G : Nat} {x y : Value} {H c : Nat} (h : BSt w0 w G x y H c) : w.cell? ⟨G, 256, none⟩ = some (.slice (some ⟨H, 0, none⟩) 2 c) ∧ w.cell? ⟨G, 10, none⟩ = some x ∧ w.cell? ⟨G, 13, none⟩ = some y ∧ w.cell? ⟨H, 0, none⟩ = some (.string ⟨#[10]⟩) ∧ w.cell? ⟨H, 1, none⟩ = some (.string ⟨#[13]⟩) :=
  ⟨World.rowIs.cell h.reps (i := 256) (by decide), World.rowIs.cell h.reps (i := 10) (by decide), World.rowIs.cell h.reps (i := 13) (by decide), h.h0, h.h1⟩
theorem row_push {w : World} {B N J : Nat} {l : List UInt8} {b : UInt8} (h : w.rowIs B 5 N (Lib.Lz.bytes l)) (hJ : l.length = J) : (w.setCell ⟨B, J, none⟩ (.int .u8 (b.toNat : Int))).rowIs B 5 N (Lib.Lz.bytes (l ++ [b])) := by
  subst hJ
  refine World.rowIs.congr (World.rowIs.set h l.length _) (fun i _ => ?_)
  unfold Lib.Lz.bytes
  by_cases e : i = l.length
  · subst e
    rw [if_pos rfl, List.getElem?_append_right (Nat.le_refl _)]
    simp
  · rw [if_neg e]
    rcases Nat.lt_or_ge i l.length with h1 | h1
    · rw [List.getElem?_append_left h1]
    · rw [List.getElem?_eq_none h1, List.getElem?_eq_none (by simp; omega)]
set_option maxRecDepth 100000 in
set_option maxHeartbeats 4000000 in
theorem bsr_replace (s : ByteArray) (G H c : Nat) (x y : Addr) (cx cy : Nat) (w0 : World) (hB : BsR w0 G (.slice (some x) 0 cx) (.slice (some y) 0 cy) (.slice (some ⟨H, 0, none⟩) 2 c))
    (k0 : w0.cell? ⟨H, 0, none⟩ = some (.string ⟨#[10]⟩)) (k1 : w0.cell? ⟨H, 1, none⟩ = some (.string ⟨#[13]⟩)) (hs : s.size ≤ 1000000) :
    Calls Tryz.prog 323 #[.pointer (some ⟨G, 0, none⟩), .string s] w0 fun e w' => e = .returned (.string (bs (cleanL s.data.toList))) ∧ Below w0.heap.size w0 w' := by
  have g2 : w0.cell? ⟨G, 256, none⟩ = some (.slice (some ⟨H, 0, none⟩) 2 c) := World.rowIs.cell hB (i := 256) (by decide)
  have HCn := Lib.hid (fun c W => Any.strings_Count_one Tryz.lays138 s c W)
  have HS0 : Hid (BSt w0 w0 G (.slice (some x) 0 cx) (.slice (some y) 0 cy) H c) := Lib.hid ⟨hB, k0, k1, Below.refl _ _⟩
  have hbad := clean_bad s.data.toList
  rw [size_len] at hbad
  obtain ⟨N, hN⟩ : ∃ N, (cleanL s.data.toList).length = N := ⟨_, rfl⟩
  have HN := Lib.hid hN.symm
  rw [hN] at hbad
  have hNm : N ≤ 1000000 := by omega
  have HNm := Lib.hid hNm
  have HBAD := Lib.hid hbad
  have hmk := make_bytes N hNm
  have hneq := neq_nil
  have hcp := copy_none
  clear hN hB hbad hNm k0 k1
  by_cases hlong : (16 : Int) ≤ (s.size : Int)
  · go_enter Tryz.func323, Tryz.ntmps323
    go_wp2_with fail
    go_loopg [5, 6, 32] 2 (fun gk s5 s6 s32 wr => ∃ k : Nat, k + gk = 2 ∧ s5 = .int .i64 ((s.size : Int) - (twoC s k : Int)) ∧ s6 = .bool (decide (twoC s k ≠ 0)) ∧ s32 = .int .i64 (k : Int) ∧ BSt w0 wr G (.slice (some x) 0 cx) (.slice (some y) 0 cy) H c)
    case atStart => exact ⟨0, by omega, by simp [twoC], by simp [twoC], rfl, HS0.out⟩
    case round =>
      obtain ⟨k, hgk, rfl, rfl, rfl, hw⟩ := hrel
      generalize wr = w at hw ⊢
      have HS := Lib.hid hw
      clear hw g2
      cases gk with
      | zero =>
        obtain rfl : k = 2 := by omega
        rw [twoC_end]
        by_cases hT : badN s.data.toList = 0
        · have HT := Lib.hid hT
          rw [hT]
          clear hT
          go_wp2_with fail
          go_ret
          exact ⟨ret_str (bs_clean s HT.out), HS.out.bel⟩
        · have hTd : decide (badN s.data.toList ≠ 0) = true := decide_eq_true hT
          have hsub : (s.size : Int) - (badN s.data.toList : Int) = (N : Int) := by have := HBAD.out; omega
          rw [hTd, hsub]
          clear hTd hsub hT
          go_wp2_with fail
          have hrow := World.rowIs_made w (.int .u8 0) N 5
          have hbel : Below w.heap.size w (w.alloc (.cells (madeCells #[.int .u8 0] N) 5)) := (Below.refl _ _).alloc (Nat.le_refl _) _
          generalize w.alloc (.cells (madeCells #[.int .u8 0] N) 5) = W0 at hrow hbel ⊢
          clear hmk
          go_loopg [13, 14] s.size (fun gk s13 s14 wr => ∃ k : Nat, k + gk = s.size ∧ s13 = .int .i64 ((cleanL (s.data.toList.take k)).length : Int) ∧ s14 = .int .i64 (k : Int) ∧ wr.rowIs w.heap.size 5 N (Lib.Lz.bytes (cleanL (s.data.toList.take k))) ∧ Below w.heap.size w wr)
          case atStart => exact ⟨0, by omega, rfl, rfl, hrow, hbel⟩
          case round =>
            obtain ⟨k, hgk, rfl, rfl, hr, hb⟩ := hrel
            cases gk with
            | zero =>
              obtain rfl : k = s.size := by omega
              have hconv := conv_row hr (by rw [HN.out, List.take_of_length_le (by rw [size_len]; exact Nat.le_refl _)])
              rw [List.take_of_length_le (by rw [size_len]; exact Nat.le_refl _)] at hconv
              have HBl := Lib.hid hb
              clear hr hb hrow hbel HN
              go_wp2_with fail
              go_ret
              exact ⟨rfl, bstep HS.out.bel HBl.out⟩
            | succ gm =>
              have hk : k < s.size := by omega
              have hkl : k < s.data.toList.length := by rw [size_len]; exact hk
              have hki : (k : Int) < (s.size : Int) := by omega
              have hst := clean_step s.data.toList k hkl
              have hle := clean_take_le s.data.toList (k + 1)
              have hGr : BsR wr G (.slice (some x) 0 cx) (.slice (some y) 0 cy) (.slice (some ⟨H, 0, none⟩) 2 c) := World.rowIs.of_block HS.out.reps (hb.block G (World.rowIs.lt HS.out.reps))
              obtain ⟨b, hbx⟩ : ∃ b : UInt8, s[k]'hk = b := ⟨_, rfl⟩
              have hbl : s.data.toList[k] = b := by rw [← hbx]; rfl
              rw [hbl] at hst
              have hb256 : (b.toNat : Int) < 256 := by have := UInt8.toNat_lt b; omega
              have hcell : wr.cell? ⟨G, b.toNat, none⟩ = some (bsF (.slice (some x) 0 cx) (.slice (some y) 0 cy) (.slice (some ⟨H, 0, none⟩) 2 c) b.toNat) := World.rowIs.cell hGr (i := b.toNat) (by omega)
              have hwk : IntKind.i64.wrap ((k : Int) + 1) = (k : Int) + 1 := by rw [IntKind.wrap_i64]; omega
              by_cases hbad : badB b = true
              · rw [if_pos hbad, List.append_nil] at hst
                have HST := Lib.hid hst
                have hj : (cleanL (s.data.toList.take k)).length ≤ N := by rw [hst] at hle; rw [HN.out]; exact hle
                obtain ⟨x', cx', hv⟩ : ∃ x' cx', bsF (.slice (some x) 0 cx) (.slice (some y) 0 cy) (.slice (some ⟨H, 0, none⟩) 2 c) b.toNat = .slice (some x') 0 cx' := bad_cell hbad
                rw [hv] at hcell
                have HR := Lib.hid (And.intro hr hb)
                obtain ⟨J, hJ⟩ : ∃ J, (cleanL (s.data.toList.take k)).length = J := ⟨_, rfl⟩
                have HJ := Lib.hid hJ
                rw [hJ] at hj ⊢
                have hji : (J : Int) ≤ (N : Int) := by omega
                have hwj : IntKind.i64.wrap (J : Int) = (J : Int) := by rw [IntKind.wrap_i64]; have := HNm.out; omega
                clear hst hle hGr hbl hv hr hb hJ hrow hbel hbad
                by_cases hJN : N = J
                · subst hJN
                  clear hj hji
                  go_wp2_with fail
                  go_region
                  go_wp2_with fail
                  go_roundg gm
                  case measure => omega
                  case rel => exact ⟨k + 1, by omega, by rw [HST.out, HJ.out], rfl, by rw [HST.out]; exact HR.out.1, HR.out.2.drew⟩
                · go_wp2_with fail
                  go_region
                  go_wp2_with fail
                  go_roundg gm
                  case measure => omega
                  case rel => exact ⟨k + 1, by omega, by rw [HST.out, HJ.out], rfl, by rw [HST.out]; exact HR.out.1, HR.out.2.drew⟩
              · rw [if_neg hbad] at hst
                have HST := Lib.hid hst
                rw [good_cell hbad] at hcell
                obtain ⟨J, hJ⟩ : ∃ J, (cleanL (s.data.toList.take k)).length = J := ⟨_, rfl⟩
                have HJ := Lib.hid hJ
                have hj : J < N := by rw [hst, List.length_append, hJ] at hle; rw [HN.out]; simp only [List.length_cons, List.length_nil] at hle; omega
                have HR := Lib.hid (And.intro hr hb)
                rw [hJ]
                have hji : (J : Int) < (N : Int) := by omega
                have hwj : IntKind.i64.wrap ((J : Int) + 1) = (J : Int) + 1 := by rw [IntKind.wrap_i64]; have := HNm.out; omega
                have hst := World.rowIs.cell hr hj
                have hfz := World.rowIs.frozen hr J
                clear hst hle hGr hbl hr hb hJ hrow hbel hbad
                have hst := World.rowIs.cell HR.out.1 hj
                go_wp2_with fail
                go_roundg gm
                case measure => omega
                case rel => exact ⟨k + 1, by omega, by rw [HST.out, List.length_append, HJ.out]; rfl, rfl, by rw [HST.out]; exact row_push HR.out.1 HJ.out, HR.out.2.setCell (p := ⟨w.heap.size, J, none⟩) (Nat.le_refl _) _⟩
      | succ gm =>
        have hk2 : k = 0 ∨ k = 1 := by omega
        have hcn : s.data.toList.count 10 + s.data.toList.count 13 ≤ s.size := by rw [← bad_two]; have := HBAD.out; omega
        have hc1 := HCn.out 10 w
        have hc2 := HCn.out 13 w
        unfold Lib.countByte at hc1 hc2
        have HT1 : Hid (twoC s 0 = 0 ∧ twoC s 1 = s.data.toList.count 10 ∧ twoC s 2 = s.data.toList.count 10 + s.data.toList.count 13) := Lib.hid ⟨rfl, rfl, rfl⟩
        have w1 : IntKind.i64.wrap (0 - 1) = -1 := by rw [IntKind.wrap_i64]; omega
        have hb10 : ((⟨#[10]⟩ : ByteArray)[0]'(by decide)).toNat = 10 := rfl
        have hb13 : ((⟨#[13]⟩ : ByteArray)[0]'(by decide)).toNat = 13 := rfl
        generalize s.data.toList.count 10 = A at hcn hc1 HT1
        generalize s.data.toList.count 13 = B at hcn hc2 HT1
        have HC1 := Lib.hid hc1
        have HC2 := Lib.hid hc2
        clear hmk hcp hc1 hc2
        obtain ⟨g2, g10, g13, k0, k1⟩ := HS.out.cells
        rcases hk2 with rfl | rfl
        · rw [HT1.out.1]
          by_cases hA : A = 0
          · subst hA
            go_wp2_with (go_at_call 238; refine HC1.out.mono ?_; rintro e w' ⟨rfl, rfl⟩)
            go_roundg gm
            case measure => omega
            case rel => exact ⟨1, by omega, by rw [HT1.out.2.1]; simp, by rw [HT1.out.2.1]; rfl, rfl, HS.out⟩
          · have e1 : ((A : Int) != 0) = true := by rw [bne_iff_ne]; omega
            have e2 : decide (A ≠ 0) = true := decide_eq_true hA
            have w2 : IntKind.i64.wrap ((A : Int) * -1) = - (A : Int) := by rw [IntKind.wrap_i64]; omega
            have w3 : IntKind.i64.wrap ((s.size : Int) + - (A : Int)) = (s.size : Int) - (A : Int) := by rw [IntKind.wrap_i64]; omega
            go_wp2_with (go_at_call 238; refine HC1.out.mono ?_; rintro e w' ⟨rfl, rfl⟩)
            go_quiet (fail)
            go_wp2_with fail
            go_roundg gm
            case measure => omega
            case rel => exact ⟨1, by omega, by rw [HT1.out.2.1], by rw [HT1.out.2.1, e2], rfl, HS.out.drewN _⟩
        · rw [HT1.out.2.1]
          by_cases hB : B = 0
          · subst hB
            go_wp2_with (go_at_call 238; refine HC2.out.mono ?_; rintro e w' ⟨rfl, rfl⟩)
            go_roundg gm
            case measure => omega
            case rel => exact ⟨2, by omega, by rw [HT1.out.2.2]; rfl, by rw [HT1.out.2.2]; simp, rfl, HS.out⟩
          · have e1 : ((B : Int) != 0) = true := by rw [bne_iff_ne]; omega
            have e2 : decide (A + B ≠ 0) = true := decide_eq_true (by omega)
            have w2 : IntKind.i64.wrap ((B : Int) * -1) = - (B : Int) := by rw [IntKind.wrap_i64]; omega
            have w3 : IntKind.i64.wrap ((s.size : Int) - (A : Int) + - (B : Int)) = (s.size : Int) - ((A + B : Nat) : Int) := by rw [IntKind.wrap_i64]; omega
            go_wp2_with (go_at_call 238; refine HC2.out.mono ?_; rintro e w' ⟨rfl, rfl⟩)
            go_quiet (fail)
            go_wp2_with fail
            go_roundg gm
            case measure => omega
            case rel => exact ⟨2, by omega, by rw [HT1.out.2.2, Int.natCast_add], by rw [HT1.out.2.2, e2], rfl, HS.out.drewN _⟩
  · go_enter Tryz.func323, Tryz.ntmps323
    go_wp2_with fail
    go_loopg [5, 6, 10] s.size (fun gk s5 s6 s10 wr => ∃ k : Nat, k + gk = s.size ∧ s5 = .int .i64 ((s.size : Int) - (badN (s.data.toList.take k) : Int)) ∧ s6 = .bool (decide (badN (s.data.toList.take k) ≠ 0)) ∧ s10 = .int .i64 (k : Int) ∧ BSt w0 wr G (.slice (some x) 0 cx) (.slice (some y) 0 cy) H c)
    case atStart => exact ⟨0, by omega, by simp [badN], by simp [badN], rfl, HS0.out⟩
    case round =>
      obtain ⟨k, hgk, rfl, rfl, rfl, hw⟩ := hrel
      generalize wr = w at hw ⊢
      have HS := Lib.hid hw
      clear hw g2
      cases gk with
      | zero =>
        obtain rfl : k = s.size := by omega
        rw [List.take_of_length_le (by rw [size_len]; exact Nat.le_refl _)]
        by_cases hT : badN s.data.toList = 0
        · have HT := Lib.hid hT
          rw [hT]
          clear hT
          go_wp2_with fail
          go_ret
          exact ⟨ret_str (bs_clean s HT.out), HS.out.bel⟩
        · have hTd : decide (badN s.data.toList ≠ 0) = true := decide_eq_true hT
          have hsub : (s.size : Int) - (badN s.data.toList : Int) = (N : Int) := by have := HBAD.out; omega
          rw [hTd, hsub]
          clear hTd hsub hT
          go_wp2_with fail
          have hrow := World.rowIs_made w (.int .u8 0) N 5
          have hbel : Below w.heap.size w (w.alloc (.cells (madeCells #[.int .u8 0] N) 5)) := (Below.refl _ _).alloc (Nat.le_refl _) _
          generalize w.alloc (.cells (madeCells #[.int .u8 0] N) 5) = W0 at hrow hbel ⊢
          clear hmk
          go_loopg [13, 14] s.size (fun gk s13 s14 wr => ∃ k : Nat, k + gk = s.size ∧ s13 = .int .i64 ((cleanL (s.data.toList.take k)).length : Int) ∧ s14 = .int .i64 (k : Int) ∧ wr.rowIs w.heap.size 5 N (Lib.Lz.bytes (cleanL (s.data.toList.take k))) ∧ Below w.heap.size w wr)
          case atStart => exact ⟨0, by omega, rfl, rfl, hrow, hbel⟩
          case round =>
            obtain ⟨k, hgk, rfl, rfl, hr, hb⟩ := hrel
            cases gk with
            | zero =>
              obtain rfl : k = s.size := by omega
              have hconv := conv_row hr (by rw [HN.out, List.take_of_length_le (by rw [size_len]; exact Nat.le_refl _)])
              rw [List.take_of_length_le (by rw [size_len]; exact Nat.le_refl _)] at hconv
              have HBl := Lib.hid hb
              clear hr hb hrow hbel HN
              go_wp2_with fail
              go_ret
              exact ⟨rfl, bstep HS.out.bel HBl.out⟩
            | succ gm =>
              have hk : k < s.size := by omega
              have hkl : k < s.data.toList.length := by rw [size_len]; exact hk
              have hki : (k : Int) < (s.size : Int) := by omega
              have hst := clean_step s.data.toList k hkl
              have hle := clean_take_le s.data.toList (k + 1)
              have hGr : BsR wr G (.slice (some x) 0 cx) (.slice (some y) 0 cy) (.slice (some ⟨H, 0, none⟩) 2 c) := World.rowIs.of_block HS.out.reps (hb.block G (World.rowIs.lt HS.out.reps))
              obtain ⟨b, hbx⟩ : ∃ b : UInt8, s[k]'hk = b := ⟨_, rfl⟩
              have hbl : s.data.toList[k] = b := by rw [← hbx]; rfl
              rw [hbl] at hst
              have hb256 : (b.toNat : Int) < 256 := by have := UInt8.toNat_lt b; omega
              have hcell : wr.cell? ⟨G, b.toNat, none⟩ = some (bsF (.slice (some x) 0 cx) (.slice (some y) 0 cy) (.slice (some ⟨H, 0, none⟩) 2 c) b.toNat) := World.rowIs.cell hGr (i := b.toNat) (by omega)
              have hwk : IntKind.i64.wrap ((k : Int) + 1) = (k : Int) + 1 := by rw [IntKind.wrap_i64]; omega
              by_cases hbad : badB b = true
              · rw [if_pos hbad, List.append_nil] at hst
                have HST := Lib.hid hst
                have hj : (cleanL (s.data.toList.take k)).length ≤ N := by rw [hst] at hle; rw [HN.out]; exact hle
                obtain ⟨x', cx', hv⟩ : ∃ x' cx', bsF (.slice (some x) 0 cx) (.slice (some y) 0 cy) (.slice (some ⟨H, 0, none⟩) 2 c) b.toNat = .slice (some x') 0 cx' := bad_cell hbad
                rw [hv] at hcell
                have HR := Lib.hid (And.intro hr hb)
                obtain ⟨J, hJ⟩ : ∃ J, (cleanL (s.data.toList.take k)).length = J := ⟨_, rfl⟩
                have HJ := Lib.hid hJ
                rw [hJ] at hj ⊢
                have hji : (J : Int) ≤ (N : Int) := by omega
                have hwj : IntKind.i64.wrap (J : Int) = (J : Int) := by rw [IntKind.wrap_i64]; have := HNm.out; omega
                clear hst hle hGr hbl hv hr hb hJ hrow hbel hbad
                by_cases hJN : N = J
                · subst hJN
                  clear hj hji
                  go_wp2_with fail
                  go_region
                  go_wp2_with fail
                  go_roundg gm
                  case measure => omega
                  case rel => exact ⟨k + 1, by omega, by rw [HST.out, HJ.out], rfl, by rw [HST.out]; exact HR.out.1, HR.out.2.drew⟩
                · go_wp2_with fail
                  go_region
                  go_wp2_with fail
                  go_roundg gm
                  case measure => omega
                  case rel => exact ⟨k + 1, by omega, by rw [HST.out, HJ.out], rfl, by rw [HST.out]; exact HR.out.1, HR.out.2.drew⟩
              · rw [if_neg hbad] at hst
                have HST := Lib.hid hst
                rw [good_cell hbad] at hcell
                obtain ⟨J, hJ⟩ : ∃ J, (cleanL (s.data.toList.take k)).length = J := ⟨_, rfl⟩
                have HJ := Lib.hid hJ
                have hj : J < N := by rw [hst, List.length_append, hJ] at hle; rw [HN.out]; simp only [List.length_cons, List.length_nil] at hle; omega
                have HR := Lib.hid (And.intro hr hb)
                rw [hJ]
                have hji : (J : Int) < (N : Int) := by omega
                have hwj : IntKind.i64.wrap ((J : Int) + 1) = (J : Int) + 1 := by rw [IntKind.wrap_i64]; have := HNm.out; omega
                have hst := World.rowIs.cell hr hj
                have hfz := World.rowIs.frozen hr J
                clear hst hle hGr hbl hr hb hJ hrow hbel hbad
                have hst := World.rowIs.cell HR.out.1 hj
                go_wp2_with fail
                go_roundg gm
                case measure => omega
                case rel => exact ⟨k + 1, by omega, by rw [HST.out, List.length_append, HJ.out]; rfl, rfl, by rw [HST.out]; exact row_push HR.out.1 HJ.out, HR.out.2.setCell (p := ⟨w.heap.size, J, none⟩) (Nat.le_refl _) _⟩
      | succ gm =>
        have hk : k < s.size := by omega
        have hkl : k < s.data.toList.length := by rw [size_len]; exact hk
        have hki : (k : Int) < (s.size : Int) := by omega
        have hst := bad_step s.data.toList k hkl
        have hble : badN (s.data.toList.take k) ≤ k := Nat.le_trans List.countP_le_length (List.length_take_le k _)
        obtain ⟨b, hbx⟩ : ∃ b : UInt8, s[k]'hk = b := ⟨_, rfl⟩
        have hbl : s.data.toList[k] = b := by rw [← hbx]; rfl
        rw [hbl] at hst
        have hb256 : (b.toNat : Int) < 256 := by have := UInt8.toNat_lt b; omega
        have hcell : w.cell? ⟨G, b.toNat, none⟩ = some (bsF (.slice (some x) 0 cx) (.slice (some y) 0 cy) (.slice (some ⟨H, 0, none⟩) 2 c) b.toNat) := World.rowIs.cell HS.out.reps (i := b.toNat) (by omega)
        have hwk : IntKind.i64.wrap ((k : Int) + 1) = (k : Int) + 1 := by rw [IntKind.wrap_i64]; omega
        have w1 : IntKind.i64.wrap (0 - 1) = -1 := by rw [IntKind.wrap_i64]; omega
        have HST := Lib.hid hst
        obtain ⟨A, hA⟩ : ∃ A, badN (s.data.toList.take k) = A := ⟨_, rfl⟩
        have HA := Lib.hid hA
        rw [hA] at hble
        rw [hA]
        have w3 : IntKind.i64.wrap ((s.size : Int) - (A : Int) + -1) = (s.size : Int) - (A : Int) + -1 := by rw [IntKind.wrap_i64]; omega
        clear hst hbl hmk hcp hA
        by_cases hbad : badB b = true
        · obtain ⟨x', cx', hv⟩ : ∃ x' cx', bsF (.slice (some x) 0 cx) (.slice (some y) 0 cy) (.slice (some ⟨H, 0, none⟩) 2 c) b.toNat = .slice (some x') 0 cx' := bad_cell hbad
          rw [hv] at hcell
          have HN1 : Hid (badN (s.data.toList.take (k + 1)) = A + 1) := Lib.hid (by rw [HST.out, HA.out, if_pos hbad])
          clear hv hbad hble
          go_wp2_with fail
          go_roundg gm
          case measure => omega
          case rel => exact ⟨k + 1, by omega, by rw [HN1.out]; congr 1; omega, by rw [HN1.out]; simp, rfl, HS.out⟩
        · rw [good_cell hbad] at hcell
          have HN1 : Hid (badN (s.data.toList.take (k + 1)) = A) := Lib.hid (by rw [HST.out, HA.out, if_neg hbad, Nat.add_zero])
          clear hbad hble
          go_wp2_with fail
          go_roundg gm
          case measure => omega
          case rel => exact ⟨k + 1, by omega, by rw [HN1.out], by rw [HN1.out], rfl, HS.out⟩
end Go.Proofs.YtbdmmgmcbecolaaGreatDoor
namespace Go.Proofs.YtbdmmgmcbecolaaGreatDoor
open Go.RowKit
theorem meth_replace (v : Value) (w : World) : (Go.method 528 356 v "Replace").run Tryz.prog w = .ok (323, v) w := by kernel_rfl
set_option maxRecDepth 100000 in
set_option maxHeartbeats 2000000 in
theorem repl_replace (s : ByteArray) (b g c : Nat) (w : World) (hR : Rp w b 0 0 .nilIface (.slice (some ⟨g, 0, none⟩) 4 c)) (B : Nat) (hgb : g < b) (hO : w.ownsRow B 9 1 (.slice (some ⟨g, 0, none⟩) 4 c) 4 newsV) (hs : s.size ≤ 1000000) :
    Calls Tryz.prog 196 #[.pointer (some ⟨b, 0, none⟩), .string s] w fun e w' => e = .returned (.string (bs (cleanL s.data.toList))) ∧ Below b w w' := by
  have HD := Lib.hid (once_do b g c w hR B hgb hO)
  have hmf : ∀ (fn : Fn) (first cap : Array Value) (w : World), (Instr.makeFunc fn first cap).run Tryz.prog w = .ok (.func fn first cap) w := fun _ _ _ _ => rfl
  clear hR hO
  go_enter Tryz.func196, Tryz.ntmps196
  have hm := meth_replace
  go_wp2_with (first
    | (go_at_call 212; refine HD.out.mono ?_; rintro e w1 ⟨rfl, ⟨G, x, cx, y, cy, H, ch, hr, hbG, hbs, k0, k1, hHb⟩, hb1⟩; obtain ⟨-, -, q3, -⟩ := hr.cells; have HX := Lib.hid (bsr_replace s G H ch x y cx cy w1 hbs k0 k1 hs); have HB1 := Lib.hid hb1; have HLT := Lib.hid hr.lt; clear hr hbs k0 k1 hb1)
    | (go_at_call 323; refine HX.out.mono ?_; rintro e w2 ⟨rfl, hb2⟩; have HB2 := Lib.hid hb2; clear hb2))
  go_ret
  exact ⟨rfl, HB1.out.trans (HB2.out.mono (Nat.le_of_lt HLT.out))⟩
set_option maxRecDepth 100000 in
set_option maxHeartbeats 2000000 in
theorem fault_clean (s : ByteArray) (w : World) (hs : s.size ≤ 1000000) :
    Calls Tryz.prog 165 #[.string s] w fun e w' => e = .returned (.string (bs (cleanL s.data.toList))) ∧ Below w.heap.size w w' := by
  have HN := Lib.hid (new_replacer w)
  go_enter Tryz.func165, Tryz.ntmps165
  go_wp2_with (first
    | (go_at_call 195; refine HN.out.mono ?_; rintro e w1 ⟨b, g, c, rfl, hgb, hbl, hr, ho, hb1⟩; have HX := Lib.hid (repl_replace s b g c w1 hr w.heap.size hgb ho hs); have HB1 := Lib.hid hb1; clear hr ho hb1)
    | (go_at_call 196; refine HX.out.mono ?_; rintro e w2 ⟨rfl, hb2⟩; have HB2 := Lib.hid hb2; clear hb2))
  go_ret
  exact ⟨rfl, HB1.out.trans (HB2.out.mono hbl)⟩
end Go.Proofs.YtbdmmgmcbecolaaGreatDoor
