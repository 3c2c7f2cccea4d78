/- What Find, Text and MustText of package notes return. A number's signs, as strings' and strconv's functions part them: plain words. The reader of notes in memory. What the small methods of the reader do. What code of package jtext returns. What code of package jtext returns: the walk. What pair and mark of package jtext return. What mark of package jtext returns. What Take of package jtext returns. Regions that draw their order, whose operations read and whose callees may lay blocks of their own: one walk. What sign, wrong, word and text of the reader do. -/
import Derived.Test.YtcmkepkeeahioaaGreatDoorPw3
import Derived.Lib.SlTrimSet
import Derived.Lib.IndexAny
import Derived.Lib.AtoiAll
import Derived.Lib.Strings
import Derived.Laws.BitsAllLaws
import Derived.BigQuiet
set_option linter.unusedVariables false
set_option linter.unusedSimpArgs false
namespace Go.Proofs.YtcmkepkeeahioaaGreatDoor
open Go.RowKit
/-- the value of a name -/
def findO : List (List UInt8 × JV) → List UInt8 → Option JV
  | [], _ => none
  | (k, v) :: t, q => if k = q then some v else findO t q
def findJ : JV → List UInt8 → Option JV
  | .obj l, q => findO l q
  | _, _ => none
theorem findO_miss : ∀ (l : List (List UInt8 × JV)) (q : List UInt8), (∀ x ∈ l, x.1 ≠ q) → findO l q = none
  | [], _, _ => rfl
  | (k, v) :: t, q, h => by rw [findO, if_neg (h _ (List.mem_cons_self ..)), findO_miss t q (fun x hx => h x (List.mem_cons_of_mem _ hx))]
theorem findO_hit : ∀ (l : List (List UInt8 × JV)) (q : List UInt8) (j : Nat) (hj : j < l.length), l[j].1 = q → (∀ (m : Nat) (hm : m < j), l[m].1 ≠ q) → findO l q = some l[j].2
  | [], _, _, hj, _, _ => absurd hj (Nat.not_lt_zero _)
  | (k, v) :: t, q, 0, _, h, _ => by rw [findO, if_pos (show k = q from h)]; rfl
  | (k, v) :: t, q, j + 1, hj, h, hm => by
    rw [findO, if_neg (show ¬ k = q from hm 0 (Nat.zero_lt_succ _))]
    exact findO_hit t q j (Nat.lt_of_succ_lt_succ hj) h (fun m hm' => hm (m + 1) (Nat.succ_lt_succ hm'))
set_option maxRecDepth 100000 in
theorem c_index_empty (f : Value) (a : Option Addr) (c : Nat) (w : World) : Calls Tryz.prog 25 #[.slice a 0 c, f] w fun e w' => e = .returned (.int .i64 (-1)) ∧ w' = w := by
  go_enter Tryz.func25, Tryz.ntmps25
  go_wp2_with fail
  go_loopg [5, 8] 0 (fun gk _ s8 wx => s8 = .int .i64 0 ∧ wx = w)
  case atStart => exact ⟨rfl, rfl⟩
  case round =>
    obtain ⟨rfl, rfl⟩ := hrel
    go_wp2_with fail
    go_ret
    exact ⟨rfl, rfl⟩
/-- what Find leaves -/
def FindR (S : Nat → Prop) (w : World) (r : Option JV) (y : Value) : Prop := match r with
  | none => y = .nilIface
  | some u => AV S w u y
set_option maxRecDepth 100000 in
set_option maxHeartbeats 2000000 in
theorem n_find_none (x : Value) (q : List UInt8) (w : World) (hz : ∀ w, (Instr.typeAssert x 20 58 true).run Tryz.prog w = .ok (.tuple #[.slice none 0 0, .bool false]) w) :
    Calls Tryz.prog 11 #[x, .string (bs q)] w fun e w' => e = .returned (.tuple #[.nilIface, .bool false]) ∧ Below w.heap.size w w' := by
  generalize bs q = Q
  have HI := Lib.hid c_index0
  go_enter Tryz.func11, Tryz.ntmps11
  go_wp2_with fail
  refine (n_named Q _).mono ?_
  rintro e w1 ⟨rfl, hw⟩
  have HB : Hid (Below w.heap.size w w1) := Lib.hid (by rw [hw]; exact (Below.refl _ _).alloc (Nat.le_refl _) _)
  clear hw
  go_wp2_with fail
  refine (HI.out _ _).mono ?_
  rintro e w2 ⟨rfl, rfl⟩
  go_wp2_with fail
  go_ret2
  exact ⟨rfl, HB.out⟩
set_option maxRecDepth 100000 in
set_option maxHeartbeats 2000000 in
theorem n_Find (v : JV) (x : Value) (q : List UInt8) (w : World) (S : Nat → Prop) (hs : smallJ v) (hx : AV S w v x) (hS : ∀ i, S i → i < w.heap.size) :
    Calls Tryz.prog 11 #[x, .string (bs q)] w fun e w' => (∃ y, e = .returned (.tuple #[y, .bool (findJ v q).isSome]) ∧ FindR S w (findJ v q) y) ∧ Below w.heap.size w w' := by
  have triv : ∀ (v : JV) (x : Value), findJ v q = none → (∀ w, (Instr.typeAssert x 20 58 true).run Tryz.prog w = .ok (.tuple #[.slice none 0 0, .bool false]) w) → Calls Tryz.prog 11 #[x, .string (bs q)] w fun e w' => (∃ y, e = .returned (.tuple #[y, .bool (findJ v q).isSome]) ∧ FindR S w (findJ v q) y) ∧ Below w.heap.size w w' := fun v x h hz => by
    rw [h]
    exact (n_find_none x q w hz).mono (fun e w' h => ⟨⟨_, h.1, rfl⟩, h.2⟩)
  cases v with
  | nul => rw [AV] at hx; subst hx; exact triv _ _ rfl (ta_nil).2.2.2.2.1
  | boo q => rw [AV] at hx; subst hx; exact triv _ _ rfl (ta_bool _).2.2.2.2.1
  | num q => rw [AV] at hx; subst hx; exact triv _ _ rfl (ta_int _).2.2.2.2.1
  | txt q => rw [AV] at hx; subst hx; exact triv _ _ rfl (ta_str _).2.2.2.2.1
  | bad => rw [AV] at hx; subst hx; exact triv _ _ rfl (ta_flo _).2.2.2.2.1
  | lst q => rw [AV] at hx; obtain ⟨a, c, rfl, _, _⟩ := hx; exact triv _ _ rfl (ta_lst _).2.2.2.2.1
  | obj l =>
    rw [AV] at hx
    obtain ⟨a, c, rfl, hc, hx⟩ := hx
    rw [smallJ] at hs
    have hz := (ta_obj (.slice a l.length c)).2.2.2.2.1
    rw [show findJ (.obj l) q = findO l q from rfl]
    obtain ⟨W1, hW1⟩ : ∃ W1, w.alloc (.cells #[.string (bs q)] 9) = W1 := ⟨_, rfl⟩
    have hB : Below w.heap.size w W1 := by rw [← hW1]; exact (Below.refl _ _).alloc (Nat.le_refl _) _
    have hbx := named_box (bs q) w
    rw [hW1] at hbx
    by_cases h0 : l = []
    · subst h0
      rw [show findO [] q = none from rfl]
      have HW := Lib.hid (And.intro hW1 hB)
      have HI : Hid (∀ f W, Calls Tryz.prog 25 #[.slice a 0 c, f] W fun e w' => e = .returned (.int .i64 (-1)) ∧ w' = W) := Lib.hid (fun f W => c_index_empty f a c W)
      rw [List.length_nil] at hz ⊢
      clear hx hs hS hc hW1 hB hbx triv
      generalize bs q = Q at HW ⊢
      go_enter Tryz.func11, Tryz.ntmps11
      go_wp2_with fail
      refine (n_named Q _).mono ?_
      rintro e w1 ⟨rfl, hw⟩
      have HB : Hid (Below w.heap.size w w1) := Lib.hid (by rw [hw]; exact (Below.refl _ _).alloc (Nat.le_refl _) _)
      clear hw
      go_wp2_with fail
      refine (HI.out _ _).mono ?_
      rintro e w2 ⟨rfl, rfl⟩
      go_wp2_with fail
      go_ret2
      exact ⟨⟨_, rfl, rfl⟩, HB.out⟩
    · obtain ⟨b, o, rfl, hb, hav⟩ := hx h0
      have hbs := hS b hb
      have HG : Hid (∀ (j : Nat) (hj : j < l.length) W, Below w.heap.size w W → ∃ x, W.cell? ⟨b, o + j * 2 + 1, none⟩ = some x ∧ AV S w l[j].2 x) := Lib.hid (fun j hj W hW => by
        obtain ⟨_, x, h1, h2⟩ := hav.get o l j hj
        exact ⟨x, by rw [show o + j * 2 + 1 = o + 2 * j + 1 by omega]; exact (hW.cell (p := ⟨b, o + 2 * j + 1, none⟩) hbs).trans h1, h2⟩)
      obtain ⟨N, hN⟩ : ∃ N, l.length = N := ⟨_, rfl⟩
      have hN2 : N ≤ 100000 := by omega
      have HI := Lib.hid (c_index q w.heap.size b o N c S l W1 hbx.2 hbx.1 (Nat.lt_of_lt_of_le hbs hB.size) (hav.kept (fun _ h => h) (KeptS.of_below hB hS) hb) hN.symm (by omega))
      rw [hN] at hz hc ⊢
      have HN := Lib.hid hN
      have HW := Lib.hid (And.intro hW1 hB)
      obtain ⟨Q, hQ⟩ : ∃ Q, bs q = Q := ⟨_, rfl⟩
      rw [hQ] at HW ⊢
      clear hx hs hS hav hb hbs hN hW1 hB hbx triv hQ h0
      go_enter Tryz.func11, Tryz.ntmps11
      go_wp2_with fail
      refine (n_named Q _).mono ?_
      rintro e w1 ⟨rfl, hw⟩
      rw [HW.out.1] at hw
      subst hw
      go_wp2_with fail
      refine HI.out.mono ?_
      rintro e w2 ⟨⟨i, rfl, hi⟩, hb2⟩
      have HB2 := Lib.hid (bstep HW.out.2 hb2)
      clear hb2
      rcases hi with ⟨rfl, hm⟩ | ⟨j, hj, rfl, hjq, hm⟩
      · have HF := Lib.hid (findO_miss l q hm)
        clear hm
        go_wp2_with fail
        go_ret2
        rw [HF.out]
        exact ⟨⟨_, rfl, rfl⟩, HB2.out⟩
      · have HF := Lib.hid (findO_hit l q j hj hjq hm)
        obtain ⟨x, h1, h2⟩ := HG.out j hj w2 HB2.out
        have H2 := Lib.hid h2
        have ti : decide ((j : Int) < 0) = false := decide_eq_false (by omega)
        have hjn : j < N := by rw [← HN.out]; exact hj
        clear hm hjq h2
        go_wp2_with fail
        go_ret2
        rw [HF.out]
        exact ⟨⟨_, rfl, H2.out⟩, HB2.out⟩
/-- what Text tells -/
def textJ : JV → Option (List UInt8)
  | .txt s => some s
  | _ => none
set_option maxRecDepth 100000 in
set_option maxHeartbeats 2000000 in
theorem n_text_by (x : Value) (s : ByteArray) (q : Bool) (w : World) (hz : ∀ w, (Instr.typeAssert x 20 9 true).run Tryz.prog w = .ok (.tuple #[.string s, .bool q]) w) :
    Calls Tryz.prog 13 #[x] w fun e w' => e = .returned (.tuple #[.string s, .bool q]) ∧ w' = w := by
  go_enter Tryz.func13, Tryz.ntmps13
  go_wp2_with fail
  go_ret2
  exact ⟨rfl, rfl⟩
theorem n_Text (v : JV) (x : Value) (w : World) (S : Nat → Prop) (hx : AV S w v x) :
    Calls Tryz.prog 13 #[x] w fun e w' => e = .returned (.tuple #[.string (bs ((textJ v).getD [])), .bool (textJ v).isSome]) ∧ w' = w := by
  cases v with
  | nul => rw [AV] at hx; subst hx; exact n_text_by _ _ _ w (ta_nil).2.2.1
  | boo q => rw [AV] at hx; subst hx; exact n_text_by _ _ _ w (ta_bool _).2.2.1
  | num q => rw [AV] at hx; subst hx; exact n_text_by _ _ _ w (ta_int _).2.2.1
  | txt q => rw [AV] at hx; subst hx; exact n_text_by _ _ _ w (ta_str _).2.2.1
  | bad => rw [AV] at hx; subst hx; exact n_text_by _ _ _ w (ta_flo _).2.2.1
  | lst q => rw [AV] at hx; obtain ⟨a, c, rfl, _, _⟩ := hx; exact n_text_by _ _ _ w (ta_lst _).2.2.1
  | obj l => rw [AV] at hx; obtain ⟨a, c, rfl, _, _⟩ := hx; exact n_text_by _ _ _ w (ta_obj _).2.2.1
set_option maxRecDepth 100000 in
set_option maxHeartbeats 2000000 in
theorem n_MustText (s : ByteArray) (w : World) :
    Calls Tryz.prog 19 #[.iface 9 (.string s)] w fun e w' => e = .returned (.string s) ∧ w' = w := by
  have hz := ta_must (.string s)
  go_enter Tryz.func19, Tryz.ntmps19
  go_wp2_with fail
  go_ret
  exact ⟨rfl, rfl⟩
end Go.Proofs.YtcmkepkeeahioaaGreatDoor
namespace Go.Proofs.YtcmkepkeeahioaaGreatDoor
open Go.RowKit
def digSet : List UInt8 := [48, 49, 50, 51, 52, 53, 54, 55, 56, 57]
def numSet : List UInt8 := [48, 49, 50, 51, 52, 53, 54, 55, 56, 57, 43, 45, 46, 101, 69]
def sgnSet : List UInt8 := [43, 45, 46, 101, 69]
theorem byte_dec {p : UInt8 → Bool} (h : ∀ c : Fin 256, p (UInt8.ofNat c.val) = true) (c : UInt8) : p c = true := by
  have := h ⟨c.toNat, c.toNat_lt⟩
  rwa [UInt8.ofNat_toNat] at this
theorem digSet_iff (c : UInt8) : digSet.contains c = digB c := by
  have := byte_dec (p := fun c => digSet.contains c == digB c) (by decide +kernel) c
  exact eq_of_beq this
theorem numSet_iff (c : UInt8) : numSet.contains c = numCh c := by
  have := byte_dec (p := fun c => numSet.contains c == numCh c) (by decide +kernel) c
  exact eq_of_beq this
theorem sgn_dig (c : UInt8) (h : digB c = true) : sgnSet.contains c = false := by
  have := byte_dec (p := fun c => !digB c || !sgnSet.contains c) (by decide +kernel) c
  rw [h] at this
  simpa using this
theorem trim_num (l : List UInt8) : Go.Lib.trimLeftS l numSet = l.dropWhile numCh := by
  unfold Go.Lib.trimLeftS
  congr 1
  funext c
  exact numSet_iff c
theorem dw_nil {p : UInt8 → Bool} (l : List UInt8) : l.dropWhile p = [] ↔ l.all p = true := by
  induction l with
  | nil => simp
  | cons c t ih =>
    by_cases h : p c = true
    · rw [List.dropWhile_cons, if_pos h, ih, List.all_cons, h, Bool.true_and]
    · rw [List.dropWhile_cons, if_neg h, List.all_cons]
      simp [h]
theorem trim_dig (l : List UInt8) : (Go.Lib.trimS l digSet).isEmpty = l.all digB := by
  have hd : (fun c => digSet.contains c) = digB := by funext c; exact digSet_iff c
  unfold Go.Lib.trimS Go.Lib.trimLeftS Go.Lib.trimRightS
  rw [hd, Bool.eq_iff_iff, List.isEmpty_iff]
  constructor
  · intro h
    rw [dw_nil, List.all_reverse] at h
    have h2 : l.reverse.dropWhile digB = [] := by
      cases hq : l.reverse.dropWhile digB with
      | nil => rfl
      | cons c t =>
        exfalso
        rw [hq] at h
        have hn := List.head?_dropWhile_not digB l.reverse
        rw [hq] at hn
        simp only [List.head?_cons] at hn
        simp only [List.all_cons, Bool.and_eq_true] at h
        rw [h.1] at hn
        exact absurd hn (by decide)
    rw [dw_nil, List.all_reverse] at h2
    exact h2
  · intro h
    have h2 : l.reverse.dropWhile digB = [] := by rw [dw_nil, List.all_reverse]; exact h
    rw [h2]; rfl
theorem sgn_none (l : List UInt8) (h : l.all digB = true) : Go.Lib.containsAny l sgnSet = false := by
  have hi : Go.Lib.indexAny l sgnSet = -1 := by
    induction l with
    | nil => rfl
    | cons c t ih =>
      rw [List.all_cons, Bool.and_eq_true] at h
      unfold Go.Lib.indexAny
      rw [sgn_dig c h.1, if_neg (by decide), ih h.2]
      rfl
  unfold Go.Lib.containsAny
  rw [hi]; rfl
theorem parse_decW (l : List UInt8) : ∀ acc, acc < 18446744073709551616 → l.all digB = true → Go.Lib.parseUint10 acc l = if l.foldl (fun n (c : UInt8) => n * 10 + (c.toNat - 48)) acc < 18446744073709551616 then .ok (l.foldl (fun n (c : UInt8) => n * 10 + (c.toNat - 48)) acc) else .range := by
  induction l with
  | nil => intro acc h _; show Go.Lib.NumEnd.ok acc = if acc < 18446744073709551616 then Go.Lib.NumEnd.ok acc else _; rw [if_pos h]
  | cons c t ih =>
    intro acc h hd
    rw [List.all_cons, Bool.and_eq_true] at hd
    have hb := (digB_iff c).1 hd.1
    have hg := decW_ge t (acc * 10 + (c.toNat - 48))
    show (if 48 ≤ c.toNat ∧ c.toNat ≤ 57 then _ else _) = _
    rw [if_pos hb, List.foldl_cons]
    by_cases h1 : 1844674407370955162 ≤ acc
    · rw [if_pos h1, if_neg (by omega)]
    · rw [if_neg h1]
      by_cases h2 : 18446744073709551616 ≤ acc * 10 + (c.toNat - 48)
      · rw [if_pos h2, if_neg (by omega)]
      · rw [if_neg h2]
        exact ih _ (by omega) hd.2
theorem atoi_decW (l : List UInt8) (h0 : l ≠ []) (hd : l.all digB = true) : Go.Lib.atoiAll l = if decW l < 9223372036854775808 then .ok (decW l : Int) else .range := by
  cases l with
  | nil => exact absurd rfl h0
  | cons c t =>
    have hd2 := hd
    rw [List.all_cons, Bool.and_eq_true] at hd2
    have hb := (digB_iff c).1 hd2.1
    have hp := parse_decW (c :: t) 0 (by decide) hd
    change Go.Lib.parseUint10 0 (c :: t) = if decW (c :: t) < _ then .ok (decW (c :: t)) else _ at hp
    unfold Go.Lib.atoiAll
    simp only []
    rw [if_neg (show ¬ (c.toNat = 43 ∨ c.toNat = 45) by omega)]
    unfold Go.Lib.parseMag
    rw [if_neg (by simp), hp]
    by_cases h1 : decW (c :: t) < 18446744073709551616
    · rw [if_pos h1]
      by_cases h2 : decW (c :: t) < 9223372036854775808
      · simp only []
        rw [if_pos h2, if_neg (by omega), if_neg (by omega), if_neg (by omega)]
      · simp only []
        rw [if_neg h2, if_pos (by omega)]
    · rw [if_neg h1, if_neg (by omega)]
/-- how many signs are taken -/
theorem tw_len (l : List UInt8) : l.takeWhile numCh = l.take (l.length - (l.dropWhile numCh).length) ∧ (l.takeWhile numCh).length = l.length - (l.dropWhile numCh).length ∧ (l.dropWhile numCh).length ≤ l.length := by
  have h := List.takeWhile_append_dropWhile (p := numCh) (l := l)
  have hl := congrArg List.length h
  rw [List.length_append] at hl
  have h3 : (l.takeWhile numCh).length = l.length - (l.dropWhile numCh).length := by omega
  refine ⟨?_, h3, by omega⟩
  conv => rhs; arg 2; rw [← h]
  rw [← h3, List.take_left]
end Go.Proofs.YtcmkepkeeahioaaGreatDoor
namespace Go.Proofs.YtcmkepkeeahioaaGreatDoor
open Go.RowKit
/-- a reader in block b: its text, its place, its fault -/
def RD (b : Nat) (s : ByteArray) (n e : Nat) (w : World) : Prop := w.heap[b]? = some (.cells #[.string s, .int .i64 (n : Int), .int .i64 (e : Int)] 72 (0, 0))
theorem RD.cells {b : Nat} {s : ByteArray} {n e : Nat} {w : World} (h : RD b s n e w) : w.cell? ⟨b, 0, none⟩ = some (.string s) ∧ w.cell? ⟨b, 1, none⟩ = some (.int .i64 (n : Int)) ∧ w.cell? ⟨b, 2, none⟩ = some (.int .i64 (e : Int)) ∧ w.frozen? ⟨b, 1, none⟩ = false ∧ w.frozen? ⟨b, 2, none⟩ = false := by
  unfold RD at h
  refine ⟨?_, ?_, ?_, ?_, ?_⟩
  · unfold World.cell?; rw [h]; rfl
  · unfold World.cell?; rw [h]; rfl
  · unfold World.cell?; rw [h]; rfl
  · unfold World.frozen?; rw [h]; rfl
  · unfold World.frozen?; rw [h]; rfl
theorem RD.lt {b : Nat} {s : ByteArray} {n e : Nat} {w : World} (h : RD b s n e w) : b < w.heap.size := (Array.getElem?_eq_some_iff.1 h).1
theorem RD.setAt {b : Nat} {s : ByteArray} {n e : Nat} {w : World} (h : RD b s n e w) (m : Nat) : RD b s m e (w.setCell ⟨b, 1, none⟩ (.int .i64 (m : Int))) := by
  unfold RD at h ⊢
  simp [World.setCell, Array.getElem?_modify, h]
theorem RD.setErr {b : Nat} {s : ByteArray} {n e : Nat} {w : World} (h : RD b s n e w) (m : Nat) : RD b s n m (w.setCell ⟨b, 2, none⟩ (.int .i64 (m : Int))) := by
  unfold RD at h ⊢
  simp [World.setCell, Array.getElem?_modify, h]
theorem RD.below {b : Nat} {s : ByteArray} {n e : Nat} {w w' : World} (h : RD b s n e w) (hb : Below w.heap.size w w') : RD b s n e w' := (hb.block b h.lt).trans h
theorem RD.touch {b : Nat} {s : ByteArray} {n e : Nat} {w w' : World} {S : Nat → Prop} (h : RD b s n e w) (hb : Touch S w w') (hS : ¬ S b) : RD b s n e w' := (hb.block b h.lt hS).trans h
theorem touch_rd {b : Nat} {w : World} (o : Nat) (v : Value) : Touch (fun g => g = b) w (w.setCell ⟨b, o, none⟩ v) := touch_set v (Touch.refl _ _) (.inl rfl)
theorem touch2 {b : Nat} {w w1 w2 : World} (h : Touch (fun g => g = b) w w1) (k : Touch (fun g => g = b) w1 w2) : Touch (fun g => g = b) w w2 := h.trans k (fun _ h => .inl h)
/-- a reader at the place from which r is left -/
def RL (b : Nat) (s : ByteArray) (r : List UInt8) (e : Nat) (w : World) : Prop := RD b s (s.size - r.length) e w ∧ r <:+ s.data.toList
theorem suf_head {s : ByteArray} {c : UInt8} {t : List UInt8} (h : (c :: t) <:+ s.data.toList) : ∃ (n : Nat) (hn : n < s.size), s.size - (c :: t).length = n ∧ s[n] = c ∧ s.size - t.length = n + 1 := by
  have hl := h.length_le
  rw [size_len, List.length_cons] at hl
  have hd := suf_drop h
  rw [size_len] at hd
  refine ⟨s.size - (c :: t).length, by rw [List.length_cons]; omega, rfl, ?_, by rw [List.length_cons]; omega⟩
  have h0 := congrArg (fun l => l[0]?) hd
  simp only [List.getElem?_drop, Nat.add_zero, List.getElem?_cons_zero] at h0
  rw [List.getElem?_eq_getElem (by rw [size_len, List.length_cons]; omega)] at h0
  exact Option.some.inj h0
theorem suf_le {s : ByteArray} {r : List UInt8} (h : r <:+ s.data.toList) : r.length ≤ s.size := by
  have := h.length_le
  rwa [size_len] at this
theorem suf_nil {s : ByteArray} {r : List UInt8} (h : r <:+ s.data.toList) : (s.size - r.length = s.size ↔ r = []) ∧ s.data.toList.drop (s.size - r.length) = r := by
  have hl := suf_le h
  refine ⟨⟨fun e => ?_, fun e => by rw [e]; rfl⟩, by rw [← size_len]; exact suf_drop h⟩
  cases r with
  | nil => rfl
  | cons c t => rw [List.length_cons] at hl e; omega
end Go.Proofs.YtcmkepkeeahioaaGreatDoor
namespace Go.Proofs.YtcmkepkeeahioaaGreatDoor
open Go.RowKit
def FailPost (b : Nat) (s : ByteArray) (m k : Nat) (w : World) (e : Ending) (w' : World) : Prop := e = .returned .nilIface ∧ RD b s m k w' ∧ Touch (fun g => g = b) w w'
theorem rd_fail (b n m k : Nat) (s : ByteArray) (w : World) (h : RD b s n 0 w) :
    Calls Tryz.prog 31 #[.pointer (some ⟨b, 0, none⟩), .int .i64 (m : Int), .int .i64 (k : Int)] w (FailPost b s m k w) := by
  obtain ⟨c0, c1, c2, f1, f2⟩ := h.cells
  have c2' : w.cell? ⟨b, 2, none⟩ = some (.int .i64 0) := c2
  have HF := Lib.hid (And.intro ((h.setAt m).setErr k) (touch2 (touch_rd (b := b) (w := w) 1 (.int .i64 (m : Int))) (touch_rd (b := b) 2 (.int .i64 (k : Int)))))
  clear c2 h
  go_enter Tryz.func31, Tryz.ntmps31
  go_wp2_with fail
  go_ret
  exact ⟨rfl, HF.out.1, HF.out.2⟩
theorem RD.drewN {b n e : Nat} {s : ByteArray} {w : World} (h : RD b s n e w) (m : Nat) : RD b s n e (w.drewN m) := h
theorem RL.drewN {b e : Nat} {s : ByteArray} {r : List UInt8} {w : World} (h : RL b s r e w) (m : Nat) : RL b s r e (w.drewN m) := h
theorem Touch.drewN {S : Nat → Prop} {w w' : World} (h : Touch S w w') (m : Nat) : Touch S w (w'.drewN m) := ⟨h.os, h.tape, h.output, h.size, h.block⟩
/-- what end and sign tell: whether the sign stands there; what is left behind it, by f -/
def EndPost (f : List UInt8 → List UInt8) (b : Nat) (s : ByteArray) (r : List UInt8) (c : UInt8) (w : World) (e : Ending) (w' : World) : Prop :=
  Touch (fun g => g = b) w w' ∧ ((∃ t, r = c :: t ∧ e = .returned (.bool true) ∧ RL b s (f t) 0 w') ∨ (r.head? ≠ some c ∧ e = .returned (.bool false) ∧ RL b s r 0 w'))
theorem step_rl {b : Nat} {s : ByteArray} {x : UInt8} {t : List UInt8} {e n : Nat} {w : World} (h : RD b s n e w) (hsuf : (x :: t) <:+ s.data.toList) (e3 : s.size - t.length = n + 1) : RL b s t e (w.setCell ⟨b, 1, none⟩ (.int .i64 ((n : Int) + 1))) :=
  ⟨by rw [e3]; exact h.setAt (n + 1), (List.suffix_cons x t).trans hsuf⟩
theorem rd_end (b : Nat) (s : ByteArray) (r : List UInt8) (c : UInt8) (w : World) (h : RL b s r 0 w) (hs : s.size ≤ 1000000) :
    Calls Tryz.prog 89 #[.pointer (some ⟨b, 0, none⟩), .int .u8 (c.toNat : Int)] w (EndPost (fun t => t) b s r c w) := by
  have HH := Lib.hid h
  obtain ⟨h1, hsuf⟩ := h
  obtain ⟨c0, c1, c2, f1, f2⟩ := h1.cells
  cases r with
  | nil =>
    have t1 : decide ((s.size : Int) < (s.size : Int)) = false := decide_eq_false (by omega)
    have c1' : w.cell? ⟨b, 1, none⟩ = some (.int .i64 (s.size : Int)) := c1
    clear c1 hsuf h1
    go_enter Tryz.func89, Tryz.ntmps89
    go_wp2_with fail
    go_quiet (fail)
    go_wp2_with fail
    go_ret
    exact ⟨(Touch.refl _ _).drewN _, .inr ⟨by simp, rfl, HH.out.drewN _⟩⟩
  | cons x t =>
    obtain ⟨n, hn, e1, e2, e3⟩ := suf_head hsuf
    rw [e1] at c1 h1
    have t1 : decide ((n : Int) < (s.size : Int)) = true := decide_eq_true (by omega)
    by_cases hx : x = c
    · subst hx
      have t2 : ((s[n].toNat : Int) == (x.toNat : Int)) = true := by rw [e2, beq_iff_eq]
      have HF := Lib.hid (fun m => step_rl (h1.drewN m) hsuf e3)
      have HT := Lib.hid (fun m => touch2 ((Touch.refl (fun g => g = b) w).drewN m) (touch_rd (b := b) (w := w.drewN m) 1 (.int .i64 ((n : Int) + 1))))
      clear hsuf h1 e2 e3
      go_enter Tryz.func89, Tryz.ntmps89
      go_wp2_with fail
      go_quiet (fail)
      go_wp2_with fail
      go_ret
      exact ⟨HT.out _, .inl ⟨t, rfl, rfl, HF.out _⟩⟩
    · have t2 : ((s[n].toNat : Int) == (c.toNat : Int)) = false := by
        rw [e2, beq_eq_false_iff_ne]; intro e; exact hx (UInt8.toNat_inj.1 (by omega))
      clear hsuf h1 e2 e3
      go_enter Tryz.func89, Tryz.ntmps89
      go_wp2_with fail
      go_quiet (fail)
      go_wp2_with fail
      go_ret
      exact ⟨(Touch.refl _ _).drewN _, .inr ⟨by simpa using hx, rfl, HH.out.drewN _⟩⟩
theorem blank_idx (c : UInt8) : decide (Go.Lib.indexByte [32, 9, 10, 13] c ≥ 0) = blankB c := by
  have := byte_dec (p := fun c => decide (Go.Lib.indexByte [32, 9, 10, 13] c ≥ 0) == blankB c) (by decide +kernel) c
  exact eq_of_beq this
theorem c_blank (c : UInt8) (w : World) : Calls Tryz.prog 46 #[.string ⟨#[32, 9, 10, 13]⟩, .int .u8 (c.toNat : Int)] w fun e w' => e = .returned (.int .i64 (Go.Lib.indexByte [32, 9, 10, 13] c)) ∧ w' = w := by
  have h := Tryz.strings_IndexByte ⟨#[32, 9, 10, 13]⟩ (c.toNat : Int) w
  rw [Int.toNat_natCast, show c.toNat.toUInt8 = c by rw [Nat.toUInt8_eq, UInt8.ofNat_toNat]] at h
  exact h
def BlankPost (b : Nat) (s : ByteArray) (R : List UInt8) (k : Nat) (w : World) (e : Ending) (w' : World) : Prop := e = .returned (.tuple #[]) ∧ RL b s R k w' ∧ Touch (fun g => g = b) w w'
theorem skip_cons (x : UInt8) (t : List UInt8) : skipB (x :: t) = if blankB x = true then skipB t else x :: t := by
  unfold skipB; rw [List.dropWhile_cons]
set_option maxHeartbeats 1000000 in
theorem rd_blank (b : Nat) (s : ByteArray) (r : List UInt8) (k : Nat) (w : World) (h : RL b s r k w) (hs : s.size ≤ 1000000) :
    Calls Tryz.prog 29 #[.pointer (some ⟨b, 0, none⟩)] w (BlankPost b s (skipB r) k w) := by
  obtain ⟨R, hR⟩ : ∃ R, skipB r = R := ⟨_, rfl⟩
  have HR := Lib.hid hR
  unfold BlankPost
  rw [hR]
  have HH := Lib.hid h
  clear hR h
  go_enter Tryz.func29, Tryz.ntmps29
  go_wp2_with fail
  go_loopg [] r.length (fun gk wx => ∃ q : List UInt8, q.length ≤ gk ∧ Hid (RL b s q k wx) ∧ Hid (Touch (fun g => g = b) w wx) ∧ Hid (skipB q = R))
  case atStart => exact ⟨r, Nat.le_refl _, HH, Lib.hid (Touch.refl _ _), HR⟩
  case round =>
    obtain ⟨q, hq, HQ, HT, HS⟩ := hrel
    obtain ⟨c0, c1, c2, f1, f2⟩ := HQ.out.1.cells
    cases q with
    | nil =>
      have t1 : decide ((s.size : Int) < (s.size : Int)) = false := decide_eq_false (by omega)
      have c1' : wr.cell? ⟨b, 1, none⟩ = some (.int .i64 (s.size : Int)) := c1
      clear c1
      go_wp2_with fail
      go_quiet (fail)
      go_wp2_with fail
      go_end0
      exact ⟨rfl, by rw [← HS.out]; exact HQ.out.drewN _, HT.out.drewN _⟩
    | cons x t =>
      obtain ⟨n, hn, e1, e2, e3⟩ := suf_head HQ.out.2
      have h1 := HQ.out.1
      rw [e1] at c1 h1
      have hsc := skip_cons x t
      rw [HS.out] at hsc
      have t1 : decide ((n : Int) < (s.size : Int)) = true := decide_eq_true (by omega)
      have HB := Lib.hid (fun w => c_blank s[n] w)
      have hbi := blank_idx s[n]
      rw [e2] at hbi HB
      obtain ⟨I, hI⟩ : ∃ I, Go.Lib.indexByte [32, 9, 10, 13] x = I := ⟨_, rfl⟩
      rw [hI] at HB hbi
      have HF := Lib.hid (fun m => step_rl (h1.drewN m) HQ.out.2 e3)
      have HT2 := Lib.hid (fun m => touch2 (HT.out.drewN m) (touch_rd (b := b) (w := wr.drewN m) 1 (.int .i64 ((n : Int) + 1))))
      rw [List.length_cons] at hq
      by_cases hx : blankB x = true
      · rw [hx] at hbi
        rw [if_pos hx] at hsc
        have HSC := Lib.hid hsc.symm
        obtain ⟨g', rfl⟩ : ∃ g', gk = g' + 1 := ⟨gk - 1, by omega⟩
        clear hI h1 e3 hx hsc
        go_wp2_with fail
        go_quiet (first | (go_at_call 46; exact Calls.quiet_of_same (HB.out _)))
        go_wp2_with fail
        go_roundg g'
        case measure => omega
        case rel => exact ⟨t, by omega, Lib.hid (HF.out _), Lib.hid (HT2.out _), HSC⟩
      · have hx2 : blankB x = false := by rw [Bool.eq_false_iff]; exact hx
        rw [hx2] at hbi
        rw [if_neg hx] at hsc
        have HSC := Lib.hid hsc
        clear hI h1 e3 hx hsc hx2
        go_wp2_with fail
        go_quiet (first | (go_at_call 46; exact Calls.quiet_of_same (HB.out _)))
        go_wp2_with fail
        go_end0
        exact ⟨rfl, by rw [HSC.out]; exact HQ.out.drewN _, HT.out.drewN _⟩
end Go.Proofs.YtcmkepkeeahioaaGreatDoor
namespace Go.Proofs.YtcmkepkeeahioaaGreatDoor
open Go.RowKit Go.Lib

theorem or16 (c d : Nat) (hc : c < 4096) (hd : d < 16) : bits .or .i32 ((c : Int) * 16) (d : Int) = ((c * 16 + d : Nat) : Int) := by
  have e : ((c : Int) * 16) = ((c * 16 : Nat) : Int) := by omega
  have h : c * 16 ||| d = c * 16 + d := by
    have := Nat.shiftLeft_add_eq_or_of_lt (b := d) (i := 4) (by omega) c
    rw [Nat.shiftLeft_eq] at this; exact this.symm
  rw [e]
  unfold bits
  simp only [BitVec.ofInt_natCast]
  show IntKind.wrap .i32 (((BitVec.ofNat 32 (c * 16) ||| BitVec.ofNat 32 d)).toNat : Int) = _
  rw [BitVec.toNat_or, BitVec.toNat_ofNat, BitVec.toNat_ofNat, Nat.mod_eq_of_lt (by omega), Nat.mod_eq_of_lt (by omega), h]
  have hp : (2 : Int) ^ 32 = 4294967296 := by decide
  have hq : (2 : Int) ^ 31 = 2147483648 := by decide
  simp only [IntKind.wrap, IntKind.bits, IntKind.signed]
  simp
  omega

/-- the code from byte k on: c so far, n bytes to come -/
def cF : Nat → Nat → Nat → List UInt8 → Nat × Nat
  | 0, _, c, _ => (c, 0)
  | _ + 1, _, _, [] => (0, 3)
  | n + 1, k, c, b :: t => if (k = 0 ∧ b ≠ 92) ∨ (k = 1 ∧ b ≠ 117) ∨ (1 < k ∧ hexV b = none) then (0, 4) else cF n (k + 1) (if 1 < k then c * 16 + (hexV b).getD 0 else c) t
theorem cF_hex (n : Nat) : ∀ (k c : Nat) (l : List UInt8), 1 < k → cF n k c l = hex4 n c l := by
  induction n with
  | zero => intro k c l _; rfl
  | succ n ih =>
    intro k c l hk
    cases l with
    | nil => rfl
    | cons b t =>
      unfold cF hex4
      cases hb : hexV b with
      | none => rw [if_pos (.inr (.inr ⟨hk, rfl⟩))]
      | some d => 
        rw [if_neg (fun h => h.elim (fun h => by omega) (fun h => h.elim (fun h => by omega) (fun h => absurd h.2 (by simp)))), if_pos hk]
        exact ih _ _ _ (by omega)
theorem cF_code (l : List UInt8) : cF 6 0 0 l = codeP l := by
  cases l with
  | nil => rfl
  | cons a t =>
    show (if (0 = 0 ∧ a ≠ 92) ∨ (0 = 1 ∧ a ≠ 117) ∨ (1 < 0 ∧ hexV a = none) then (0, 4) else cF 5 1 (if 1 < 0 then 0 * 16 + (hexV a).getD 0 else 0) t) = (if a ≠ 92 then (0, 4) else match t with | [] => (0, 3) | b :: u => if b ≠ 117 then (0, 4) else hex4 4 0 u)
    by_cases ha : a = 92
    · rw [if_neg (by simp [ha]), if_neg (show ¬ (1 : Nat) < 0 by decide), if_neg (show ¬ a ≠ 92 by simp [ha])]
      cases t with
      | nil => rfl
      | cons b u =>
        show (if (1 = 0 ∧ b ≠ 92) ∨ (1 = 1 ∧ b ≠ 117) ∨ (1 < 1 ∧ hexV b = none) then (0, 4) else cF 4 2 (if 1 < 1 then 0 * 16 + (hexV b).getD 0 else 0) u) = if b ≠ 117 then (0, 4) else hex4 4 0 u
        by_cases hb : b = 117
        · rw [if_neg (by simp [hb]), if_neg (show ¬ (1 : Nat) < 1 by decide), if_neg (show ¬ b ≠ 117 by simp [hb])]; exact cF_hex 4 2 0 u (by decide)
        · rw [if_pos (.inr (.inl ⟨rfl, hb⟩)), if_pos hb]
    · rw [if_pos (.inl ⟨rfl, ha⟩), if_pos ha]
end Go.Proofs.YtcmkepkeeahioaaGreatDoor
namespace Go.Proofs.YtcmkepkeeahioaaGreatDoor
open Go.RowKit Go.Lib

theorem drop_cons (s : ByteArray) (k : Nat) (h : k < s.size) : s.data.toList.drop k = s[k] :: s.data.toList.drop (k + 1) := by
  rw [List.drop_eq_getElem_cons (by rw [size_len]; exact h)]; rfl
theorem hexI_eq (c : UInt8) : hexI c = ((hexV c).getD 0 : Nat) := by unfold hexI; cases hexV c <;> rfl
theorem hexG_lt (c : UInt8) : (hexV c).getD 0 < 16 := by
  cases h : hexV c with
  | none => decide
  | some d => exact hexV_lt c d h

set_option maxRecDepth 100000 in
theorem code (s : ByteArray) (w : World) (hs : s.size ≤ 1000000) :
    Calls Tryz.prog 120 #[.string s] w fun e w' => e = .returned (.tuple #[.int .i32 ((codeP s.data.toList).1 : Nat), .int .i64 ((codeP s.data.toList).2 : Nat)]) ∧ w' = w := by
  obtain ⟨ANS, hANS⟩ : ∃ ANS, codeP s.data.toList = ANS := ⟨_, rfl⟩
  have HA := cF_code s.data.toList
  rw [hANS] at HA ⊢
  go_enter Tryz.func120, Tryz.ntmps120
  go_wp2_with fail
  go_loopg [4, 8] 6 (fun gk s4 s8 wx => wx = w ∧ ∃ (k c : Nat), s4 = .int .i32 (c : Int) ∧ s8 = .int .i64 (k : Int) ∧ Hid (cF (6 - k) k c (s.data.toList.drop k) = ANS) ∧ Hid (c < 16 ^ (k - 2)) ∧ 6 ≤ k + gk ∧ k ≤ 6 ∧ k ≤ s.size)
  case atStart =>
    exact ⟨rfl, 0, 0, rfl, rfl, Lib.hid (by rw [List.drop_zero]; exact HA), Lib.hid (by decide), by omega, by omega, by omega⟩
  case round =>
    obtain ⟨rfl, k, c, rfl, rfl, HS, HC, hfu, hk6, hks⟩ := hrel
    by_cases hk : k < 6
    · obtain ⟨g', rfl⟩ : ∃ g', gk = g' + 1 := ⟨gk - 1, by omega⟩
      have tk : decide ((k : Int) < 6) = true := decide_eq_true (by omega)
      by_cases he : k = s.size
      · have HR : Hid (ANS = (0, 3)) := Lib.hid (by
          rw [← HS.out, he, ← size_len, List.drop_length]
          rw [size_len, ← he]
          obtain ⟨n, hn⟩ : ∃ n, 6 - k = n + 1 := ⟨5 - k, by omega⟩
          rw [hn]; rfl)
        have te : ((k : Int) == (s.size : Int)) = true := by rw [beq_iff_eq]; omega
        clear HS HC
        go_wp2_with fail
        go_ret2
        exact ⟨by rw [HR.out]; rfl, rfl⟩
      · have hlt : k < s.size := by omega
        have te : ((k : Int) == (s.size : Int)) = false := by rw [beq_eq_false_iff_ne]; omega
        have cD := digit s[k] wr
        rw [hexI_eq] at cD
        have hdl := hexG_lt s[k]
        have hcut := drop_cons s k hlt
        have hc : c < 4096 := Nat.lt_of_lt_of_le HC.out (Nat.pow_le_pow_right (n := 16) (by decide) (show k - 2 ≤ 3 by omega))
        have hstep : (if (k = 0 ∧ s[k] ≠ 92) ∨ (k = 1 ∧ s[k] ≠ 117) ∨ (1 < k ∧ hexV s[k] = none) then (0, 4) else cF (5 - k) (k + 1) (if 1 < k then c * 16 + (hexV s[k]).getD 0 else c) (s.data.toList.drop (k + 1))) = ANS := by
          rw [← HS.out, hcut]
          obtain ⟨n, hn⟩ : ∃ n, 5 - k = n := ⟨_, rfl⟩
          rw [show 6 - k = n + 1 by omega, hn]; rfl
        have hc0 := HC.out
        clear HS HC hcut
        obtain ⟨b, hb⟩ : ∃ b, s[k] = b := ⟨_, rfl⟩
        rw [hb] at cD hdl hstep
        by_cases k0 : k = 0
        · subst k0
          have hc00 : c = 0 := by have : c < 1 := hc0; omega
          subst hc00
          by_cases hbb : b = 92
          · subst hbb
            have HR : Hid (cF 5 1 0 (s.data.toList.drop 1) = ANS) := Lib.hid (by
              rw [if_neg (by decide)] at hstep; exact hstep)
            clear hstep
            go_wp2_with fail
            refine cD.mono ?_
            rintro e W' ⟨rfl, rfl⟩
            go_wp2_with fail
            go_roundg g'
            case measure => omega
            case rel => exact ⟨rfl, 1, 0, rfl, rfl, HR, Lib.hid (by decide), by omega, by omega, by omega⟩
          · have HR : Hid (ANS = (0, 4)) := Lib.hid (by
              rw [if_pos (.inl ⟨rfl, hbb⟩)] at hstep; exact hstep.symm)
            have t1 : ((b.toNat : Int) != 92) = true := by
              rw [bne_iff_ne]; intro e; exact hbb (UInt8.toNat_inj.1 (show b.toNat = 92 by omega))
            clear hstep
            go_wp2_with fail
            refine cD.mono ?_
            rintro e W' ⟨rfl, rfl⟩
            go_wp2_with fail
            go_ret2
            exact ⟨by rw [HR.out]; rfl, rfl⟩
        · by_cases k1 : k = 1
          · subst k1
            have hc00 : c = 0 := by have : c < 1 := hc0; omega
            subst hc00
            by_cases hbb : b = 117
            · subst hbb
              have HR : Hid (cF 4 2 0 (s.data.toList.drop 2) = ANS) := Lib.hid (by
                rw [if_neg (by decide)] at hstep; exact hstep)
              clear hstep
              go_wp2_with fail
              refine cD.mono ?_
              rintro e W' ⟨rfl, rfl⟩
              go_wp2_with fail
              go_roundg g'
              case measure => omega
              case rel => exact ⟨rfl, 2, 0, rfl, rfl, HR, Lib.hid (by decide), by omega, by omega, by omega⟩
            · have HR : Hid (ANS = (0, 4)) := Lib.hid (by
                rw [if_pos (.inr (.inl ⟨rfl, hbb⟩))] at hstep; exact hstep.symm)
              have t1 : ((b.toNat : Int) != 117) = true := by
                rw [bne_iff_ne]; intro e; exact hbb (UInt8.toNat_inj.1 (show b.toNat = 117 by omega))
              clear hstep
              go_wp2_with fail
              refine cD.mono ?_
              rintro e W' ⟨rfl, rfl⟩
              go_wp2_with fail
              go_ret2
              exact ⟨by rw [HR.out]; rfl, rfl⟩
          · have k2 : 1 < k := by omega
            have tk0 : ((k : Int) == 0) = false := by rw [beq_eq_false_iff_ne]; omega
            have tk1 : ((k : Int) == 1) = false := by rw [beq_eq_false_iff_ne]; omega
            have tk2 : decide ((k : Int) > 1) = true := decide_eq_true (by omega)
            have hor := or16 c _ hc hdl
            cases hx : hexV b with
            | none =>
              have HR : Hid (ANS = (0, 4)) := Lib.hid (by
                rw [if_pos (.inr (.inr ⟨k2, hx⟩))] at hstep; exact hstep.symm)
              rw [hx] at cD
              clear hstep hor hdl
              go_wp2_with fail
              refine cD.mono ?_
              rintro e W' ⟨rfl, rfl⟩
              go_wp2_with fail
              go_ret2
              exact ⟨by rw [HR.out]; rfl, rfl⟩
            | some d =>
              have HR : Hid (cF (6 - (k + 1)) (k + 1) (c * 16 + d) (s.data.toList.drop (k + 1)) = ANS) := Lib.hid (by
                rw [if_neg (fun h => h.elim (fun h => by omega) (fun h => h.elim (fun h => by omega) (fun h => absurd h.2 (by rw [hx]; simp)))), if_pos k2, hx] at hstep
                rw [show 6 - (k + 1) = 5 - k by omega]; exact hstep)
              rw [hx] at cD hdl hor
              change bits .or .i32 ((c : Int) * 16) (d : Int) = ((c * 16 + d : Nat) : Int) at hor
              have HC2 : Hid (c * 16 + d < 16 ^ (k + 1 - 2)) := Lib.hid (by
                have e : 16 ^ (k + 1 - 2) = 16 ^ (k - 2) * 16 := by rw [show k + 1 - 2 = (k - 2) + 1 by omega, Nat.pow_succ]
                have : d < 16 := hdl
                rw [e]; omega)
              change Calls _ _ _ _ fun e w' => e = .returned (.tuple #[.int .i32 (d : Int), .bool true]) ∧ _ at cD
              clear hstep hdl
              go_wp2_with fail
              refine cD.mono ?_
              rintro e W' ⟨rfl, rfl⟩
              go_wp2_with fail
              go_roundg g'
              case measure => omega
              case rel => exact ⟨rfl, k + 1, c * 16 + d, rfl, by simp, HR, HC2, by omega, by omega, by omega⟩
    · obtain rfl : k = 6 := by omega
      have HR : Hid (ANS = (c, 0)) := Lib.hid HS.out.symm
      clear HS HC
      go_wp2_with fail
      go_ret2
      exact ⟨by rw [HR.out]; rfl, rfl⟩
end Go.Proofs.YtcmkepkeeahioaaGreatDoor
namespace Go.Proofs.YtcmkepkeeahioaaGreatDoor
open Go.RowKit Go.Lib

theorem tail_list (s : ByteArray) (a : Nat) : (s.extract a s.size).data.toList = s.data.toList.drop a := by
  rw [extract_bs, bs_data, ← size_len, List.take_length]
set_option maxRecDepth 100000 in
theorem pair (s : ByteArray) (w : World) (hs : s.size ≤ 1000000) :
    Calls Tryz.prog 103 #[.string s] w fun e w' => e = .returned (.tuple #[.int .i32 ((pairP s.data.toList).1 : Nat), .int .i64 ((pairP s.data.toList).2.1 : Nat), .int .i64 ((pairP s.data.toList).2.2 : Nat)]) ∧ w' = w := by
  obtain ⟨ANS, hANS⟩ : ∃ ANS, pairP s.data.toList = ANS := ⟨_, rfl⟩
  rw [hANS]
  unfold pairP at hANS
  have c1 := code s w hs
  have hok := codeP_ok s.data.toList
  obtain ⟨n, hn⟩ : ∃ n, (codeP s.data.toList).1 = n := ⟨_, rfl⟩
  obtain ⟨f, hf⟩ : ∃ f, (codeP s.data.toList).2 = f := ⟨_, rfl⟩
  rw [hn, hf] at hANS c1
  rw [hn, hf, size_len] at hok
  by_cases hf0 : f ≠ 0
  · rw [if_pos hf0] at hANS
    have HA := Lib.hid hANS
    have t1 : ((f : Int) != 0) = true := by rw [bne_iff_ne]; omega
    clear hANS hok hf hn
    go_enter Tryz.func103, Tryz.ntmps103
    go_wp2_with fail
    refine c1.mono ?_
    rintro e W' ⟨rfl, rfl⟩
    go_wp2_with fail
    go_ret3
    exact ⟨by rw [← HA.out]; rfl, rfl⟩
  · rw [if_neg hf0] at hANS
    have hf1 : f = 0 := by omega
    subst hf1
    obtain ⟨h6, hn6⟩ := hok rfl
    by_cases h2 : n < 55296 ∨ 57343 < n
    · rw [if_pos h2] at hANS
      have HA := Lib.hid hANS
      clear hANS hok hf hn hf0
      go_enter Tryz.func103, Tryz.ntmps103
      by_cases h3 : n < 55296
      · have t1 : decide ((n : Int) < 55296) = true := decide_eq_true (by omega)
        go_wp2_with fail
        refine c1.mono ?_
        rintro e W' ⟨rfl, rfl⟩
        go_wp2_with fail
        go_ret3
        exact ⟨by rw [← HA.out]; rfl, rfl⟩
      · have t1 : decide ((n : Int) < 55296) = false := decide_eq_false (by omega)
        have t2 : decide ((n : Int) > 57343) = true := decide_eq_true (by omega)
        go_wp2_with fail
        refine c1.mono ?_
        rintro e W' ⟨rfl, rfl⟩
        go_wp2_with fail
        go_ret3
        exact ⟨by rw [← HA.out]; rfl, rfl⟩
    · rw [if_neg h2] at hANS
      have t1 : decide ((n : Int) < 55296) = false := decide_eq_false (by omega)
      have t2 : decide ((n : Int) > 57343) = false := decide_eq_false (by omega)
      by_cases h3 : 56320 ≤ n
      · rw [if_pos h3] at hANS
        have HA := Lib.hid hANS
        have t3 : decide ((n : Int) ≥ 56320) = true := decide_eq_true (by omega)
        clear hANS hok hf hn hf0
        go_enter Tryz.func103, Tryz.ntmps103
        go_wp2_with fail
        refine c1.mono ?_
        rintro e W' ⟨rfl, rfl⟩
        go_wp2_with fail
        go_ret3
        exact ⟨by rw [← HA.out]; rfl, rfl⟩
      · rw [if_neg h3] at hANS
        have t3 : decide ((n : Int) ≥ 56320) = false := decide_eq_false (by omega)
        have c2 := code (s.extract 6 s.size) w (by rw [ByteArray.size_extract]; omega)
        rw [tail_list] at c2
        have hok2 := codeP_ok (s.data.toList.drop 6)
        obtain ⟨m, hm⟩ : ∃ m, (codeP (s.data.toList.drop 6)).1 = m := ⟨_, rfl⟩
        obtain ⟨f, hf2⟩ : ∃ f, (codeP (s.data.toList.drop 6)).2 = f := ⟨_, rfl⟩
        rw [hm, hf2] at hANS c2
        rw [hm, hf2] at hok2
        by_cases hf3 : f ≠ 0
        · rw [if_pos hf3] at hANS
          have HA := Lib.hid hANS
          have t4 : ((f : Int) != 0) = true := by rw [bne_iff_ne]; omega
          clear hANS hok hf hn hf0 hok2 hm hf2
          go_enter Tryz.func103, Tryz.ntmps103
          go_wp2_with fail
          refine c1.mono ?_
          rintro e W' ⟨rfl, rfl⟩
          go_wp2_with fail
          refine c2.mono ?_
          rintro e W' ⟨rfl, rfl⟩
          go_wp2_with fail
          go_ret3
          exact ⟨by rw [← HA.out]; rfl, rfl⟩
        · rw [if_neg hf3] at hANS
          have hf4 : f = 0 := by omega
          subst hf4
          obtain ⟨_, hm6⟩ := hok2 rfl
          by_cases h4 : m < 56320 ∨ 57343 < m
          · rw [if_pos h4] at hANS
            have HA := Lib.hid hANS
            clear hANS hok hf hn hf0 hok2 hm hf2
            go_enter Tryz.func103, Tryz.ntmps103
            go_wp2_with fail
            refine c1.mono ?_
            rintro e W' ⟨rfl, rfl⟩
            go_wp2_with fail
            refine c2.mono ?_
            rintro e W' ⟨rfl, rfl⟩
            by_cases h5 : m < 56320
            · have t5 : decide ((m : Int) < 56320) = true := decide_eq_true (by omega)
              go_wp2_with fail
              go_ret3
              exact ⟨by rw [← HA.out]; rfl, rfl⟩
            · have t5 : decide ((m : Int) < 56320) = false := decide_eq_false (by omega)
              have t6 : decide ((m : Int) > 57343) = true := decide_eq_true (by omega)
              go_wp2_with fail
              go_ret3
              exact ⟨by rw [← HA.out]; rfl, rfl⟩
          · rw [if_neg h4] at hANS
            have HA : Hid ((((ANS.1 : Nat) : Int) = 65536 + ((n : Int) - 55296) * 1024 + (m : Int) - 56320) ∧ ANS.2.1 = 12 ∧ ANS.2.2 = 0) := Lib.hid (by
              rw [← hANS]; exact ⟨by show ((65536 + (n - 55296) * 1024 + (m - 56320) : Nat) : Int) = _; omega, rfl, rfl⟩)
            have t5 : decide ((m : Int) < 56320) = false := decide_eq_false (by omega)
            have t6 : decide ((m : Int) > 57343) = false := decide_eq_false (by omega)
            clear hANS hok hf hn hf0 hok2 hm hf2
            go_enter Tryz.func103, Tryz.ntmps103
            go_wp2_with fail
            refine c1.mono ?_
            rintro e W' ⟨rfl, rfl⟩
            go_wp2_with fail
            refine c2.mono ?_
            rintro e W' ⟨rfl, rfl⟩
            go_wp2_with fail
            go_ret3
            exact ⟨by rw [HA.out.1, HA.out.2.1, HA.out.2.2]; rfl, rfl⟩
end Go.Proofs.YtcmkepkeeahioaaGreatDoor
namespace Go.Proofs.YtcmkepkeeahioaaGreatDoor
open Go.RowKit Go.Lib

theorem getD_at (s : ByteArray) (k : Nat) (h : k < s.size) : s.data.toList.getD k 0 = s[k] := by
  rw [List.getD_eq_getElem?_getD, List.getElem?_eq_getElem (by rw [size_len]; exact h)]; rfl
set_option maxRecDepth 100000 in
theorem mark (s : ByteArray) (w : World) (hs : s.size ≤ 1000000) :
    Calls Tryz.prog 87 #[.string s] w fun e w' => e = .returned (.tuple #[.int .i32 ((markP s.data.toList).1 : Nat), .int .i64 ((markP s.data.toList).2.1 : Nat), .int .i64 ((markP s.data.toList).2.2 : Nat)]) ∧ w' = w := by
  have cP := pair s w hs
  by_cases h2 : s.size < 2
  · have HA : Hid (markP s.data.toList = (0, 0, 3)) := Lib.hid (by unfold markP; rw [if_pos (by rw [size_len]; exact h2)])
    go_enter Tryz.func87, Tryz.ntmps87
    have t1 : decide ((s.size : Int) < 2) = true := decide_eq_true (by omega)
    go_wp2_with fail
    go_ret3
    exact ⟨by rw [HA.out]; rfl, rfl⟩
  have t0 : decide ((s.size : Int) < 2) = false := decide_eq_false (by omega)
  have h1 : 1 < s.size := by omega
  obtain ⟨N, hN⟩ : ∃ N, s[1].toNat = N := ⟨_, rfl⟩
  have hmk : markP s.data.toList = if escN N ≠ 0 then (escN N, 2, 0) else pairP s.data.toList := by
    unfold markP; rw [if_neg (by rw [size_len]; exact h2), getD_at s 1 h1, hN]
  rw [hmk]
  clear hmk
  by_cases a34 : N = 34
  · subst a34
    have HA : Hid (escN 34 = 34) := Lib.hid (by decide)
    rw [HA.out, if_pos (by decide)]
    go_enter Tryz.func87, Tryz.ntmps87
    go_wp2_with fail
    go_ret3
    exact ⟨rfl, rfl⟩
  by_cases a92 : N = 92
  · subst a92
    have HA : Hid (escN 92 = 92) := Lib.hid (by decide)
    rw [HA.out, if_pos (by decide)]
    go_enter Tryz.func87, Tryz.ntmps87
    go_wp2_with fail
    go_ret3
    exact ⟨rfl, rfl⟩
  by_cases a47 : N = 47
  · subst a47
    have HA : Hid (escN 47 = 47) := Lib.hid (by decide)
    rw [HA.out, if_pos (by decide)]
    go_enter Tryz.func87, Tryz.ntmps87
    go_wp2_with fail
    go_ret3
    exact ⟨rfl, rfl⟩
  by_cases a98 : N = 98
  · subst a98
    have HA : Hid (escN 98 = 8) := Lib.hid (by decide)
    rw [HA.out, if_pos (by decide)]
    go_enter Tryz.func87, Tryz.ntmps87
    go_wp2_with fail
    go_ret3
    exact ⟨rfl, rfl⟩
  by_cases a102 : N = 102
  · subst a102
    have HA : Hid (escN 102 = 12) := Lib.hid (by decide)
    rw [HA.out, if_pos (by decide)]
    go_enter Tryz.func87, Tryz.ntmps87
    go_wp2_with fail
    go_ret3
    exact ⟨rfl, rfl⟩
  by_cases a110 : N = 110
  · subst a110
    have HA : Hid (escN 110 = 10) := Lib.hid (by decide)
    rw [HA.out, if_pos (by decide)]
    go_enter Tryz.func87, Tryz.ntmps87
    go_wp2_with fail
    go_ret3
    exact ⟨rfl, rfl⟩
  by_cases a114 : N = 114
  · subst a114
    have HA : Hid (escN 114 = 13) := Lib.hid (by decide)
    rw [HA.out, if_pos (by decide)]
    go_enter Tryz.func87, Tryz.ntmps87
    go_wp2_with fail
    go_ret3
    exact ⟨rfl, rfl⟩
  by_cases a116 : N = 116
  · subst a116
    have HA : Hid (escN 116 = 9) := Lib.hid (by decide)
    rw [HA.out, if_pos (by decide)]
    go_enter Tryz.func87, Tryz.ntmps87
    go_wp2_with fail
    go_ret3
    exact ⟨rfl, rfl⟩
  have HE : escN N = 0 := by
    unfold escN
    rw [if_neg (by omega), if_neg a98, if_neg a102, if_neg a110, if_neg a114, if_neg a116]
  rw [HE, if_neg (by decide)]
  have t34 : ((N : Int) == 34) = false := by rw [beq_eq_false_iff_ne]; omega
  have t92 : ((N : Int) == 92) = false := by rw [beq_eq_false_iff_ne]; omega
  have t47 : ((N : Int) == 47) = false := by rw [beq_eq_false_iff_ne]; omega
  have t98 : ((N : Int) == 98) = false := by rw [beq_eq_false_iff_ne]; omega
  have t102 : ((N : Int) == 102) = false := by rw [beq_eq_false_iff_ne]; omega
  have t110 : ((N : Int) == 110) = false := by rw [beq_eq_false_iff_ne]; omega
  have t114 : ((N : Int) == 114) = false := by rw [beq_eq_false_iff_ne]; omega
  have t116 : ((N : Int) == 116) = false := by rw [beq_eq_false_iff_ne]; omega
  clear HE
  go_enter Tryz.func87, Tryz.ntmps87
  go_wp2_with fail
  refine cP.mono ?_
  rintro e W' ⟨rfl, rfl⟩
  go_wp2_with fail
  go_ret3
  exact ⟨rfl, rfl⟩
end Go.Proofs.YtcmkepkeeahioaaGreatDoor
namespace Go.Proofs.YtcmkepkeeahioaaGreatDoor
open Go.RowKit Go.Lib

theorem pairP_err (l : List UInt8) : (pairP l).2.2 = 0 ∨ (pairP l).2.2 = 3 ∨ (pairP l).2.2 = 4 := by
  unfold pairP
  repeat' split
  all_goals first
    | exact codeP_err _
    | exact .inl rfl
    | exact .inr (.inr rfl)
theorem markP_err (l : List UInt8) : (markP l).2.2 = 0 ∨ (markP l).2.2 = 3 ∨ (markP l).2.2 = 4 := by
  unfold markP
  split
  · exact .inr (.inl rfl)
  · split
    · exact .inl rfl
    · exact pairP_err l
theorem takeR_step (g : Nat) (r : List UInt8) (i : Nat) (acc : List UInt8) (hr : r ≠ []) : takeR (g + 1) r i acc = if (stepT r).1 = 1 then (acc, i + 1, 0) else if (stepT r).1 = 3 then ([], i + r.length, 3) else if (stepT r).1 = 4 then ([], i, 4)
    else takeR g (r.drop (stepT r).2.1) (i + (stepT r).2.1) (acc ++ (stepT r).2.2) := by
  show (if r = [] then _ else _) = _
  rw [if_neg hr]
theorem enc_le (c : Int) : (Lib.encodeRune c).length ≤ 4 := by
  have := Lib.encodeRuneZ_length c
  have e : (Lib.encodeRune c).length = (Lib.encodeRuneZ c).length := by unfold Lib.encodeRune; rw [List.length_map]
  omega
set_option maxRecDepth 100000 in
set_option maxHeartbeats 400000 in
theorem take (s : ByteArray) (at_ : Int) (w : World) (hs : s.size ≤ 1000000) (hu : U8 w) :
    Calls Tryz.prog 68 #[.string s, .int .i64 at_] w fun e w' => e = .returned (.tuple #[.string (bs (takeP s.data.toList at_).1), .int .i64 (takeP s.data.toList at_).2.1, .int .i64 ((takeP s.data.toList at_).2.2 : Nat)]) ∧ Below w.heap.size w w' := by
  obtain ⟨ANS, hANS⟩ : ∃ ANS, takeP s.data.toList at_ = ANS := ⟨_, rfl⟩
  rw [hANS]
  unfold takeP at hANS
  rw [size_len] at hANS
  by_cases h1 : at_ < 0
  · rw [if_pos (.inl h1)] at hANS
    have HA := Lib.hid hANS
    have t1 : decide (at_ < 0) = true := decide_eq_true h1
    clear hANS
    go_enter Tryz.func68, Tryz.ntmps68
    go_wp2_with fail
    go_ret3
    exact ⟨by rw [← HA.out]; rfl, Below.refl _ _⟩
  obtain ⟨a, rfl⟩ := Int.eq_ofNat_of_zero_le (show 0 ≤ at_ by omega)
  have t1 : decide ((a : Int) < 0) = false := decide_eq_false h1
  by_cases h2 : s.size < a
  · rw [if_pos (.inr (by omega))] at hANS
    have HA := Lib.hid hANS
    have t2 : decide ((a : Int) > (s.size : Int)) = true := decide_eq_true (by omega)
    clear hANS
    go_enter Tryz.func68, Tryz.ntmps68
    go_wp2_with fail
    go_ret3
    exact ⟨by rw [← HA.out]; rfl, Below.refl _ _⟩
  have t2 : decide ((a : Int) > (s.size : Int)) = false := decide_eq_false (by omega)
  rw [if_neg (by omega)] at hANS
  by_cases h3 : a = s.size
  · rw [if_pos (by omega)] at hANS
    have HA := Lib.hid hANS
    subst h3
    have t3 : ((s.size : Int) == (s.size : Int)) = true := by rw [beq_iff_eq]
    clear hANS
    go_enter Tryz.func68, Tryz.ntmps68
    go_wp2_with fail
    go_ret3
    exact ⟨by rw [← HA.out]; rfl, Below.refl _ _⟩
  have t3 : ((a : Int) == (s.size : Int)) = false := by rw [beq_eq_false_iff_ne]; omega
  rw [if_neg (by omega)] at hANS
  have hlt : a < s.size := by omega
  rw [Int.toNat_natCast, getD_at s a hlt] at hANS
  by_cases h4 : s[a] = 34
  · rw [if_neg (by rw [h4]; decide)] at hANS
    have t4 : ((s[a].toNat : Int) != 34) = false := by rw [h4]; rfl
    obtain ⟨A, hA⟩ : ∃ A, takeR (s.size + 1) (s.data.toList.drop (a + 1)) (a + 1) [] = A := ⟨_, rfl⟩
    rw [hA] at hANS
    have HANS := Lib.hid hANS
    have HT : Hid (∀ f, (s.data.toList.drop (a + 1)).length < f → takeR f (s.data.toList.drop (a + 1)) (a + 1) [] = A) := Lib.hid (fun f hf => by
      rw [← hA]; exact takeR_fuel _ _ _ _ _ _ (Nat.le_refl _) hf (by rw [List.length_drop, size_len]; omega))
    clear hANS hA
    have hB := BI.fresh w
    have hsz : w.heap.size ≤ (w.alloc (.cells #[.pointer none, .slice none 0 0] 81 (0, 0))).heap.size := by simp
    have hAl : Below w.heap.size w (w.alloc (.cells #[.pointer none, .slice none 0 0] 81 (0, 0))) := (Below.refl _ w).alloc (Nat.le_refl _) _
    go_enter Tryz.func68, Tryz.ntmps68
    go_wp2_with fail
    go_loopg [8] s.size (fun gk s8 wx => ∃ (i : Nat) (acc : List UInt8), s8 = .int .i64 (i : Int) ∧ BI w.heap.size acc wx ∧ Below w.heap.size w wx ∧
      Hid (∀ f, (s.data.toList.drop i).length < f → takeR f (s.data.toList.drop i) i acc = A) ∧ acc.length ≤ 4 * i ∧ s.size ≤ i + gk ∧ i ≤ s.size)
    case atStart =>
      exact ⟨a + 1, [], by simp, hB, hAl, HT, by simp, by omega, by omega⟩
    case round =>
      obtain ⟨i, acc, rfl, hI, hbx, HS, hal, hfu, his⟩ := hrel
      have hszx : w.heap.size ≤ wr.heap.size := hbx.size
      by_cases hil : i < s.size
      · have hne := drop_ne s i hil
        have hdl : (s.data.toList.drop i).length = s.size - i := by rw [List.length_drop, size_len]
        have tl : decide ((i : Int) < (s.size : Int)) = true := decide_eq_true (by omega)
        have h0 : (s.data.toList.drop i).getD 0 0 = s[i] := by rw [drop_cons s i hil]; rfl
        have hst := HS.out ((s.data.toList.drop i).length + 1) (by omega)
        rw [takeR_step _ _ _ _ hne] at hst
        have hk := stepT_on _ hne
        by_cases b1 : s[i] = 34
        · have hs1 : stepT (s.data.toList.drop i) = (1, 1, []) := stepT_end _ (by rw [h0, b1])
          have HR : Hid (A = (acc, i + 1, 0)) := Lib.hid (by rw [hs1, if_pos rfl] at hst; exact hst.symm)
          have t5 : ((s[i].toNat : Int) == 34) = true := by rw [b1]; rfl
          clear hst HS hk hs1
          go_wp2_with fail
          refine (c_text w.heap.size acc wr hI hszx).mono ?_
          rintro e W4 ⟨rfl, -, b4⟩
          go_wp2_with fail
          go_ret3
          exact ⟨by rw [← HANS.out, HR.out]; simp, hbx.trans b4⟩
        · have t5 : ((s[i].toNat : Int) == 34) = false := by
            rw [beq_eq_false_iff_ne]; intro e; exact b1 (UInt8.toNat_inj.1 (show s[i].toNat = 34 by omega))
          by_cases b2 : s[i] = 92
          · have t6 : ((s[i].toNat : Int) == 92) = true := by rw [b2]; rfl
            have cM := mark (s.extract i s.size) wr (by rw [ByteArray.size_extract]; omega)
            rw [tail_list] at cM
            have hms : stepT (s.data.toList.drop i) = (if (markP (s.data.toList.drop i)).2.2 = 3 then (3, 0, []) else if (markP (s.data.toList.drop i)).2.2 ≠ 0 then (4, 0, []) else (0, (markP (s.data.toList.drop i)).2.1, Go.Lib.encodeRune ((markP (s.data.toList.drop i)).1 : Nat))) := by
              unfold stepT; rw [if_neg (by rw [h0]; exact b1), if_pos (by rw [h0]; exact b2)]
            have herr := markP_err (s.data.toList.drop i)
            have hgd := markP_ok (s.data.toList.drop i)
            obtain ⟨n, hn⟩ : ∃ n, (markP (s.data.toList.drop i)).1 = n := ⟨_, rfl⟩
            obtain ⟨m, hm⟩ : ∃ m, (markP (s.data.toList.drop i)).2.1 = m := ⟨_, rfl⟩
            obtain ⟨f, hf⟩ : ∃ f, (markP (s.data.toList.drop i)).2.2 = f := ⟨_, rfl⟩
            rw [hn, hm, hf] at hms hgd cM
            rw [hf] at herr
            by_cases f3 : f = 3
            · subst f3
              have HR : Hid (A = ([], s.size, 3)) := Lib.hid (by
                rw [hms, if_pos rfl, if_neg (show ¬ (3 : Nat) = 1 by decide), if_pos rfl, hdl] at hst
                rw [← hst]; congr 2; omega)
              clear hst HS hk hms hgd herr hn hm hf
              go_wp2_with fail
              refine cM.mono ?_
              rintro e W' ⟨rfl, rfl⟩
              go_wp2_with fail
              go_ret3
              exact ⟨by rw [← HANS.out, HR.out]; rfl, hbx⟩
            · by_cases f0 : f = 0
              · subst f0
                obtain ⟨g1, g2, g3⟩ := hgd rfl
                rw [hdl] at g2
                have hn1 : n ≤ 1114111 := by rcases g3 with h | ⟨_, h⟩ <;> omega
                have HS2 : Hid (∀ f, (s.data.toList.drop (i + m)).length < f → takeR f (s.data.toList.drop (i + m)) (i + m) (acc ++ Go.Lib.encodeRune (n : Int)) = A) := Lib.hid (fun f hf => by
                  rw [hms, if_neg (show ¬ (0 : Nat) = 3 by decide), if_neg (show ¬ (0 : Nat) ≠ 0 by decide), if_neg (show ¬ (0 : Nat) = 1 by decide), if_neg (show ¬ (0 : Nat) = 3 by decide), if_neg (show ¬ (0 : Nat) = 4 by decide), List.drop_drop] at hst
                  rw [← hst]
                  exact takeR_fuel _ _ _ _ _ _ (Nat.le_refl _) hf (by show _ < (s.data.toList.drop i).length; rw [List.length_drop, hdl, size_len]; omega))
                have hel := enc_le (n : Int)
                obtain ⟨g', rfl⟩ : ∃ g', gk = g' + 1 := ⟨gk - 1, by omega⟩
                clear hst HS hk hms hgd herr hn hm hf g3
                go_wp2_with fail
                refine cM.mono ?_
                rintro e W' ⟨rfl, rfl⟩
                go_wp2_with fail
                refine (c_rune w.heap.size acc (n : Int) (by omega) (by omega) _ hI (by omega) hszx).mono ?_
                rintro e W3 ⟨rfl, hI3, b3, -⟩
                go_wp2_with fail
                go_roundg g'
                case measure => omega
                case rel => exact ⟨i + m, _, by simp, hI3, hbx.trans b3, HS2, by rw [List.length_append]; omega, by omega, by omega⟩
              · have f4 : f = 4 := by omega
                subst f4
                have HR : Hid (A = ([], i, 4)) := Lib.hid (by
                  rw [hms, if_neg (show ¬ (4 : Nat) = 3 by decide), if_pos (show (4 : Nat) ≠ 0 by decide), if_neg (show ¬ (4 : Nat) = 1 by decide), if_neg (show ¬ (4 : Nat) = 3 by decide), if_pos rfl] at hst
                  exact hst.symm)
                clear hst HS hk hms hgd herr hn hm hf
                go_wp2_with fail
                refine cM.mono ?_
                rintro e W' ⟨rfl, rfl⟩
                go_wp2_with fail
                go_ret3
                exact ⟨by rw [← HANS.out, HR.out]; rfl, hbx⟩
          · have t6 : ((s[i].toNat : Int) == 92) = false := by
              rw [beq_eq_false_iff_ne]; intro e; exact b2 (UInt8.toNat_inj.1 (show s[i].toNat = 92 by omega))
            have cD := c_decode (s.extract i s.size) wr (by rw [tail_list]; exact hne) (hu.below hbx)
            rw [tail_list] at cD
            have hms : stepT (s.data.toList.drop i) = (if badR (s.data.toList.drop i) ∨ ((s.data.toList.drop i).getD 0 0).toNat < 32 then (4, 0, []) else (0, rwd (s.data.toList.drop i), (s.data.toList.drop i).take (rwd (s.data.toList.drop i)))) := by
              unfold stepT; rw [if_neg (by rw [h0]; exact b1), if_neg (by rw [h0]; exact b2)]
            have hwp := rwd_pos (s.data.toList.drop i)
            have hwl := rwd_le _ hne
            have hcr := Lib.decodeL_rune (s.data.toList.drop i)
            have hlow : ¬ badR (s.data.toList.drop i) → ((s.data.toList.drop i).getD 0 0).toNat < 128 → (Lib.decodeL (s.data.toList.drop i)).1 = ((s.data.toList.drop i).getD 0 0).toNat := by
              intro _ h
              rw [drop_cons s i hil] at h ⊢
              rw [low_rune s[i] _ h]; rfl
            have hhigh := dec_high (s.data.toList.drop i)
            have henc := Lib.encode_decode (s.data.toList.drop i) hne
            have hbad : badR (s.data.toList.drop i) ↔ (Lib.decodeL (s.data.toList.drop i)).1 = 65533 ∧ rwd (s.data.toList.drop i) = 1 := Iff.rfl
            have hR32 : ¬ badR (s.data.toList.drop i) → (((s.data.toList.drop i).getD 0 0).toNat < 32 ↔ (Lib.decodeL (s.data.toList.drop i)).1 < 32) := by
              intro hb
              by_cases hlo : ((s.data.toList.drop i).getD 0 0).toNat < 128
              · rw [hlow hb hlo]
              · have := hhigh hb (by omega); omega
            obtain ⟨R, hR⟩ : ∃ R, (Lib.decodeL (s.data.toList.drop i)).1 = R := ⟨_, rfl⟩
            obtain ⟨M, hM⟩ : ∃ M, rwd (s.data.toList.drop i) = M := ⟨_, rfl⟩
            rw [hR] at hcr hbad hR32
            rw [hR, hM] at cD
            rw [hM] at hbad hwp hwl hms
            rw [hdl] at hwl
            have hMe : (Lib.decodeL (s.data.toList.drop i)).2 = M := hM
            rw [hR, hMe] at henc
            clear hlow hhigh
            by_cases hbd : badR (s.data.toList.drop i) ∨ ((s.data.toList.drop i).getD 0 0).toNat < 32
            · have HR : Hid (A = ([], i, 4)) := Lib.hid (by
                rw [hms, if_pos hbd, if_neg (show ¬ (4 : Nat) = 1 by decide), if_neg (show ¬ (4 : Nat) = 3 by decide), if_pos rfl] at hst
                exact hst.symm)
              by_cases hb : badR (s.data.toList.drop i)
              · obtain ⟨rfl, rfl⟩ := hbad.1 hb
                clear hst HS hk hms hR hM hMe henc hbad hR32 hbd hb
                go_wp2_with fail
                refine cD.mono ?_
                rintro e W' ⟨rfl, b4⟩
                go_wp2_with fail
                go_ret3
                exact ⟨by rw [← HANS.out, HR.out]; rfl, hbx.trans (b4.mono hszx)⟩
              · have hR2 : R < 32 := (hR32 hb).1 (hbd.resolve_left hb)
                have t7 : ((R : Int) == 65533) = false := by rw [beq_eq_false_iff_ne]; omega
                have t8 : decide ((R : Int) < 32) = true := decide_eq_true (by omega)
                clear hst HS hk hms hR hM hMe henc hbad hR32 hbd hb
                go_wp2_with fail
                refine cD.mono ?_
                rintro e W' ⟨rfl, b4⟩
                go_wp2_with fail
                go_ret3
                exact ⟨by rw [← HANS.out, HR.out]; rfl, hbx.trans (b4.mono hszx)⟩
            · have hb : ¬ badR (s.data.toList.drop i) := fun h => hbd (.inl h)
              have hR2 : ¬ R < 32 := fun h => hbd (.inr ((hR32 hb).2 h))
              have t8 : decide ((R : Int) < 32) = false := decide_eq_false (by omega)
              have hen := henc (fun h => hb (hbad.2 h))
              have HS2 : Hid (∀ f, (s.data.toList.drop (i + M)).length < f → takeR f (s.data.toList.drop (i + M)) (i + M) (acc ++ Go.Lib.encodeRune (R : Int)) = A) := Lib.hid (fun f hf => by
                rw [hms, if_neg hbd, if_neg (show ¬ (0 : Nat) = 1 by decide), if_neg (show ¬ (0 : Nat) = 3 by decide), if_neg (show ¬ (0 : Nat) = 4 by decide), List.drop_drop] at hst
                rw [← hst, hen]
                exact takeR_fuel _ _ _ _ _ _ (Nat.le_refl _) hf (by show _ < (s.data.toList.drop i).length; rw [List.length_drop, hdl, size_len]; omega))
              have hel := enc_le (R : Int)
              have h3 : R ≠ 65533 ∨ M ≠ 1 := by
                by_cases e : R = 65533
                · exact .inr (fun e2 => hb (hbad.2 ⟨e, e2⟩))
                · exact .inl e
              obtain ⟨g', rfl⟩ : ∃ g', gk = g' + 1 := ⟨gk - 1, by omega⟩
              clear hst HS hk hms hR hM hMe henc hbad hR32 hbd hb hen
              go_wp2_with fail
              refine cD.mono ?_
              rintro e W' ⟨rfl, b4⟩
              have hI4 := BI.below hI b4
              have hb4 := hbx.trans (b4.mono hszx)
              have hsz4 : w.heap.size ≤ W'.heap.size := by have := b4.size; omega
              by_cases e65 : R = 65533
              · have t7 : ((R : Int) == 65533) = true := by rw [beq_iff_eq]; omega
                have t9 : decide ((M : Int) < 2) = false := decide_eq_false (by omega)
                clear e65 h3
                go_wp2_with fail
                refine (c_rune w.heap.size acc (R : Int) (by omega) (by omega) _ hI4 (by omega) hsz4).mono ?_
                rintro e W3 ⟨rfl, hI5, b5, -⟩
                go_wp2_with fail
                go_roundg g'
                case measure => omega
                case rel => exact ⟨i + M, _, by simp, hI5, hb4.trans b5, HS2, by rw [List.length_append]; omega, by omega, by omega⟩
              · have t7 : ((R : Int) == 65533) = false := by rw [beq_eq_false_iff_ne]; omega
                go_wp2_with fail
                refine (c_rune w.heap.size acc (R : Int) (by omega) (by omega) _ hI4 (by omega) hsz4).mono ?_
                rintro e W3 ⟨rfl, hI5, b5, -⟩
                go_wp2_with fail
                go_roundg g'
                case measure => omega
                case rel => exact ⟨i + M, _, by simp, hI5, hb4.trans b5, HS2, by rw [List.length_append]; omega, by omega, by omega⟩
      · obtain rfl : i = s.size := by omega
        have HR : Hid (A = ([], s.size, 3)) := Lib.hid (by
          have := HS.out 1 (by rw [← size_len, List.drop_length]; decide)
          rw [← this, ← size_len, List.drop_length]; rfl)
        have tl : decide ((s.size : Int) < (s.size : Int)) = false := decide_eq_false (by omega)
        clear HS
        go_wp2_with fail
        go_ret3
        exact ⟨by rw [← HANS.out, HR.out]; rfl, hbx⟩
  · rw [if_pos h4] at hANS
    have HA := Lib.hid hANS
    have t4 : ((s[a].toNat : Int) != 34) = true := by
      rw [bne_iff_ne]; intro e; exact h4 (UInt8.toNat_inj.1 (show s[a].toNat = 34 by omega))
    clear hANS
    go_enter Tryz.func68, Tryz.ntmps68
    go_wp2_with fail
    go_ret3
    exact ⟨by rw [← HA.out]; rfl, Below.refl _ _⟩
end Go.Proofs.YtcmkepkeeahioaaGreatDoor
namespace Go.Proofs.YtcmkepkeeahioaaGreatDoor
open Go.RowKit

/-- a world that has come of w by reading, drawing and laying blocks -/
structure BelowOf (w : World) where
  world : World
  below : Below w.heap.size w world
instance (w : World) : Inhabited (BelowOf w) := ⟨⟨w, Below.refl _ _⟩⟩
theorem wp_region_quiet_below {P : Program} {id : Nat} {Q : Exit → Act → World → Prop} {a : Act} {w : World} {l : List Oper} (hm : P.follows .mixedOrders = true) (hB : Region.lexB .any l.toArray = true)
    (h : wpQuiet P l.toArray (fun w' => ∃ p : BelowOf w, w' = p.world) (fun a' => ∀ w', (∃ p : BelowOf w, w' = p.world) → Q .normal a' w') l a) : (Code.region id l.toArray true).wp P Q a w :=
  wp_region_quiet (C := fun w' => ∃ p : BelowOf w, w' = p.world) hm hB ⟨⟨w.drew, (Below.refl _ _).drew⟩, rfl⟩ (by simpa using h)
theorem below_of {P : Program} {f : FuncId} {args : Array Value} {w : World} {p : BelowOf w} {v : Value}
    (h : Calls P f args p.world fun e w' => e = .returned v ∧ Below p.world.heap.size p.world w') : Calls P f args p.world fun e w'' => e = .returned v ∧ ∃ q : BelowOf w, w'' = q.world :=
  h.mono fun _ _ ⟨he, hb⟩ => ⟨he, ⟨_, bstep p.below hb⟩, rfl⟩
theorem cell_of {w : World} (p : BelowOf w) {a : Addr} {v : Value} (hb : a.block < w.heap.size) (h : w.cell? a = some v) : p.world.cell? a = some v := (p.below.cell hb).trans h
theorem of_class {w W : World} (h : ∃ p : BelowOf w, W = p.world) : Below w.heap.size w W := let ⟨p, hp⟩ := h; hp ▸ p.below
end Go.Proofs.YtcmkepkeeahioaaGreatDoor
namespace Go.Proofs.YtcmkepkeeahioaaGreatDoor
open Go.RowKit
theorem nb_drewN {B : Nat} {a w : World} (h : Below B a w) (n : Nat) : Below B a (w.drewN n) := ⟨h.os, h.tape, h.output, h.size, h.block⟩
theorem stay {w0 w w' : World} {b : Nat} (h : Below w0.heap.size w0 w) (t : Touch (fun g => g = b) w w') (hb : w0.heap.size ≤ b) : Below w0.heap.size w0 w' :=
  h.trans (t.below (fun g hg => by rw [hg]; exact hb) h.size)
theorem RL.below {b e : Nat} {s : ByteArray} {r : List UInt8} {w w' : World} (h : RL b s r e w) (hb : Below w.heap.size w w') : RL b s r e w' := ⟨h.1.below hb, h.2⟩
theorem rd_sign (b : Nat) (s : ByteArray) (r : List UInt8) (c : UInt8) (w : World) (h : RL b s r 0 w) (hs : s.size ≤ 1000000) :
    Calls Tryz.prog 72 #[.pointer (some ⟨b, 0, none⟩), .int .u8 (c.toNat : Int)] w (EndPost skipB b s r c w) := by
  have HH := Lib.hid h
  obtain ⟨h1, hsuf⟩ := h
  obtain ⟨c0, c1, c2, f1, f2⟩ := h1.cells
  cases r with
  | nil =>
    have t1 : ((s.size : Int) == (s.size : Int)) = true := by rw [beq_iff_eq]
    have c1' : w.cell? ⟨b, 1, none⟩ = some (.int .i64 (s.size : Int)) := c1
    clear c1 hsuf h1
    go_enter Tryz.func72, Tryz.ntmps72
    go_wp2_with fail
    go_quiet (fail)
    go_wp2_with fail
    go_ret
    exact ⟨(Touch.refl _ _).drewN _, .inr ⟨by simp, rfl, HH.out.drewN _⟩⟩
  | cons x t =>
    obtain ⟨n, hn, e1, e2, e3⟩ := suf_head hsuf
    rw [e1] at c1 h1
    have t1 : ((n : Int) == (s.size : Int)) = false := by rw [beq_eq_false_iff_ne]; omega
    by_cases hx : x = c
    · subst hx
      have t2 : ((s[n].toNat : Int) != (x.toNat : Int)) = false := by rw [e2, bne_eq_false_iff_eq]
      have HF := Lib.hid (fun m => step_rl (h1.drewN m) hsuf e3)
      have HT := Lib.hid (fun m => touch2 ((Touch.refl (fun g => g = b) w).drewN m) (touch_rd (b := b) (w := w.drewN m) 1 (.int .i64 ((n : Int) + 1))))
      clear hsuf h1 e2 e3
      go_enter Tryz.func72, Tryz.ntmps72
      go_wp2_with fail
      go_quiet (fail)
      go_wp2_with fail
      refine (rd_blank b s t 0 _ (HF.out _) hs).mono ?_
      rintro e w2 ⟨rfl, h2, t2⟩
      go_wp2_with fail
      go_ret
      exact ⟨touch2 (HT.out _) t2, .inl ⟨t, rfl, rfl, h2⟩⟩
    · have t2 : ((s[n].toNat : Int) != (c.toNat : Int)) = true := by
        rw [e2, bne_iff_ne]; intro e; exact hx (UInt8.toNat_inj.1 (by omega))
      clear hsuf h1 e2 e3
      go_enter Tryz.func72, Tryz.ntmps72
      go_wp2_with fail
      go_quiet (fail)
      go_wp2_with fail
      go_ret
      exact ⟨(Touch.refl _ _).drewN _, .inr ⟨by simpa using hx, rfl, HH.out.drewN _⟩⟩
/-- what is wrong with what is left -/
def wrongE (r : List UInt8) : Nat := if r = [] then 3 else 4
def WrongPost (b : Nat) (s : ByteArray) (r : List UInt8) (w : World) (e : Ending) (w' : World) : Prop := e = .returned .nilIface ∧ RL b s r (wrongE r) w' ∧ Touch (fun g => g = b) w w'
theorem rd_wrong (b : Nat) (s : ByteArray) (r : List UInt8) (w : World) (h : RL b s r 0 w) (hs : s.size ≤ 1000000) :
    Calls Tryz.prog 47 #[.pointer (some ⟨b, 0, none⟩)] w (WrongPost b s r w) := by
  obtain ⟨h1, hsuf⟩ := h
  obtain ⟨c0, c1, c2, f1, f2⟩ := h1.cells
  cases r with
  | nil =>
    have t1 : ((s.size : Int) == (s.size : Int)) = true := by rw [beq_iff_eq]
    have c1' : w.cell? ⟨b, 1, none⟩ = some (.int .i64 (s.size : Int)) := c1
    have HF := Lib.hid (fun m => rd_fail b s.size s.size 3 s (w.drewN m) (h1.drewN m))
    have HS := Lib.hid hsuf
    clear c1 hsuf h1
    go_enter Tryz.func47, Tryz.ntmps47
    go_wp2_with fail
    go_quiet (fail)
    go_wp2_with fail
    refine (HF.out _).mono ?_
    rintro e w2 ⟨rfl, h2, t2⟩
    go_wp2_with fail
    go_ret
    exact ⟨rfl, ⟨h2, HS.out⟩, touch2 ((Touch.refl _ _).drewN _) t2⟩
  | cons x t =>
    obtain ⟨n, hn, e1, e2, e3⟩ := suf_head hsuf
    rw [e1] at c1 h1
    have t1 : ((n : Int) == (s.size : Int)) = false := by rw [beq_eq_false_iff_ne]; omega
    have HF := Lib.hid (fun m => rd_fail b n n 4 s (w.drewN m) (h1.drewN m))
    have HS := Lib.hid (And.intro hsuf e1)
    clear hsuf h1 e1 e2 e3
    go_enter Tryz.func47, Tryz.ntmps47
    go_wp2_with fail
    go_quiet (fail)
    go_wp2_with fail
    refine (HF.out _).mono ?_
    rintro e w2 ⟨rfl, h2, t2⟩
    go_wp2_with fail
    go_ret
    exact ⟨rfl, ⟨by rw [HS.out.2]; exact h2, HS.out.1⟩, touch2 ((Touch.refl _ _).drewN _) t2⟩
/-- a value taken, or none; what is left, and the fault -/
def VPost (b : Nat) (s : ByteArray) (p : Res) (w : World) (e : Ending) (w' : World) : Prop :=
  ∃ x, e = .returned x ∧ x.oneCell' = true ∧ RL b s p.2.1 p.2.2 w' ∧ Touch (fun g => g = b) w w' ∧ (p.2.2 = 0 → AV (fun i => w.heap.size ≤ i ∧ i < w'.heap.size) w' p.1 x)
theorem ext_rest {s : ByteArray} {r : List UInt8} (h : r <:+ s.data.toList) : (s.extract (s.size - r.length) s.size).data.toList = r := by
  rw [extract_bs, bs_data, ← size_len, List.take_length, size_len, (suf_nil h).2]
theorem c_prefix (s p : ByteArray) (w : World) : Calls Tryz.prog 33 #[.string s, .string p] w fun e w' => e = .returned (.bool (p.data.toList.isPrefixOf s.data.toList)) ∧ w' = w := Tryz.strings_HasPrefix s p w
set_option maxRecDepth 100000 in
theorem rd_word (b : Nat) (s : ByteArray) (r : List UInt8) (W : ByteArray) (v : JV) (x : Value) (w : World) (h : RL b s r 0 w) (hs : s.size ≤ 1000000) (hW : W.size ≤ 100) (hx : ∀ S w, AV S w v x) :
    Calls Tryz.prog 48 #[.pointer (some ⟨b, 0, none⟩), .string W, x] w (VPost b s (wordV r W.data.toList v) w) := by
  obtain ⟨h1, hsuf⟩ := h
  obtain ⟨c0, c1, c2, f1, f2⟩ := h1.cells
  obtain ⟨n, hn⟩ : ∃ n, s.size - r.length = n := ⟨_, rfl⟩
  have hle := suf_le hsuf
  rw [hn] at c1 h1
  have hext := ext_rest hsuf
  rw [hn] at hext
  have HP1 := Lib.hid (fun w => c_prefix (s.extract n s.size) W w)
  have HP2 := Lib.hid (fun w => c_prefix W (s.extract n s.size) w)
  rw [hext] at HP1 HP2
  obtain ⟨A, hA⟩ : ∃ A, wordV r W.data.toList v = A := ⟨_, rfl⟩
  rw [hA]
  unfold wordV at hA
  have hn1 : n ≤ s.size := by omega
  have hnr : n + r.length = s.size := by omega
  have g1 : decide ((0 : Int) ≤ (n : Int)) = true := decide_eq_true (by omega)
  have g2 : decide ((n : Int) ≤ (s.size : Int)) = true := decide_eq_true (by omega)
  have HSF := Lib.hid hsuf
  have HH1 := Lib.hid h1
  have HN := Lib.hid hn
  have HX := Lib.hid hx
  generalize hE : s.extract n s.size = E at HP1 HP2
  have HE := Lib.hid hE
  clear hext hE hsuf h1 hn hx
  cases hp1 : W.data.toList.isPrefixOf r with
  | true =>
    rw [hp1, if_pos rfl] at hA
    rw [hp1] at HP1
    have hpl := (List.isPrefixOf_iff_prefix.1 hp1).length_le
    rw [size_len] at hpl
    have tw : IntKind.i64.wrap ((n : Int) + (W.size : Int)) = (n : Int) + (W.size : Int) := by rw [IntKind.wrap_i64]; omega
    have HF : Hid (∀ w', RD b s n 0 w' → RL b s A.2.1 A.2.2 (w'.setCell ⟨b, 1, none⟩ (.int .i64 ((n : Int) + (W.size : Int))))) := Lib.hid (fun w' h' => by
      rw [← hA]
      refine ⟨?_, (List.drop_suffix _ _).trans HSF.out⟩
      have := h'.setAt (n + W.size)
      rw [show s.size - (r.drop W.data.toList.length).length = n + W.size by rw [List.length_drop, size_len]; omega]
      rw [Int.natCast_add] at this
      exact this)
    have HV : Hid (∀ S w, AV S w A.1 x) := Lib.hid (by rw [← hA]; exact HX.out)
    clear hA hp1 hpl hnr hle
    go_enter Tryz.func48, Tryz.ntmps48
    go_wp2_with fail
    go_quiet (fail)
    rw [HE.out]
    go_wp2_with fail
    refine (HP1.out _).mono ?_
    rintro e w2 ⟨rfl, rfl⟩
    go_wp2_with fail
    go_ret
    exact ⟨x, rfl, AV.one (HV.out (fun _ => True) w), HF.out _ (HH1.out.drewN _), touch2 ((Touch.refl _ _).drewN _) (touch_rd 1 _), fun _ => HV.out _ _⟩
  | false =>
    rw [hp1, if_neg (by decide)] at hA
    rw [hp1] at HP1
    cases hp2 : r.isPrefixOf W.data.toList with
    | true =>
      rw [hp2, if_pos rfl] at hA
      rw [hp2] at HP2
      have HF := Lib.hid (fun m => rd_fail b n s.size 3 s (w.drewN m) (HH1.out.drewN m))
      have HA := Lib.hid hA
      clear hA hp1 hp2 hnr hle
      go_enter Tryz.func48, Tryz.ntmps48
      go_wp2_with fail
      go_quiet (fail)
      rw [HE.out]
      go_wp2_with fail
      refine (HP1.out _).mono ?_
      rintro e w2 ⟨rfl, rfl⟩
      go_wp2_with fail
      refine (HP2.out _).mono ?_
      rintro e w2 ⟨rfl, rfl⟩
      go_wp2_with fail
      refine (HF.out _).mono ?_
      rintro e w2 ⟨rfl, h2, t2⟩
      go_wp2_with fail
      go_ret
      exact ⟨.nilIface, rfl, rfl, by rw [← HA.out]; exact ⟨h2, List.nil_suffix⟩, touch2 ((Touch.refl _ _).drewN _) t2, by rw [← HA.out]; exact fun h => absurd h (by decide)⟩
    | false =>
      rw [hp2, if_neg (by decide)] at hA
      rw [hp2] at HP2
      have HF := Lib.hid (fun m => rd_fail b n n 4 s (w.drewN m) (HH1.out.drewN m))
      have HA := Lib.hid hA
      clear hA hp1 hp2 hnr hle
      go_enter Tryz.func48, Tryz.ntmps48
      go_wp2_with fail
      go_quiet (fail)
      rw [HE.out]
      go_wp2_with fail
      refine (HP1.out _).mono ?_
      rintro e w2 ⟨rfl, rfl⟩
      go_wp2_with fail
      refine (HP2.out _).mono ?_
      rintro e w2 ⟨rfl, rfl⟩
      go_wp2_with fail
      refine (HF.out _).mono ?_
      rintro e w2 ⟨rfl, h2, t2⟩
      go_wp2_with fail
      go_ret
      exact ⟨.nilIface, rfl, rfl, by rw [← HA.out]; exact ⟨by rw [HN.out]; exact h2, HSF.out⟩, touch2 ((Touch.refl _ _).drewN _) t2, by rw [← HA.out]; exact fun h => absurd h (by show ¬ (4 = 0); decide)⟩
/-- a text taken, or none -/
def TextPost (b : Nat) (s : ByteArray) (r : List UInt8) (w : World) (e : Ending) (w' : World) : Prop :=
  ∃ t, e = .returned (.string t) ∧ RL b s (txtV r).2.1 (txtV r).2.2 w' ∧ Touch (fun g => g = b) w w' ∧ ((txtV r).2.2 = 0 → t = bs (txtV r).1)
set_option maxRecDepth 100000 in
theorem rd_text (b : Nat) (s : ByteArray) (r : List UInt8) (w : World) (h : RL b s r 0 w) (hs : s.size ≤ 1000000) (hU : U8 w) :
    Calls Tryz.prog 49 #[.pointer (some ⟨b, 0, none⟩)] w (TextPost b s r w) := by
  obtain ⟨h1, hsuf⟩ := h
  have hlt := h1.lt
  obtain ⟨c0, c1, c2, f1, f2⟩ := h1.cells
  obtain ⟨n, hn⟩ : ∃ n, s.size - r.length = n := ⟨_, rfl⟩
  have hle := suf_le hsuf
  rw [hn] at c1 h1
  have hdr := (suf_nil hsuf).2
  rw [hn] at hdr
  have hta := txt_at s.data.toList n (by rw [size_len]; omega)
  rw [hdr, size_len] at hta
  have hsx := (txtV_suf r).trans hsuf
  obtain ⟨A, hA⟩ : ∃ A, txtV r = A := ⟨_, rfl⟩
  unfold TextPost
  rw [hA] at hta hsx ⊢
  obtain ⟨T, hT⟩ : ∃ T, takeP s.data.toList (n : Int) = T := ⟨_, rfl⟩
  rw [hT] at hta
  obtain ⟨T1, T2, T3⟩ := T
  obtain ⟨A1, A2, A3⟩ := A
  obtain ⟨q1, q2, q3⟩ := hta
  simp only [] at q1 q2 q3 hsx ⊢
  subst q1 q2
  have HT := Lib.hid (fun w (hU : U8 w) => (by have h := take s n w (by omega) hU; rw [hT] at h; exact h : Calls Tryz.prog 68 #[.string s, .int .i64 (n : Int)] w fun e w' => e = .returned (.tuple #[.string (bs T1), .int .i64 ((s.size - A2.length : Nat) : Int), .int .i64 (T3 : Nat)]) ∧ Below w.heap.size w w'))
  obtain ⟨M, hM⟩ : ∃ M, s.size - A2.length = M := ⟨_, rfl⟩
  rw [hM] at HT
  have HSX := Lib.hid hsx
  have HQ := Lib.hid q3
  have HM := Lib.hid hM
  have HU := Lib.hid hU
  have HR := Lib.hid h1
  have k0 : ∀ p : BelowOf w, p.world.cell? ⟨b, 0, none⟩ = some (.string s) := fun p => cell_of p hlt c0
  have k1 : ∀ p : BelowOf w, p.world.cell? ⟨b, 1, none⟩ = some (.int .i64 (n : Int)) := fun p => cell_of p hlt c1
  have HTB := Lib.hid (fun W (hw : Below w.heap.size w W) => And.intro (HR.out.below hw) (Touch.of_below (S := fun g => g = b) hw))
  clear hA hT hsx q3 hM hU hdr hsuf hn hle h1 c0 c1 c2 f1 f2
  by_cases he : T3 = 0
  · subst he
    go_enter Tryz.func49, Tryz.ntmps49
    go_wp2_with fail
    refine wp_region_quiet_below (by kernel_rfl) (by kernel_rfl) ?_
    repeat (go_big_quiet_step ((go_at_call 68; exact below_of (HT.out _ (HU.out.below (BelowOf.below _))))))
    refine wpQuiet_nil ?_
    intro W1 hw'
    have hb1 := of_class hw'
    clear hw' k0 k1
    obtain ⟨r1, t1⟩ := HTB.out W1 hb1
    obtain ⟨c0, c1, c2, f1, f2⟩ := r1.cells
    have HR1 := Lib.hid (And.intro r1 t1)
    clear hb1 r1 t1
    go_wp2_with fail
    go_ret
    exact ⟨_, rfl, ⟨by rw [HM.out]; exact HR1.out.1.setAt M, HSX.out⟩, touch2 HR1.out.2 (touch_rd 1 _), fun h => by rw [HQ.out h]⟩
  · have t3 : ((T3 : Int) != 0) = true := by rw [bne_iff_ne]; omega
    go_enter Tryz.func49, Tryz.ntmps49
    go_wp2_with fail
    refine wp_region_quiet_below (by kernel_rfl) (by kernel_rfl) ?_
    repeat (go_big_quiet_step ((go_at_call 68; exact below_of (HT.out _ (HU.out.below (BelowOf.below _))))))
    refine wpQuiet_nil ?_
    intro W1 hw'
    have hb1 := of_class hw'
    clear hw' k0 k1
    obtain ⟨r1, t1⟩ := HTB.out W1 hb1
    have HR1 := Lib.hid (And.intro r1 t1)
    clear hb1 r1 t1
    go_wp2_with fail
    refine (rd_fail b n M T3 s _ HR1.out.1).mono ?_
    rintro e w2 ⟨rfl, h2, t2⟩
    go_wp2_with fail
    go_ret
    exact ⟨_, rfl, ⟨by rw [HM.out]; exact h2, HSX.out⟩, touch2 HR1.out.2 t2, fun h => absurd h he⟩
end Go.Proofs.YtcmkepkeeahioaaGreatDoor
