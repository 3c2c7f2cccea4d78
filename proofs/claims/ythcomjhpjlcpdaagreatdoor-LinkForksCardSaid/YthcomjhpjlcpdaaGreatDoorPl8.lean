/- Plain words on replies: what one is printed as, and what is taken of bytes (no program in sight). DERIVED: THE SHELF's CONTRACTS AT THIS DUMP, IN PLAIN WORDS (tools/lay-plain.mjs out of 'YthcomjhpjlcpdaaGreatDoorSlLaysG.lean', which tools/lay-shelf.mjs wrote): THE SAME DECLARATIONS UNDER THE SAME NAMES: 'import', 'namespace', 'open', 'def', 'theorem' AND NOTHING ELSE: no command of the shelf's: FOR A HAND-IN. Each laying: the table of numbers ('.._ren') and one theorem, a field a fact of the dump's own or the kernel's comparison; each contract: ONE APPLICATION. slices.Equal and slices.Clone at the fields of a reply. copy of elements of more cells than one. The field that tells a body's length: reply.named; slices.IndexFunc and slices.DeleteFunc by it. What head of package reply returns. Whether two replies are the same: the program's and the document's. What Parse of package reply returns. slices.Insert of one field ahead of all the others. slices.Insert of one field ahead of all the others: no room, no element; all roads told as one. What Print of package fields returns. -/
import Derived.Test.YthcomjhpjlcpdaaGreatDoorPl7
import Derived.Shelf.SlicesQ.Equal
import Derived.Shelf.SlicesE.Clone
import Derived.Shelf.SlicesQ.IndexFunc
import Derived.Ground.SlgqProg
import Derived.Ground.SlgnProg
import Derived.Ground.SlgfProg
import Derived.Test.YthcomjhpjlcpdaaGreatDoorProg
import Derived.Laws.StructEq
import Derived.Laws.IdiomCopy
import Derived.Laws.CopyOwn
import Derived.Shelf.Spec.SlicesInsert
import Derived.RowKit
import Derived.Test.YthcomjhpjlcpdaaGreatDoorChecked
import Derived.WalkKit
import Derived.Lib.Walk
import Derived.Lib.Hide
import Derived.Lib.Overlaps
import Derived.Lib.AppendZerosOnto
import Derived.Laws.NewBlocks
import Derived.Deep.AppendLies
import Derived.Shelf.RegionOpenPlain
set_option linter.unusedVariables false
set_option linter.unusedSimpArgs false
namespace Go.Proofs.YthcomjhpjlcpdaaGreatDoor
open Go.RowKit

def clen : List UInt8 := [99, 111, 110, 116, 101, 110, 116, 45, 108, 101, 110, 103, 116, 104]
def ownE : List (List UInt8 × List UInt8) → Nat
  | [] => 0
  | f :: t => if f.1 = clen then 22 else if fieldE f.1 f.2 ≠ 0 then fieldE f.1 f.2 else ownE t
/-- what is wrong with a reply that is to be printed -/
def repE (c : Int) (fs : List (List UInt8 × List UInt8)) : Nat := if printErr c ≠ 0 then printErr c else if 15 < fs.length then 21 else ownE fs
def repLines (c : Int) (fs : List (List UInt8 × List UInt8)) (n : Nat) : List (List UInt8) := (printOf c).data.toList :: printL clen (digL n) :: fs.map (fun f => printL f.1 f.2)
def repL (c : Int) (fs : List (List UInt8 × List UInt8)) (b : List UInt8) : List UInt8 := body (repLines c fs b.length) ++ 13 :: 10 :: b
def repS (c : Int) (fs : List (List UInt8 × List UInt8)) (b : List UInt8) : List UInt8 := if repE c fs = 0 then repL c fs b else []
theorem ownE_at (xs : List (List UInt8 × List UInt8)) : ∀ k, (∀ j (hj : j < xs.length), j < k → xs[j].1 ≠ clen ∧ fieldE xs[j].1 xs[j].2 = 0) → ownE xs = ownE (xs.drop k) := by
  induction xs with
  | nil => intro k _; simp
  | cons x t ih =>
    intro k h
    cases k with
    | zero => rfl
    | succ k =>
      have h0 : x.1 ≠ clen ∧ fieldE x.1 x.2 = 0 := h 0 (by simp) (by omega)
      show (if x.1 = clen then 22 else if fieldE x.1 x.2 ≠ 0 then fieldE x.1 x.2 else ownE t) = ownE (t.drop k)
      rw [if_neg h0.1, if_neg (fun hh => hh h0.2)]
      exact ih k (fun j hj hk => h (j + 1) (by simp; omega) (by omega))
theorem ownE_zero (fs : List (List UInt8 × List UInt8)) (h : ownE fs = 0) : ∀ f ∈ fs, f.1 ≠ clen ∧ fieldE f.1 f.2 = 0 := by
  induction fs with
  | nil => intro f hf; simp at hf
  | cons x t ih =>
    unfold ownE at h
    split at h
    · exact absurd h (by decide)
    · rename_i h1
      split at h
      · rename_i h2; exact absurd h h2
      · rename_i h2
        intro f hf
        rcases List.mem_cons.1 hf with rfl | hf
        · exact ⟨h1, Decidable.not_not.1 h2⟩
        · exact ih h f hf
theorem ownE_five (fs : List (List UInt8 × List UInt8)) (h : ∀ f ∈ fs, f.1 ≠ clen ∧ printOk f.1 f.2 = true) : ownE fs = 0 ∨ ownE fs = 5 := by
  induction fs with
  | nil => exact .inl rfl
  | cons x t ih =>
    unfold ownE
    obtain ⟨h1, h2⟩ := h x (List.mem_cons_self ..)
    rw [if_neg h1]
    have h3 : fieldE x.1 x.2 = 0 ∨ fieldE x.1 x.2 = 5 := by
      unfold fieldE; rw [if_pos h2]; split
      · exact .inr rfl
      · exact .inl rfl
    rcases h3 with h3 | h3
    · rw [h3, if_neg (by decide)]; exact ih (fun f hf => h f (List.mem_cons_of_mem _ hf))
    · rw [h3, if_pos (by decide)]; exact .inr rfl
theorem repE_zero (c : Int) (fs : List (List UInt8 × List UInt8)) (h : repE c fs = 0) : 100 ≤ c ∧ c ≤ 599 ∧ fs.length ≤ 15 ∧ ∀ f ∈ fs, f.1 ≠ clen ∧ fieldE f.1 f.2 = 0 := by
  unfold repE at h
  split at h
  · rename_i hx; exact absurd h hx
  · rename_i hx
    split at h
    · exact absurd h (by decide)
    · have hc : classOf c ≠ 0 := fun e => hx (by unfold printErr; rw [if_pos e]; decide)
      rw [Ne, class_iff] at hc
      exact ⟨by omega, by omega, by omega, ownE_zero fs h⟩
theorem clen_named : nameL clen = true := by decide
theorem dig_gapless (n : Nat) : noGap (Go.Lib.decDigits n) = true := by
  have e1 : headGap (Go.Lib.decDigits n) = false := by
    cases e : Go.Lib.decDigits n with
    | nil => rfl
    | cons c t => exact (dig_no n c (by rw [e]; exact List.mem_cons_self ..)).1
  unfold noGap
  rw [e1]
  have := dig_last n []
  rw [List.nil_append] at this
  rw [this]; rfl
theorem digL_nat (n : Nat) : digL (n : Int) = Go.Lib.decDigits n := by unfold digL; rw [if_neg (by omega), Int.toNat_natCast]
theorem clen_ok (n : Nat) (hn : n ≤ 1000000) : fieldE clen (digL n) = 0 := by
  have hp : printOk clen (digL n) = true := by
    unfold printOk
    rw [clen_named, Bool.true_and, Bool.and_eq_true]
    refine ⟨List.all_eq_true.2 fun c hc => digL_plain n c hc, ?_⟩
    rw [digL_nat]; exact dig_gapless n
  unfold fieldE
  rw [if_pos hp, if_neg]
  have := decDigits_len n (by omega)
  unfold printL tailV
  rw [digL_nat]
  split
  · simp [titL_len, clen]
  · simp only [List.length_append, List.length_cons, titL_len]
    rw [show clen.length = 14 from rfl]; omega
theorem printL_ne (n v : List UInt8) : printL n v ≠ [] := by unfold printL; simp
theorem good_print (n v : List UInt8) (h : fieldE n v = 0) : goodLine (printL n v) := by
  have := putErr_good _ (print_put n v h)
  exact ⟨printL_ne n v, this.1, this.2⟩
theorem printOf_line (c : Int) (h1 : 100 ≤ c) (h2 : c ≤ 599) : printOf c = statusLine c := by
  unfold printOf; rw [if_neg (by rw [class_iff]; omega)]
theorem good_status (c : Int) (h1 : 100 ≤ c) (h2 : c ≤ 599) : goodLine (printOf c).data.toList ∧ statusOf (printOf c).data.toList = (c, 0) := by
  obtain ⟨n, rfl⟩ : ∃ n : Nat, c = n := ⟨c.toNat, by omega⟩
  rw [printOf_line _ h1 h2]
  have := putErr_good _ (status_print_put n (by omega) (by omega))
  refine ⟨⟨?_, this.1, this.2⟩, status_print_parse n (by omega) (by omega)⟩
  rw [statusLine_data n (by omega) (by omega)]; simp [versionL]
theorem good_lines (c : Int) (fs : List (List UInt8 × List UInt8)) (n : Nat) (h : repE c fs = 0) (hn : n ≤ 1000000) : (∀ x ∈ repLines c fs n, goodLine x) ∧ (repLines c fs n).length ≤ 17 := by
  obtain ⟨h1, h2, h3, h4⟩ := repE_zero c fs h
  refine ⟨?_, by unfold repLines; simp; omega⟩
  intro x hx
  unfold repLines at hx
  rcases List.mem_cons.1 hx with rfl | hx
  · exact (good_status c h1 h2).1
  rcases List.mem_cons.1 hx with rfl | hx
  · exact good_print _ _ (clen_ok n hn)
  · obtain ⟨f, hf, rfl⟩ := List.mem_map.1 hx
    exact good_print _ _ (h4 f hf).2
theorem fldE_cons (x : List UInt8) (t : List (List UInt8)) (h : parseE x = 0) : fldE (x :: t) = fldE t := if_neg (fun hh => hh h)
theorem fld_print (fs : List (List UInt8 × List UInt8)) (h : ∀ f ∈ fs, fieldE f.1 f.2 = 0) : fldE (fs.map (fun f => printL f.1 f.2)) = 0 ∧ fldL (fs.map (fun f => printL f.1 f.2)) = fs := by
  induction fs with
  | nil => exact ⟨rfl, rfl⟩
  | cons f t ih =>
    obtain ⟨x1, x2, x3⟩ := print_parse f.1 f.2 (fieldE_zero _ _ (h f (List.mem_cons_self ..))).1
    obtain ⟨i1, i2⟩ := ih (fun g hg => h g (List.mem_cons_of_mem _ hg))
    refine ⟨by rw [List.map_cons, fldE_cons _ _ x3, i1], ?_⟩
    unfold fldL at i2 ⊢
    rw [List.map_cons, List.map_cons, i2, x1, x2]
/-- what is wrong with a head's lines; its code, its body's length, its other fields -/
def hdE (ls : List (List UInt8)) : Nat := if ls = [] then 4 else if (statusOf (ls.getD 0 [])).2 ≠ 0 then (statusOf (ls.getD 0 [])).2 else if fldE ls.tail ≠ 0 then fldE ls.tail else if getE (fldL ls.tail) clen ≠ 0 then getE (fldL ls.tail) clen else numE (getS (fldL ls.tail) clen)
def hdC (ls : List (List UInt8)) : Int := (statusOf (ls.getD 0 [])).1
def hdN (ls : List (List UInt8)) : Nat := numV (getS (fldL ls.tail) clen)
def restF (fs : List (List UInt8 × List UInt8)) : List (List UInt8 × List UInt8) := fs.filter (fun f => f.1 != clen)
def takE (s : ByteArray) (most : Int) : Nat := if (headOf s).2.2 ≠ 0 then (headOf s).2.2 else if hdE (headOf s).1 ≠ 0 then hdE (headOf s).1 else if most < (hdN (headOf s).1 : Int) then 5 else if (s.size : Int) - (headOf s).2.1 < (hdN (headOf s).1 : Int) then 3 else 0
def takC (s : ByteArray) (most : Int) : Int := if takE s most = 0 then hdC (headOf s).1 else 0
def takF (s : ByteArray) (most : Int) : List (List UInt8 × List UInt8) := if takE s most = 0 then restF (fldL (headOf s).1.tail) else []
def takB (s : ByteArray) (most : Int) : List UInt8 := if takE s most = 0 then (s.data.toList.take ((headOf s).2.1.toNat + hdN (headOf s).1)).drop (headOf s).2.1.toNat else []
def takN (s : ByteArray) (most : Int) : Int := if takE s most = 0 then (headOf s).2.1 + (hdN (headOf s).1 : Int) else 0
theorem tak_bad (s : ByteArray) (most : Int) (h : takE s most ≠ 0) : takC s most = 0 ∧ takF s most = [] ∧ takB s most = [] ∧ takN s most = 0 := by
  unfold takC takF takB takN
  rw [if_neg h, if_neg h, if_neg h, if_neg h]
  exact ⟨rfl, rfl, rfl, rfl⟩
theorem rest_none (fs : List (List UInt8 × List UInt8)) (h : ∀ f ∈ fs, f.1 ≠ clen) : restF fs = fs ∧ hits fs clen = [] := by
  refine ⟨List.filter_eq_self.2 (fun f hf => bne_iff_ne.2 (h f hf)), ?_⟩
  unfold hits
  rw [List.filter_eq_nil_iff.2 (fun f hf => by simpa using h f hf)]; rfl
theorem hd_rep (c : Int) (fs : List (List UInt8 × List UInt8)) (n : Nat) (h : repE c fs = 0) (hn : n ≤ 1000000) :
    hdE (repLines c fs n) = 0 ∧ hdC (repLines c fs n) = c ∧ hdN (repLines c fs n) = n ∧ restF (fldL (repLines c fs n).tail) = fs := by
  obtain ⟨h1, h2, h3, h4⟩ := repE_zero c fs h
  have hs := (good_status c h1 h2).2
  obtain ⟨i1, i2⟩ := fld_print fs (fun f hf => (h4 f hf).2)
  obtain ⟨x1, x2, x3⟩ := print_parse clen (digL n) (fieldE_zero _ _ (clen_ok n hn)).1
  obtain ⟨r1, r2⟩ := rest_none fs (fun f hf => (h4 f hf).1)
  have hg : (repLines c fs n).getD 0 [] = (printOf c).data.toList := rfl
  have ht : (repLines c fs n).tail = printL clen (digL n) :: fs.map (fun f => printL f.1 f.2) := rfl
  have hF : fldL (repLines c fs n).tail = (clen, digL n) :: fs := by
    rw [ht]
    unfold fldL at i2 ⊢
    rw [List.map_cons, i2, x1, x2]
  have hE : fldE (repLines c fs n).tail = 0 := by rw [ht, fldE_cons _ _ x3, i1]
  have hh : hits ((clen, digL n) :: fs) clen = [digL n] := by
    unfold hits at r2 ⊢
    rw [List.filter_cons_of_pos (by simp), List.map_cons, r2]
  obtain ⟨n1, n2⟩ := numE_dec n (by omega)
  refine ⟨?_, ?_, ?_, ?_⟩
  · unfold hdE
    rw [if_neg (by unfold repLines; simp), hg, hs, if_neg (by simp), hE, if_neg (by simp), hF]
    unfold getE getS
    rw [hh]
    show (if (0 : Nat) ≠ 0 then 0 else numE (digL n)) = 0
    rw [if_neg (by simp), digL_nat, n1]
  · unfold hdC; rw [hg, hs]
  · unfold hdN; rw [hF]; unfold getS; rw [hh]
    show numV (digL n) = n
    rw [digL_nat, n2]
  · rw [hF]
    unfold restF at r1 ⊢
    rw [List.filter_cons_of_neg (by simp), r1]
theorem head_rep (c : Int) (fs : List (List UInt8 × List UInt8)) (b rest : List UInt8) (s : ByteArray) (h : repE c fs = 0) (hn : b.length ≤ 1000000) (hs : s.data.toList = body (repLines c fs b.length) ++ 13 :: 10 :: rest) :
    headOf s = (repLines c fs b.length, ((body (repLines c fs b.length)).length : Int) + 2, 0) := by
  obtain ⟨g1, g2⟩ := good_lines c fs b.length h hn
  have := head_ok s rest (repLines c fs b.length) [] [] 18 g1 (by simpa using g2) (by simp) (by simpa using hs)
  unfold headOf
  rw [show (0 : Int) = ((([] : List UInt8).length : Nat) : Int) from rfl, this]
  simp
/-- what is taken of a printed reply with anything behind it -/
theorem rep_take (c : Int) (fs : List (List UInt8 × List UInt8)) (b rest : List UInt8) (s : ByteArray) (most : Int) (h : repE c fs = 0) (hn : b.length ≤ 1000000) (hs : s.data.toList = repL c fs b ++ rest) (hm : (b.length : Int) ≤ most) :
    takE s most = 0 ∧ takC s most = c ∧ takF s most = fs ∧ takB s most = b ∧ takN s most = (repL c fs b).length := by
  have hd := head_rep c fs b (b ++ rest) s h hn (by rw [hs]; unfold repL; simp)
  obtain ⟨e1, e2, e3, e4⟩ := hd_rep c fs b.length h hn
  have hsz : s.size = (body (repLines c fs b.length)).length + 2 + b.length + rest.length := by
    rw [← size_len, hs]; unfold repL; simp only [List.length_append, List.length_cons]; omega
  have hE : takE s most = 0 := by
    unfold takE
    rw [hd]
    simp only [e1, e3]
    rw [if_neg (by simp), if_neg (by simp), if_neg (by omega), if_neg (by omega)]
  refine ⟨hE, ?_, ?_, ?_, ?_⟩
  · unfold takC; rw [if_pos hE, hd]; exact e2
  · unfold takF; rw [if_pos hE, hd]; exact e4
  · unfold takB; rw [if_pos hE, hd]
    simp only [e3]
    have ht : (((body (repLines c fs b.length)).length : Int) + 2).toNat = (body (repLines c fs b.length) ++ [13, 10]).length := by simp; omega
    rw [ht, hs]
    unfold repL
    have e5 : body (repLines c fs b.length) ++ 13 :: 10 :: b ++ rest = (body (repLines c fs b.length) ++ [13, 10]) ++ (b ++ rest) := by simp
    rw [e5, List.take_length_add_append, List.drop_left, List.take_left]
  · unfold takN; rw [if_pos hE, hd]
    simp only [e3]
    unfold repL
    simp only [List.length_append, List.length_cons]; omega
theorem rep_long (c : Int) (fs : List (List UInt8 × List UInt8)) (b rest : List UInt8) (s : ByteArray) (most : Int) (h : repE c fs = 0) (hn : b.length ≤ 1000000) (hs : s.data.toList = repL c fs b ++ rest) (hm : most < (b.length : Int)) : takE s most = 5 := by
  have hd := head_rep c fs b (b ++ rest) s h hn (by rw [hs]; unfold repL; simp)
  obtain ⟨e1, e2, e3, e4⟩ := hd_rep c fs b.length h hn
  unfold takE
  rw [hd]
  simp only [e1, e3]
  rw [if_neg (by simp), if_neg (by simp), if_pos hm]
theorem rep_cut (c : Int) (fs : List (List UInt8 × List UInt8)) (b : List UInt8) (s : ByteArray) (k : Nat) (h : repE c fs = 0) (hn : b.length ≤ 1000000) (hk : k < (repL c fs b).length) (hs : s.data.toList = (repL c fs b).take k) : takE s (b.length : Int) = 3 := by
  obtain ⟨g1, g2⟩ := good_lines c fs b.length h hn
  by_cases hb : k < (body (repLines c fs b.length)).length + 2
  · have hs2 : s.data.toList = (body (repLines c fs b.length) ++ [13, 10]).take k := by
      rw [hs]; unfold repL
      have e5 : body (repLines c fs b.length) ++ 13 :: 10 :: b = (body (repLines c fs b.length) ++ [13, 10]) ++ b := by simp
      rw [e5, List.take_append_of_le_length (by simp; omega)]
    have := head_cut s (repLines c fs b.length) [] [] 18 k g1 (by simpa using g2) (by simp) hb (by rw [hs2]; simp)
    have hd : headOf s = ([], 0, 3) := by
      unfold headOf
      rw [show (0 : Int) = ((([] : List UInt8).length : Nat) : Int) from rfl, this]
      rfl
    unfold takE
    rw [hd]
    rfl
  · have hl : (repL c fs b).length = (body (repLines c fs b.length)).length + 2 + b.length := by unfold repL; simp only [List.length_append, List.length_cons]; omega
    have hd := head_rep c fs b (b.take (k - ((body (repLines c fs b.length)).length + 2))) s h hn (by
      rw [hs]; unfold repL
      have e5 : ∀ x, body (repLines c fs b.length) ++ 13 :: 10 :: x = (body (repLines c fs b.length) ++ [13, 10]) ++ x := fun x => by simp
      rw [e5, e5, List.take_append, List.take_of_length_le (by simp; omega)]
      simp)
    obtain ⟨e1, e2, e3, e4⟩ := hd_rep c fs b.length h hn
    have hsz : s.size = k := by rw [← size_len, hs, List.length_take]; omega
    unfold takE
    rw [hd]
    simp only [e1, e3]
    rw [if_neg (by simp), if_neg (by simp), if_neg (by omega), if_pos (by omega)]
theorem tak_zero (s : ByteArray) (most : Int) (h : takE s most = 0) : (headOf s).2.2 = 0 ∧ hdE (headOf s).1 = 0 ∧ (hdN (headOf s).1 : Int) ≤ most ∧ (hdN (headOf s).1 : Int) ≤ (s.size : Int) - (headOf s).2.1 := by
  unfold takE at h
  split at h
  · rename_i hx; exact absurd h hx
  rename_i h1
  split at h
  · rename_i hx; exact absurd h hx
  rename_i h2
  split at h
  · exact absurd h (by decide)
  split at h
  · exact absurd h (by decide)
  exact ⟨Decidable.not_not.1 h1, Decidable.not_not.1 h2, by omega, by omega⟩
theorem hdE_zero (ls : List (List UInt8)) (h : hdE ls = 0) : ls ≠ [] ∧ (statusOf (ls.getD 0 [])).2 = 0 ∧ fldE ls.tail = 0 ∧ getE (fldL ls.tail) clen = 0 ∧ numE (getS (fldL ls.tail) clen) = 0 := by
  unfold hdE at h
  split at h
  · exact absurd h (by decide)
  rename_i h1
  split at h
  · rename_i hx; exact absurd h hx
  rename_i h2
  split at h
  · rename_i hx; exact absurd h hx
  rename_i h3
  split at h
  · rename_i hx; exact absurd h hx
  rename_i h4
  exact ⟨h1, Decidable.not_not.1 h2, Decidable.not_not.1 h3, Decidable.not_not.1 h4, h⟩
theorem fldE_none (ls : List (List UInt8)) (h : fldE ls = 0) : ∀ x ∈ ls, parseE x = 0 := by
  induction ls with
  | nil => intro x hx; simp at hx
  | cons y t ih =>
    unfold fldE at h
    split at h
    · rename_i hx; exact absurd h hx
    · rename_i hx
      intro x hm
      rcases List.mem_cons.1 hm with rfl | hm
      · exact Decidable.not_not.1 hx
      · exact ih h x hm
theorem split_one (fs : List (List UInt8 × List UInt8)) (h : getE fs clen = 0) : ∃ a x b, fs = a ++ x :: b ∧ x.1 = clen ∧ (∀ y ∈ a, y.1 ≠ clen) ∧ (∀ y ∈ b, y.1 ≠ clen) ∧ restF fs = a ++ b := by
  have hl : (fs.filter (fun f => f.1 == clen)).length = 1 := by
    unfold getE hits at h
    cases e : (fs.filter (fun f => f.1 == clen)) with
    | nil => rw [e] at h; exact absurd h (by decide)
    | cons x t =>
      cases t with
      | nil => rfl
      | cons y u => rw [e] at h; exact absurd h (by simp)
  clear h
  induction fs with
  | nil => simp at hl
  | cons f t ih =>
    by_cases hf : f.1 = clen
    · rw [List.filter_cons_of_pos (by simp [hf]), List.length_cons] at hl
      have hn : t.filter (fun f => f.1 == clen) = [] := List.length_eq_zero_iff.1 (by omega)
      have ht : ∀ y ∈ t, y.1 ≠ clen := fun y hy e => by
        have := List.filter_eq_nil_iff.1 hn y hy
        simp [e] at this
      refine ⟨[], f, t, rfl, hf, fun y hy => by simp at hy, ht, ?_⟩
      unfold restF
      rw [List.filter_cons_of_neg (by simp [hf])]
      exact (rest_none t ht).1
    · rw [List.filter_cons_of_neg (by simp [hf])] at hl
      obtain ⟨a, x, b, e1, e2, e3, e4, e5⟩ := ih hl
      refine ⟨f :: a, x, b, by rw [e1]; rfl, e2, ?_, e4, ?_⟩
      · intro y hy
        rcases List.mem_cons.1 hy with rfl | hy
        · exact hf
        · exact e3 y hy
      · unfold restF at e5 ⊢
        rw [List.filter_cons_of_pos (by simp [hf]), e5]; rfl
theorem get_one (fs : List (List UInt8 × List UInt8)) (h : getE fs clen = 0) : (restF fs).length + 1 = fs.length := by
  obtain ⟨a, x, b, e1, -, -, -, e2⟩ := split_one fs h
  rw [e2, e1]; simp; omega
theorem code_status (l : List UInt8) (h : (statusOf l).2 = 0) : 100 ≤ (statusOf l).1 ∧ (statusOf l).1 ≤ 599 := by
  have hc : ∀ r, (codeOf r).2 = 0 → classOf (codeOf r).1 ≠ 0 := by
    intro r hr
    match r with
    | [] => exact absurd hr (by decide)
    | [_] => exact absurd hr (by show ¬ (4 = 0); decide)
    | [_, _] => exact absurd hr (by show ¬ (4 = 0); decide)
    | a :: b :: c :: t =>
      rw [codeOf_cons] at hr ⊢
      split at hr
      · exact absurd hr (by decide)
      · rename_i h1
        rw [if_neg h1]
        split at hr
        · exact absurd hr (by decide)
        · rename_i h2
          rw [if_neg h2]
          split at hr
          · exact absurd hr (by decide)
          · rename_i h3
            rw [if_neg h3]; exact h3
  have key : classOf (statusOf l).1 ≠ 0 := by
    unfold statusOf at h ⊢
    split at h
    · exact absurd h (by decide)
    · rename_i h1
      rw [if_neg h1]
      split at h
      · exact absurd h (by decide)
      · rename_i h2
        rw [if_neg h2]
        exact hc _ h
  rw [Ne, class_iff] at key
  omega
/-- what is taken may be printed, unless a field is too long -/
theorem rep_again (s : ByteArray) (most : Int) (h : takE s most = 0) :
    (repE (takC s most) (takF s most) = 0 ∨ repE (takC s most) (takF s most) = 5) ∧ 0 < takN s most ∧ takN s most ≤ (s.size : Int) ∧ ((takB s most).length : Int) ≤ most ∧ ((takB s most).length : Int) ≤ takN s most ∧ ((s.data.toList.take (takN s most).toNat).drop ((takN s most).toNat - (takB s most).length)) = takB s most := by
  obtain ⟨h1, h2, h3, h4⟩ := tak_zero s most h
  obtain ⟨k1, k2, k3, k4, k5⟩ := hdE_zero _ h2
  obtain ⟨n1, n2⟩ := headOf_bd s h1
  obtain ⟨b1, b2⟩ := headOf_bound s
  have hC : takC s most = hdC (headOf s).1 := if_pos h
  have hF : takF s most = restF (fldL (headOf s).1.tail) := if_pos h
  have hN : takN s most = (headOf s).2.1 + (hdN (headOf s).1 : Int) := if_pos h
  have hB : takB s most = (s.data.toList.take ((headOf s).2.1.toNat + hdN (headOf s).1)).drop (headOf s).2.1.toNat := if_pos h
  have hbl : (takB s most).length = hdN (headOf s).1 := by
    rw [hB, List.length_drop, List.length_take, size_len]; omega
  have hle : (fldL (headOf s).1.tail).length ≤ 16 := by unfold fldL; rw [List.length_map, List.length_tail]; omega
  have hone := get_one _ k4
  have hcode := code_status _ k2
  refine ⟨?_, by rw [hN]; omega, by rw [hN]; omega, by rw [hbl]; omega, by rw [hbl, hN]; omega, ?_⟩
  · rw [hC, hF]
    unfold repE
    have hp : printErr (hdC (headOf s).1) = 0 := by
      unfold printErr hdC
      rw [if_neg]
      rw [class_iff]; omega
    rw [hp, if_neg (by simp), if_neg (by omega)]
    refine ownE_five _ (fun f hf => ?_)
    unfold restF at hf
    obtain ⟨hm, hc⟩ := List.mem_filter.1 hf
    refine ⟨bne_iff_ne.1 hc, ?_⟩
    unfold fldL at hm
    obtain ⟨x, hx, rfl⟩ := List.mem_map.1 hm
    exact parse_print x (fldE_none _ k3 x hx)
  · rw [hbl, hN]
    have e1 : ((headOf s).2.1 + (hdN (headOf s).1 : Int)).toNat = (headOf s).2.1.toNat + hdN (headOf s).1 := by omega
    rw [e1, Nat.add_sub_cancel, hB]
end Go.Proofs.YthcomjhpjlcpdaaGreatDoor
namespace Go.Proofs
open Go.Shelf
def layCloneF_ren : Go.Shelf.Ren := ⟨fun | 41 => 50 | n => n, fun | 22 => 77 | 23 => 108 | 4 => 4 | n => n, fun | n => n⟩
theorem layCloneF : Go.Proofs.SlLaysE0.n41 Tryz.prog layCloneF_ren := {
  mixed := by kernel_rfl
  f41 := ⟨Tryz.f50.name, by decide, Tryz.func50.trans (congrArg some (by kernel_rfl))⟩
  t4 := Tryz.underlying4
  a4 := Tryz.isAgg4
  z4 := Tryz.sizeOf4
  v4 := Tryz.zeroValue4
  t22 := Tryz.underlying77
  a22 := Tryz.isAgg77
  z22 := Tryz.sizeOf77
  v22 := Tryz.zeroValue77 }
end Go.Proofs
namespace Go.Proofs.YthcomjhpjlcpdaaGreatDoor
open Go.RowKit Go.Shelf Go.Lib
theorem bs_same (x y : List UInt8) : (bs x).toList = (bs y).toList ↔ x = y := by
  rw [ByteArray.toList_eq, ByteArray.toList_eq, bs_data, bs_data]
/-- a field's two cells -/
def encF (x : List UInt8 × List UInt8) : List Value := [.string (bs x.1), .string (bs x.2)]
theorem eq_field_in (d : Nat) (x y : List UInt8 × List UInt8) (w : World) : (Op.equalIn (d + 2) 108 (.agg (encF x).toArray) (.agg (encF y).toArray)).run Tryz.prog w = .ok (decide (x = y)) w := by
  have u3 := Tryz.underlying9
  have hS : Tryz.prog.underlying 108 = some (.struct (Tryz.prog.fieldsOf 108)) := by kernel_rfl
  have hp : Tryz.prog.stoodInHeld 108 = false := by kernel_rfl
  simp only [encF]
  rw [run_equalIn_agg w (d + 1) 108 _ _ hS hp]
  simp only [Program.fieldsOf, Tryz.underlying108]
  go_simp
  obtain ⟨x1, x2⟩ := x
  obtain ⟨y1, y2⟩ := y
  by_cases h1 : x1 = y1 <;> by_cases h2 : x2 = y2 <;> simp [h1, h2, bs_same]
theorem neqF : NeqAt Tryz.prog 108 (fun x => .agg (encF x).toArray) (fun x y => decide (x = y)) := by
  refine ⟨fun x y w => ?_, GuardAt.agg _ (by kernel_rfl)⟩
  rw [run_neq_struct, show (10000 : Nat) = 9998 + 2 from rfl, eq_field_in]; rfl
theorem allEq_dec (xs ys : List (List UInt8 × List UInt8)) : Lib.allEq (fun x y => decide (x = y)) xs ys = decide (xs = ys) := by
  induction xs generalizing ys with
  | nil => cases ys <;> simp [Lib.allEq]
  | cons x t ih =>
    cases ys with
    | nil => simp [Lib.allEq]
    | cons y u =>
      rw [Lib.allEq, ih u]
      by_cases h1 : x = y <;> by_cases h2 : t = u <;> simp [h1, h2]
theorem fcell {w : World} {b o : Nat} {fs : List (List UInt8 × List UInt8)} (h : ∀ j (hj : j < fs.length), w.cell? ⟨b, o + j * 2, none⟩ = some (.string (bs fs[j].1)) ∧ w.cell? ⟨b, o + j * 2 + 1, none⟩ = some (.string (bs fs[j].2))) :
    ∀ j, j < fs.length → ∀ i v, (encF fs[j]!)[i]? = some v → w.cell? ⟨b, o + j * 2 + i, none⟩ = some v := by
  intro j hj i v hv
  rw [getElem!_pos fs j hj] at hv
  obtain ⟨h1, h2⟩ := h j hj
  match i, hv with
  | 0, hv => simp only [encF, List.getElem?_cons_zero, Option.some.injEq] at hv; subst hv; exact h1
  | 1, hv => simp only [encF, List.getElem?_cons_succ, List.getElem?_cons_zero, Option.some.injEq] at hv; subst hv; exact h2
theorem info_fieldS : (Tryz.prog.info? 108).map (fun i => (i.zero, i.size, i.bytes)) = some (some (.agg #[.string ByteArray.empty, .string ByteArray.empty]), 2, 32) := by kernel_rfl
theorem fcells_one (fs : List (List UInt8 × List UInt8)) : ∀ u ∈ fcells fs, u.oneCell' = true := by
  induction fs with
  | nil => intro u hu; cases hu
  | cons f t ih =>
    intro u hu
    rcases List.mem_cons.1 hu with rfl | hu
    · rfl
    rcases List.mem_cons.1 hu with rfl | hu
    · rfl
    · exact ih u hu
theorem fcells_at {w : World} {b o : Nat} {fs : List (List UInt8 × List UInt8)} (h : ∀ j (hj : j < fs.length), w.cell? ⟨b, o + j * 2, none⟩ = some (.string (bs fs[j].1)) ∧ w.cell? ⟨b, o + j * 2 + 1, none⟩ = some (.string (bs fs[j].2))) :
    ∀ j u, (fcells fs)[j]? = some u → w.cell? ⟨b, o + j, none⟩ = some u := by
  intro j u hu
  have hj : j < fs.length * 2 := by rw [← fcells_length]; exact (List.getElem?_eq_some_iff.1 hu).1
  have hk : j / 2 < fs.length := by omega
  obtain ⟨g1, g2⟩ := fcells_get fs (j / 2) hk
  obtain ⟨h1, h2⟩ := h (j / 2) hk
  rcases Nat.mod_two_eq_zero_or_one j with e | e
  · have e2 : j / 2 * 2 = j := by omega
    rw [e2] at g1 h1
    rw [g1] at hu
    rw [← Option.some.inj hu]
    exact h1
  · have e2 : j / 2 * 2 + 1 = j := by omega
    have e3 : o + j / 2 * 2 + 1 = o + j := by omega
    rw [e2] at g2
    rw [e3] at h2
    rw [g2] at hu
    rw [← Option.some.inj hu]
    exact h2
/-- slices.Clone of fields that are there: the same fields in memory of the call's own -/
theorem clone_fields (v : Value) (fs : List (List UInt8 × List UInt8)) (w : World) (h : HoldsF w v fs) (hne : fs ≠ []) (hl : fs.length ≤ 1000000) :
    Calls Tryz.prog 50 #[v] w fun e w' => ∃ v', e = .returned v' ∧ w'.ownsRow w.heap.size 108 2 v' fs.length (fcells fs) ∧ Below w.heap.size w w' := by
  obtain ⟨a, c, rfl, h1, h2⟩ := h
  obtain ⟨b, o, rfl, hlt, hc⟩ := h2 hne
  have hi := info_fieldS
  cases e : Tryz.prog.info? 108 with
  | none => rw [e] at hi; cases hi
  | some i =>
    rw [e] at hi
    simp only [Option.map_some, Option.some.injEq, Prod.mk.injEq] at hi
    obtain ⟨i1, i2, i3⟩ := hi
    refine (AnyE.slices_Clone layCloneF i _ 2 32 e i1 i2 i3 rfl (by decide) Tryz.sizeOf108 b o fs.length c (fcells fs) w (fcells_length fs) (by unfold maxLen; omega) (by omega) (fcells_at hc) (fcells_one fs)).mono ?_
    rintro e w' ⟨v', rfl, h3, -, h4⟩
    exact ⟨v', rfl, h3, h4⟩
/-- slices.Clone of no field -/
theorem clone_empty (a : Option Addr) (c : Nat) (w : World) (ha : ∀ p, a = some p → ∃ b o, p = ⟨b, o, none⟩) :
    Calls Tryz.prog 50 #[.slice a 0 c] w fun e w' => ∃ v', e = .returned v' ∧ w'.ownsRow w.heap.size 108 2 v' 0 [] ∧ Below w.heap.size w w' := by
  cases a with
  | none =>
    refine (AnyE.slices_Clone_nil layCloneF 0 c w).mono ?_
    rintro e w' ⟨rfl, rfl⟩
    exact ⟨_, rfl, ⟨rfl, .inl ⟨rfl, rfl⟩⟩, Below.refl _ _⟩
  | some p =>
    obtain ⟨b, o, rfl⟩ := ha p rfl
    have hi := info_fieldS
    cases e : Tryz.prog.info? 108 with
    | none => rw [e] at hi; cases hi
    | some i =>
      rw [e] at hi
      simp only [Option.map_some, Option.some.injEq, Prod.mk.injEq] at hi
      obtain ⟨i1, i2, i3⟩ := hi
      refine (AnyE.slices_Clone layCloneF i _ 2 32 e i1 i2 i3 rfl (by decide) Tryz.sizeOf108 b o 0 c [] w rfl (Nat.zero_le _) (by omega) (fun j u hu => by simp at hu) (fun u hu => by cases hu)).mono ?_
      rintro e w' ⟨v', rfl, h3, -, h4⟩
      exact ⟨v', rfl, h3, h4⟩
end Go.Proofs.YthcomjhpjlcpdaaGreatDoor
namespace Go.Proofs.YthcomjhpjlcpdaaGreatDoor
open Go.RowKit
variable {P : Program}
theorem run_copy_wide (w : World) (dT sT ty elem : TypeId) (k m b o dLen dCap : Nat) (a : Addr) (sLen sCap : Nat) (cs : List Value)
    (hu : P.underlying dT = some (.slice elem)) (hs : (P.info? elem).map (·.size) = some k) (hm : Nat.min sLen dLen = m) (hn : m * k = cs.length)
    (hsrc : ∀ j v, cs[j]? = some v → w.cell? (a.add j) = some v) (hc : ∀ j, j < cs.length → (w.cell? ⟨b, o + j, none⟩).isSome = true) (hf : ∀ j, j < cs.length → w.frozen? ⟨b, o + j, none⟩ = false) (h1 : ∀ v ∈ cs, v.oneCell' = true) :
    (Builtin.copy_ #[dT, sT] ty #[.slice (some ⟨b, o, none⟩) dLen dCap, .slice (some a) sLen sCap]).run P w = .ok (goInt m) (w.setCells b o cs) := by
  have hl := run_loadCells_list (P := P) w a cs hsrc
  have hst := run_storeCells_cells (P := P) b o cs 0 w (by simpa using hc) (by simpa using hf) h1
  cases hq : P.info? elem with
  | none => simp [hq] at hs
  | some i =>
    have hi : i.size = k := by simpa [hq] using hs
    simp [Builtin.copy_, run_underlying hu, Builtin.lenOf, Builtin.firstCells, sizeOf, typeInfo, hq, hi, hm, hn, hl, hst]
theorem run_copy_row_wide (w : World) (dT sT ty elem : TypeId) (k m g o dLen dCap : Nat) (a : Addr) (sLen sCap : Nat) (cur : Array Value) (t : TypeId) (cs : List Value)
    (hu : P.underlying dT = some (.slice elem)) (hs : (P.info? elem).map (·.size) = some k) (hm : Nat.min sLen dLen = m) (hn : m * k = cs.length)
    (hg : w.heap[g]? = some (.cells cur t (0, 0)))
    (hsrc : ∀ j v, cs[j]? = some v → w.cell? (a.add j) = some v) (hfit : o + cs.length ≤ cur.size) (h1 : ∀ v ∈ cs, v.oneCell' = true) :
    (Builtin.copy_ #[dT, sT] ty #[.slice (some ⟨g, o, none⟩) dLen dCap, .slice (some a) sLen sCap]).run P w = .ok (goInt m) (w.setRow g (splice cur.toList o cs).toArray) := by
  have hl := run_loadCells_list (P := P) w a cs hsrc
  have hst := run_storeCells_at P g o t cs 0 cur w hg (by simpa using hfit) h1
  rw [List.append_assoc] at hst
  cases hq : P.info? elem with
  | none => simp [hq] at hs
  | some i =>
    have hi : i.size = k := by simpa [hq] using hs
    simp [Builtin.copy_, run_underlying hu, Builtin.lenOf, Builtin.firstCells, sizeOf, typeInfo, hq, hi, hm, hn, hl, hst, splice]
theorem wpList_copy_wide {w : World} {ops : Array Oper} {rest : List Oper} {o : Oper} {a : Act} {Q : Exit → Act → World → Prop} (hgd : o.guard = none) (d s : Operand) (dT sT : TypeId)
    (ho : o.op = .call { callee := .builtin .copy, args := #[d, s], argTypes := #[dT, sT] }) (elem : TypeId) (k : Nat) (hu : P.underlying dT = some (.slice elem)) (hsz : (P.info? elem).map (·.size) = some k)
    (g off dLen dCap : Nat) (ad : Addr) (sLen sCap : Nat) (hd : a.eval d = .slice (some ⟨g, off, none⟩) dLen dCap) (hs : a.eval s = .slice (some ad) sLen sCap)
    (cur : Array Value) (t : TypeId) (hg : w.heap[g]? = some (.cells cur t (0, 0))) (m : Nat) (cs : List Value) (hm : Nat.min sLen dLen = m) (hn : m * k = cs.length)
    (hsrc : ∀ j v, cs[j]? = some v → w.cell? (ad.add j) = some v) (hfit : off + cs.length ≤ cur.size) (h1 : ∀ v ∈ cs, v.oneCell' = true)
    (h : ∀ w', Hid (w' = w.setRow g (splice cur.toList off cs).toArray) → wpList P ops Q rest (a.put o.dst (goInt m)) w') : wpList P ops Q (o :: rest) a w := by
  refine wpList_plain hgd fun K hK => ?_
  have hrun := run_copy_row_wide (P := P) w dT sT o.type elem k m g off dLen dCap ad sLen sCap cur t cs hu hsz hm hn hg hsrc hfit h1
  unfold Oper.wp
  simp [execOp, ho, resolve, invoke, builtin, hd, hs, hrun, Result.andThen]
  exact hK _ _ (h _ rfl)
theorem step_copy_wide {ops : Array Oper} {o : Oper} {a : Act} {w : World} {K : Act → World → Prop} {Q : Exit → Act → World → Prop} {E : Prop} (hgd : o.guard = none) (d s : Operand) (dT sT : TypeId)
    (ho : o.op = .call { callee := .builtin .copy, args := #[d, s], argTypes := #[dT, sT] }) (elem : TypeId) (k : Nat) (hu : P.underlying dT = some (.slice elem)) (hsz : (P.info? elem).map (·.size) = some k)
    (g off dLen dCap : Nat) (ad : Addr) (sLen sCap : Nat) (hd : a.eval d = .slice (some ⟨g, off, none⟩) dLen dCap) (hs : a.eval s = .slice (some ad) sLen sCap)
    (cur : Array Value) (t : TypeId) (hg : w.heap[g]? = some (.cells cur t (0, 0))) (m : Nat) (cs : List Value) (hm : Nat.min sLen dLen = m) (hn : m * k = cs.length)
    (hsrc : ∀ j v, cs[j]? = some v → w.cell? (ad.add j) = some v) (hfit : off + cs.length ≤ cur.size) (h1 : ∀ v ∈ cs, v.oneCell' = true)
    (h : ∀ w', Hid (w' = w.setRow g (splice cur.toList off cs).toArray) → K (a.put o.dst (goInt m)) w') :
    if Region.wanted o (yielded ops a.tmps) = true then Oper.wp P o a w K Q else E := by
  have hw : Region.wanted o (yielded ops a.tmps) = true := by simp [Region.wanted, hgd]
  rw [if_pos hw]
  have hrun := run_copy_row_wide (P := P) w dT sT o.type elem k m g off dLen dCap ad sLen sCap cur t cs hu hsz hm hn hg hsrc hfit h1
  unfold Oper.wp
  simp [execOp, ho, resolve, invoke, builtin, hd, hs, hrun, Result.andThen]
  exact h _ rfl
end Go.Proofs.YthcomjhpjlcpdaaGreatDoor
namespace Go.Proofs.YthcomjhpjlcpdaaGreatDoor
open Go.RowKit Go.Shelf Go.Lib
set_option maxHeartbeats 1000000 in
theorem reply_named (p q : List UInt8) (w : World) : Calls Tryz.prog 52 #[.agg #[.string (bs p), .string (bs q)]] w fun e w' => e = .returned (.bool (decide (p = clen))) ∧ Below w.heap.size w w' := by
  obtain ⟨r, hr⟩ : ∃ r, decide (p = clen) = r := ⟨_, rfl⟩
  have e0 : ((bs p).toList == [99, 111, 110, 116, 101, 110, 116, 45, 108, 101, 110, 103, 116, 104]) = r := by rw [← hr]; exact bs_lit p clen
  rw [hr]
  clear hr
  go_enter Tryz.func52, Tryz.ntmps52
  go_wp2_with fail
  go_ret
  exact ⟨rfl, (Below.refl _ _).alloc (Nat.le_refl _) _⟩
theorem named_gives (w : World) : PredBelow Tryz.prog 52 #[] (fun x => .agg (encF x).toArray) (fun x => decide (x.1 = clen)) w := fun W x hb => by
  show Calls Tryz.prog 52 #[.agg #[.string (bs x.1), .string (bs x.2)]] W _
  refine (reply_named x.1 x.2 W).mono ?_
  rintro e w' ⟨rfl, h⟩
  exact ⟨rfl, bstep hb h⟩
theorem idx_hit (a b : List (List UInt8 × List UInt8)) (h : List UInt8 × List UInt8) (hh : h.1 = clen) (ha : ∀ x ∈ a, x.1 ≠ clen) : Lib.idxBy (fun _ y => decide (y.1 = clen)) (a ++ h :: b) (default : List UInt8 × List UInt8) = (a.length : Int) := by
  unfold Lib.idxBy
  rw [Lib.idxByFrom_hit _ _ _ a.length 0 (by simp)]
  · simp
  · rw [getElem!_pos _ _ (by simp)]; simp [hh]
  · intro j hj
    rw [getElem!_pos _ _ (by simp; omega), List.getElem_append_left hj]
    exact decide_eq_false (ha _ (List.getElem_mem hj))
theorem run_clear_row_wide {P : Program} (w : World) (t e ty : TypeId) (z : Value) (ht : P.underlying t = some (.slice e)) (hv : ∀ w, (zeroValue e).run P w = .ok z w) (g o c : Nat) (cur : Array Value) (te : TypeId) (hg : w.heap[g]? = some (.cells cur te (0, 0)))
    (hfit : o + z.cells.toList.length ≤ cur.size) (h1 : ∀ v ∈ z.cells.toList, v.oneCell' = true) :
    (Builtin.clear_ #[t] ty #[.slice (some ⟨g, o, none⟩) 1 c]).run P w = .ok (.tuple #[]) (w.setRow g (splice cur.toList o z.cells.toList).toArray) := by
  have hzc : (Builtin.zeroCells z.cells 1).toList = z.cells.toList := by
    apply List.ext_getElem
    · simp [Builtin.zeroCells]
    · intro i h1 h2
      have hi : i < z.cells.size := by simpa using h2
      simp [Builtin.zeroCells, Nat.mod_eq_of_lt hi, getElem!_pos z.cells i hi]
  have hst := run_storeCells_at P g o te z.cells.toList 0 cur w hg (by simpa using hfit) h1
  simp only [Nat.add_zero] at hst
  rw [List.append_assoc] at hst
  simp [Builtin.clear_, run_underlying ht, hv, hzc, hst, splice]
theorem fcells_set (L : List (List UInt8 × List UInt8)) (i : Nat) (f : List UInt8 × List UInt8) : fcells (L.set i f) = ((fcells L).set (i * 2) (.string (bs f.1))).set (i * 2 + 1) (.string (bs f.2)) := by
  induction L generalizing i with
  | nil => rfl
  | cons x t ih =>
    cases i with
    | zero => rfl
    | succ i =>
      show _ :: _ :: fcells (t.set i f) = _
      rw [ih, show (i + 1) * 2 = i * 2 + 1 + 1 by omega]
      rfl
theorem row_set2 {w : World} {g : Nat} {cur : Array Value} {t : TypeId} (h : w.heap[g]? = some (.cells cur t (0, 0))) (i j : Nat) (p q : Value) :
    ((w.setCell ⟨g, i, none⟩ p).setCell ⟨g, j, none⟩ q).heap[g]? = some (.cells ((cur.setIfInBounds i p).setIfInBounds j q) t (0, 0)) := by
  simp [World.setCell, Array.getElem?_modify, h]
theorem mid_set (a b : List (List UInt8 × List UInt8)) (x y : List UInt8 × List UInt8) (k i : Nat) (hk : k < b.length) (hy : b[k] = y) (hi : a.length + k = i) : (a ++ (b.take k ++ x :: b.drop k)).set i y = a ++ (b.take (k + 1) ++ y :: b.drop (k + 1)) := by
  subst hi hy
  rw [List.set_append_right _ _ (by omega), Nat.add_sub_cancel_left, List.set_append_right _ _ (by rw [List.length_take]; omega), List.length_take, Nat.min_eq_left (by omega), Nat.sub_self, List.set_cons_zero, List.take_succ_eq_append_getElem hk, List.append_assoc, List.drop_eq_getElem_cons hk]
  rfl
theorem mid_get (a b : List (List UInt8 × List UInt8)) (x : List UInt8 × List UInt8) (k : Nat) (hk : k < b.length) (h : a.length + 1 + k < (a ++ (b.take k ++ x :: b.drop k)).length) : (a ++ (b.take k ++ x :: b.drop k))[a.length + 1 + k] = b[k] := by
  apply Option.some.inj
  rw [← List.getElem?_eq_getElem h, List.getElem?_append_right (by omega), List.getElem?_append_right (by rw [List.length_take]; omega), List.length_take, Nat.min_eq_left (by omega), show a.length + 1 + k - a.length - k = 1 by omega, List.drop_eq_getElem_cons hk]
  rfl
/-- what a row of fields holds while one is being taken out -/
structure MidRow (wr : World) (g cap N : Nat) (L : List (List UInt8 × List UInt8)) : Prop where
  ex : ∃ cur, wr.heap[g]? = some (.cells cur 108 (0, 0)) ∧ cur.size = cap * 2 ∧ cur.toList.take (N * 2) = fcells L ∧ L.length = N ∧ N ≤ cap ∧ cap ≤ maxLen
theorem MidRow.below {w w' : World} {g cap N : Nat} {L : List (List UInt8 × List UInt8)} (h : MidRow w g cap N L) (hb : Below w.heap.size w w') : MidRow w' g cap N L := by
  obtain ⟨cur, h1, h2⟩ := h.ex
  exact ⟨cur, (hb.block g (Array.getElem?_eq_some_iff.1 h1).1).trans h1, h2⟩
theorem MidRow.lt {w : World} {g cap N : Nat} {L : List (List UInt8 × List UInt8)} (h : MidRow w g cap N L) : g < w.heap.size := by
  obtain ⟨cur, h1, h2⟩ := h.ex
  exact (Array.getElem?_eq_some_iff.1 h1).1
theorem MidRow.cells {w : World} {g cap N : Nat} {L : List (List UInt8 × List UInt8)} (h : MidRow w g cap N L) (j : Nat) (hj : j < N) (y : List UInt8 × List UInt8) (hy : L[j]? = some y) :
    w.cell? ⟨g, j * 2, none⟩ = some (.string (bs y.1)) ∧ w.cell? ⟨g, j * 2 + 1, none⟩ = some (.string (bs y.2)) ∧ w.frozen? ⟨g, j * 2, none⟩ = false ∧ w.frozen? ⟨g, j * 2 + 1, none⟩ = false := by
  obtain ⟨cur, h1, h2, h3, h4, h5, h6⟩ := h.ex
  have hjl : j < L.length := by omega
  obtain ⟨g1, g2⟩ := fcells_get L j hjl
  rw [List.getElem?_eq_getElem hjl] at hy
  obtain rfl := Option.some.inj hy
  have key : ∀ k u, k < N * 2 → (fcells L)[k]? = some u → w.cell? ⟨g, k, none⟩ = some u := by
    intro k u hk hu
    rw [cell_of_row w g k cur _ (0, 0) h1, ← Array.getElem?_toList]
    rw [← h3, List.getElem?_take, if_pos hk] at hu
    exact hu
  refine ⟨key _ _ (by omega) g1, key _ _ (by omega) g2, ?_, ?_⟩
  · unfold World.frozen?; rw [h1]; rfl
  · unfold World.frozen?; rw [h1]; rfl
theorem MidRow.set {w : World} {g cap N : Nat} {L : List (List UInt8 × List UInt8)} (h : MidRow w g cap N L) (i : Nat) (y : List UInt8 × List UInt8) :
    MidRow ((w.setCell ⟨g, i * 2, none⟩ (.string (bs y.1))).setCell ⟨g, i * 2 + 1, none⟩ (.string (bs y.2))) g cap N (L.set i y) := by
  obtain ⟨cur, h1, h2, h3, h4, h5, h6⟩ := h.ex
  refine ⟨_, row_set2 h1 _ _ _ _, by simp [h2], ?_, by rw [List.length_set, h4], h5, h6⟩
  rw [Array.toList_setIfInBounds, Array.toList_setIfInBounds, List.take_set, List.take_set, h3, fcells_set]
theorem MidRow.clear {w : World} {g cap i : Nat} {L : List (List UInt8 × List UInt8)} (h : MidRow w g cap (i + 1) L) (base : Nat) (hb : base ≤ g) :
    ∃ w', (∀ ty dc, (Builtin.clear_ #[77] ty #[.slice (some ⟨g, i * 2, none⟩) 1 dc]).run Tryz.prog w = .ok (.tuple #[]) w') ∧ w'.ownsRow base 108 2 (.slice (some ⟨g, 0, none⟩) i cap) i (fcells (L.take i)) ∧ w.grownBy w' (some g) := by
  obtain ⟨cur, h1, h2, h3, h4, h5, h6⟩ := h.ex
  have hz := Tryz.zeroValue108
  refine ⟨_, fun ty dc => run_clear_row_wide w 77 108 ty _ Tryz.underlying77 hz g (i * 2) dc cur 108 h1 (by show i * 2 + 2 ≤ _; omega) (by simp [Value.cells, Value.oneCell']), ?_, ?_⟩
  · refine ⟨by rw [fcells_length, List.length_take]; omega, .inr ⟨g, cap, _, rfl, hb, setRow_heap w g cur _ _ _ h1, by omega, ?_, ?_, ?_⟩⟩
    · exact h6
    · rw [List.size_toArray, length_splice _ _ _ (by show i * 2 + 2 ≤ _; rw [Array.length_toList]; omega), Array.length_toList, h2]
    · have e1 : fcells L = fcells (L.take i) ++ fcells (L.drop i) := by rw [← fcells_append, List.take_append_drop]
      have e2 : (fcells (L.take i)).length = i * 2 := by rw [fcells_length, List.length_take]; omega
      unfold splice
      rw [List.toList_toArray, List.take_left' (by rw [List.length_take, Array.length_toList]; omega)]
      have : cur.toList.take (i * 2) = (cur.toList.take ((i + 1) * 2)).take (i * 2) := by rw [List.take_take]; congr 1; omega
      rw [this, h3, e1, List.take_left' e2]
  · exact ⟨rfl, rfl, rfl, by simp [World.setRow], fun k hk hn => setRow_other w g k _ (fun e => hn (by rw [e]))⟩

theorem grown_trans {w w1 w2 : World} {r : Option Nat} (h : w.grownBy w1 r) (k : w1.grownBy w2 r) : w.grownBy w2 r :=
  ⟨k.os.trans h.os, k.tape.trans h.tape, k.output.trans h.output, Nat.le_trans h.size k.size, fun b hb hn => (k.block b (Nat.lt_of_lt_of_le hb h.size) hn).trans (h.block b hb hn)⟩
def DelPost (g base cap : Nat) (fs : List (List UInt8 × List UInt8)) (w : World) (e : Ending) (w' : World) : Prop :=
  e = .returned (.slice (some ⟨g, 0, none⟩) fs.length cap) ∧ w'.ownsRow base 108 2 (.slice (some ⟨g, 0, none⟩) fs.length cap) fs.length (fcells fs) ∧ w.grownBy w' (some g)
end Go.Proofs.YthcomjhpjlcpdaaGreatDoor
namespace Go.Proofs.YthcomjhpjlcpdaaGreatDoor
open Go.RowKit

/-- the block of a reply that is being taken -/
def RpB (w : World) (R : Nat) (c f b : Value) : Prop := w.heap[R]? = some (.cells #[c, f, b] 79 (0, 0))
theorem RpB.below {w w' : World} {R : Nat} {c f b : Value} (k : RpB w R c f b) (hb : Below w.heap.size w w') : RpB w' R c f b :=
  (hb.block R (Array.getElem?_eq_some_iff.1 k).1).trans k
theorem RpB.lt {w : World} {R : Nat} {c f b : Value} (k : RpB w R c f b) : R < w.heap.size := (Array.getElem?_eq_some_iff.1 k).1
theorem RpB.cells {w : World} {R : Nat} {c f b : Value} (k : RpB w R c f b) :
    w.cell? ⟨R, 0, none⟩ = some c ∧ w.cell? ⟨R, 1, none⟩ = some f ∧ w.cell? ⟨R, 2, none⟩ = some b := by
  unfold RpB at k
  refine ⟨?_, ?_, ?_⟩ <;> (unfold World.cell?; rw [k]; rfl)
theorem RpB.free {w : World} {R : Nat} {c f b : Value} (k : RpB w R c f b) :
    w.frozen? ⟨R, 0, none⟩ = false ∧ w.frozen? ⟨R, 1, none⟩ = false ∧ w.frozen? ⟨R, 2, none⟩ = false := by
  unfold RpB at k
  refine ⟨?_, ?_, ?_⟩ <;> (unfold World.frozen?; rw [k]; rfl)
theorem RpB.set0 {w : World} {R : Nat} {c f b : Value} (k : RpB w R c f b) (v : Value) : RpB (w.setCell ⟨R, 0, none⟩ v) R v f b := by
  unfold RpB at k ⊢; simp [World.setCell, Array.getElem?_modify, k]
theorem RpB.set1 {w : World} {R : Nat} {c f b : Value} (k : RpB w R c f b) (v : Value) : RpB (w.setCell ⟨R, 1, none⟩ v) R c v b := by
  unfold RpB at k ⊢; simp [World.setCell, Array.getElem?_modify, k]
/-- behind the append: the block as it was, all below it, too -/
def AfterAppP (R : Nat) (W w' : World) (c v b : Value) : Prop := RpB w' R c v b ∧ W.grownBy w' (some R)
theorem step_appP {ops : Array Oper} {o : Oper} {a : Act} {K : Act → World → Prop} {Q : Exit → Act → World → Prop} {E : Prop} {R base : Nat} (w0 : World) (hw0 : w0.heap.size = base) (hR0 : R < base) {c v b : Value} {W2 : World} {fs : List (List UInt8 × List UInt8)} (W : World) (hgd : o.guard = none) (s z : Operand)
    (ho : o.op = .call { callee := .builtin .append, args := #[s, z], argTypes := #[77, 77] })
    (hR2 : RpB W2 R c v b) (hown : W2.ownsRow base 108 2 v fs.length (fcells fs)) (hg0 : w0.grownBy W2 (some R)) (hs : a.eval s = v) (hn : fs.length < 2147483648) (hbW : Below W2.heap.size W2 W)
    (B : Nat) (f : List UInt8 × List UInt8) (hB : W.heap[B]? = some (.cells #[.string (bs f.1), .string (bs f.2)] 108 (0, 0))) (hx : a.eval z = .slice (some ⟨B, 0, none⟩) 1 1)
    (hK : ∀ g cap w', w'.ownsRow base 108 2 (.slice (some ⟨g, 0, none⟩) (fs.length + 1) cap) (fs ++ [f]).length (fcells (fs ++ [f])) → w'.cell? ⟨R, 1, none⟩ = some v → w'.frozen? ⟨R, 1, none⟩ = false → AfterAppP R w0 w' c v b → K (a.put o.dst (.slice (some ⟨g, 0, none⟩) (fs.length + 1) cap)) w') :
    if Region.wanted o (yielded ops a.tmps) = true then Oper.wp Tryz.prog o a W K Q else E := by
  have hoW := own_keep hown hbW
  have hlt := hR2.lt
  have hsz := hbW.size
  have hs0 := hg0.size
  refine step_appF W hgd s z ho base v fs hs hoW B f hB hx hn (by omega) (fun g cap w' h1 h2 => ?_)
  have hR3 : RpB w' R c v b := (grow_block h2 hoW hR0 (by omega)).trans (hR2.below hbW)
  have hg1 := hg0.below hbW
  have hb3 : w0.grownBy w' (some R) := ⟨h2.os.trans hg1.os, h2.tape.trans hg1.tape, h2.output.trans hg1.output, Nat.le_trans hg1.size h2.size, fun k hk hne =>
    (h2.block k (Nat.lt_of_lt_of_le hk hg1.size) (fun h => by have := (hoW.lt k h.symm).1; omega)).trans (hg1.block k hk hne)⟩
  exact hK g cap w' h1 hR3.cells.2.1 hR3.free.2.1 ⟨hR3, hb3⟩
theorem get_clen (v : Value) (fs : List (List UInt8 × List UInt8)) (w : World) (hv : HoldsF w v fs) (hlen : fs.length ≤ 1000000) :
    Calls Tryz.prog 121 #[v, .string ⟨#[99, 111, 110, 116, 101, 110, 116, 45, 108, 101, 110, 103, 116, 104]⟩] w fun e w' => e = .returned (.tuple #[.string (bs (getS fs clen)), .int .i64 (getE fs clen : Nat)]) ∧ Below w.heap.size w w' :=
  fields_get v fs ⟨#[99, 111, 110, 116, 101, 110, 116, 45, 108, 101, 110, 103, 116, 104]⟩ w hv hlen
theorem get_none (w : World) : Calls Tryz.prog 121 #[.slice none 0 0, .string ⟨#[99, 111, 110, 116, 101, 110, 116, 45, 108, 101, 110, 103, 116, 104]⟩] w fun e w' => e = .returned (.tuple #[.string ⟨#[]⟩, .int .i64 6]) ∧ Below w.heap.size w w' :=
  get_clen (.slice none 0 0) [] w (HoldsF.nil _ _ _) (by decide)
end Go.Proofs.YthcomjhpjlcpdaaGreatDoor
namespace Go.Proofs.YthcomjhpjlcpdaaGreatDoor
end Go.Proofs.YthcomjhpjlcpdaaGreatDoor
namespace Go.Proofs.YthcomjhpjlcpdaaGreatDoor
open Go.RowKit
theorem below_agg3 (w : World) (x y z : Value) (t : TypeId) : Below w.heap.size w (w.alloc (.cells #[x, y, z] t)) := (Below.refl _ _).alloc (Nat.le_refl _) _
/-- a block of three cells -/
def Three (w : World) (b : Nat) (x y z : Value) : Prop := b < w.heap.size ∧ w.cell? ⟨b, 0, none⟩ = some x ∧ w.cell? ⟨b, 1, none⟩ = some y ∧ w.cell? ⟨b, 2, none⟩ = some z
theorem Three.below {w w' : World} {b : Nat} {x y z : Value} (h : Three w b x y z) (hb : Below w.heap.size w w') : Three w' b x y z :=
  ⟨Nat.lt_of_lt_of_le h.1 hb.size, (hb.cell (p := ⟨b, 0, none⟩) h.1).trans h.2.1, (hb.cell (p := ⟨b, 1, none⟩) h.1).trans h.2.2.1, (hb.cell (p := ⟨b, 2, none⟩) h.1).trans h.2.2.2⟩
theorem Three.alloc {w : World} {b : Nat} {x y z : Value} (h : Three w b x y z) (o : Obj) : Three (w.alloc o) b x y z := h.below ((Below.refl _ _).alloc (Nat.le_refl _) o)
theorem Three.new (w : World) (x y z : Value) (t : TypeId) : Three (w.alloc (.cells #[x, y, z] t)) w.heap.size x y z := by
  have hh := heap_alloc_new w (.cells #[x, y, z] t)
  refine ⟨by simp, ?_, ?_, ?_⟩ <;> (unfold World.cell?; rw [hh]; rfl)
/-- whether two replies are the same -/
def sameR (c d : Int) (x y : List UInt8) (fs gs : List (List UInt8 × List UInt8)) : Bool := decide (c = d) && decide (x = y) && decide (fs = gs)
end Go.Proofs.YthcomjhpjlcpdaaGreatDoor
namespace Go.Proofs.YthcomjhpjlcpdaaGreatDoor
open Go.RowKit
theorem load_rep (w : World) (b : Nat) (t : TypeId) (x y z : Value) (h : w.heap[b]? = some (.cells #[x, y, z] t (0, 0))) : (loadVar 79 ⟨b, 0, none⟩).run Tryz.prog w = .ok (.agg #[x, y, z]) w :=
  run_loadVar_row w b t 79 #[x, y, z] (0, 0) _ h Tryz.underlying79 rfl (by kernel_rfl)
theorem three_set {w : World} {b : Nat} {x y z : Value} {t : TypeId} (h : w.heap[b]? = some (.cells #[x, y, z] t (0, 0))) (x' y' z' : Value) :
    (((w.setCell ⟨b, 0, none⟩ x').setCell ⟨b, 1, none⟩ y').setCell ⟨b, 2, none⟩ z').heap[b]? = some (.cells #[x', y', z'] t (0, 0)) := by
  simp [World.setCell, Array.getElem?_modify, h]
theorem three_set2 {w : World} {b : Nat} {x y z : Value} {t : TypeId} (h : w.heap[b]? = some (.cells #[x, y, z] t (0, 0))) (z' : Value) :
    (w.setCell ⟨b, 2, none⟩ z').heap[b]? = some (.cells #[x, y, z'] t (0, 0)) := by
  simp [World.setCell, Array.getElem?_modify, h]
theorem three_below {B : Nat} {w0 w : World} (h : Below B w0 w) (b : Nat) (hB : B ≤ b) (x' y' z' : Value) : Below B w0 (((w.setCell ⟨b, 0, none⟩ x').setCell ⟨b, 1, none⟩ y').setCell ⟨b, 2, none⟩ z') :=
  ((h.setCell (p := ⟨b, 0, none⟩) hB _).setCell (p := ⟨b, 1, none⟩) hB _).setCell (p := ⟨b, 2, none⟩) hB _
theorem three_facts {w : World} {b : Nat} {x y z : Value} {t : TypeId} (h : w.heap[b]? = some (.cells #[x, y, z] t (0, 0))) :
    w.cell? ⟨b, 0, none⟩ = some x ∧ w.cell? ⟨b, 1, none⟩ = some y ∧ w.cell? ⟨b, 2, none⟩ = some z ∧ w.frozen? ⟨b, 0, none⟩ = false ∧ w.frozen? ⟨b, 1, none⟩ = false ∧ w.frozen? ⟨b, 2, none⟩ = false := by
  refine ⟨?_, ?_, ?_, ?_, ?_, ?_⟩
  · unfold World.cell?; rw [h]; rfl
  · unfold World.cell?; rw [h]; rfl
  · unfold World.cell?; rw [h]; rfl
  · unfold World.frozen?; rw [h]; rfl
  · unfold World.frozen?; rw [h]; rfl
  · unfold World.frozen?; rw [h]; rfl
theorem rp_assert (v : Value) (w : World) : (Instr.typeAssert (.iface 31 v) 191 31 true).run Tryz.prog w = .ok (.tuple #[v, .bool true]) w := by kernel_rfl
theorem own_lowerF {w : World} {b1 b2 : Nat} {e : TypeId} {s n : Nat} {v : Value} {x : List Value} (h : w.ownsRow b1 e s v n x) (hb : b2 ≤ b1) : w.ownsRow b2 e s v n x := by
  refine ⟨h.1, ?_⟩
  rcases h.2 with h0 | ⟨b, cap, cur, e1, e2, e3⟩
  · exact .inl h0
  · exact .inr ⟨b, cap, cur, e1, Nat.le_trans hb e2, e3⟩
/-- what Parse returns -/
def RepV (s : ByteArray) (most : Int) (fv : Value) : Value := .tuple #[.agg #[.int .i64 (takC s most), fv, .string (bs (takB s most))], .int .i64 (takN s most), .int .i64 (takE s most : Nat)]
def ParsePost (s : ByteArray) (most : Int) (w : World) (e : Ending) (w' : World) : Prop :=
  ∃ fv, e = .returned (RepV s most fv) ∧ w'.ownsRow w.heap.size 108 2 fv (takF s most).length (fcells (takF s most)) ∧ Below w.heap.size w w'
theorem parse_bad (s : ByteArray) (most : Int) (e : Nat) (h : takE s most = e) (h0 : e ≠ 0) (w w' : World) (hb : Below w.heap.size w w') :
    ParsePost s most w (.returned (.tuple #[.agg #[.int .i64 0, .slice none 0 0, .string ⟨#[]⟩], .int .i64 0, .int .i64 (e : Nat)])) w' := by
  obtain ⟨h1, h2, h3, h4⟩ := tak_bad s most (by rw [h]; exact h0)
  refine ⟨.slice none 0 0, ?_, ?_, hb⟩
  · unfold RepV; rw [h1, h3, h4, h]; rfl
  · rw [h2]; exact World.ownsRow_nil _ _ _ _
theorem parse_good (s : ByteArray) (most : Int) (h : takE s most = 0) (w w' : World) (fv : Value) (hown : w'.ownsRow w.heap.size 108 2 fv (takF s most).length (fcells (takF s most))) (hb : Below w.heap.size w w') (C n : Int) (B : ByteArray) (h1 : takC s most = C) (h2 : takN s most = n) (h3 : bs (takB s most) = B) :
    ParsePost s most w (.returned (.tuple #[.agg #[.int .i64 C, fv, .string B], .int .i64 n, .int .i64 0])) w' := by
  refine ⟨fv, ?_, hown, hb⟩
  unfold RepV; rw [h1, h2, h3, h]; rfl
end Go.Proofs.YthcomjhpjlcpdaaGreatDoor
namespace Go.Proofs.YthcomjhpjlcpdaaGreatDoor
open Go.RowKit
theorem take_splice2 (L : List Value) (n : Nat) (x y : Value) (h2 : 2 ≤ L.length) (hn : n * 2 + 2 ≤ L.length) :
    (splice (splice L 2 (L.take (n * 2))) 0 [x, y]).take ((n + 1) * 2) = x :: y :: L.take (n * 2) ∧ (splice (splice L 2 (L.take (n * 2))) 0 [x, y]).length = L.length := by
  have h3 : (L.take (n * 2)).length = n * 2 := by rw [List.length_take]; omega
  have hA : (splice L 2 (L.take (n * 2))).length = L.length := length_splice _ _ _ (by rw [h3]; omega)
  refine ⟨?_, by rw [length_splice _ _ _ (by rw [hA]; simpa using h2), hA]⟩
  have h4 : (L.take 2).length = 2 := by rw [List.length_take]; omega
  unfold splice
  rw [List.take_zero, List.nil_append, show 0 + [x, y].length = 2 from rfl, List.drop_left' h4]
  rw [show (n + 1) * 2 = n * 2 + 1 + 1 by omega]
  simp only [List.cons_append, List.nil_append, List.take_succ_cons]
  rw [List.take_left' h3]
theorem info_ffield : (Tryz.prog.info? 108).map (fun i => (i.zero, i.size, i.bytes)) = some (some (.agg #[.string ByteArray.empty, .string ByteArray.empty]), 2, 32) := by kernel_rfl
set_option maxHeartbeats 4000000 in
set_option maxRecDepth 100000 in
theorem insert_room (g n c vb : Nat) (cur : Array Value) (x y : Value) (w : World) (hn : 0 < n) (hroom : n + 1 ≤ c) (hc : c ≤ maxLen) (hg : w.heap[g]? = some (.cells cur 108 (0, 0))) (hsz : cur.size = c * 2)
    (hv : w.heap[vb]? = some (.cells #[x, y] 108 (0, 0))) (hx : x.oneCell' = true) (hy : y.oneCell' = true) (h1 : ∀ u ∈ cur.toList.take (n * 2), u.oneCell' = true) (hne : vb ≠ g) :
    Calls Tryz.prog 49 #[.slice (some ⟨g, 0, none⟩) n c, .int .i64 0, .slice (some ⟨vb, 0, none⟩) 1 1] w fun e w' =>
      e = .returned (.slice (some ⟨g, 0, none⟩) (n + 1) c) ∧ ∃ cur', w'.heap[g]? = some (.cells cur' 108 (0, 0)) ∧ cur'.size = c * 2 ∧ cur'.toList.take ((n + 1) * 2) = x :: y :: cur.toList.take (n * 2) ∧ w.grownBy w' (some g) := by
  obtain ⟨i0, hi0, hz0, hzs, hzb⟩ := info_parts info_ffield
  unfold maxLen at hc
  have u30 := Tryz.underlying77
  have hs2 : (Tryz.prog.info? 108).map (·.size) = some 2 := by kernel_rfl
  have hsz2 : ∀ w, (Go.sizeOf 108).run Tryz.prog w = .ok 2 w := fun w => by simp [sizeOf, typeInfo, hi0, hzs]
  have hov : ∀ lb cb, (callFunc 83 #[.slice (some ⟨vb, 0, none⟩) 1 1, .slice (some ⟨g, 2, none⟩) lb cb]).run Tryz.prog w = .ok (.value (.bool false)) w := fun lb cb => by
    rw [run_callFunc_extern Tryz.func83 (by kernel_rfl) (by kernel_rfl) (by kernel_rfl) (e := Extern.SlicesOverlaps.overlaps #[77, 77] #[4]) (by kernel_rfl),
      Lib.run_overlaps_apart w 77 4 108 u30 2 hsz2 ⟨vb, 0, none⟩ ⟨g, 2, none⟩ 1 1 lb cb hne 108 108 2 cur.size (by simp [World.shape?, hv]) (by simp [World.shape?, hg]) (by omega) (by simp [World.frozen?, hv]) (by simp [World.frozen?, hv])]
    rfl
  have hz2 : ¬ ((0 : Int) = (n : Int)) := by omega
  have hz3 : ¬ ((c : Int) < (n : Int) + 1) := by omega
  have hb2 : ¬ (c = 1) := by omega
  have hl3 : (cur.toList.take (n * 2)).length = n * 2 := by rw [List.length_take, Array.length_toList]; omega
  have hcp1 : ∀ ty dc sc, (Builtin.copy_ #[77, 77] ty #[.slice (some ⟨g, 2, none⟩) n dc, .slice (some ⟨g, 0, none⟩) (n + 1) sc]).run Tryz.prog w.drew = .ok (goInt n) (w.drew.setRow g (splice cur.toList 2 (cur.toList.take (n * 2))).toArray) := fun ty dc sc =>
    run_copy_row_wide w.drew 77 77 ty 108 2 n g 2 n dc ⟨g, 0, none⟩ (n + 1) sc cur 108 (cur.toList.take (n * 2)) u30 hs2 (by simp only [Nat.min_def]; split <;> omega) hl3.symm hg
      (fun j u hj => by
        rw [List.getElem?_take] at hj
        split at hj
        · rw [Addr.add_lit, Nat.zero_add]
          show w.cell? _ = _
          unfold World.cell?
          rw [hg]
          simpa using hj
        · cases hj) (by rw [hl3, hsz]; omega) h1
  have hsr : ∀ (W : World) cs, (W.setRow g cs).heap.size = W.heap.size := fun W cs => by simp [World.setRow]
  have mixed : Tryz.prog.follows Departure.mixedOrders = true := by kernel_rfl
  have hw1 : IntKind.i64.wrap (1 : Int) = 1 := by decide
  have hb3 : (1 : Int) ≤ (n : Int) + 1 := by omega
  have hb4 : ¬ (c = 0) := by omega
  have hb5 : (0 : Int) ≤ (n : Int) + 1 := by omega
  obtain ⟨p1, p2⟩ := take_splice2 cur.toList n x y (by rw [Array.length_toList]; omega) (by rw [Array.length_toList]; omega)
  have hl4 : (splice cur.toList 2 (cur.toList.take (n * 2))).length = c * 2 := by rw [length_splice _ _ _ (by rw [hl3, Array.length_toList]; omega), Array.length_toList, hsz]
  obtain ⟨L1, hL1⟩ : ∃ L1, splice cur.toList 2 (cur.toList.take (n * 2)) = L1 := ⟨_, rfl⟩
  rw [hL1] at hcp1 p1 p2 hl4
  obtain ⟨W1, hW1⟩ : ∃ W1, w.drew.setRow g L1.toArray = W1 := ⟨_, rfl⟩
  have hg1 : W1.heap[g]? = some (.cells L1.toArray 108 (0, 0)) := by rw [← hW1]; exact setRow_heap w.drew g cur _ 108 _ hg
  have hv1 : W1.heap[vb]? = some (.cells #[x, y] 108 (0, 0)) := by rw [← hW1, setRow_other w.drew g vb _ hne]; exact hv
  rw [hW1] at hcp1
  have hcp2 : ∀ ty dc, (Builtin.copy_ #[77, 77] ty #[.slice (some ⟨g, 0, none⟩) (n + 1) dc, .slice (some ⟨vb, 0, none⟩) 1 1]).run Tryz.prog W1 = .ok (goInt 1) (W1.setRow g (splice L1 0 [x, y]).toArray) := fun ty dc =>
    run_copy_row_wide W1 77 77 ty 108 2 1 g 0 (n + 1) dc ⟨vb, 0, none⟩ 1 1 L1.toArray 108 [x, y] u30 hs2 (by simp only [Nat.min_def]; split <;> omega) rfl hg1
      (fun j u hj => by
        rw [Addr.add_lit, Nat.zero_add]
        unfold World.cell?
        rw [hv1]
        match j, hj with
        | 0, hj => simpa using hj
        | 1, hj => simpa using hj
        | j + 2, hj => simp at hj) (by simp; omega) (fun u hu => by
        rcases List.mem_cons.1 hu with rfl | hu
        · exact hx
        · rcases List.mem_cons.1 hu with rfl | hu
          · exact hy
          · cases hu)
  have HE : Hid (W1.setRow g (splice L1 0 [x, y]).toArray = W1.setRow g (splice L1 0 [x, y]).toArray ∧ W1.heap[g]? = some (.cells L1.toArray 108 (0, 0)) ∧ (splice L1 0 [x, y]).take ((n + 1) * 2) = x :: y :: cur.toList.take (n * 2) ∧ (splice L1 0 [x, y]).length = c * 2 ∧ w.grownBy W1 (some g)) := Lib.hid ⟨rfl, hg1, p1, by rw [p2, Array.length_toList, hsz], by
    rw [← hW1]
    exact ⟨rfl, rfl, rfl, by rw [hsr]; exact Nat.le_refl _, fun k hk hn => setRow_other w.drew g k _ (fun e => hn (by rw [e]))⟩⟩
  generalize (splice L1 0 [x, y]) = L2 at hcp2 HE
  clear hL1 hW1 hg1 hv1 p1 p2 hl4 hl3 h1 hz0 hzs hzb hi0
  go_enter Tryz.func49, Tryz.ntmps49
  go_wp2_with (simp only [hov])
  go_region_law_o (refine Go.Proofs.step_copy_runI rfl _ _ 77 77 rfl _ _ (by simp [Act.eval, Act.put]) (by simp [Act.eval, Act.put]) (hcp1 _ _ _) ?_)
  go_wp2_with (at_builtin; refine Go.Proofs.wpList_copy_runI _ rfl _ _ 77 77 rfl _ _ rfl rfl (hcp2 _ _) ?_)
  go_ret
  refine ⟨rfl, L2.toArray, setRow_heap W1 g L1.toArray _ 108 _ HE.out.2.1, ?_, ?_, ?_⟩
  · have := HE.out.2.2.2.1; simpa using this
  · have := HE.out.2.2.1; simpa using this
  · have h := HE.out.2.2.2.2
    exact ⟨h.os, h.tape, h.output, Nat.le_trans h.size (by rw [hsr]; exact Nat.le_refl _), fun k hk hn => (setRow_other W1 g k _ (fun e => hn (by rw [e]))).trans (h.block k hk hn)⟩
end Go.Proofs.YthcomjhpjlcpdaaGreatDoor
namespace Go.Proofs.YthcomjhpjlcpdaaGreatDoor
open Go.RowKit
theorem zeroCells_size (z : Array Value) (k : Nat) : (Builtin.zeroCells z k).size = k * z.size := by simp [Builtin.zeroCells]
set_option maxHeartbeats 4000000 in
set_option maxRecDepth 100000 in
theorem insert_grow (g n vb : Nat) (cur : Array Value) (x y : Value) (w : World) (hn : 0 < n) (hbig : n ≤ 1000000) (hg : w.heap[g]? = some (.cells cur 108 (0, 0))) (hsz : cur.size = n * 2)
    (hv : w.heap[vb]? = some (.cells #[x, y] 108 (0, 0))) (hx : x.oneCell' = true) (hy : y.oneCell' = true) (h1 : ∀ u ∈ cur.toList, u.oneCell' = true) :
    Calls Tryz.prog 49 #[.slice (some ⟨g, 0, none⟩) n n, .int .i64 0, .slice (some ⟨vb, 0, none⟩) 1 1] w fun e w' =>
      ∃ cap cur', e = .returned (.slice (some ⟨w.heap.size, 0, none⟩) (n + 1) cap) ∧ n + 1 ≤ cap ∧ cap ≤ maxLen ∧ w'.heap[w.heap.size]? = some (.cells cur' 108 (0, 0)) ∧ cur'.size = cap * 2 ∧ cur'.toList.take ((n + 1) * 2) = x :: y :: cur.toList ∧ Below w.heap.size w w' := by
  obtain ⟨i0, hi0, hz0, hzs, hzb⟩ := info_parts info_ffield
  have u30 := Tryz.underlying77
  have hs2 : (Tryz.prog.info? 108).map (·.size) = some 2 := by kernel_rfl
  have hgl : g < w.heap.size := (Array.getElem?_eq_some_iff.1 hg).1
  have hvl : vb < w.heap.size := (Array.getElem?_eq_some_iff.1 hv).1
  have hold : (Builtin.firstCells i0.size 0 (.slice (some ⟨g, 0, none⟩) 0 n)).run Tryz.prog w.drew = .ok ([] : List Value).toArray w.drew :=
    run_firstCells_some w.drew i0.size 0 ⟨g, 0, none⟩ 0 n [] (by simp) (fun j v hj => by simp at hj)
  obtain ⟨G, hG⟩ : ∃ G, G = grownCap w (0 + (n + 1)) n 108 := ⟨_, rfl⟩
  have hGn : n + 1 ≤ G := by rw [hG]; have := grownCap_ge w (0 + (n + 1)) n 108; omega
  have hGm : G ≤ maxLen := by rw [hG]; exact grownCap_le_maxLen w _ _ _ (by unfold maxLen; omega)
  obtain ⟨ROW, hROW⟩ : ∃ ROW : Array Value, ROW = ([] : List Value).toArray ++ Builtin.zeroCells (Value.agg #[.string ByteArray.empty, .string ByteArray.empty]).cells (n + 1) ++ Builtin.zeroCells (Value.agg #[.string ByteArray.empty, .string ByteArray.empty]).cells (G - (0 + (n + 1))) := ⟨_, rfl⟩
  have hRs : ROW.size = G * 2 := by
    rw [hROW, Array.size_append, Array.size_append, zeroCells_size, zeroCells_size]
    show 0 + (n + 1) * 2 + (G - (0 + (n + 1))) * 2 = _
    omega
  obtain ⟨W1, hW1⟩ : ∃ W1, W1 = w.drew.alloc (.cells ROW 108) := ⟨_, rfl⟩
  have hrz : ∀ ty, (Builtin.append_ #[77, 3] ty #[.slice (some ⟨g, 0, none⟩) 0 n, .int .i64 ((n : Int) + 1)]).run Tryz.prog w =
      .ok (.slice (some ⟨w.heap.size, 0, none⟩) (n + 1) G) W1 := fun ty => by
    have h := Lib.run_append_grow_zeros w 77 3 ty 108 i0 _ .i64 .i64 u30 Tryz.underlying3 hi0 hz0 (some ⟨g, 0, none⟩) 0 n [] hold (n + 1) (by omega) (by omega) (by omega) (by omega) (by rw [hzb]; omega) (by rw [hzb]; exact growslice_fits (by omega) (by omega))
    rw [← hG, ← hROW, ← hW1, Nat.zero_add] at h
    exact h
  have hN1 : W1.heap[w.heap.size]? = some (.cells ROW 108 (0, 0)) := by rw [hW1]; exact heap_alloc_new w.drew _
  have hB1 : Below w.heap.size w W1 := by rw [hW1]; exact ((Below.refl _ _).drew).alloc (Nat.le_refl _) _
  have hg1 : W1.heap[g]? = some (.cells cur 108 (0, 0)) := (hB1.block g hgl).trans hg
  have hv1 : W1.heap[vb]? = some (.cells #[x, y] 108 (0, 0)) := (hB1.block vb hvl).trans hv
  have hsr : ∀ (W : World) k cs, (W.setRow k cs).heap.size = W.heap.size := fun W k cs => by simp [World.setRow]
  have hcp1 : ∀ ty dc, (Builtin.copy_ #[77, 77] ty #[.slice (some ⟨w.heap.size, 0, none⟩) (n + 1) dc, .slice (some ⟨vb, 0, none⟩) 1 1]).run Tryz.prog W1 = .ok (goInt 1) (W1.setRow w.heap.size (splice ROW.toList 0 [x, y]).toArray) := fun ty dc =>
    run_copy_row_wide W1 77 77 ty 108 2 1 w.heap.size 0 (n + 1) dc ⟨vb, 0, none⟩ 1 1 ROW 108 [x, y] u30 hs2 (by simp only [Nat.min_def]; split <;> omega) rfl hN1
      (fun j u hj => by
        rw [Addr.add_lit, Nat.zero_add]
        unfold World.cell?
        rw [hv1]
        match j, hj with
        | 0, hj => simpa using hj
        | 1, hj => simpa using hj
        | j + 2, hj => simp at hj) (by simp; omega) (fun u hu => by
        rcases List.mem_cons.1 hu with rfl | hu
        · exact hx
        · rcases List.mem_cons.1 hu with rfl | hu
          · exact hy
          · cases hu)
  obtain ⟨L1, hL1⟩ : ∃ L1, splice ROW.toList 0 [x, y] = L1 := ⟨_, rfl⟩
  rw [hL1] at hcp1
  have hL1s : L1.length = G * 2 := by rw [← hL1, length_splice _ _ _ (by show 0 + 2 ≤ ROW.toList.length; rw [Array.length_toList, hRs]; omega), Array.length_toList, hRs]
  have hL1t : L1.take 2 = [x, y] := by rw [← hL1]; unfold splice; simp
  obtain ⟨W2, hW2⟩ : ∃ W2, W1.setRow w.heap.size L1.toArray = W2 := ⟨_, rfl⟩
  rw [hW2] at hcp1
  have hN2 : W2.heap[w.heap.size]? = some (.cells L1.toArray 108 (0, 0)) := by rw [← hW2]; exact setRow_heap W1 _ ROW _ 108 _ hN1
  have hg2 : W2.heap[g]? = some (.cells cur 108 (0, 0)) := by rw [← hW2, setRow_other W1 _ g _ (by omega)]; exact hg1
  have hcp2 : ∀ (W : World), W.heap = W2.heap → ∀ ty dc sc, (Builtin.copy_ #[77, 77] ty #[.slice (some ⟨w.heap.size, 2, none⟩) n dc, .slice (some ⟨g, 0, none⟩) n sc]).run Tryz.prog W = .ok (goInt n) (W.setRow w.heap.size (splice L1 2 cur.toList).toArray) := fun W hW ty dc sc =>
    run_copy_row_wide W 77 77 ty 108 2 n w.heap.size 2 n dc ⟨g, 0, none⟩ n sc L1.toArray 108 cur.toList u30 hs2 (by simp only [Nat.min_def]; split <;> omega) (by rw [Array.length_toList, hsz]) (by rw [hW]; exact hN2)
      (fun j u hj => by
        rw [Addr.add_lit, Nat.zero_add]
        unfold World.cell?
        rw [hW, hg2]
        simpa using hj) (by rw [Array.length_toList, hsz]; simp; omega) h1
  have hB2 : Below w.heap.size w W2 := by
    rw [← hW2]
    exact ⟨hB1.os, hB1.tape, hB1.output, by rw [hsr]; exact hB1.size, fun k hk => (setRow_other W1 _ k _ (by omega)).trans (hB1.block k hk)⟩
  have hfin : (splice L1 2 cur.toList).take ((n + 1) * 2) = x :: y :: cur.toList ∧ (splice L1 2 cur.toList).length = G * 2 := by
    refine ⟨?_, by rw [length_splice _ _ _ (by rw [hL1s, Array.length_toList, hsz]; omega), hL1s]⟩
    unfold splice
    rw [hL1t]
    have : (n + 1) * 2 = n * 2 + 1 + 1 := by omega
    rw [this]
    simp only [List.cons_append, List.nil_append, List.take_succ_cons]
    rw [List.take_left' (by rw [Array.length_toList, hsz])]
  have HE := Lib.hid (And.intro hN2 (And.intro hB2 hfin))
  have mixed : Tryz.prog.follows Departure.mixedOrders = true := by kernel_rfl
  have hz2 : ¬ ((0 : Int) = (n : Int)) := by omega
  have hz3 : (n : Int) < (n : Int) + 1 := by omega
  have hw1 : IntKind.i64.wrap (1 : Int) = 1 := by decide
  have hb3 : (1 : Int) ≤ (n : Int) + 1 := by omega
  have hb5 : (0 : Int) ≤ (n : Int) + 1 := by omega
  have hb6 : ¬ (G = 1) := by omega
  have hb7 : ¬ (G = 0) := by omega
  have hb8 : ¬ (n = 0) := by omega
  unfold maxLen at hGm
  have hG63 : G ≤ 9223372036854775807 := hGm
  clear hG hROW hRs hW1 hN1 hB1 hg1 hv1 hL1 hL1s hL1t hW2 hN2 hg2 hB2 hfin hold hz0 hzs hzb hi0
  go_enter Tryz.func49, Tryz.ntmps49
  go_wp2_with (first
    | (at_builtin; refine Lib.wpList_append_run _ rfl _ _ _ _ rfl _ _ rfl rfl _ _ (hrz _) ?_)
    | (at_builtin; refine wpList_copy_runI _ rfl _ _ 77 77 rfl _ _ rfl rfl (hcp1 _ _) ?_)
    | (at_builtin; refine wpList_copy_runI _ rfl _ _ 77 77 rfl _ _ rfl rfl (hcp2 _ (by rfl) _ _ _) ?_))
  go_region_law_o (refine step_copy_runI rfl _ _ 77 77 rfl (.slice (some ⟨w.heap.size, 2, none⟩) n (G - 1)) (.slice (some ⟨g, 0, none⟩) n n) (by simp [Act.eval, Act.put]) (by simp [Act.eval, Act.put]) (hcp2 _ (by rfl) _ _ _) ?_)
  go_wp2
  go_ret
  refine ⟨G, (splice L1 2 cur.toList).toArray, rfl, hGn, hGm, ?_, ?_, ?_, ?_⟩
  · exact setRow_heap _ _ L1.toArray _ 108 _ HE.out.1
  · have := HE.out.2.2.2; simpa using this
  · have := HE.out.2.2.1; simpa using this
  · have h := HE.out.2.1
    exact ⟨h.os, h.tape, h.output, Nat.le_trans h.size (by rw [hsr]; exact Nat.le_refl _), fun k hk => (setRow_other _ _ k _ (by omega)).trans (h.block k hk)⟩

theorem insert_none (v : Value) (vb base : Nat) (f : List UInt8 × List UInt8) (w : World) (hown : w.ownsRow base 108 2 v 0 []) (hv : w.heap[vb]? = some (.cells #[.string (bs f.1), .string (bs f.2)] 108 (0, 0))) (hbase : base ≤ w.heap.size) :
    Calls Tryz.prog 49 #[v, .int .i64 0, .slice (some ⟨vb, 0, none⟩) 1 1] w fun e w' => ∃ v', e = .returned v' ∧ w'.ownsRow base 108 2 v' 1 (fcells [f]) ∧ w.grownBy w' v.ownBlock := by
  obtain ⟨i0, hi, hz0, hz1, hz2⟩ := info_parts info_field
  obtain ⟨av, cv, rfl⟩ : ∃ a c, v = .slice a 0 c := by
    rcases hown.2 with ⟨rfl, -⟩ | ⟨g, cap, cur, rfl, -⟩
    · exact ⟨_, _, rfl⟩
    · exact ⟨_, _, rfl⟩
  have hO := Lib.hid hown
  have hV := Lib.hid hv
  clear hown hv
  go_enter Tryz.func49, Tryz.ntmps49
  go_wp2_with (at_builtin; go_loud (refine wpList_append_lies _ rfl _ _ 77 (by rfl) base 108 i0 _ 2 32 Tryz.underlying77 hi hz0 hz1 hz2 rfl (by decide) _ 0 [] (by rfl) hO.out ⟨vb, 0, none⟩ 1 1 [.string (bs f.1), .string (bs f.2)] (by rfl) rfl (World.news_of_block hV.out) (by simp [Value.oneCell']) (by decide) (by decide) (by decide) hbase _ rfl ?_); intro g cap w1 h1 h2 h3 h4)
  go_ret
  exact ⟨_, rfl, h1, h2⟩
/-- slices.Insert of one field ahead of all the others, the call's own -/
theorem insert_own (v : Value) (fs : List (List UInt8 × List UInt8)) (f : List UInt8 × List UInt8) (vb base : Nat) (w : World) (hown : w.ownsRow base 108 2 v fs.length (fcells fs)) (hv : w.heap[vb]? = some (.cells #[.string (bs f.1), .string (bs f.2)] 108 (0, 0))) (hne : v.ownBlock ≠ some vb) (hl : fs.length ≤ 1000000) (hbase : base ≤ w.heap.size) :
    Calls Tryz.prog 49 #[v, .int .i64 0, .slice (some ⟨vb, 0, none⟩) 1 1] w fun e w' => ∃ v', e = .returned v' ∧ w'.ownsRow base 108 2 v' (fs.length + 1) (fcells (f :: fs)) ∧ w.grownBy w' v.ownBlock := by
  by_cases hn : fs = []
  · subst hn
    exact insert_none v vb base f w hown hv hbase
  · have hpos : 0 < fs.length := List.length_pos_iff.2 hn
    have hfl := fcells_length fs
    rcases hown.2 with ⟨-, h0⟩ | ⟨g, cap, cur, rfl, hb, hg, hle, hm, hs, ht⟩
    · omega
    · have hgl : g < w.heap.size := (Array.getElem?_eq_some_iff.1 hg).1
      have hone : ∀ u ∈ cur.toList.take (fs.length * 2), u.oneCell' = true := by rw [ht]; exact fcells_one fs
      have hvg : vb ≠ g := fun e => hne (by rw [e]; rfl)
      by_cases hr : fs.length + 1 ≤ cap
      · refine (insert_room g fs.length cap vb cur _ _ w hpos hr hm hg hs hv rfl rfl hone hvg).mono ?_
        rintro e w' ⟨rfl, cur', h1, h2, h3, h4⟩
        refine ⟨_, rfl, ⟨by rw [fcells_length, List.length_cons], .inr ⟨g, cap, cur', rfl, hb, h1, hr, hm, h2, ?_⟩⟩, h4⟩
        rw [h3, ht]; rfl
      · obtain rfl : cap = fs.length := by omega
        have hfull : cur.toList.take (fs.length * 2) = cur.toList := List.take_of_length_le (by rw [Array.length_toList, hs]; exact Nat.le_refl _)
        rw [hfull] at ht hone
        refine (insert_grow g fs.length vb cur _ _ w hpos hl hg hs hv rfl rfl hone).mono ?_
        rintro e w' ⟨cap, cur', rfl, h1, h2, h3, h4, h5, h6⟩
        refine ⟨_, rfl, ⟨by rw [fcells_length, List.length_cons], .inr ⟨w.heap.size, cap, cur', rfl, hbase, h3, h1, h2, h4, ?_⟩⟩, ⟨h6.os, h6.tape, h6.output, h6.size, fun k hk _ => h6.block k hk⟩⟩
        rw [h5, ht]; rfl
end Go.Proofs.YthcomjhpjlcpdaaGreatDoor
namespace Go.Proofs.YthcomjhpjlcpdaaGreatDoor
open Go.RowKit

theorem c_trimR (s : ByteArray) (w : World) (hs : s.size ≤ 9223372036854775807) :
    Calls Tryz.prog 88 #[.string s, .string ⟨#[32, 9]⟩] w fun e w' => e = .returned (.string (bs (Go.Lib.trimRightS s.data.toList gapL))) ∧ Below w.heap.size w w' :=
  Any.strings_TrimRight_laid Tryz.lays162 (by kernel_rfl) s ⟨#[32, 9]⟩ w (by omega) (by decide) (Go.Proofs.ascii_of_all (by decide))

/-- a text of bs, whatever is told of the list -/
theorem ret_pair {x x' : ByteArray} {E E' : Int} (h : x = x') (h2 : E = E') : Ending.returned (.tuple #[.string x, .int .i64 E]) = .returned (.tuple #[.string x', .int .i64 E']) := by rw [h, h2]
theorem fieldE_not (n v : List UInt8) (h : printOk n v = false) : fieldE n v = 4 ∧ fieldS n v = [] := by
  have h1 : fieldE n v = 4 := by unfold fieldE; rw [h]; rfl
  exact ⟨h1, by unfold fieldS; rw [h1]; rfl⟩

theorem box_cells (w : World) (n v : ByteArray) (t : TypeId) : (w.alloc (.cells #[.string n, .string v] t)).cell? ⟨w.heap.size, 0, none⟩ = some (.string n) ∧ (w.alloc (.cells #[.string n, .string v] t)).cell? ⟨w.heap.size, 1, none⟩ = some (.string v) := by
  have hh := heap_alloc_new w (.cells #[.string n, .string v] t)
  exact ⟨by unfold World.cell?; rw [hh]; rfl, by unfold World.cell?; rw [hh]; rfl⟩
theorem below_box2 (w : World) (x y : Value) (t : TypeId) : Below w.heap.size w (w.alloc (.cells #[x, y] t)) := (Below.refl _ _).alloc (Nat.le_refl _) _
theorem fieldE_yes (n v : List UInt8) (h : printOk n v = true) : (256 < (printL n v).length → fieldE n v = 5 ∧ fieldS n v = []) ∧ ((printL n v).length ≤ 256 → fieldE n v = 0 ∧ fieldS n v = printL n v) := by
  constructor
  · intro hl
    have h1 : fieldE n v = 5 := by unfold fieldE; rw [h, if_pos rfl, if_pos hl]
    exact ⟨h1, by unfold fieldS; rw [h1]; rfl⟩
  · intro hl
    have h1 : fieldE n v = 0 := by unfold fieldE; rw [h, if_pos rfl, if_neg (by omega)]
    exact ⟨h1, by unfold fieldS; rw [h1]; rfl⟩

set_option maxRecDepth 100000 in
set_option maxHeartbeats 4000000 in
theorem fields_print (n v : ByteArray) (w : World) (hn : n.size ≤ 1000000) (hv : v.size ≤ 1000000) :
    Calls Tryz.prog 53 #[.agg #[.string n, .string v]] w fun e w' => e = .returned (.tuple #[.string (bs (fieldS n.data.toList v.data.toList)), .int .i64 (fieldE n.data.toList v.data.toList)]) ∧ Below w.heap.size w w' := by
  have HNm := Lib.hid (fun w => fields_name n w)
  have HPl := Lib.hid (fun w => fields_plain v w (by omega))
  have HTr := Lib.hid (fun w => c_trim v w hv)
  obtain ⟨N, hN⟩ : ∃ N, N = n.data.toList := ⟨_, rfl⟩
  obtain ⟨V, hV⟩ : ∃ V, V = v.data.toList := ⟨_, rfl⟩
  rw [← hN] at HNm
  rw [← hV] at HPl HTr
  rw [← hN, ← hV]
  have HNV := Lib.hid (And.intro hN hV)
  clear hN hV
  have box := box_cells w n v 108
  have hb0 := below_box2 w (.string n) (.string v) 108
  have hbl : w.heap.size < (w.alloc (.cells #[.string n, .string v] 108)).heap.size := by simp
  cases h1 : nameL N with
  | false =>
    have HF := Lib.hid (fieldE_not N V (by unfold printOk; rw [h1]; rfl))
    rw [h1] at HNm
    clear h1 HPl HTr
    go_enter Tryz.func53, Tryz.ntmps53
    go_wp2_with fail
    generalize hW0 : w.alloc (.cells #[.string n, .string v] 108) = W0 at box hb0 hbl ⊢
    clear hW0
    have k0 : ∀ p : BelowOf W0, p.world.cell? ⟨w.heap.size, 0, none⟩ = some (.string n) := fun p => cell_of p hbl box.1
    have k1 : ∀ p : BelowOf W0, p.world.cell? ⟨w.heap.size, 1, none⟩ = some (.string v) := fun p => cell_of p hbl box.2
    have hb0 := Lib.hid hb0
    clear box
    refine wp_region_quiet_below (by kernel_rfl) (by kernel_rfl) ?_
    repeat (go_big_quiet_step ((go_at_call 85; exact below_of (HNm.out _))))
    refine wpQuiet_nil ?_
    intro W1 hw'
    have hb1 := of_class hw'
    clear hw'
    go_wp2_with fail
    go_ret2
    exact ⟨ret_pair (by rw [HF.out.2]; rfl) (by rw [HF.out.1]; rfl), bstep hb0.out hb1⟩
  | true =>
    rw [h1] at HNm
    have hn1 := Lib.hid h1
    clear h1
    cases h2 : (V.all fun c => plainB c.toNat) with
    | false =>
      have HF := Lib.hid (fieldE_not N V (by unfold printOk plainAll; rw [h2, Bool.and_false]; rfl))
      rw [h2] at HPl
      clear h2 HTr
      go_enter Tryz.func53, Tryz.ntmps53
      go_wp2_with fail
      generalize hW0 : w.alloc (.cells #[.string n, .string v] 108) = W0 at box hb0 hbl ⊢
      clear hW0
      have k0 : ∀ p : BelowOf W0, p.world.cell? ⟨w.heap.size, 0, none⟩ = some (.string n) := fun p => cell_of p hbl box.1
      have k1 : ∀ p : BelowOf W0, p.world.cell? ⟨w.heap.size, 1, none⟩ = some (.string v) := fun p => cell_of p hbl box.2
      have hb0 := Lib.hid hb0
      clear box
      refine wp_region_quiet_below (by kernel_rfl) (by kernel_rfl) ?_
      repeat (go_big_quiet_step ((first
        | (go_at_call 85; exact below_of (HNm.out _))
        | (go_at_call 86; exact below_same (HPl.out _))
        | fail)))
      refine wpQuiet_nil ?_
      intro W1 hw'
      have hb1 := of_class hw'
      clear hw'
      go_wp2_with fail
      go_ret2
      exact ⟨ret_pair (by rw [HF.out.2]; rfl) (by rw [HF.out.1]; rfl), bstep hb0.out hb1⟩
    | true =>
      rw [h2] at HPl
      have hp1 := Lib.hid h2
      clear h2
      obtain ⟨T, hT⟩ : ∃ T, T = bs (Go.Lib.trimS V gapL) := ⟨_, rfl⟩
      rw [← hT] at HTr
      cases h3 : noGap V with
      | false =>
        have HF := Lib.hid (fieldE_not N V (by unfold printOk; rw [h3, Bool.and_false]))
        have hcmp : (v.toList == T.toList) = false := by
          rw [beq_eq_false_iff_ne, hT, ByteArray.toList_eq, ByteArray.toList_eq, bs_data, ← HNV.out.2]
          intro e
          have := (trimS_iff V).1 e.symm
          rw [h3] at this; exact absurd this (by decide)
        clear h3 hT
        go_enter Tryz.func53, Tryz.ntmps53
        go_wp2_with fail
        generalize hW0 : w.alloc (.cells #[.string n, .string v] 108) = W0 at box hb0 hbl ⊢
        clear hW0
        have k0 : ∀ p : BelowOf W0, p.world.cell? ⟨w.heap.size, 0, none⟩ = some (.string n) := fun p => cell_of p hbl box.1
        have k1 : ∀ p : BelowOf W0, p.world.cell? ⟨w.heap.size, 1, none⟩ = some (.string v) := fun p => cell_of p hbl box.2
        have hb0 := Lib.hid hb0
        clear box
        refine wp_region_quiet_below (by kernel_rfl) (by kernel_rfl) ?_
        repeat (go_big_quiet_step ((first
          | (go_at_call 85; exact below_of (HNm.out _))
          | (go_at_call 86; exact below_same (HPl.out _))
          | (go_at_call 87; exact below_of (HTr.out _)))))
        refine wpQuiet_nil ?_
        intro W1 hw'
        have hb1 := of_class hw'
        clear hw'
        go_wp2_with fail
        go_ret2
        exact ⟨ret_pair (by rw [HF.out.2]; rfl) (by rw [HF.out.1]; rfl), bstep hb0.out hb1⟩
      | true =>
        have hok : printOk N V = true := by unfold printOk; rw [hn1.out, h3]; rw [show plainAll V = true from hp1.out]; rfl
        have HF := Lib.hid (fieldE_yes N V hok)
        have hcmp : (v.toList == T.toList) = true := by
          rw [beq_iff_eq, hT, ByteArray.toList_eq, ByteArray.toList_eq, bs_data, ← HNV.out.2]
          exact ((trimS_iff V).2 h3).symm
        have hna := nameL_all N hn1.out
        have HTi := Lib.hid (fun w => fields_titled n w hn (fun j hj => by
          have := namedN_bd _ (hna.1 n[j] (by rw [HNV.out.1]; exact List.getElem_mem (by rw [size_len]; exact hj)))
          omega))
        obtain ⟨A, hA⟩ : ∃ A, A = bs (titL true n.data.toList) := ⟨_, rfl⟩
        have hAs : A.size ≤ 32 := by rw [hA, bs_size, titL_len, ← HNV.out.1]; exact hna.2.2
        have hs3 : (A ++ ⟨#[58, 32]⟩ ++ v).size ≤ 9223372036854775807 := by rw [ByteArray.size_append, ByteArray.size_append]; show A.size + 2 + v.size ≤ _; omega
        have HTR := Lib.hid (fun w => c_trimR (A ++ ⟨#[58, 32]⟩ ++ v) w hs3)
        obtain ⟨R, hR⟩ : ∃ R, R = bs (Go.Lib.trimRightS (A ++ ⟨#[58, 32]⟩ ++ v).data.toList gapL) := ⟨_, rfl⟩
        have hRv : R = bs (printL N V) := by
          rw [hR, data_cat, data_cat, hA, bs_data, ← HNV.out.1, ← HNV.out.2]
          exact congrArg bs (trimR_print (titL true N) V h3)
        have hRs : R.size = (printL N V).length := by rw [hRv, bs_size]
        rw [← hA] at HTi
        rw [← hR] at HTR
        have HRv := Lib.hid hRv
        have hc1 : A.size + 2 ≤ 9223372036854775807 := by omega
        have hc2 : A.size + 2 + v.size ≤ 9223372036854775807 := by omega
        clear h3 hT hna hok hA hR hRv
        by_cases hlong : 256 < R.size
        · have HF5 := Lib.hid (HF.out.1 (by rw [← hRs]; exact hlong))
          have tl : decide ((R.size : Int) > 256) = true := decide_eq_true (by omega)
          clear hRs
          go_enter Tryz.func53, Tryz.ntmps53
          go_wp2_with fail
          generalize hW0 : w.alloc (.cells #[.string n, .string v] 108) = W0 at box hb0 hbl ⊢
          clear hW0
          have k0 : ∀ p : BelowOf W0, p.world.cell? ⟨w.heap.size, 0, none⟩ = some (.string n) := fun p => cell_of p hbl box.1
          have k1 : ∀ p : BelowOf W0, p.world.cell? ⟨w.heap.size, 1, none⟩ = some (.string v) := fun p => cell_of p hbl box.2
          have hb0 := Lib.hid hb0
          clear box
          refine wp_region_quiet_below (by kernel_rfl) (by kernel_rfl) ?_
          repeat (go_big_quiet_step ((first
            | (go_at_call 85; exact below_of (HNm.out _))
            | (go_at_call 86; exact below_same (HPl.out _))
            | (go_at_call 87; exact below_of (HTr.out _)))))
          refine wpQuiet_nil ?_
          intro W1 hw'
          have hb1 := of_class hw'
          clear hw'
          go_wp2_with fail
          have k0 : ∀ p : BelowOf W1, p.world.cell? ⟨w.heap.size, 0, none⟩ = some (.string n) := fun p => (cell_of p (Nat.lt_of_lt_of_le hbl hb1.size) (k0 ⟨W1, hb1⟩))
          have k1 : ∀ p : BelowOf W1, p.world.cell? ⟨w.heap.size, 1, none⟩ = some (.string v) := fun p => (cell_of p (Nat.lt_of_lt_of_le hbl hb1.size) (k1 ⟨W1, hb1⟩))
          refine wp_region_quiet_below (by kernel_rfl) (by kernel_rfl) ?_
          repeat (go_big_quiet_step ((first
            | (go_at_call 89; exact below_of (HTi.out _))
            | (go_at_call 88; exact below_of (HTR.out _)))))
          refine wpQuiet_nil ?_
          intro W2 hw'
          have hb2 := of_class hw'
          clear hw'
          go_wp2_with fail
          go_ret2
          exact ⟨ret_pair (by rw [HF5.out.2]; rfl) (by rw [HF5.out.1]; rfl), bstep hb0.out (bstep hb1 hb2)⟩
        · have HF0 := Lib.hid (HF.out.2 (by rw [← hRs]; omega))
          have tl : decide ((R.size : Int) > 256) = false := decide_eq_false (by omega)
          clear hRs
          go_enter Tryz.func53, Tryz.ntmps53
          go_wp2_with fail
          generalize hW0 : w.alloc (.cells #[.string n, .string v] 108) = W0 at box hb0 hbl ⊢
          clear hW0
          have k0 : ∀ p : BelowOf W0, p.world.cell? ⟨w.heap.size, 0, none⟩ = some (.string n) := fun p => cell_of p hbl box.1
          have k1 : ∀ p : BelowOf W0, p.world.cell? ⟨w.heap.size, 1, none⟩ = some (.string v) := fun p => cell_of p hbl box.2
          have hb0 := Lib.hid hb0
          clear box
          refine wp_region_quiet_below (by kernel_rfl) (by kernel_rfl) ?_
          repeat (go_big_quiet_step ((first
            | (go_at_call 85; exact below_of (HNm.out _))
            | (go_at_call 86; exact below_same (HPl.out _))
            | (go_at_call 87; exact below_of (HTr.out _)))))
          refine wpQuiet_nil ?_
          intro W1 hw'
          have hb1 := of_class hw'
          clear hw'
          go_wp2_with fail
          have k0 : ∀ p : BelowOf W1, p.world.cell? ⟨w.heap.size, 0, none⟩ = some (.string n) := fun p => (cell_of p (Nat.lt_of_lt_of_le hbl hb1.size) (k0 ⟨W1, hb1⟩))
          have k1 : ∀ p : BelowOf W1, p.world.cell? ⟨w.heap.size, 1, none⟩ = some (.string v) := fun p => (cell_of p (Nat.lt_of_lt_of_le hbl hb1.size) (k1 ⟨W1, hb1⟩))
          refine wp_region_quiet_below (by kernel_rfl) (by kernel_rfl) ?_
          repeat (go_big_quiet_step ((first
            | (go_at_call 89; exact below_of (HTi.out _))
            | (go_at_call 88; exact below_of (HTR.out _)))))
          refine wpQuiet_nil ?_
          intro W2 hw'
          have hb2 := of_class hw'
          clear hw'
          go_wp2_with fail
          go_ret2
          exact ⟨ret_pair (by rw [HF0.out.2, HRv.out]) (by rw [HF0.out.1]; rfl), bstep hb0.out (bstep hb1 hb2)⟩
end Go.Proofs.YthcomjhpjlcpdaaGreatDoor
