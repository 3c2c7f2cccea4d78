/- Plain words: what an origin answers (no program in sight). The law FaultTells. The law function ReplyLays. The law function ReplyTakes. The law function ReplyBack. What FaultKeeps asks, in bytes; a text cut at its ends of lines. Plain words on connections: what is answered to bytes, whatever the pieces (no program in sight). Plain words on links: what comes back, and what the log has (no program in sight). Blocks that a call touches; rows of bytes. (The same as PoolMem's first part: never import both.) What Clip and Told of package ranges, and of its reference, return. What wrong and Told of package ranges, and Told of its reference, return. What Check and sort of package origin, and the replies of both sorts, return. What Answer and Code of package origin return. -/
import Derived.Test.YtbdmmgmcbecolaaGreatDoorPu11
import Derived.Deep.RegionHeld3
import Derived.Lib.AppendStr
import Derived.Deep.AppendLies
set_option linter.unusedVariables false
set_option linter.unusedSimpArgs false
namespace Go.Proofs.YtbdmmgmcbecolaaGreatDoor
open Go.RowKit
/-- may an origin be? -/
def orgE (h p : List UInt8) : Nat := if pathB p = false ∨ hostB h = false then 2 else 0
theorem orgE_asks (h p : List UInt8) : aErr p h 0 0 = orgE h p := by
  unfold aErr orgE
  split
  · rfl
  · decide
/-- the code of what a server of the file f answers to s -/
def orgC (h p f : List UInt8) (s : ByteArray) : Int :=
  if askE s ≠ 0 ∨ askN s < (s.size : Int) then 400
  else if askPath s ≠ p ∨ askHost s ≠ h then 404
  else if clipE (askA s) (askB s) (f.length : Int) ≠ 0 then 416 else 206
def orgA (f : List UInt8) (s : ByteArray) : Int := clipA (askA s) (askB s) (f.length : Int)
def orgB (f : List UInt8) (s : ByteArray) : Int := clipB (askA s) (askB s) (f.length : Int)
def orgF (h p f : List UInt8) (s : ByteArray) : List (List UInt8 × List UInt8) := if orgC h p f s = 206 then [(crangeK, toldL (orgA f s) (orgB f s) (f.length : Int))] else []
def orgY (h p f : List UInt8) (s : ByteArray) : List UInt8 := if orgC h p f s = 206 then (f.take (orgB f s + 1).toNat).drop (orgA f s).toNat else []
def orgS (h p f : List UInt8) (s : ByteArray) : List UInt8 := if orgE h p = 0 then repS (orgC h p f s) (orgF h p f s) (orgY h p f s) else []
theorem orgC_four (h p f : List UInt8) (s : ByteArray) : orgC h p f s = 400 ∨ orgC h p f s = 404 ∨ orgC h p f s = 416 ∨ orgC h p f s = 206 := by
  unfold orgC
  split
  · exact .inl rfl
  · split
    · exact .inr (.inl rfl)
    · split
      · exact .inr (.inr (.inl rfl))
      · exact .inr (.inr (.inr rfl))
theorem orgC_206 (h p f : List UInt8) (s : ByteArray) (hc : orgC h p f s = 206) : askE s = 0 ∧ (s.size : Int) ≤ askN s ∧ askPath s = p ∧ askHost s = h ∧ clipE (askA s) (askB s) (f.length : Int) = 0 := by
  unfold orgC at hc
  split at hc
  · exact absurd hc (by decide)
  · split at hc
    · exact absurd hc (by decide)
    · split at hc
      · exact absurd hc (by decide)
      · rename_i h1 h2 h3
        rw [not_or] at h1 h2
        exact ⟨Decidable.not_not.1 h1.1, by omega, Decidable.not_not.1 h2.1, Decidable.not_not.1 h2.2, Decidable.not_not.1 h3⟩
theorem orgF_other (h p f : List UInt8) (s : ByteArray) (hc : orgC h p f s ≠ 206) : orgF h p f s = [] ∧ orgY h p f s = [] := by
  unfold orgF orgY
  rw [if_neg hc, if_neg hc]
  exact ⟨rfl, rfl⟩
theorem orgF_bd (h p f : List UInt8) (s : ByteArray) : (orgF h p f s).length ≤ 1 ∧ ∀ x ∈ orgF h p f s, x.1.length ≤ 1000000 ∧ x.2.length ≤ 1000000 := by
  unfold orgF
  split
  · refine ⟨Nat.le_refl _, fun x hx => ?_⟩
    obtain rfl := List.mem_singleton.1 hx
    exact ⟨by show crangeK.length ≤ 1000000; decide, Nat.le_trans (toldL_len _ _ _) (by decide)⟩
  · exact ⟨Nat.zero_le _, fun x hx => by cases hx⟩
theorem orgY_len (h p f : List UInt8) (s : ByteArray) : (orgY h p f s).length ≤ f.length := by
  unfold orgY
  split
  · rw [List.length_drop]
    have := List.length_take_le (orgB f s + 1).toNat f
    have := List.length_take_le' (orgB f s + 1).toNat f
    omega
  · exact Nat.zero_le _
theorem err_four (c : Int) (h : c = 400 ∨ c = 404 ∨ c = 416 ∨ c = 206) : printErr c = 0 := by
  rcases h with rfl | rfl | rfl | rfl <;> decide
/-- what is answered may be laid -/
theorem org_good (h p f : List UInt8) (s : ByteArray) (hf : f.length ≤ 1000000) : repE (orgC h p f s) (orgF h p f s) = 0 := by
  unfold repE
  rw [if_neg (by rw [err_four _ (orgC_four h p f s)]; decide)]
  by_cases hc : orgC h p f s = 206
  · obtain ⟨-, -, -, -, h5⟩ := orgC_206 h p f s hc
    have ht := clip_told _ _ _ h5 (by omega)
    have hfe := told_field _ _ _ ht
    unfold orgF
    rw [if_pos hc, if_neg (by simp)]
    show (if crangeK = clen then 22 else if fieldE crangeK (toldL (orgA f s) (orgB f s) (f.length : Int)) ≠ 0 then fieldE crangeK (toldL (orgA f s) (orgB f s) (f.length : Int)) else ownE []) = 0
    unfold orgA orgB
    rw [if_neg (by decide), hfe]
    rfl
  · rw [(orgF_other h p f s hc).1, if_neg (by simp)]
    rfl
theorem orgS_eq (h p f : List UInt8) (s : ByteArray) (hf : f.length ≤ 1000000) (he : orgE h p = 0) : orgS h p f s = repL (orgC h p f s) (orgF h p f s) (orgY h p f s) := by
  unfold orgS repS
  rw [if_pos he, if_pos (org_good h p f s hf)]
end Go.Proofs.YtbdmmgmcbecolaaGreatDoor
namespace Go.Proofs.YtbdmmgmcbecolaaGreatDoor
open Go.RowKit
end Go.Proofs.YtbdmmgmcbecolaaGreatDoor
namespace Go.Proofs.YtbdmmgmcbecolaaGreatDoor
open Go.RowKit
/-- a reply of the document's that lies in a block -/
structure QAt (w : World) (b : Nat) (c : Int) (v : Value) (fs : List (List UInt8 × List UInt8)) (x : ByteArray) : Prop where
  blk : w.heap[b]? = some (.cells #[.int .i64 c, v, .string x] 79 (0, 0))
  hold : HoldsF w v fs
theorem QAt.lt {w : World} {b : Nat} {c : Int} {v : Value} {fs : List (List UInt8 × List UInt8)} {x : ByteArray} (h : QAt w b c v fs x) : b < w.heap.size := (Array.getElem?_eq_some_iff.1 h.blk).1
theorem QAt.below {w w' : World} {b : Nat} {c : Int} {v : Value} {fs : List (List UInt8 × List UInt8)} {x : ByteArray} (h : QAt w b c v fs x) (hb : Below w.heap.size w w') : QAt w' b c v fs x :=
  ⟨(hb.block b h.lt).trans h.blk, h.hold.below hb⟩
theorem QAt.new {w : World} {c : Int} {v : Value} {fs : List (List UInt8 × List UInt8)} {x : ByteArray} (h : HoldsF w v fs) :
    QAt (w.alloc (.cells #[.int .i64 c, v, .string x] 79)) w.heap.size c v fs x :=
  ⟨heap_alloc_new w _, h.below ((Below.refl _ _).alloc (Nat.le_refl _) _)⟩
theorem QAt.alloc {w : World} {b : Nat} {c : Int} {v : Value} {fs : List (List UInt8 × List UInt8)} {x : ByteArray} (h : QAt w b c v fs x) (o : Obj) : QAt (w.alloc o) b c v fs x := h.below ((Below.refl _ _).alloc (Nat.le_refl _) o)
theorem QAt.cells {w : World} {b : Nat} {c : Int} {v : Value} {fs : List (List UInt8 × List UInt8)} {x : ByteArray} (h : QAt w b c v fs x) : w.cell? ⟨b, 0, none⟩ = some (.int .i64 c) ∧ w.cell? ⟨b, 1, none⟩ = some v ∧ w.cell? ⟨b, 2, none⟩ = some (.string x) :=
  let ⟨h0, h1, h2, _⟩ := three_facts h.blk; ⟨h0, h1, h2⟩
end Go.Proofs.YtbdmmgmcbecolaaGreatDoor
namespace Go.Proofs.YtbdmmgmcbecolaaGreatDoor
open Go.RowKit
theorem takF_len (s : ByteArray) (most : Int) : (takF s most).length ≤ 17 := by
  unfold takF
  split
  · refine Nat.le_trans (restF_len _) ?_
    unfold fldL
    rw [List.length_map, List.length_tail]
    have := (headOf_bound s).2
    omega
  · exact Nat.zero_le _
theorem PAt.cells {w : World} {b : Nat} {c : Int} {a : Option Addr} {n cp : Nat} {fs : List (List UInt8 × List UInt8)} {x : ByteArray} (h : PAt w b c a n cp fs x) : w.cell? ⟨b, 0, none⟩ = some (.int .i64 c) ∧ w.cell? ⟨b, 1, none⟩ = some (.slice a n cp) ∧ w.cell? ⟨b, 2, none⟩ = some (.string x) :=
  let ⟨h0, h1, h2, _⟩ := three_facts h.blk; ⟨h0, h1, h2⟩
end Go.Proofs.YtbdmmgmcbecolaaGreatDoor
namespace Go.Proofs.YtbdmmgmcbecolaaGreatDoor
open Go.RowKit
theorem body_len (ls : List (List UInt8)) (h : ∀ x ∈ ls, x.length ≤ 256) : (body ls).length ≤ ls.length * 258 := by
  induction ls with
  | nil => exact Nat.le_refl _
  | cons x t ih =>
    have h1 := h x (List.mem_cons_self ..)
    have h2 := ih (fun y hy => h y (List.mem_cons_of_mem _ hy))
    show (x ++ 13 :: 10 :: body t).length ≤ (t.length + 1) * 258
    rw [List.length_append, List.length_cons, List.length_cons]; omega
theorem repL_len (c : Int) (fs : List (List UInt8 × List UInt8)) (b : List UInt8) (h : repE c fs = 0) (hn : b.length ≤ 1000000) : (repL c fs b).length ≤ 4400 + b.length ∧ 2 ≤ (repL c fs b).length := by
  obtain ⟨g1, g2⟩ := good_lines c fs b.length h hn
  have := body_len (repLines c fs b.length) (fun x hx => (g1 x hx).2.2)
  unfold repL
  rw [List.length_append, List.length_cons, List.length_cons]; omega
end Go.Proofs.YtbdmmgmcbecolaaGreatDoor
namespace Go.Proofs.YtbdmmgmcbecolaaGreatDoor
open Go.RowKit
theorem drop_take {α : Type} (a b : List α) (n : Nat) (h : n = a.length) : (a ++ b).drop n = b := by subst h; exact List.drop_left
theorem putF_len (s : ByteArray) (k : Nat) (x : List UInt8) : (putF s k x).length ≤ s.size + x.length := by
  unfold putF
  rw [List.length_append, List.length_append, List.length_take, List.length_drop, size_len]
  omega
theorem applyF_len (k n : Int) (t : List UInt8) (s : ByteArray) : (applyF k n t s).length ≤ s.size + t.length + 200 := by
  have hc := cleanL_len t
  have hp : (printOf n).data.toList.length ≤ 100 := by rw [size_len]; exact printOf_size n
  have hs : s.data.toList.length = s.size := size_len s
  unfold applyF
  by_cases k1 : k = 1
  · rw [if_pos k1]; simp
  rw [if_neg k1]
  by_cases k2 : k = 2
  · rw [if_pos k2, List.length_take]; omega
  rw [if_neg k2]
  by_cases hb : (headOf s).2.2 ≠ 0 ∨ (headOf s).1 = []
  · rw [if_pos hb]; omega
  rw [if_neg hb]
  by_cases k3 : k = 3
  · rw [if_pos k3]
    by_cases hp2 : printErr n ≠ 0
    · rw [if_pos hp2]; omega
    · rw [if_neg hp2]; have := putF_len s 0 (printOf n).data.toList; omega
  rw [if_neg k3]
  by_cases k5 : k = 5
  · rw [if_pos k5]
    by_cases hl : (headOf s).1.length < 2
    · rw [if_pos hl]; omega
    · rw [if_neg hl]; have := putF_len s 1 (cleanL t); omega
  rw [if_neg k5]
  by_cases k4 : k = 4
  · rw [if_pos k4]
    cases placeF crangeN (headOf s).1 0 with
    | none => simp only; omega
    | some i =>
      have := putF_len s i (crangeF ++ cleanL t)
      rw [List.length_append, show crangeF.length = 15 from rfl] at this
      simp only
      omega
  rw [if_neg k4]; omega
end Go.Proofs.YtbdmmgmcbecolaaGreatDoor
namespace Go.Proofs.YtbdmmgmcbecolaaGreatDoor
open Go.RowKit

/-- what is answered to bytes, what is left, how many answers, whether it is closed -/
def srvR (h p f : List UInt8) : Nat → List UInt8 → List UInt8 × List UInt8 × Nat × Bool
  | 0, l => ([], l, 0, false)
  | k + 1, l => if askE (bs l) = 0 then (orgS h p f (bs (l.take (askN (bs l)).toNat)) ++ (srvR h p f k (l.drop (askN (bs l)).toNat)).1, (srvR h p f k (l.drop (askN (bs l)).toNat)).2.1, (srvR h p f k (l.drop (askN (bs l)).toNat)).2.2.1 + 1, (srvR h p f k (l.drop (askN (bs l)).toNat)).2.2.2) else if askE (bs l) = 3 then ([], l, 0, false) else (orgS h p f (bs l), [], 1, true)
def srvOf (h p f : List UInt8) (l : List UInt8) : List UInt8 × List UInt8 × Nat × Bool := srvR h p f (l.length + 1) l
theorem ask_n (l : List UInt8) (h : askE (bs l) = 0) : 1 ≤ (askN (bs l)).toNat ∧ (askN (bs l)).toNat ≤ l.length ∧ askN (bs l) = ((askN (bs l)).toNat : Int) := by
  obtain ⟨-, h2, h3, -⟩ := ask_again (bs l) h
  rw [bs_size] at h3
  omega
theorem srvR_more (h p f : List UInt8) : ∀ (k : Nat) (l : List UInt8), l.length < k → srvR h p f k l = srvR h p f (k + 1) l := by
  intro k
  induction k with
  | zero => intro l hl; exact absurd hl (Nat.not_lt_zero _)
  | succ k ih =>
    intro l hl
    rw [srvR, srvR]
    by_cases h0 : askE (bs l) = 0
    · rw [if_pos h0, if_pos h0]
      obtain ⟨n1, n2, n3⟩ := ask_n l h0
      rw [ih (l.drop (askN (bs l)).toNat) (by rw [List.length_drop]; omega)]
    · rw [if_neg h0, if_neg h0]
theorem srvR_all (h p f : List UInt8) (l : List UInt8) (k : Nat) (hl : l.length < k) : srvR h p f k l = srvOf h p f l := by
  unfold srvOf
  obtain ⟨j, rfl⟩ : ∃ j, k = l.length + 1 + j := ⟨k - (l.length + 1), by omega⟩
  clear hl
  induction j with
  | zero => rfl
  | succ j ih => rw [← ih, show l.length + 1 + (j + 1) = l.length + 1 + j + 1 by omega, ← srvR_more h p f _ l (by omega)]
theorem srv_more (h p f : List UInt8) (l : List UInt8) (h0 : askE (bs l) = 0) : srvOf h p f l = (orgS h p f (bs (l.take (askN (bs l)).toNat)) ++ (srvOf h p f (l.drop (askN (bs l)).toNat)).1, (srvOf h p f (l.drop (askN (bs l)).toNat)).2.1, (srvOf h p f (l.drop (askN (bs l)).toNat)).2.2.1 + 1, (srvOf h p f (l.drop (askN (bs l)).toNat)).2.2.2) := by
  obtain ⟨n1, n2, n3⟩ := ask_n l h0
  have e := srvR_all h p f (l.drop (askN (bs l)).toNat) l.length (by rw [List.length_drop]; omega)
  unfold srvOf at e ⊢
  rw [srvR, if_pos h0, e]
theorem orgS_len (h p f : List UInt8) (s : ByteArray) (hf : f.length ≤ 1000000) : (orgS h p f s).length ≤ 4400 + f.length := by
  by_cases he : orgE h p = 0
  · rw [orgS_eq h p f s hf he]
    have h1 := orgY_len h p f s
    have h2 := (repL_len _ _ (orgY h p f s) (org_good h p f s hf) (by omega)).1
    omega
  · unfold orgS; rw [if_neg he]; exact Nat.zero_le _
end Go.Proofs.YtbdmmgmcbecolaaGreatDoor
namespace Go.Proofs.YtbdmmgmcbecolaaGreatDoor
open Go.RowKit
/-- a fault: its kind, number and text; a request's event -/
abbrev Flt := Int × Int × ByteArray
abbrev Evt := Int × Int × Bool
def noF : Flt := (0, 0, ⟨#[]⟩)
def wholeK (h p f s : ByteArray) : ByteArray := bs (orgS h.data.toList p.data.toList f.data.toList s)
def gotK (h p f : ByteArray) (x : Flt) (s : ByteArray) : ByteArray := bs (applyF x.1 x.2.1 x.2.2.data.toList (wholeK h p f s))
def hurtK (h p f : ByteArray) (x : Flt) (s : ByteArray) : Bool := harmF x.1 x.2.1 x.2.2.data.toList (wholeK h p f s)
def evK (h p f : ByteArray) (x : Flt) (s : ByteArray) : Evt := ((s.size : Int), ((gotK h p f x s).size : Int), hurtK h p f x s)
def oneK (b : Bool) : Nat := if b = true then 1 else 0
theorem hurt_eq (h p f : ByteArray) (x : Flt) (s : ByteArray) : hurtK h p f x s = !((gotK h p f x s).toList == (wholeK h p f s).toList) := by
  unfold hurtK gotK harmF
  rw [ByteArray.toList_eq, ByteArray.toList_eq, bs_data]
  by_cases e : applyF x.1 x.2.1 x.2.2.data.toList (wholeK h p f s) = (wholeK h p f s).data.toList
  · rw [e]; simp
  · rw [decide_eq_true e, beq_eq_false_iff_ne.2 e]; rfl
theorem whole_size (h p f s : ByteArray) (hf : f.size ≤ 1000000) : (wholeK h p f s).size ≤ 4400 + f.size := by
  unfold wholeK
  rw [bs_size]
  have := orgS_len h.data.toList p.data.toList f.data.toList s (by rw [size_len]; exact hf)
  rw [size_len] at this
  exact this
theorem got_size (h p f : ByteArray) (x : Flt) (s : ByteArray) (hf : f.size ≤ 1000000) : (gotK h p f x s).size ≤ 4600 + f.size + x.2.2.size := by
  unfold gotK
  rw [bs_size]
  have h1 := applyF_len x.1 x.2.1 x.2.2.data.toList (wholeK h p f s)
  have h2 := whole_size h p f s hf
  rw [size_len] at h1
  omega
/-- a link's state behind some requests -/
def restK (l : List Flt) (asks : List ByteArray) : List Flt := l.drop asks.length
def logK (h p f : ByteArray) : List Flt → List ByteArray → List Evt
  | _, [] => []
  | l, s :: t => evK h p f (l.headD noF) s :: logK h p f l.tail t
def harmsK (l : List Evt) : Nat := l.countP (fun e => e.2.2)
theorem logK_snoc (h p f : ByteArray) : ∀ (asks : List ByteArray) (l : List Flt) (s : ByteArray), logK h p f l (asks ++ [s]) = logK h p f l asks ++ [evK h p f ((restK l asks).headD noF) s] := by
  intro asks
  induction asks with
  | nil => intro l s; rfl
  | cons a t ih =>
    intro l s
    have h1 : restK l (a :: t) = restK l.tail t := by
      unfold restK
      rw [List.length_cons, List.drop_tail]
    show evK h p f (l.headD noF) a :: logK h p f l.tail (t ++ [s]) = evK h p f (l.headD noF) a :: logK h p f l.tail t ++ [_]
    rw [ih, h1]
    rfl
theorem harmsK_snoc (l : List Evt) (e : Evt) : harmsK (l ++ [e]) = harmsK l + oneK e.2.2 := by
  unfold harmsK oneK
  rw [List.countP_append]
  congr 1
  cases h : e.2.2 <;> simp [h]
/-- the cells of faults and of events -/
def flts (l : List Flt) : List Value := l.flatMap fun x => [.int .u8 x.1, .int .i64 x.2.1, .string x.2.2]
def evs (l : List Evt) : List Value := l.flatMap fun e => [.int .i64 e.1, .int .i64 e.2.1, .bool e.2.2]
theorem flts_length (l : List Flt) : (flts l).length = l.length * 3 := by
  induction l with
  | nil => rfl
  | cons x t ih =>
    unfold flts at ih ⊢
    rw [List.flatMap_cons, List.length_append, ih, List.length_cons]
    simp only [List.length_cons, List.length_nil]
    omega
theorem evs_length (l : List Evt) : (evs l).length = l.length * 3 := by
  induction l with
  | nil => rfl
  | cons x t ih =>
    unfold evs at ih ⊢
    rw [List.flatMap_cons, List.length_append, ih, List.length_cons]
    simp only [List.length_cons, List.length_nil]
    omega
theorem flts_append (a b : List Flt) : flts (a ++ b) = flts a ++ flts b := by simp [flts]
theorem evs_append (a b : List Evt) : evs (a ++ b) = evs a ++ evs b := by simp [evs]
theorem flts_get (l : List Flt) : ∀ (j : Nat) (hj : j < l.length), (flts l)[3 * j]? = some (.int .u8 l[j].1) ∧ (flts l)[3 * j + 1]? = some (.int .i64 l[j].2.1) ∧ (flts l)[3 * j + 2]? = some (.string l[j].2.2) := by
  induction l with
  | nil => intro j hj; simp at hj
  | cons x t ih =>
    intro j hj
    cases j with
    | zero => exact ⟨rfl, rfl, rfl⟩
    | succ j =>
      obtain ⟨a, b, c⟩ := ih j (by simpa using hj)
      refine ⟨?_, ?_, ?_⟩
      · rw [show 3 * (j + 1) = 3 * j + 3 by omega]; exact a
      · rw [show 3 * (j + 1) + 1 = 3 * j + 1 + 3 by omega]; exact b
      · rw [show 3 * (j + 1) + 2 = 3 * j + 2 + 3 by omega]; exact c
theorem evs_get (l : List Evt) : ∀ (j : Nat) (hj : j < l.length), (evs l)[3 * j]? = some (.int .i64 l[j].1) ∧ (evs l)[3 * j + 1]? = some (.int .i64 l[j].2.1) ∧ (evs l)[3 * j + 2]? = some (.bool l[j].2.2) := by
  induction l with
  | nil => intro j hj; simp at hj
  | cons x t ih =>
    intro j hj
    cases j with
    | zero => exact ⟨rfl, rfl, rfl⟩
    | succ j =>
      obtain ⟨a, b, c⟩ := ih j (by simpa using hj)
      refine ⟨?_, ?_, ?_⟩
      · rw [show 3 * (j + 1) = 3 * j + 3 by omega]; exact a
      · rw [show 3 * (j + 1) + 1 = 3 * j + 1 + 3 by omega]; exact b
      · rw [show 3 * (j + 1) + 2 = 3 * j + 2 + 3 by omega]; exact c
end Go.Proofs.YtbdmmgmcbecolaaGreatDoor
namespace Go.Proofs.YtbdmmgmcbecolaaGreatDoor
open Go.RowKit
/-- w' is w but for blocks of which S holds, and new ones -/
structure Touch (S : Nat → Prop) (w w' : World) : Prop where
  os : w'.os = w.os
  tape : w'.tape = w.tape
  output : w'.output = w.output
  size : w.heap.size ≤ w'.heap.size
  block : ∀ k, k < w.heap.size → ¬ S k → w'.heap[k]? = w.heap[k]?
theorem Touch.refl (S : Nat → Prop) (w : World) : Touch S w w := ⟨rfl, rfl, rfl, Nat.le_refl _, fun _ _ _ => rfl⟩
theorem Touch.trans {S S' : Nat → Prop} {a b c : World} (h : Touch S a b) (k : Touch S' b c) (hS : ∀ g, S' g → S g ∨ a.heap.size ≤ g) : Touch S a c :=
  ⟨k.os.trans h.os, k.tape.trans h.tape, k.output.trans h.output, Nat.le_trans h.size k.size, fun i hi hn =>
    (k.block i (Nat.lt_of_lt_of_le hi h.size) (fun hs => (hS i hs).elim hn (fun h2 => by omega))).trans (h.block i hi hn)⟩
theorem Touch.of_below {S : Nat → Prop} {w w' : World} (h : Below w.heap.size w w') : Touch S w w' := ⟨h.os, h.tape, h.output, h.size, fun k hk _ => h.block k hk⟩
theorem Touch.of_grown {S : Nat → Prop} {w w' : World} {row : Option Nat} (h : w.grownBy w' row) (hr : ∀ g, row = some g → S g ∨ w.heap.size ≤ g) : Touch S w w' :=
  ⟨h.os, h.tape, h.output, h.size, fun k hk hn => h.block k hk (fun e => (hr k e.symm).elim hn (fun h2 => by omega))⟩
theorem Touch.mono {S S' : Nat → Prop} {w w' : World} (h : Touch S w w') (hS : ∀ g, S g → S' g) : Touch S' w w' := ⟨h.os, h.tape, h.output, h.size, fun k hk hn => h.block k hk (fun hs => hn (hS k hs))⟩
theorem Touch.below {S : Nat → Prop} {B : Nat} {w w' : World} (h : Touch S w w') (hS : ∀ g, S g → B ≤ g) (hB : B ≤ w.heap.size) : Below B w w' :=
  ⟨h.os, h.tape, h.output, h.size, fun k hk => h.block k (by omega) (fun hs => by have := hS k hs; omega)⟩

/-- a row that stands in its block is owned in every world that has that block -/
theorem own_of_block {w w' : World} {base : Nat} {e : TypeId} {size : Nat} {v : Value} {n : Nat} {xs : List Value} (h : w.ownsRow base e size v n xs) (hb : ∀ g, v.ownBlock = some g → w'.heap[g]? = w.heap[g]?) : w'.ownsRow base e size v n xs := by
  refine ⟨h.1, ?_⟩
  rcases h.2 with hn | ⟨g, cap, cur, rfl, hg, hgg, rest⟩
  · exact .inl hn
  · refine .inr ⟨g, cap, cur, rfl, hg, ?_, rest⟩
    rw [hb g rfl]; exact hgg
theorem own_kept {w w' : World} {S : Nat → Prop} {base : Nat} {e : TypeId} {size : Nat} {v : Value} {n : Nat} {xs : List Value} (h : w.ownsRow base e size v n xs) (ht : Touch S w w') (hn : ∀ g, v.ownBlock = some g → ¬ S g) : w'.ownsRow base e size v n xs :=
  own_of_block h (fun g hg => ht.block g (h.lt g hg).2 (hn g hg))
/-- the block of an owned row bears its element's type -/
theorem own_tag {w : World} {base : Nat} {e : TypeId} {size : Nat} {v : Value} {n : Nat} {xs : List Value} (h : w.ownsRow base e size v n xs) (g : Nat) (hg : v.ownBlock = some g) : ∃ cur, w.heap[g]? = some (.cells cur e (0, 0)) := by
  rcases h.2 with ⟨rfl, _⟩ | ⟨g', cap, cur, rfl, _, hgg, _⟩
  · cases hg
  · obtain rfl : g' = g := by simpa [Value.ownBlock] using hg
    exact ⟨cur, hgg⟩
theorem own_apart {w : World} {b1 b2 : Nat} {e1 e2 : TypeId} {s1 s2 n1 n2 : Nat} {v1 v2 : Value} {x1 x2 : List Value} (h1 : w.ownsRow b1 e1 s1 v1 n1 x1) (h2 : w.ownsRow b2 e2 s2 v2 n2 x2) (hne : e1 ≠ e2) : v1.ownBlock = none ∨ v1.ownBlock ≠ v2.ownBlock := by
  cases hv : v1.ownBlock with
  | none => exact .inl rfl
  | some g =>
    refine .inr (fun e => ?_)
    obtain ⟨c1, k1⟩ := own_tag h1 g hv
    obtain ⟨c2, k2⟩ := own_tag h2 g e.symm
    rw [k1] at k2
    simp only [Option.some.injEq, Obj.cells.injEq] at k2
    exact hne k2.2.1
theorem own_not_row {w : World} {b1 : Nat} {e1 : TypeId} {s1 n1 : Nat} {v1 : Value} {x1 : List Value} (h1 : w.ownsRow b1 e1 s1 v1 n1 x1) {b : Nat} {cs : Array Value} {t : TypeId} {m : Nat × Nat} (hb : w.heap[b]? = some (.cells cs t m)) (hne : e1 ≠ t) : v1.ownBlock ≠ some b := fun hv => by
  obtain ⟨c1, k1⟩ := own_tag h1 b hv
  rw [k1] at hb
  simp only [Option.some.injEq, Obj.cells.injEq] at hb
  exact hne hb.2.1

theorem touch_set {S : Nat → Prop} {w w' : World} {a : Addr} (v : Value) (h : Touch S w w') (ha : S a.block ∨ w.heap.size ≤ a.block) : Touch S w (w'.setCell a v) :=
  h.trans (S' := fun g => g = a.block) ⟨rfl, rfl, rfl, by rw [set_size]; exact Nat.le_refl _, fun k hk hn => Below.heap_setCell _ _ _ _ hn⟩ (fun g hg => by rw [hg]; exact ha)
end Go.Proofs.YtbdmmgmcbecolaaGreatDoor
namespace Go.Proofs.YtbdmmgmcbecolaaGreatDoor
open Go.RowKit
/-- a world with two pairs of cells more -/
def W2of (w : World) (a b : Value) (t t2 : TypeId) : World := (w.alloc (.cells #[a, b] t)).alloc (.cells #[.int .i64 0, .int .i64 0] t2)
theorem w2_facts (w : World) (a b : Value) (t t2 : TypeId) : Below w.heap.size w (W2of w a b t t2) ∧ (W2of w a b t t2).heap[w.heap.size]? = some (.cells #[a, b] t (0, 0)) ∧ (W2of w a b t t2).heap[w.heap.size + 1]? = some (.cells #[.int .i64 0, .int .i64 0] t2 (0, 0)) ∧ (W2of w a b t t2).heap.size = w.heap.size + 1 + 1 := by
  refine ⟨bstep (below_agg2 w a b t) (below_agg2 _ _ _ _), ?_, ?_, by unfold W2of; simp⟩
  · exact ((below_agg2 (w.alloc (.cells #[a, b] t)) (.int .i64 0) (.int .i64 0) t2).block w.heap.size (by simp)).trans (heap_alloc_new w _)
  · have := heap_alloc_new (w.alloc (.cells #[a, b] t)) (.cells #[.int .i64 0, .int .i64 0] t2)
    simpa [W2of] using this
set_option maxRecDepth 100000 in
set_option maxHeartbeats 1000000 in
theorem ranges_clip (a b t : Int) (w : World) (ht0 : -9223372036854775807 ≤ t) (ht : t ≤ 9223372036854775807) :
    Calls Tryz.prog 126 #[.agg #[.int .i64 a, .int .i64 b], .int .i64 t] w fun e w' => e = .returned (.tuple #[.agg #[.int .i64 (clipA a b t), .int .i64 (clipB a b t)], .int .i64 (clipE a b t : Nat)]) ∧ Below w.heap.size w w' := by
  have HC := Lib.hid (fun w => ranges_check a b w)
  obtain ⟨hB0, hr0, hk0, hs0⟩ := w2_facts w (.int .i64 a) (.int .i64 b) 28 28
  unfold W2of at hB0 hr0 hk0 hs0
  have HB0 := Lib.hid hB0
  have HR0 := Lib.hid hr0
  have HK0 := Lib.hid hk0
  have HS0 := Lib.hid hs0
  obtain ⟨r0, r1, -, -⟩ := two_of hr0
  clear hB0 hr0 hk0 hs0
  by_cases he : rErr a b = 0
  case neg =>
    have h8 := (rErr_no a b he).1
    have HA : Hid (clipE a b t = 8 ∧ clipA a b t = 0 ∧ clipB a b t = 0) := Lib.hid (by
      have : clipE a b t = 8 := by unfold clipE; rw [if_pos he, h8]
      unfold clipA clipB; rw [this]; exact ⟨rfl, rfl, rfl⟩)
    rw [h8] at HC
    clear he h8
    go_enter Tryz.func126, Tryz.ntmps126
    go_wp2_with fail
    refine (HC.out _).mono ?_
    rintro e w1 ⟨rfl, hb1⟩
    generalize ((w.alloc (.cells #[.int .i64 a, .int .i64 b] 28)).alloc (.cells #[.int .i64 0, .int .i64 0] 28)) = W0 at HB0 HR0 HK0 HS0 hb1 r0 r1 ⊢
    have hk1 : w1.heap[w.heap.size + 1]? = some (.cells #[.int .i64 0, .int .i64 0] 28 (0, 0)) := (hb1.block _ (by have := HS0.out; omega)).trans HK0.out
    obtain ⟨k0, k1, f0, f1⟩ := two_of hk1
    have HK1 := Lib.hid hk1
    have HB1 := Lib.hid (bstep HB0.out hb1)
    clear hk1 hb1
    go_wp2_with fail
    refine ret_field (b := w.heap.size + 1) (x := .int .i64 0) (y := .int .i64 0) rfl (load_range _ _ _ _ _ (two_set HK1.out _ _)) rfl rfl rfl ?_
    refine ⟨?_, two_below HB1.out _ (by omega) _ _⟩
    rw [HA.out.1, HA.out.2.1, HA.out.2.2]; rfl
  have hab := rErr_ok a b he
  rw [he] at HC
  by_cases hf : t ≤ a
  · have HA : Hid (clipE a b t = 8 ∧ clipA a b t = 0 ∧ clipB a b t = 0) := Lib.hid (by
      have : clipE a b t = 8 := by unfold clipE; rw [if_neg (fun h => h he), if_pos hf]
      unfold clipA clipB; rw [this]; exact ⟨rfl, rfl, rfl⟩)
    have tf : decide (a ≥ t) = true := decide_eq_true hf
    clear he hf hab
    go_enter Tryz.func126, Tryz.ntmps126
    go_wp2_with fail
    refine (HC.out _).mono ?_
    rintro e w1 ⟨rfl, hb1⟩
    generalize ((w.alloc (.cells #[.int .i64 a, .int .i64 b] 28)).alloc (.cells #[.int .i64 0, .int .i64 0] 28)) = W0 at HB0 HR0 HK0 HS0 hb1 r0 r1 ⊢
    have hk1 : w1.heap[w.heap.size + 1]? = some (.cells #[.int .i64 0, .int .i64 0] 28 (0, 0)) := (hb1.block _ (by have := HS0.out; omega)).trans HK0.out
    have hr1 : w1.heap[w.heap.size]? = some (.cells #[.int .i64 a, .int .i64 b] 28 (0, 0)) := (hb1.block _ (by have := HS0.out; omega)).trans HR0.out
    clear r0 r1
    obtain ⟨k0, k1, f0, f1⟩ := two_of hk1
    obtain ⟨r0, r1, -, -⟩ := two_of hr1
    have HK1 := Lib.hid hk1
    have HB1 := Lib.hid (bstep HB0.out hb1)
    clear hk1 hb1 hr1
    go_wp2_with fail
    refine ret_field (b := w.heap.size + 1) (x := .int .i64 0) (y := .int .i64 0) rfl (load_range _ _ _ _ _ (two_set HK1.out _ _)) rfl rfl rfl ?_
    refine ⟨?_, two_below HB1.out _ (by omega) _ _⟩
    rw [HA.out.1, HA.out.2.1, HA.out.2.2]; rfl
  have tf : decide (a ≥ t) = false := decide_eq_false hf
  obtain ⟨B, hB⟩ : ∃ B, (if b < t - 1 then b else t - 1) = B := ⟨_, rfl⟩
  have HA : Hid (clipE a b t = 0 ∧ clipA a b t = a ∧ clipB a b t = B) := Lib.hid (by
    have : clipE a b t = 0 := by unfold clipE; rw [if_neg (fun h => h he), if_neg hf]
    unfold clipA clipB; rw [if_pos this, if_pos this, hB]; exact ⟨this, rfl, rfl⟩)
  have hmin : min b (t - 1) = B := by rw [← hB]; split <;> omega
  have HM := Lib.hid hmin
  have tw : IntKind.i64.wrap (t - 1) = t - 1 := by rw [IntKind.wrap_i64]; omega
  clear he hf hab hB hmin
  go_enter Tryz.func126, Tryz.ntmps126
  go_wp2_with fail
  refine (HC.out _).mono ?_
  rintro e w1 ⟨rfl, hb1⟩
  generalize ((w.alloc (.cells #[.int .i64 a, .int .i64 b] 28)).alloc (.cells #[.int .i64 0, .int .i64 0] 28)) = W0 at HB0 HR0 HK0 HS0 hb1 r0 r1 ⊢
  have hk1 : w1.heap[w.heap.size + 1]? = some (.cells #[.int .i64 0, .int .i64 0] 28 (0, 0)) := (hb1.block _ (by have := HS0.out; omega)).trans HK0.out
  have hr1 : w1.heap[w.heap.size]? = some (.cells #[.int .i64 a, .int .i64 b] 28 (0, 0)) := (hb1.block _ (by have := HS0.out; omega)).trans HR0.out
  clear r0 r1
  obtain ⟨k0, k1, f0, f1⟩ := two_of hk1
  obtain ⟨r0, r1, g0, g1⟩ := two_of hr1
  have HK1 := Lib.hid hk1
  have HB1 := Lib.hid (bstep HB0.out hb1)
  clear hk1 hb1 hr1
  go_wp2_with fail
  have hk2 : ∀ V, (w1.setCell ⟨w.heap.size, 1, none⟩ V).heap[w.heap.size + 1]? = some (.cells #[.int .i64 0, .int .i64 0] 28 (0, 0)) := fun V => (Below.heap_setCell _ _ _ _ (by simp)).trans HK1.out
  refine ret_field (b := w.heap.size + 1) (x := .int .i64 a) rfl (load_range _ _ _ _ _ (two_set (hk2 _) _ _)) rfl rfl rfl ?_
  refine ⟨?_, two_below (HB1.out.setCell (Nat.le_refl _) _) _ (by omega) _ _⟩
  rw [HA.out.1, HA.out.2.1, HA.out.2.2, ← HM.out]
  rfl
set_option maxRecDepth 100000 in
set_option maxHeartbeats 1000000 in
theorem ref_clip (a b t : Int) (w : World) (ht0 : -9223372036854775807 ≤ t) (ht : t ≤ 9223372036854775807) :
    Calls Tryz.prog 135 #[.agg #[.int .i64 a, .int .i64 b], .int .i64 t] w fun e w' => e = .returned (.tuple #[.agg #[.int .i64 (clipA a b t), .int .i64 (clipB a b t)], .int .i64 (clipE a b t : Nat)]) ∧ Below w.heap.size w w' := by
  have HC := Lib.hid (fun w => ref_rcheck a b w)
  obtain ⟨hB0, hr0, hk0, hs0⟩ := w2_facts w (.int .i64 a) (.int .i64 b) 23 23
  unfold W2of at hB0 hr0 hk0 hs0
  have HB0 := Lib.hid hB0
  have HR0 := Lib.hid hr0
  have HK0 := Lib.hid hk0
  have HS0 := Lib.hid hs0
  obtain ⟨r0, r1, -, -⟩ := two_of hr0
  clear hB0 hr0 hk0 hs0
  by_cases he : rErr a b = 0
  case neg =>
    have h8 := (rErr_no a b he).1
    have HA : Hid (clipE a b t = 8 ∧ clipA a b t = 0 ∧ clipB a b t = 0) := Lib.hid (by
      have : clipE a b t = 8 := by unfold clipE; rw [if_pos he, h8]
      unfold clipA clipB; rw [this]; exact ⟨rfl, rfl, rfl⟩)
    rw [h8] at HC
    clear he h8
    go_enter Tryz.func135, Tryz.ntmps135
    go_wp2_with fail
    refine (HC.out _).mono ?_
    rintro e w1 ⟨rfl, hb1⟩
    generalize ((w.alloc (.cells #[.int .i64 a, .int .i64 b] 23)).alloc (.cells #[.int .i64 0, .int .i64 0] 23)) = W0 at HB0 HR0 HK0 HS0 hb1 r0 r1 ⊢
    have hk1 : w1.heap[w.heap.size + 1]? = some (.cells #[.int .i64 0, .int .i64 0] 23 (0, 0)) := (hb1.block _ (by have := HS0.out; omega)).trans HK0.out
    obtain ⟨k0, k1, f0, f1⟩ := two_of hk1
    have HK1 := Lib.hid hk1
    have HB1 := Lib.hid (bstep HB0.out hb1)
    clear hk1 hb1
    go_wp2_with fail
    refine ret_field (b := w.heap.size + 1) (x := .int .i64 0) (y := .int .i64 0) rfl (load_rrange _ _ _ _ _ (two_set HK1.out _ _)) rfl rfl rfl ?_
    refine ⟨?_, two_below HB1.out _ (by omega) _ _⟩
    rw [HA.out.1, HA.out.2.1, HA.out.2.2]; rfl
  have hab := rErr_ok a b he
  rw [he] at HC
  by_cases hf : t ≤ a
  · have HA : Hid (clipE a b t = 8 ∧ clipA a b t = 0 ∧ clipB a b t = 0) := Lib.hid (by
      have : clipE a b t = 8 := by unfold clipE; rw [if_neg (fun h => h he), if_pos hf]
      unfold clipA clipB; rw [this]; exact ⟨rfl, rfl, rfl⟩)
    have tf : decide (a ≥ t) = true := decide_eq_true hf
    clear he hf hab
    go_enter Tryz.func135, Tryz.ntmps135
    go_wp2_with fail
    refine (HC.out _).mono ?_
    rintro e w1 ⟨rfl, hb1⟩
    generalize ((w.alloc (.cells #[.int .i64 a, .int .i64 b] 23)).alloc (.cells #[.int .i64 0, .int .i64 0] 23)) = W0 at HB0 HR0 HK0 HS0 hb1 r0 r1 ⊢
    have hk1 : w1.heap[w.heap.size + 1]? = some (.cells #[.int .i64 0, .int .i64 0] 23 (0, 0)) := (hb1.block _ (by have := HS0.out; omega)).trans HK0.out
    have hr1 : w1.heap[w.heap.size]? = some (.cells #[.int .i64 a, .int .i64 b] 23 (0, 0)) := (hb1.block _ (by have := HS0.out; omega)).trans HR0.out
    clear r0 r1
    obtain ⟨k0, k1, f0, f1⟩ := two_of hk1
    obtain ⟨r0, r1, -, -⟩ := two_of hr1
    have HK1 := Lib.hid hk1
    have HB1 := Lib.hid (bstep HB0.out hb1)
    clear hk1 hb1 hr1
    go_wp2_with fail
    refine ret_field (b := w.heap.size + 1) (x := .int .i64 0) (y := .int .i64 0) rfl (load_rrange _ _ _ _ _ (two_set HK1.out _ _)) rfl rfl rfl ?_
    refine ⟨?_, two_below HB1.out _ (by omega) _ _⟩
    rw [HA.out.1, HA.out.2.1, HA.out.2.2]; rfl
  have tf : decide (a ≥ t) = false := decide_eq_false hf
  obtain ⟨B, hB⟩ : ∃ B, (if b < t - 1 then b else t - 1) = B := ⟨_, rfl⟩
  have HA : Hid (clipE a b t = 0 ∧ clipA a b t = a ∧ clipB a b t = B) := Lib.hid (by
    have : clipE a b t = 0 := by unfold clipE; rw [if_neg (fun h => h he), if_neg hf]
    unfold clipA clipB; rw [if_pos this, if_pos this, hB]; exact ⟨this, rfl, rfl⟩)
  have hmin : min b (t - 1) = B := by rw [← hB]; split <;> omega
  have HM := Lib.hid hmin
  have tw : IntKind.i64.wrap (t - 1) = t - 1 := by rw [IntKind.wrap_i64]; omega
  clear he hf hab hB hmin
  go_enter Tryz.func135, Tryz.ntmps135
  go_wp2_with fail
  refine (HC.out _).mono ?_
  rintro e w1 ⟨rfl, hb1⟩
  generalize ((w.alloc (.cells #[.int .i64 a, .int .i64 b] 23)).alloc (.cells #[.int .i64 0, .int .i64 0] 23)) = W0 at HB0 HR0 HK0 HS0 hb1 r0 r1 ⊢
  have hk1 : w1.heap[w.heap.size + 1]? = some (.cells #[.int .i64 0, .int .i64 0] 23 (0, 0)) := (hb1.block _ (by have := HS0.out; omega)).trans HK0.out
  have hr1 : w1.heap[w.heap.size]? = some (.cells #[.int .i64 a, .int .i64 b] 23 (0, 0)) := (hb1.block _ (by have := HS0.out; omega)).trans HR0.out
  clear r0 r1
  obtain ⟨k0, k1, f0, f1⟩ := two_of hk1
  obtain ⟨r0, r1, g0, g1⟩ := two_of hr1
  have HK1 := Lib.hid hk1
  have HB1 := Lib.hid (bstep HB0.out hb1)
  clear hk1 hb1 hr1
  go_wp2_with fail
  refine ret_field (b := w.heap.size + 1) (x := .int .i64 a) rfl (load_rrange _ _ _ _ _ (two_set HK1.out _ _)) rfl rfl rfl ?_
  refine ⟨?_, two_below HB1.out _ (by omega) _ _⟩
  rw [HA.out.1, HA.out.2.1, HA.out.2.2, ← HM.out]
  rfl
end Go.Proofs.YtbdmmgmcbecolaaGreatDoor
namespace Go.Proofs.YtbdmmgmcbecolaaGreatDoor
open Go.RowKit
theorem box3 (w : World) (x y z : Value) (t : TypeId) : (w.alloc (.cells #[x, y, z] t)).cell? ⟨w.heap.size, 0, none⟩ = some x ∧ (w.alloc (.cells #[x, y, z] t)).cell? ⟨w.heap.size, 1, none⟩ = some y ∧ (w.alloc (.cells #[x, y, z] t)).cell? ⟨w.heap.size, 2, none⟩ = some z :=
  let ⟨h0, h1, h2, _⟩ := three_facts (heap_alloc_new w (.cells #[x, y, z] t)); ⟨h0, h1, h2⟩
set_option maxRecDepth 100000 in
set_option maxHeartbeats 1000000 in
theorem told_wrong (a b t : Int) (w : World) :
    Calls Tryz.prog 79 #[.agg #[.int .i64 a, .int .i64 b, .int .i64 t]] w fun e w' => e = .returned (.int .i64 (toldE a b t : Nat)) ∧ Below w.heap.size w w' := by
  have HC := Lib.hid (fun w => ranges_check a b w)
  obtain ⟨x0, x1, x2⟩ := box3 w (.int .i64 a) (.int .i64 b) (.int .i64 t) 169
  have hB0 := below_agg3 w (.int .i64 a) (.int .i64 b) (.int .i64 t) 169
  have HB0 := Lib.hid hB0
  have hl : w.heap.size < (w.alloc (.cells #[.int .i64 a, .int .i64 b, .int .i64 t] 169)).heap.size := by simp
  have HL := Lib.hid hl
  clear hB0 hl
  by_cases he : rErr a b = 0
  case neg =>
    have h8 := (rErr_no a b he).1
    have HA : Hid (toldE a b t = 8) := Lib.hid (by unfold toldE; rw [if_pos he, h8])
    rw [h8] at HC
    clear he h8
    go_enter Tryz.func79, Tryz.ntmps79
    go_wp2_with fail
    refine (HC.out _).mono ?_
    rintro e w1 ⟨rfl, hb1⟩
    go_wp2_with fail
    go_ret
    exact ⟨by rw [HA.out]; rfl, bstep HB0.out hb1⟩
  rw [he] at HC
  by_cases h1 : t ≤ b
  · have HA : Hid (toldE a b t = 8) := Lib.hid (by unfold toldE; rw [if_neg (fun h => h he), if_pos (.inl h1)])
    have t1 : decide (t ≤ b) = true := decide_eq_true h1
    clear he h1
    go_enter Tryz.func79, Tryz.ntmps79
    go_wp2_with fail
    refine (HC.out _).mono ?_
    rintro e w1 ⟨rfl, hb1⟩
    have y1 := (hb1.cell (p := ⟨w.heap.size, 1, none⟩) HL.out).trans x1
    have y2 := (hb1.cell (p := ⟨w.heap.size, 2, none⟩) HL.out).trans x2
    have HB1 := Lib.hid (bstep HB0.out hb1)
    clear hb1 x0 x1 x2
    go_wp2_with fail
    go_ret
    exact ⟨by rw [HA.out]; rfl, HB1.out⟩
  have t1 : decide (t ≤ b) = false := decide_eq_false h1
  obtain ⟨r, hr⟩ : ∃ r, decide (t > 9007199254740991) = r := ⟨_, rfl⟩
  have HA : Hid (toldE a b t = if r = true then 8 else 0) := Lib.hid (by
    unfold toldE
    rw [if_neg (fun h => h he)]
    cases r with
    | true => rw [if_pos (.inr (of_decide_eq_true hr)), if_pos rfl]
    | false => rw [if_neg (fun h => h.elim h1 (of_decide_eq_false hr)), if_neg (by decide)])
  clear he h1
  cases r
  all_goals
    go_enter Tryz.func79, Tryz.ntmps79
    go_wp2_with fail
    refine (HC.out _).mono ?_
    rintro e w1 ⟨rfl, hb1⟩
    have y1 := (hb1.cell (p := ⟨w.heap.size, 1, none⟩) HL.out).trans x1
    have y2 := (hb1.cell (p := ⟨w.heap.size, 2, none⟩) HL.out).trans x2
    have HB1 := Lib.hid (bstep HB0.out hb1)
    clear hb1 x0 x1 x2
    go_wp2_with fail
    go_ret
    exact ⟨by rw [HA.out]; rfl, HB1.out⟩
theorem told_text (a b t : Int) (h : toldE a b t = 0) (X Y : ByteArray) (hX : bs (textR a b) = X) (hY : bs (digL t) = Y) : ((⟨#[98, 121, 116, 101, 115, 32]⟩ ++ X) ++ ⟨#[47]⟩) ++ Y = bs (toldL a b t) := by
  unfold toldL
  rw [if_pos h, ← hX, ← hY, show (⟨#[98, 121, 116, 101, 115, 32]⟩ : ByteArray) = bs tellsL from rfl, show (⟨#[47]⟩ : ByteArray) = bs [47] from rfl, bs_cat, bs_cat, bs_cat]
  simp
set_option maxRecDepth 100000 in
set_option maxHeartbeats 2000000 in
theorem ranges_told (a b t : Int) (w : World) (hE : EnvF w) :
    Calls Tryz.prog 309 #[.agg #[.int .i64 a, .int .i64 b], .int .i64 t] w fun e w' => e = .returned (.tuple #[.string (bs (toldL a b t)), .int .i64 (toldE a b t : Nat)]) ∧ Below w.heap.size w w' := by
  have HW := Lib.hid (fun w => told_wrong a b t w)
  obtain ⟨r0, r1⟩ := box2 w (.int .i64 a) (.int .i64 b) 28
  have HB0 := Lib.hid (below_agg2 w (.int .i64 a) (.int .i64 b) 28)
  by_cases he : toldE a b t = 0
  case neg =>
    have HA : Hid (toldL a b t = []) := Lib.hid (by unfold toldL; rw [if_neg he])
    have tz : ((toldE a b t : Int) != 0) = true := by rw [bne_iff_ne]; omega
    generalize toldE a b t = E at HW tz ⊢
    clear he
    go_enter Tryz.func309, Tryz.ntmps309
    go_wp2_with fail
    refine (HW.out _).mono ?_
    rintro e w1 ⟨rfl, hb1⟩
    have HB1 := Lib.hid (bstep HB0.out (bstep (below_agg3 _ _ _ _ _) hb1))
    clear hb1
    go_wp2_with fail
    go_ret2
    exact ⟨by rw [HA.out]; rfl, HB1.out⟩
  obtain ⟨g1, g2, g3⟩ := toldE_ok a b t he
  obtain ⟨q1, q2, q3⟩ := rErr_ok a b g1
  have HX := Lib.hid (fun w hE => ranges_text a b w hE (by omega) (by omega) (by omega) (by omega))
  have HD := Lib.hid (fun w hE => fields_digits t (by omega) (by omega) w hE)
  have hxl := textR_len a b (by omega) (by omega)
  have hdl := digL_len t (by omega)
  obtain ⟨X, hX⟩ : ∃ X, bs (textR a b) = X := ⟨_, rfl⟩
  obtain ⟨Y, hY⟩ : ∃ Y, bs (digL t) = Y := ⟨_, rfl⟩
  have HR := Lib.hid (told_text a b t he X Y hX hY)
  have hXs : X.size ≤ 41 := by rw [← hX, bs_size]; exact hxl
  have hYs : Y.size ≤ 20 := by rw [← hY, bs_size]; exact hdl
  rw [hX] at HX
  rw [hY] at HD
  have p1 := fun w => run_string_add_sum (P := Tryz.prog) w ⟨#[98, 121, 116, 101, 115, 32]⟩ X (by show 6 + _ ≤ _; omega)
  have p2 := fun w => run_string_add_sum (P := Tryz.prog) w (⟨#[98, 121, 116, 101, 115, 32]⟩ ++ X) ⟨#[47]⟩ (by rw [ByteArray.size_append]; show 6 + _ + 1 ≤ _; omega)
  have p3 := fun w => run_string_add_sum (P := Tryz.prog) w ((⟨#[98, 121, 116, 101, 115, 32]⟩ ++ X) ++ ⟨#[47]⟩) Y (by rw [ByteArray.size_append, ByteArray.size_append]; show 6 + _ + 1 + _ ≤ _; omega)
  rw [he] at HW ⊢
  have HE := Lib.hid hE
  clear he g1 g2 g3 q1 q2 q3 hxl hdl hX hY hE
  go_enter Tryz.func309, Tryz.ntmps309
  go_wp2_with fail
  refine (HW.out _).mono ?_
  rintro e w1 ⟨rfl, hb1⟩
  have hsz : (w.alloc (.cells #[.int .i64 a, .int .i64 b] 28)).heap.size = w.heap.size + 1 := by simp
  obtain ⟨y0, y1, y2⟩ := box3 (w.alloc (.cells #[.int .i64 a, .int .i64 b] 28)) (.int .i64 a) (.int .i64 b) (.int .i64 t) 169
  rw [hsz] at y0 y1 y2
  have hl : w.heap.size + 1 < ((w.alloc (.cells #[.int .i64 a, .int .i64 b] 28)).alloc (.cells #[.int .i64 a, .int .i64 b, .int .i64 t] 169)).heap.size := by simp
  have z0 := (hb1.cell (p := ⟨w.heap.size + 1, 0, none⟩) hl).trans y0
  have z1 := (hb1.cell (p := ⟨w.heap.size + 1, 1, none⟩) hl).trans y1
  have z2 := (hb1.cell (p := ⟨w.heap.size + 1, 2, none⟩) hl).trans y2
  have hbl : w.heap.size + 1 < w1.heap.size := Nat.lt_of_lt_of_le hl hb1.size
  have HB1 := Lib.hid (bstep HB0.out (bstep (below_agg3 _ _ _ _ _) hb1))
  have HE1 := Lib.hid (HE.out.below HB1.out)
  clear hb1 y0 y1 y2 hl hsz r0 r1
  go_wp2_with fail
  have k0 : ∀ p : BelowOf w1, p.world.cell? ⟨w.heap.size + 1, 0, none⟩ = some (.int .i64 a) := fun p => cell_of p hbl z0
  have k1 : ∀ p : BelowOf w1, p.world.cell? ⟨w.heap.size + 1, 1, none⟩ = some (.int .i64 b) := fun p => cell_of p hbl z1
  have k2 : ∀ p : BelowOf w1, p.world.cell? ⟨w.heap.size + 1, 2, none⟩ = some (.int .i64 t) := fun p => cell_of p hbl z2
  clear z0 z1 z2
  refine wp_region_quiet_below (by kernel_rfl) (by kernel_rfl) ?_
  repeat (go_big_quiet_step (fail))
  go_big_quiet_step ((go_at_call 87; exact below_of (HX.out _ (HE1.out.below (BelowOf.below _)))))
  repeat (go_big_quiet_step (fail))
  go_big_quiet_step ((go_at_call 118; exact below_of (HD.out _ (HE1.out.below (BelowOf.below _)))))
  repeat (go_big_quiet_step (fail))
  refine wpQuiet_nil ?_
  intro W1 hw'
  have hb2 := of_class hw'
  clear hw'
  go_wp2_with fail
  go_ret2
  exact ⟨by rw [← HR.out]; rfl, bstep HB1.out hb2⟩
theorem told_text2 (a b t : Int) (h : toldE a b t = 0) (X Y Z : ByteArray) (hX : bs (digL a) = X) (hY : bs (digL b) = Y) (hZ : bs (digL t) = Z) : ((((⟨#[98, 121, 116, 101, 115, 32]⟩ ++ X) ++ ⟨#[45]⟩) ++ Y) ++ ⟨#[47]⟩) ++ Z = bs (toldL a b t) := by
  unfold toldL textR
  rw [if_pos h, ← hX, ← hY, ← hZ, show (⟨#[98, 121, 116, 101, 115, 32]⟩ : ByteArray) = bs tellsL from rfl, show (⟨#[47]⟩ : ByteArray) = bs [47] from rfl, show (⟨#[45]⟩ : ByteArray) = bs [45] from rfl, bs_cat, bs_cat, bs_cat, bs_cat, bs_cat]
  simp
set_option maxRecDepth 100000 in
set_option maxHeartbeats 2000000 in
theorem ref_told (a b t : Int) (w : World) :
    Calls Tryz.prog 136 #[.agg #[.int .i64 a, .int .i64 b], .int .i64 t] w fun e w' => e = .returned (.tuple #[.string (bs (toldL a b t)), .int .i64 (toldE a b t : Nat)]) ∧ Below w.heap.size w w' := by
  have HC := Lib.hid (fun w => ref_rcheck a b w)
  obtain ⟨r0, r1⟩ := box2 w (.int .i64 a) (.int .i64 b) 23
  have HB0 := Lib.hid (below_agg2 w (.int .i64 a) (.int .i64 b) 23)
  have hl : w.heap.size < (w.alloc (.cells #[.int .i64 a, .int .i64 b] 23)).heap.size := by simp
  have HL := Lib.hid hl
  clear hl
  by_cases hr : rErr a b = 0
  case neg =>
    have h8 := (rErr_no a b hr).1
    have HA : Hid (toldE a b t = 8 ∧ toldL a b t = []) := Lib.hid (by
      have : toldE a b t = 8 := by unfold toldE; rw [if_pos hr, h8]
      exact ⟨this, by unfold toldL; rw [this]; rfl⟩)
    rw [h8] at HC
    clear hr h8
    go_enter Tryz.func136, Tryz.ntmps136
    go_wp2_with fail
    refine (HC.out _).mono ?_
    rintro e w1 ⟨rfl, hb1⟩
    go_wp2_with fail
    go_ret2
    exact ⟨by rw [HA.out.1, HA.out.2]; rfl, bstep HB0.out hb1⟩
  rw [hr] at HC
  by_cases h1 : t ≤ b ∨ 9007199254740991 < t
  · have HA : Hid (toldE a b t = 8 ∧ toldL a b t = []) := Lib.hid (by
      have : toldE a b t = 8 := by unfold toldE; rw [if_neg (fun h => h hr), if_pos h1]
      exact ⟨this, by unfold toldL; rw [this]; rfl⟩)
    by_cases h2 : t ≤ b
    · have t1 : decide (t ≤ b) = true := decide_eq_true h2
      clear hr h1 h2
      go_enter Tryz.func136, Tryz.ntmps136
      go_wp2_with fail
      refine (HC.out _).mono ?_
      rintro e w1 ⟨rfl, hb1⟩
      have y1 := (hb1.cell (p := ⟨w.heap.size, 1, none⟩) HL.out).trans r1
      have HB1 := Lib.hid (bstep HB0.out hb1)
      clear hb1 r0 r1
      go_wp2_with fail
      go_ret2
      exact ⟨by rw [HA.out.1, HA.out.2]; rfl, HB1.out⟩
    · have t1 : decide (t ≤ b) = false := decide_eq_false h2
      have t2 : decide (t > 9007199254740991) = true := decide_eq_true (h1.resolve_left h2)
      clear hr h1 h2
      go_enter Tryz.func136, Tryz.ntmps136
      go_wp2_with fail
      refine (HC.out _).mono ?_
      rintro e w1 ⟨rfl, hb1⟩
      have y1 := (hb1.cell (p := ⟨w.heap.size, 1, none⟩) HL.out).trans r1
      have HB1 := Lib.hid (bstep HB0.out hb1)
      clear hb1 r0 r1
      go_wp2_with fail
      go_ret2
      exact ⟨by rw [HA.out.1, HA.out.2]; rfl, HB1.out⟩
  have he : toldE a b t = 0 := by unfold toldE; rw [if_neg (fun h => h hr), if_neg h1]
  rw [not_or] at h1
  obtain ⟨q1, q2, q3⟩ := rErr_ok a b hr
  have t1 : decide (t ≤ b) = false := decide_eq_false h1.1
  have t2 : decide (t > 9007199254740991) = false := decide_eq_false h1.2
  have HDa := Lib.hid (fun w => ref_digitsZ a w (by omega))
  have HDb := Lib.hid (fun w => ref_digitsZ b w (by omega))
  have HDt := Lib.hid (fun w => ref_digitsZ t w (by omega))
  have hal := digL_len a (by omega)
  have hbl := digL_len b (by omega)
  have htl := digL_len t (by omega)
  obtain ⟨X, hX⟩ : ∃ X, bs (digL a) = X := ⟨_, rfl⟩
  obtain ⟨Y, hY⟩ : ∃ Y, bs (digL b) = Y := ⟨_, rfl⟩
  obtain ⟨Z, hZ⟩ : ∃ Z, bs (digL t) = Z := ⟨_, rfl⟩
  have HR := Lib.hid (told_text2 a b t he X Y Z hX hY hZ)
  have hXs : X.size ≤ 20 := by rw [← hX, bs_size]; exact hal
  have hYs : Y.size ≤ 20 := by rw [← hY, bs_size]; exact hbl
  have hZs : Z.size ≤ 20 := by rw [← hZ, bs_size]; exact htl
  rw [hX] at HDa
  rw [hY] at HDb
  rw [hZ] at HDt
  have p1 := fun w => run_string_add_sum (P := Tryz.prog) w ⟨#[98, 121, 116, 101, 115, 32]⟩ X (by show 6 + _ ≤ _; omega)
  have p2 := fun w => run_string_add_sum (P := Tryz.prog) w (⟨#[98, 121, 116, 101, 115, 32]⟩ ++ X) ⟨#[45]⟩ (by rw [ByteArray.size_append]; show 6 + _ + 1 ≤ _; omega)
  have p3 := fun w => run_string_add_sum (P := Tryz.prog) w ((⟨#[98, 121, 116, 101, 115, 32]⟩ ++ X) ++ ⟨#[45]⟩) Y (by rw [ByteArray.size_append, ByteArray.size_append]; show 6 + _ + 1 + _ ≤ _; omega)
  have p4 := fun w => run_string_add_sum (P := Tryz.prog) w (((⟨#[98, 121, 116, 101, 115, 32]⟩ ++ X) ++ ⟨#[45]⟩) ++ Y) ⟨#[47]⟩ (by rw [ByteArray.size_append, ByteArray.size_append, ByteArray.size_append]; show 6 + _ + 1 + _ + 1 ≤ _; omega)
  have p5 := fun w => run_string_add_sum (P := Tryz.prog) w ((((⟨#[98, 121, 116, 101, 115, 32]⟩ ++ X) ++ ⟨#[45]⟩) ++ Y) ++ ⟨#[47]⟩) Z (by rw [ByteArray.size_append, ByteArray.size_append, ByteArray.size_append, ByteArray.size_append]; show 6 + _ + 1 + _ + 1 + _ ≤ _; omega)
  rw [he]
  clear he hr h1 q1 q2 q3 hal hbl htl hX hY hZ
  go_enter Tryz.func136, Tryz.ntmps136
  go_wp2_with fail
  refine (HC.out _).mono ?_
  rintro e w1 ⟨rfl, hb1⟩
  have y0 := (hb1.cell (p := ⟨w.heap.size, 0, none⟩) HL.out).trans r0
  have y1 := (hb1.cell (p := ⟨w.heap.size, 1, none⟩) HL.out).trans r1
  have hbl : w.heap.size < w1.heap.size := Nat.lt_of_lt_of_le HL.out hb1.size
  have HB1 := Lib.hid (bstep HB0.out hb1)
  clear hb1 r0 r1
  go_wp2_with fail
  have k0 : ∀ p : BelowOf w1, p.world.cell? ⟨w.heap.size, 0, none⟩ = some (.int .i64 a) := fun p => cell_of p hbl y0
  have k1 : ∀ p : BelowOf w1, p.world.cell? ⟨w.heap.size, 1, none⟩ = some (.int .i64 b) := fun p => cell_of p hbl y1
  clear y0 y1
  refine wp_region_quiet_below (by kernel_rfl) (by kernel_rfl) ?_
  repeat (go_big_quiet_step (fail))
  go_big_quiet_step ((go_at_call 95; exact below_same (HDa.out _)))
  repeat (go_big_quiet_step (fail))
  go_big_quiet_step ((go_at_call 95; exact below_same (HDb.out _)))
  repeat (go_big_quiet_step (fail))
  go_big_quiet_step ((go_at_call 95; exact below_same (HDt.out _)))
  repeat (go_big_quiet_step (fail))
  refine wpQuiet_nil ?_
  intro W1 hw'
  have hb2 := of_class hw'
  clear hw'
  go_wp2_with fail
  go_ret2
  exact ⟨by rw [← HR.out]; rfl, bstep HB1.out hb2⟩
end Go.Proofs.YtbdmmgmcbecolaaGreatDoor
namespace Go.Proofs.YtbdmmgmcbecolaaGreatDoor
open Go.RowKit
theorem below_o3 (w : World) (x y z : Value) : Below w.heap.size w (w.alloc (.cells #[x, y, z] 63)) := (Below.refl _ _).alloc (Nat.le_refl _) _
set_option maxRecDepth 100000 in
set_option maxHeartbeats 1000000 in
theorem origin_check (h p f : ByteArray) (w : World) :
    Calls Tryz.prog 44 #[.agg #[.string h, .string p, .string f]] w fun e w' => e = .returned (.int .i64 (orgE h.data.toList p.data.toList : Nat)) ∧ Below w.heap.size w w' := by
  have HC := Lib.hid (fun w => asking_check p h 0 0 w)
  rw [orgE_asks] at HC
  generalize orgE h.data.toList p.data.toList = E at HC ⊢
  obtain ⟨x0, x1, x2⟩ := box3 w (.string h) (.string p) (.string f) 63
  have HB0 := Lib.hid (below_o3 w (.string h) (.string p) (.string f))
  go_enter Tryz.func44, Tryz.ntmps44
  go_wp2_with fail
  refine (HC.out _).mono ?_
  rintro e w1 ⟨rfl, hb1⟩
  go_wp2_with fail
  go_ret
  exact ⟨rfl, bstep HB0.out hb1⟩
/-- a code's reply, without fields and body -/
theorem refusal_reply (c : Int) (w : World) :
    Calls Tryz.prog 307 #[.int .i64 c] w fun e w' => e = .returned (.agg #[.int .i64 c, .slice none 0 0, .string ⟨#[]⟩]) ∧ Below w.heap.size w w' := by
  obtain ⟨k0, k1, k2, f0, f1, f2⟩ := three_facts (heap_alloc_new w (.cells #[.int .i64 0, .slice none 0 0, .string ⟨#[]⟩] 113))
  go_enter Tryz.func307, Tryz.ntmps307
  go_wp2_with fail
  refine ret_cell (A := ⟨w.heap.size, 0, none⟩) rfl (load_rep _ _ _ _ _ _ (heap_alloc_new w _)) rfl rfl ?_
  exact ⟨rfl, below_agg3 _ _ _ _ _⟩
/-- a block of one field is a row of it -/
theorem own_one (w : World) (x y : Value) (T : TypeId) : (w.alloc (.cells #[x, y] T)).ownsRow w.heap.size T 2 (.slice (some ⟨w.heap.size, 0, none⟩) 1 1) 1 [x, y] :=
  ⟨rfl, .inr ⟨w.heap.size, 1, #[x, y], rfl, Nat.le_refl _, heap_alloc_new w _, Nat.le_refl _, by unfold maxLen; decide, rfl, rfl⟩⟩
theorem own_one_at (w : World) (g : Nat) (hg : g = w.heap.size) (x y : Value) (T : TypeId) : (w.alloc (.cells #[x, y] T)).ownsRow 0 T 2 (.slice (some ⟨g, 0, none⟩) 1 1) 1 [x, y] := by
  subst hg
  exact own_lowerF (own_one w x y T) (Nat.zero_le _)
/-- what a reply's making hands over -/
def PartPost (c : Int) (fs : List (List UInt8 × List UInt8)) (x : ByteArray) (T : TypeId) (w : World) (e : Ending) (w' : World) : Prop :=
  ∃ a cp, e = .returned (.agg #[.int .i64 c, .slice a fs.length cp, .string x]) ∧ (∃ B, w'.ownsRow B T 2 (.slice a fs.length cp) fs.length (fcells fs)) ∧ Below w.heap.size w w'
set_option maxRecDepth 100000 in
set_option maxHeartbeats 2000000 in
theorem part_reply (a b : Int) (f : ByteArray) (w : World) (hE : EnvF w) (h0 : 0 ≤ a) (h1 : a ≤ b) (h2 : b < (f.size : Int)) (hf : f.size ≤ 1000000) :
    Calls Tryz.prog 308 #[.agg #[.int .i64 a, .int .i64 b, .string f]] w (PartPost 206 [(crangeK, toldL a b (f.size : Int))] (f.extract a.toNat (b + 1).toNat) 161 w) := by
  have HT := Lib.hid (fun w hE => ranges_told a b (f.size : Int) w hE)
  obtain ⟨V, hV⟩ : ∃ V, bs (toldL a b (f.size : Int)) = V := ⟨_, rfl⟩
  rw [hV] at HT
  have HV := Lib.hid hV
  generalize toldE a b (f.size : Int) = E at HT
  obtain ⟨x0, x1, x2⟩ := box3 w (.int .i64 a) (.int .i64 b) (.string f) 237
  have hB0 := below_agg3 w (.int .i64 a) (.int .i64 b) (.string f) 237
  have hB1 := bstep hB0 (below_agg3 _ (.int .i64 0) (.slice none 0 0) (.string ⟨#[]⟩) 113)
  have hsz : ((w.alloc (.cells #[.int .i64 a, .int .i64 b, .string f] 237)).alloc (.cells #[.int .i64 0, .slice none 0 0, .string ⟨#[]⟩] 113)).heap.size = w.heap.size + 1 + 1 := by simp
  have hk0 := heap_alloc2_new w (.cells #[.int .i64 a, .int .i64 b, .string f] 237) (.cells #[.int .i64 0, .slice none 0 0, .string ⟨#[]⟩] 113)
  have hp0 := ((below_agg3 (w.alloc (.cells #[.int .i64 a, .int .i64 b, .string f] 237)) (.int .i64 0) (.slice none 0 0) (.string ⟨#[]⟩) 113).block w.heap.size (by simp)).trans (heap_alloc_new w _)
  have HB1 := Lib.hid hB1
  have HE1 := Lib.hid (hE.below hB1)
  have HK0 := Lib.hid hk0
  have HP0 := Lib.hid hp0
  have HSZ := Lib.hid hsz
  clear hB0 hB1 hk0 hp0 hsz x0 x1 x2 hE hV
  go_enter Tryz.func308, Tryz.ntmps308
  go_wp2_with fail
  generalize ((w.alloc (.cells #[.int .i64 a, .int .i64 b, .string f] 237)).alloc (.cells #[.int .i64 0, .slice none 0 0, .string ⟨#[]⟩] 113)) = W0 at HB1 HE1 HK0 HP0 HSZ ⊢
  obtain ⟨p0, p1, p2, -, -, -⟩ := three_facts HP0.out
  go_wp2_with fail
  refine (HT.out _ HE1.out).mono ?_
  rintro e w1 ⟨rfl, hb1⟩
  have hp1 := (hb1.block w.heap.size (by have := HSZ.out; omega)).trans HP0.out
  have hk1 := (hb1.block (w.heap.size + 1) (by have := HSZ.out; omega)).trans HK0.out
  clear p0 p1 p2
  obtain ⟨p0, p1, p2, -, -, -⟩ := three_facts hp1
  obtain ⟨k0, k1, k2, f0, f1, f2⟩ := three_facts hk1
  have HK1 := Lib.hid hk1
  have HB2 := Lib.hid (bstep HB1.out hb1)
  have hs1 : w.heap.size + 1 < w1.heap.size := by have := hb1.size; have := HSZ.out; omega
  have hs2 : w.heap.size < w1.heap.size := by omega
  clear hp1 hk1 hb1 HT HE1
  go_wp2_with fail
  refine ret_cell (A := ⟨w.heap.size + 1, 0, none⟩) rfl (load_rep _ _ _ _ _ _ ((heap_alloc_old _ _ (by simp; omega)).trans (three_set HK1.out _ _ _))) rfl rfl ?_
  refine ⟨_, _, rfl, ⟨0, ?_⟩, ?_⟩
  · have := own_one_at (((w1.setCell ⟨w.heap.size + 1, 0, none⟩ (.int .i64 206)).setCell ⟨w.heap.size + 1, 1, none⟩ (.slice (some ⟨w1.heap.size, 0, none⟩) 1 1)).setCell ⟨w.heap.size + 1, 2, none⟩ (.string (f.extract a.toNat (b + 1).toNat))) w1.heap.size (by simp) (.string (bs crangeK)) (.string (bs (toldL a b (f.size : Int)))) 161
    rw [HV.out] at this
    have e : fcells [(crangeK, toldL a b (f.size : Int))] = [.string (bs crangeK), .string V] := by rw [← HV.out]; rfl
    rw [e]
    exact this
  · exact (three_below HB2.out _ (by omega) _ _ _).alloc (by have := HB2.out.size; simp; omega) _
/-- the sort of answer, as an interface's value -/
def sortV (h p f s : ByteArray) : Value := if orgC h.data.toList p.data.toList f.data.toList s = 206 then .iface 237 (.agg #[.int .i64 (orgA f.data.toList s), .int .i64 (orgB f.data.toList s), .string f]) else .iface 233 (.int .i64 (orgC h.data.toList p.data.toList f.data.toList s))
set_option maxRecDepth 100000 in
set_option maxHeartbeats 4000000 in
theorem origin_sort (h p f s : ByteArray) (w : World) (hE : EnvF w) (hs : s.size ≤ 1000000) (hf : f.size ≤ 1000000) :
    Calls Tryz.prog 93 #[.agg #[.string h, .string p, .string f], .string s] w fun e w' => e = .returned (sortV h p f s) ∧ Below w.heap.size w w' := by
  have HA := Lib.hid (fun w hE => asking_parse s w hs hE)
  have hB0 := below_o3 w (.string h) (.string p) (.string f)
  have HE0 := Lib.hid (hE.below hB0)
  have HB0 := Lib.hid hB0
  have HP0 := Lib.hid (heap_alloc_new w (.cells #[.string h, .string p, .string f] 63))
  have hsz : (w.alloc (.cells #[.string h, .string p, .string f] 63)).heap.size = w.heap.size + 1 := by simp
  have HSZ := Lib.hid hsz
  unfold askV at HA
  have hn0 : askE s ≠ 0 → askN s = 0 := fun hh => (ask_bad s hh).2.2.2.2
  have hnb : askE s = 0 → 0 < askN s ∧ askN s ≤ (s.size : Int) := fun hh => let ⟨_, h1, h2, _⟩ := ask_again s hh; ⟨h1, h2⟩
  obtain ⟨P, hP⟩ : ∃ P, bs (askPath s) = P := ⟨_, rfl⟩
  obtain ⟨Q, hQ⟩ : ∃ Q, bs (askHost s) = Q := ⟨_, rfl⟩
  obtain ⟨a, ha⟩ : ∃ a, askA s = a := ⟨_, rfl⟩
  obtain ⟨b, hb⟩ : ∃ b, askB s = b := ⟨_, rfl⟩
  obtain ⟨n, hn⟩ : ∃ n, askN s = n := ⟨_, rfl⟩
  obtain ⟨E, hE1⟩ : ∃ E, askE s = E := ⟨_, rfl⟩
  have hPd : askPath s = P.data.toList := by rw [← hP, bs_data]
  have hQd : askHost s = Q.data.toList := by rw [← hQ, bs_data]
  obtain ⟨C, hC⟩ : ∃ C, orgC h.data.toList p.data.toList f.data.toList s = C := ⟨_, rfl⟩
  have hCC : C = if E ≠ 0 ∨ n < (s.size : Int) then 400 else if P.data.toList ≠ p.data.toList ∨ Q.data.toList ≠ h.data.toList then 404 else if clipE a b (f.size : Int) ≠ 0 then 416 else 206 := by
    rw [← hC]; unfold orgC; rw [hE1, hn, hPd, hQd, ha, hb, size_len]
  have hV : sortV h p f s = if C = 206 then .iface 237 (.agg #[.int .i64 (clipA a b (f.size : Int)), .int .i64 (clipB a b (f.size : Int)), .string f]) else .iface 233 (.int .i64 C) := by
    unfold sortV orgA orgB; rw [hC, ha, hb, size_len]
  obtain ⟨V, hVV⟩ : ∃ V, sortV h p f s = V := ⟨_, rfl⟩
  rw [hVV] at hV ⊢
  have HV := Lib.hid hV
  rw [hP, hQ, ha, hb, hn, hE1] at HA
  have HCC := Lib.hid hCC
  clear hE hP hQ hPd hQd hC hCC hV hVV hB0 hsz hn0 hnb
  by_cases h1 : E = 0
  case neg =>
    have HR : Hid (C = 400) := Lib.hid (by rw [HCC.out, if_pos (.inl h1)])
    have tz : ((E : Int) != 0) = true := by rw [bne_iff_ne]; omega
    clear h1 hE1 hn ha hb
    go_enter Tryz.func93, Tryz.ntmps93
    go_wp2_with fail
    refine (HA.out _ HE0.out).mono ?_
    rintro e w1 ⟨rfl, hb1⟩
    have hp1 := (hb1.block w.heap.size (by have := HSZ.out; omega)).trans HP0.out
    have HB1 := Lib.hid (bstep HB0.out hb1)
    have hs1 : w.heap.size < w1.heap.size := by have := hb1.size; have := HSZ.out; omega
    obtain ⟨o0, o1, o2, -, -, -⟩ := three_facts hp1
    obtain ⟨q0, q1, q2, q3⟩ := box4 w1 (.string P) (.string Q) (.int .i64 a) (.int .i64 b) 91
    clear hp1 hb1 HE0 HP0
    go_wp2_with fail
    go_ret
    exact ⟨by rw [HV.out, HR.out]; rfl, HB1.out.alloc HB1.out.size _⟩
  subst h1
  by_cases h2 : n < (s.size : Int)
  · have HR : Hid (C = 400) := Lib.hid (by rw [HCC.out, if_pos (.inr h2)])
    have t2 : decide (n < (s.size : Int)) = true := decide_eq_true h2
    clear h2 hE1 hn ha hb
    go_enter Tryz.func93, Tryz.ntmps93
    go_wp2_with fail
    refine (HA.out _ HE0.out).mono ?_
    rintro e w1 ⟨rfl, hb1⟩
    have hp1 := (hb1.block w.heap.size (by have := HSZ.out; omega)).trans HP0.out
    have HB1 := Lib.hid (bstep HB0.out hb1)
    have hs1 : w.heap.size < w1.heap.size := by have := hb1.size; have := HSZ.out; omega
    obtain ⟨o0, o1, o2, -, -, -⟩ := three_facts hp1
    obtain ⟨q0, q1, q2, q3⟩ := box4 w1 (.string P) (.string Q) (.int .i64 a) (.int .i64 b) 91
    clear hp1 hb1 HE0 HP0
    go_wp2_with fail
    go_ret
    exact ⟨by rw [HV.out, HR.out]; rfl, HB1.out.alloc HB1.out.size _⟩
  have t2 : decide (n < (s.size : Int)) = false := decide_eq_false h2
  by_cases h3 : P.data.toList = p.data.toList
  case neg =>
    have HR : Hid (C = 404) := Lib.hid (by rw [HCC.out, if_neg (fun e => e.elim (fun e => e rfl) h2), if_pos (.inl h3)])
    have t3 : ¬ P.toList = p.toList := by rw [ByteArray.toList_eq, ByteArray.toList_eq]; exact h3
    clear h2 h3 hE1 hn ha hb
    go_enter Tryz.func93, Tryz.ntmps93
    go_wp2_with fail
    refine (HA.out _ HE0.out).mono ?_
    rintro e w1 ⟨rfl, hb1⟩
    have hp1 := (hb1.block w.heap.size (by have := HSZ.out; omega)).trans HP0.out
    have HB1 := Lib.hid (bstep HB0.out hb1)
    have hs1 : w.heap.size < w1.heap.size := by have := hb1.size; have := HSZ.out; omega
    obtain ⟨o0, o1, o2, -, -, -⟩ := three_facts hp1
    obtain ⟨q0, q1, q2, q3⟩ := box4 w1 (.string P) (.string Q) (.int .i64 a) (.int .i64 b) 91
    clear hp1 hb1 HE0 HP0
    go_wp2_with fail
    go_ret
    exact ⟨by rw [HV.out, HR.out]; rfl, HB1.out.alloc HB1.out.size _⟩
  have t3 : P.toList = p.toList := by rw [ByteArray.toList_eq, ByteArray.toList_eq]; exact h3
  by_cases h4 : Q.data.toList = h.data.toList
  case neg =>
    have HR : Hid (C = 404) := Lib.hid (by rw [HCC.out, if_neg (fun e => e.elim (fun e => e rfl) h2), if_pos (.inr h4)])
    have t4 : ¬ Q.toList = h.toList := by rw [ByteArray.toList_eq, ByteArray.toList_eq]; exact h4
    have t4b : (Q.toList == h.toList) = false := by rw [beq_eq_false_iff_ne]; exact t4
    clear h2 h3 h4 hE1 hn ha hb
    go_enter Tryz.func93, Tryz.ntmps93
    go_wp2_with fail
    refine (HA.out _ HE0.out).mono ?_
    rintro e w1 ⟨rfl, hb1⟩
    have hp1 := (hb1.block w.heap.size (by have := HSZ.out; omega)).trans HP0.out
    have HB1 := Lib.hid (bstep HB0.out hb1)
    have hs1 : w.heap.size < w1.heap.size := by have := hb1.size; have := HSZ.out; omega
    obtain ⟨o0, o1, o2, -, -, -⟩ := three_facts hp1
    obtain ⟨q0, q1, q2, q3⟩ := box4 w1 (.string P) (.string Q) (.int .i64 a) (.int .i64 b) 91
    clear hp1 hb1 HE0 HP0
    go_wp2_with fail
    go_ret
    exact ⟨by rw [HV.out, HR.out]; rfl, HB1.out.alloc HB1.out.size _⟩
  have t4 : Q.toList = h.toList := by rw [ByteArray.toList_eq, ByteArray.toList_eq]; exact h4
  have HCl := Lib.hid (fun w => ranges_clip a b (f.size : Int) w (by omega) (by omega))
  obtain ⟨K, hK⟩ : ∃ K, clipE a b (f.size : Int) = K := ⟨_, rfl⟩
  have HCK : Hid (C = if K ≠ 0 then 416 else 206) := Lib.hid (by
    rw [HCC.out, if_neg (fun e => e.elim (fun e => e rfl) h2), if_neg (fun e => e.elim (fun e => e h3) (fun e => e h4)), hK])
  rw [hK] at HCl
  generalize clipA a b (f.size : Int) = A at HCl HV
  generalize clipB a b (f.size : Int) = B at HCl HV
  by_cases h5 : K = 0
  case neg =>
    have HR : Hid (C = 416) := Lib.hid (by rw [HCK.out, if_pos h5])
    have tz : ((K : Int) != 0) = true := by rw [bne_iff_ne]; omega
    clear h2 h3 h4 h5 hK hE1 hn ha hb
    go_enter Tryz.func93, Tryz.ntmps93
    go_wp2_with fail
    refine (HA.out _ HE0.out).mono ?_
    rintro e w1 ⟨rfl, hb1⟩
    have hp1 := (hb1.block w.heap.size (by have := HSZ.out; omega)).trans HP0.out
    have HB1 := Lib.hid (bstep HB0.out hb1)
    have hs1 : w.heap.size < w1.heap.size := by have := hb1.size; have := HSZ.out; omega
    obtain ⟨o0, o1, o2, -, -, -⟩ := three_facts hp1
    obtain ⟨q0, q1, q2, q3⟩ := box4 w1 (.string P) (.string Q) (.int .i64 a) (.int .i64 b) 91
    clear hp1 hb1 HE0 HP0
    go_wp2_with fail
    refine (HCl.out _).mono ?_
    rintro e w2 ⟨rfl, hb2⟩
    have HB2 := Lib.hid (bstep HB1.out (bstep (below_agg4 _ _ _ _ _ _) hb2))
    clear hb2
    go_wp2_with fail
    go_ret
    exact ⟨by rw [HV.out, HR.out]; rfl, HB2.out.alloc HB2.out.size _⟩
  subst h5
  have HR : Hid (C = 206) := Lib.hid (by rw [HCK.out, if_neg (fun e => e rfl)])
  clear h2 h3 h4 hK hE1 hn ha hb
  go_enter Tryz.func93, Tryz.ntmps93
  go_wp2_with fail
  refine (HA.out _ HE0.out).mono ?_
  rintro e w1 ⟨rfl, hb1⟩
  have hp1 := (hb1.block w.heap.size (by have := HSZ.out; omega)).trans HP0.out
  have HB1 := Lib.hid (bstep HB0.out hb1)
  have hs1 : w.heap.size < w1.heap.size := by have := hb1.size; have := HSZ.out; omega
  obtain ⟨o0, o1, o2, -, -, -⟩ := three_facts hp1
  obtain ⟨q0, q1, q2, q3⟩ := box4 w1 (.string P) (.string Q) (.int .i64 a) (.int .i64 b) 91
  clear hp1 hb1 HE0 HP0
  go_wp2_with fail
  refine (HCl.out _).mono ?_
  rintro e w2 ⟨rfl, hb2⟩
  have hx : w.heap.size < (w1.alloc (.cells #[.string P, .string Q, .int .i64 a, .int .i64 b] 91)).heap.size := by simp; omega
  have o2' := (hb2.cell (p := ⟨w.heap.size, 2, none⟩) hx).trans (((below_agg4 w1 (.string P) (.string Q) (.int .i64 a) (.int .i64 b) 91).cell (p := ⟨w.heap.size, 2, none⟩) hs1).trans o2)
  have HB2 := Lib.hid (bstep HB1.out (bstep (below_agg4 _ _ _ _ _ _) hb2))
  have hs2 : w.heap.size < w2.heap.size := Nat.lt_of_lt_of_le hx hb2.size
  obtain ⟨k0, k1⟩ := box2 w2 (.int .i64 A) (.int .i64 B) 28
  clear hb2 hx o0 o1 o2 q0 q1 q2 q3
  go_wp2_with fail
  go_ret
  exact ⟨by rw [HV.out, HR.out]; rfl, HB2.out.alloc HB2.out.size _⟩
end Go.Proofs.YtbdmmgmcbecolaaGreatDoor
namespace Go.Proofs.YtbdmmgmcbecolaaGreatDoor
open Go.RowKit
/-- what is answered with bytes -/
theorem org_part (h p f : List UInt8) (s : ByteArray) (hc : orgC h p f s = 206) (hf : f.length ≤ 1000000) : 0 ≤ orgA f s ∧ orgA f s ≤ orgB f s ∧ orgB f s < (f.length : Int) ∧ orgF h p f s = [(crangeK, toldL (orgA f s) (orgB f s) (f.length : Int))] ∧ orgY h p f s = (f.take (orgB f s + 1).toNat).drop (orgA f s).toNat := by
  obtain ⟨-, -, -, -, h5⟩ := orgC_206 h p f s hc
  obtain ⟨q1, q2, q3, q4⟩ := clip_ok _ _ _ h5
  obtain ⟨r1, r2, r3⟩ := rErr_ok _ _ q1
  unfold orgA orgB orgF orgY
  rw [q3, q4, if_pos hc, if_pos hc]
  unfold orgA orgB
  rw [q3, q4]
  refine ⟨r1, ?_, ?_, rfl, rfl⟩ <;> split <;> omega
theorem meth_refusal (v : Value) (w : World) : (Go.method 528 233 v "gazetteer/origin.reply").run Tryz.prog w = .ok (307, v) w := by kernel_rfl
theorem meth_part (v : Value) (w : World) : (Go.method 528 237 v "gazetteer/origin.reply").run Tryz.prog w = .ok (308, v) w := by kernel_rfl
set_option maxRecDepth 100000 in
set_option maxHeartbeats 4000000 in
theorem origin_answer (h p f s : ByteArray) (w : World) (hE : EnvF w) (hs : s.size ≤ 1000000) (hf : f.size ≤ 1000000) :
    Calls Tryz.prog 62 #[.agg #[.string h, .string p, .string f], .string s] w fun e w' => e = .returned (.string (bs (orgS h.data.toList p.data.toList f.data.toList s))) ∧ Below w.heap.size w w' := by
  have HC := Lib.hid (fun w => origin_check h p f w)
  have HS := Lib.hid (fun w hE => origin_sort h p f s w hE hs hf)
  have hB0 := below_o3 w (.string h) (.string p) (.string f)
  have HE0 := Lib.hid (hE.below hB0)
  have HB0 := Lib.hid hB0
  have HP0 := Lib.hid (heap_alloc_new w (.cells #[.string h, .string p, .string f] 63))
  have hsz : (w.alloc (.cells #[.string h, .string p, .string f] 63)).heap.size = w.heap.size + 1 := by simp
  have HSZ := Lib.hid hsz
  obtain ⟨o0, o1, o2, -, -, -⟩ := three_facts HP0.out
  clear hE hB0 hsz
  by_cases he : orgE h.data.toList p.data.toList = 0
  case neg =>
    have HR : Hid (orgS h.data.toList p.data.toList f.data.toList s = []) := Lib.hid (by unfold orgS; rw [if_neg he])
    have tz : ((orgE h.data.toList p.data.toList : Int) != 0) = true := by rw [bne_iff_ne]; omega
    generalize orgE h.data.toList p.data.toList = E at HC tz
    clear he
    go_enter Tryz.func62, Tryz.ntmps62
    go_wp2_with fail
    refine (HC.out _).mono ?_
    rintro e w1 ⟨rfl, hb1⟩
    go_wp2_with fail
    go_ret
    exact ⟨by rw [HR.out]; rfl, bstep HB0.out hb1⟩
  rw [he] at HC
  by_cases hc : orgC h.data.toList p.data.toList f.data.toList s = 206
  · have hV : sortV h p f s = .iface 237 (.agg #[.int .i64 (orgA f.data.toList s), .int .i64 (orgB f.data.toList s), .string f]) := if_pos hc
    rw [hV] at HS
    obtain ⟨g1, g2, g3, g4, g5⟩ := org_part h.data.toList p.data.toList f.data.toList s hc (by rw [size_len]; exact hf)
    have HR : Hid (orgS h.data.toList p.data.toList f.data.toList s = repS 206 (orgF h.data.toList p.data.toList f.data.toList s) (orgY h.data.toList p.data.toList f.data.toList s)) := Lib.hid (by unfold orgS; rw [if_pos he, hc])
    rw [size_len] at g3 g4
    have hex : bs (orgY h.data.toList p.data.toList f.data.toList s) = f.extract (orgA f.data.toList s).toNat (orgB f.data.toList s + 1).toNat := by rw [extract_bs, g5]
    have hYl := orgY_len h.data.toList p.data.toList f.data.toList s
    rw [size_len] at hYl
    generalize orgY h.data.toList p.data.toList f.data.toList s = Y at HR g5 hex hYl
    have HPa := Lib.hid (fun W hE => part_reply (orgA f.data.toList s) (orgB f.data.toList s) f W hE g1 g2 g3 hf)
    rw [← g4, ← hex] at HPa
    have hFb : ∀ x ∈ orgF h.data.toList p.data.toList f.data.toList s, x.1.length ≤ 1000000 ∧ x.2.length ≤ 1000000 := by
      rw [g4]
      intro x hx
      obtain rfl := List.mem_singleton.1 hx
      exact ⟨by show crangeK.length ≤ 1000000; decide, Nat.le_trans (toldL_len _ _ _) (by decide)⟩
    have hFl : (orgF h.data.toList p.data.toList f.data.toList s).length ≤ 1000000 := by rw [g4]; show 1 ≤ 1000000; decide
    generalize orgF h.data.toList p.data.toList f.data.toList s = F at HR HPa g4 hFb hFl
    generalize orgA f.data.toList s = A at HS HPa
    generalize orgB f.data.toList s = B at HS HPa
    have HPr := Lib.hid (fun W fv BB hE hO => reply_print 206 fv F (bs Y) BB W hE (by decide) (by decide) hO hFl hFb (by rw [bs_size]; omega))
    rw [bs_data] at HPr
    unfold RPost at HPr
    unfold PartPost at HPa
    generalize bs Y = YB at HPa HPr
    have hm := meth_part
    clear hV hc he g1 g2 g3 g4 g5 hex hYl hFb hFl
    go_enter Tryz.func62, Tryz.ntmps62
    go_wp2_with fail
    refine (HC.out _).mono ?_
    rintro e w1 ⟨rfl, hb1⟩
    have hp1 := (hb1.block w.heap.size (by have := HSZ.out; omega)).trans HP0.out
    have HB1 := Lib.hid (bstep HB0.out hb1)
    have HE1 := Lib.hid (HE0.out.below hb1)
    clear hb1 o0 o1 o2
    obtain ⟨o0, o1, o2, -, -, -⟩ := three_facts hp1
    clear hp1
    go_wp2_with fail
    refine (HS.out _ HE1.out).mono ?_
    rintro e w2 ⟨rfl, hb2⟩
    have HB2 := Lib.hid (bstep HB1.out hb2)
    have HE2 := Lib.hid (HE1.out.below hb2)
    clear hb2 o0 o1 o2
    go_wp2_with fail
    refine (HPa.out _ HE2.out).mono ?_
    rintro e w3 ⟨a3, c3, rfl, ⟨BB, hO⟩, hb3⟩
    have HB3 := Lib.hid (bstep HB2.out hb3)
    have HE3 := Lib.hid (HE2.out.below hb3)
    have HO := Lib.hid hO
    clear hb3 hO
    go_wp2_with fail
    refine (HPr.out _ _ _ HE3.out HO.out).mono ?_
    rintro e w4 ⟨rfl, hb4⟩
    go_wp2_with fail
    go_ret
    exact ⟨by rw [HR.out]; rfl, bstep HB3.out hb4⟩
  · have hV : sortV h p f s = .iface 233 (.int .i64 (orgC h.data.toList p.data.toList f.data.toList s)) := if_neg hc
    rw [hV] at HS
    obtain ⟨e1, e2⟩ := orgF_other h.data.toList p.data.toList f.data.toList s hc
    have HR : Hid (orgS h.data.toList p.data.toList f.data.toList s = repS (orgC h.data.toList p.data.toList f.data.toList s) [] []) := Lib.hid (by unfold orgS; rw [if_pos he, e1, e2])
    have hc4 := orgC_four h.data.toList p.data.toList f.data.toList s
    generalize orgC h.data.toList p.data.toList f.data.toList s = C at HS HR hc hc4
    have HPr := Lib.hid (fun W hE => reply_print C (.slice none 0 0) [] ⟨#[]⟩ 0 W hE (by omega) (by omega) (nil_own W) (by decide) (fun f hf => by simp at hf) (by decide))
    have HRe := Lib.hid (fun W => refusal_reply C W)
    have hm := meth_refusal
    unfold RPost at HPr
    clear hV e1 e2 hc hc4 he
    go_enter Tryz.func62, Tryz.ntmps62
    go_wp2_with fail
    refine (HC.out _).mono ?_
    rintro e w1 ⟨rfl, hb1⟩
    have hp1 := (hb1.block w.heap.size (by have := HSZ.out; omega)).trans HP0.out
    have HB1 := Lib.hid (bstep HB0.out hb1)
    have HE1 := Lib.hid (HE0.out.below hb1)
    clear hb1 o0 o1 o2
    obtain ⟨o0, o1, o2, -, -, -⟩ := three_facts hp1
    clear hp1
    go_wp2_with fail
    refine (HS.out _ HE1.out).mono ?_
    rintro e w2 ⟨rfl, hb2⟩
    have HB2 := Lib.hid (bstep HB1.out hb2)
    have HE2 := Lib.hid (HE1.out.below hb2)
    clear hb2 o0 o1 o2
    go_wp2_with fail
    refine (HRe.out _).mono ?_
    rintro e w3 ⟨rfl, hb3⟩
    have HB3 := Lib.hid (bstep HB2.out hb3)
    have HE3 := Lib.hid (HE2.out.below hb3)
    clear hb3
    go_wp2_with fail
    refine (HPr.out _ HE3.out).mono ?_
    rintro e w4 ⟨rfl, hb4⟩
    go_wp2_with fail
    go_ret
    exact ⟨by rw [HR.out]; rfl, bstep HB3.out hb4⟩
end Go.Proofs.YtbdmmgmcbecolaaGreatDoor
