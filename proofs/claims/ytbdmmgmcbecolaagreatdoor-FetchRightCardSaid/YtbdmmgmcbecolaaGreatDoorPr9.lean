/- fault.Apply and fault.Harms at any kind. The document's Apply. Plain words on what is told of a range (no program in sight). The small example of the laws of layer 26. Plain words: what an origin answers (no program in sight). The law FaultTells. The law function ReplyLays. The law function ReplyTakes. The law function ReplyBack. What FaultKeeps asks, in bytes; a text cut at its ends of lines. Plain words on connections: what is answered to bytes, whatever the pieces (no program in sight). Plain words on links: what comes back, and what the log has (no program in sight). Blocks that a call touches; rows of bytes. (The same as PoolMem's first part: never import both.) What Clip and Told of package ranges, and of its reference, return. What wrong and Told of package ranges, and Told of its reference, return. What Check and sort of package origin, and the replies of both sorts, return. What Answer and Code of package origin return. What the reference of origin returns. The law OriginTells. A connection in memory; what New, Closed, Rest and Served of package serve return. A slice that reads as faults. make and copy of rows of elements of three cells. -/
import Derived.Test.YtbdmmgmcbecolaaGreatDoorPr8
import Derived.Deep.RegionHeld3
import Derived.Lib.AppendStr
import Derived.Deep.AppendLies
import Derived.Laws.OwnMore
set_option linter.unusedVariables false
set_option linter.unusedSimpArgs false
namespace Go.Proofs.YtbdmmgmcbecolaaGreatDoor
open Go.RowKit
set_option maxRecDepth 100000 in
set_option maxHeartbeats 4000000 in
theorem apply_any (k n : Int) (t s : ByteArray) (w : World) (hk : 6 ≤ k) : Calls Tryz.prog 63 #[.agg #[.int .u8 k, .int .i64 n, .string t], .string s] w fun e w' => e = .returned (.string s) ∧ Below w.heap.size w w' := by
  have HB := Lib.hid (below_agg3 w (.int .u8 k) (.int .i64 n) (.string t) 65)
  go_enter Tryz.func63, Tryz.ntmps63
  go_wp2_with fail
  go_ret
  exact ⟨rfl, HB.out⟩
theorem apply_off (k n : Int) (t : List UInt8) (s : ByteArray) (h1 : k ≠ 1) (h2 : k ≠ 2) (h3 : k ≠ 3) (h4 : k ≠ 4) (h5 : k ≠ 5) : applyF k n t s = s.data.toList := by
  unfold applyF
  rw [if_neg h1, if_neg h2]
  by_cases hb : (headOf s).2.2 ≠ 0 ∨ (headOf s).1 = []
  · rw [if_pos hb]
  · rw [if_neg hb, if_neg h3, if_neg h5, if_neg h4]
theorem apply_bad (k n : Int) (t : List UInt8) (s : ByteArray) (h1 : k ≠ 1) (h2 : k ≠ 2) (h : (headOf s).2.2 ≠ 0 ∨ (headOf s).1.length = 0) : applyF k n t s = s.data.toList := by
  unfold applyF
  rw [if_neg h1, if_neg h2, if_pos]
  rcases h with h | h
  · exact .inl h
  · exact .inr (List.length_eq_zero_iff.1 h)
theorem fault_apply (k n : Int) (t s : ByteArray) (w : World) (hE : EnvW w) (hk0 : 0 ≤ k) (h0 : -9223372036854775808 ≤ n) (h1 : n ≤ 9223372036854775807) (ht : t.size ≤ 10000) (hs : s.size ≤ 1000000) :
    Calls Tryz.prog 63 #[.agg #[.int .u8 k, .int .i64 n, .string t], .string s] w fun e w' => e = .returned (.string (bs (applyF k n t.data.toList s))) ∧ Below w.heap.size w w' := by
  have same : applyF k n t.data.toList s = s.data.toList → (∀ (R : Ending → World → Prop), (R = fun e w' => e = .returned (.string s) ∧ Below w.heap.size w w') → Calls Tryz.prog 63 #[.agg #[.int .u8 k, .int .i64 n, .string t], .string s] w R) → Calls Tryz.prog 63 #[.agg #[.int .u8 k, .int .i64 n, .string t], .string s] w fun e w' => e = .returned (.string (bs (applyF k n t.data.toList s))) ∧ Below w.heap.size w w' := by
    intro e h
    rw [e, bs_self]
    exact h _ rfl
  rcases Int.lt_or_le k 6 with hk | hk
  case inr => exact same (apply_off k n _ s (by omega) (by omega) (by omega) (by omega) (by omega)) (fun R hR => by rw [hR]; exact apply_any k n t s w hk)
  have hc : k = 0 ∨ k = 1 ∨ k = 2 ∨ k = 3 ∨ k = 4 ∨ k = 5 := by omega
  have hh : (headOf s).2.2 ≠ 0 ∨ ((headOf s).2.2 = 0 ∧ (headOf s).1.length = 0) ∨ ((headOf s).2.2 = 0 ∧ (headOf s).1.length ≠ 0) := by omega
  have good : (headOf s).2.2 = 0 ∧ (headOf s).1.length ≠ 0 → ¬ ((headOf s).2.2 ≠ 0 ∨ (headOf s).1 = []) := by
    rintro ⟨a, b⟩ (c | c)
    · exact c a
    · exact b (by rw [c]; rfl)
  rcases hc with rfl | rfl | rfl | rfl | rfl | rfl
  · exact same (apply_off 0 n _ s (by omega) (by omega) (by omega) (by omega) (by omega)) (fun R hR => by rw [hR]; exact apply_keep n t s w hE h0 h1 ht hs)
  · exact apply_shut n t s w hE h0 h1 ht hs
  · exact apply_cut n t s w hE h0 h1 ht hs
  · rcases hh with hb | hb | hb
    · exact same (apply_bad 3 n _ s (by omega) (by omega) (.inl hb)) (fun R hR => by rw [hR]; exact apply_code_err n t s w hE hs hb)
    · exact same (apply_bad 3 n _ s (by omega) (by omega) (.inr hb.2)) (fun R hR => by rw [hR]; exact apply_code_none n t s w hE hs hb)
    · have e : applyF 3 n t.data.toList s = codeF n s := by
        unfold applyF codeF
        rw [if_neg (by omega), if_neg (by omega), if_neg (good hb), if_pos rfl]
      rw [e]
      exact apply_code n t s w hE h0 h1 ht hs hb
  · rcases hh with hb | hb | hb
    · exact same (apply_bad 4 n _ s (by omega) (by omega) (.inl hb)) (fun R hR => by rw [hR]; exact apply_place_err n t s w hE hs hb)
    · exact same (apply_bad 4 n _ s (by omega) (by omega) (.inr hb.2)) (fun R hR => by rw [hR]; exact apply_place_none n t s w hE hs hb)
    · have e : applyF 4 n t.data.toList s = placeT t.data.toList s (headOf s).1 := by
        unfold applyF placeT
        rw [if_neg (by omega), if_neg (by omega), if_neg (good hb), if_neg (by omega), if_neg (by omega), if_pos rfl]
        cases placeF crangeN (headOf s).1 0 <;> rfl
      rw [e]
      exact apply_place n t s w hE h0 h1 ht hs hb
  · rcases hh with hb | hb | hb
    · exact same (apply_bad 5 n _ s (by omega) (by omega) (.inl hb)) (fun R hR => by rw [hR]; exact apply_garble_err n t s w hE hs hb)
    · exact same (apply_bad 5 n _ s (by omega) (by omega) (.inr hb.2)) (fun R hR => by rw [hR]; exact apply_garble_none n t s w hE hs hb)
    · have e : applyF 5 n t.data.toList s = garbleF t.data.toList s (headOf s).1 := by
        unfold applyF garbleF
        rw [if_neg (by omega), if_neg (by omega), if_neg (good hb), if_neg (by omega), if_pos rfl]
      rw [e]
      exact apply_garble n t s w hE h0 h1 ht hs hb
/-- does a fault make another text of s? -/
def harmF (k n : Int) (t : List UInt8) (s : ByteArray) : Bool := decide (applyF k n t s ≠ s.data.toList)
end Go.Proofs.YtbdmmgmcbecolaaGreatDoor
namespace Go.Proofs.YtbdmmgmcbecolaaGreatDoor
open Go.RowKit
structure RD (W0 W1 : World) (X : Nat) (k n : Int) (t : ByteArray) : Prop where
  bel : Below W0.heap.size W0 W1
  arg : W1.heap[X]? = some (.cells #[.int .u8 k, .int .i64 n, .string t] 148 (0, 0))
  lt : X < W0.heap.size
theorem RD.start (w : World) (k n : Int) (t : ByteArray) : RD (w.alloc (.cells #[.int .u8 k, .int .i64 n, .string t] 148)) (w.alloc (.cells #[.int .u8 k, .int .i64 n, .string t] 148)) w.heap.size k n t := ⟨Below.refl _ _, heap_alloc_new w _, by simp⟩
theorem RD.step {W0 W1 W2 : World} {X : Nat} {k n : Int} {t : ByteArray} (h : RD W0 W1 X k n t) (hb : Below W1.heap.size W1 W2) : RD W0 W2 X k n t := ⟨bstep h.bel hb, (hb.block X (Nat.lt_of_lt_of_le h.lt h.bel.size)).trans h.arg, h.lt⟩
theorem RD.cells {W0 W1 : World} {X : Nat} {k n : Int} {t : ByteArray} (h : RD W0 W1 X k n t) : W1.cell? ⟨X, 0, none⟩ = some (.int .u8 k) ∧ W1.cell? ⟨X, 1, none⟩ = some (.int .i64 n) ∧ W1.cell? ⟨X, 2, none⟩ = some (.string t) :=
  let ⟨a, b, c, _⟩ := three_facts h.arg
  ⟨a, b, c⟩
end Go.Proofs.YtbdmmgmcbecolaaGreatDoor
namespace Go.Proofs.YtbdmmgmcbecolaaGreatDoor
open Go.RowKit
theorem toldE_ok (a b t : Int) (h : toldE a b t = 0) : rErr a b = 0 ∧ b < t ∧ t ≤ 9007199254740991 := by
  unfold toldE at h
  split at h
  · exact absurd h (by assumption)
  · split at h
    · exact absurd h (by decide)
    · exact ⟨by omega, by omega, by omega⟩
theorem toldL_eq (a b t : Int) (h : toldE a b t = 0) : toldL a b t = tellsL ++ (Go.Lib.decDigits a.toNat ++ 45 :: (Go.Lib.decDigits b.toNat ++ 47 :: Go.Lib.decDigits t.toNat)) := by
  obtain ⟨h1, h2, h3⟩ := toldE_ok a b t h
  obtain ⟨g1, g2, g3⟩ := rErr_ok a b h1
  unfold toldL textR digL
  rw [if_pos h, if_neg (by omega), if_neg (by omega), if_neg (by omega)]
  simp
theorem dec_len (n : Nat) (h : n ≤ 9223372036854775807) : (Go.Lib.decDigits n).length ≤ 20 := by
  have := digL_len (n : Int) (by omega)
  rw [digL_nat] at this
  exact this
theorem toldL_len (a b t : Int) : (toldL a b t).length ≤ 80 := by
  by_cases h : toldE a b t = 0
  · obtain ⟨h1, h2, h3⟩ := toldE_ok a b t h
    obtain ⟨g1, g2, g3⟩ := rErr_ok a b h1
    rw [toldL_eq a b t h]
    have e1 := dec_len a.toNat (by omega)
    have e2 := dec_len b.toNat (by omega)
    have e3 := dec_len t.toNat (by omega)
    have e4 : tellsL.length = 6 := rfl
    simp only [List.length_append, List.length_cons]
    omega
  · unfold toldL; rw [if_neg h]; exact Nat.zero_le _
theorem dec_plain (n : Nat) : ∀ c ∈ Go.Lib.decDigits n, plainB c.toNat = true := by
  intro c hc
  have := digN_bd _ (List.all_eq_true.1 (decDigits_all n) c hc)
  unfold plainB
  simp
  omega
/-- the name of the field that tells a range -/
def crangeK : List UInt8 := [99, 111, 110, 116, 101, 110, 116, 45, 114, 97, 110, 103, 101]
theorem told_gap (a b t : Int) (h : toldE a b t = 0) : printOk crangeK (toldL a b t) = true := by
  unfold printOk
  rw [show nameL crangeK = true by decide, Bool.true_and, Bool.and_eq_true, toldL_eq a b t h]
  refine ⟨?_, ?_⟩
  · refine List.all_eq_true.2 fun c hc => ?_
    rcases List.mem_append.1 hc with hc | hc
    · exact List.all_eq_true.1 (show (tellsL.all fun c => plainB c.toNat) = true by decide) c hc
    rcases List.mem_append.1 hc with hc | hc
    · exact dec_plain _ c hc
    rcases List.mem_cons.1 hc with rfl | hc
    · decide
    rcases List.mem_append.1 hc with hc | hc
    · exact dec_plain _ c hc
    rcases List.mem_cons.1 hc with rfl | hc
    · decide
    · exact dec_plain _ c hc
  · unfold noGap
    have e1 : headGap (tellsL ++ (Go.Lib.decDigits a.toNat ++ 45 :: (Go.Lib.decDigits b.toNat ++ 47 :: Go.Lib.decDigits t.toNat))) = false := by
      unfold tellsL; rfl
    have e2 : tellsL ++ (Go.Lib.decDigits a.toNat ++ 45 :: (Go.Lib.decDigits b.toNat ++ 47 :: Go.Lib.decDigits t.toNat)) = (tellsL ++ (Go.Lib.decDigits a.toNat ++ 45 :: (Go.Lib.decDigits b.toNat ++ [47]))) ++ Go.Lib.decDigits t.toNat := by simp
    rw [e1, e2, dig_last]
    rfl
theorem told_field (a b t : Int) (h : toldE a b t = 0) : fieldE crangeK (toldL a b t) = 0 := by
  unfold fieldE
  rw [if_pos (told_gap a b t h), if_neg]
  have := toldL_len a b t
  have e : (titL true crangeK).length = 13 := by decide
  unfold printL tailV
  split <;> simp only [List.length_append, List.length_cons, List.length_nil, e] <;> omega
/-- what is told is taken -/
theorem tell_told (a b t : Int) (h : toldE a b t = 0) : tellE (toldL a b t) = 0 ∧ tellA (toldL a b t) = a ∧ tellB (toldL a b t) = b ∧ tellC (toldL a b t) = t := by
  obtain ⟨h1, h2, h3⟩ := toldE_ok a b t h
  obtain ⟨g1, g2, g3⟩ := rErr_ok a b h1
  have hd : (toldL a b t).drop 6 = Go.Lib.decDigits a.toNat ++ 45 :: (Go.Lib.decDigits b.toNat ++ 47 :: Go.Lib.decDigits t.toNat) := by rw [toldL_eq a b t h]; rfl
  have hno : ∀ d ∈ Go.Lib.decDigits a.toNat, d ≠ 45 := fun d hd => (dig_no _ d hd).2.1
  have hno2 : ∀ d ∈ Go.Lib.decDigits b.toNat, d ≠ 47 := fun d hd => (dig_no _ d hd).2.2
  have hok : tellOk (toldL a b t) = true := by
    unfold tellOk
    rw [hd, hasB_of _ _ _ hno, behind_of _ _ _ hno, hasB_of _ _ _ hno2, toldL_eq a b t h, Bool.and_true, Bool.and_true]
    exact List.isPrefixOf_iff_prefix.2 (List.prefix_append _ _)
  have hF : tellF (toldL a b t) = a.toNat := by unfold tellF; rw [hd, upTo_of _ _ _ hno, (numE_dec _ (by omega)).2]
  have hT : tellT (toldL a b t) = b.toNat := by unfold tellT; rw [hd, behind_of _ _ _ hno, upTo_of _ _ _ hno2, (numE_dec _ (by omega)).2]
  have hN : tellN (toldL a b t) = t.toNat := by unfold tellN; rw [hd, behind_of _ _ _ hno, behind_of _ _ _ hno2, (numE_dec _ (by omega)).2]
  have he : tellE (toldL a b t) = 0 := by
    unfold tellE
    rw [if_neg (by rw [hok]; decide), hF, hT, hN, hd, upTo_of _ _ _ hno, behind_of _ _ _ hno, upTo_of _ _ _ hno2, behind_of _ _ _ hno2]
    unfold threeE
    rw [(numE_dec _ (by omega)).1, (numE_dec _ (by omega)).1, (numE_dec _ (by omega)).1, if_neg (by decide), Int.toNat_of_nonneg g1, Int.toNat_of_nonneg (by omega), Int.toNat_of_nonneg (by omega)]
    exact h
  refine ⟨he, ?_, ?_, ?_⟩
  · unfold tellA; rw [if_pos he, hF]; exact Int.toNat_of_nonneg g1
  · unfold tellB; rw [if_pos he, hT]; exact Int.toNat_of_nonneg (by omega)
  · unfold tellC; rw [if_pos he, hN]; exact Int.toNat_of_nonneg (by omega)
theorem clip_ok (a b t : Int) (h : clipE a b t = 0) : rErr a b = 0 ∧ a < t ∧ clipA a b t = a ∧ clipB a b t = (if b < t - 1 then b else t - 1) := by
  have hh := h
  unfold clipE at hh
  split at hh
  · exact absurd hh (by assumption)
  · split at hh
    · exact absurd hh (by decide)
    · refine ⟨by omega, by omega, ?_, ?_⟩
      · unfold clipA; rw [if_pos h]
      · unfold clipB; rw [if_pos h]
theorem clip_told (a b t : Int) (h : clipE a b t = 0) (ht : t ≤ 9007199254740991) : toldE (clipA a b t) (clipB a b t) t = 0 := by
  obtain ⟨h1, h2, h3, h4⟩ := clip_ok a b t h
  obtain ⟨g1, g2, g3⟩ := rErr_ok a b h1
  rw [h3, h4]
  have hr : rErr a (if b < t - 1 then b else t - 1) = 0 := by
    unfold rErr
    rw [if_neg]
    split <;> omega
  unfold toldE
  rw [if_neg (by rw [hr]; decide), if_neg (by split <;> omega)]
end Go.Proofs.YtbdmmgmcbecolaaGreatDoor
namespace Go.Proofs.YtbdmmgmcbecolaaGreatDoor
open Go.RowKit
/-- a reply of the program's that lies in a block -/
structure PAt (w : World) (b : Nat) (c : Int) (a : Option Addr) (n cp : Nat) (fs : List (List UInt8 × List UInt8)) (x : ByteArray) : Prop where
  blk : w.heap[b]? = some (.cells #[.int .i64 c, .slice a n cp, .string x] 113 (0, 0))
  own : ∃ B, w.ownsRow B 161 2 (.slice a n cp) n (fcells fs)
theorem PAt.lt {w : World} {b : Nat} {c : Int} {a : Option Addr} {n cp : Nat} {fs : List (List UInt8 × List UInt8)} {x : ByteArray} (h : PAt w b c a n cp fs x) : b < w.heap.size := (Array.getElem?_eq_some_iff.1 h.blk).1
theorem PAt.below {w w' : World} {b : Nat} {c : Int} {a : Option Addr} {n cp : Nat} {fs : List (List UInt8 × List UInt8)} {x : ByteArray} (h : PAt w b c a n cp fs x) (hb : Below w.heap.size w w') : PAt w' b c a n cp fs x :=
  ⟨(hb.block b h.lt).trans h.blk, let ⟨B, hB⟩ := h.own; ⟨B, own_keep hB hb⟩⟩
theorem PAt.alloc {w : World} {b : Nat} {c : Int} {a : Option Addr} {n cp : Nat} {fs : List (List UInt8 × List UInt8)} {x : ByteArray} (h : PAt w b c a n cp fs x) (o : Obj) : PAt (w.alloc o) b c a n cp fs x := h.below ((Below.refl _ _).alloc (Nat.le_refl _) o)
theorem PAt.holds {w : World} {b : Nat} {c : Int} {a : Option Addr} {n cp : Nat} {fs : List (List UInt8 × List UInt8)} {x : ByteArray} (h : PAt w b c a n cp fs x) : HoldsF w (.slice a n cp) fs := let ⟨_, hB⟩ := h.own; HoldsF.of_own hB
theorem PAt.new {w : World} {B : Nat} {c : Int} {a : Option Addr} {n cp : Nat} {fs : List (List UInt8 × List UInt8)} {x : ByteArray} (h : w.ownsRow B 161 2 (.slice a n cp) n (fcells fs)) :
    PAt (w.alloc (.cells #[.int .i64 c, .slice a n cp, .string x] 113)) w.heap.size c a n cp fs x :=
  ⟨heap_alloc_new w _, B, own_keep h ((Below.refl _ _).alloc (Nat.le_refl _) _)⟩
theorem nil_own (w : World) : w.ownsRow 0 161 2 (.slice none 0 0) 0 (fcells []) := World.ownsRow_nil _ _ _ _
end Go.Proofs.YtbdmmgmcbecolaaGreatDoor
namespace Go.Proofs.YtbdmmgmcbecolaaGreatDoor
open Go.RowKit
/-- may an origin be? -/
def orgE (h p : List UInt8) : Nat := if pathB p = false ∨ hostB h = false then 2 else 0
theorem orgE_asks (h p : List UInt8) : aErr p h 0 0 = orgE h p := by
  unfold aErr orgE
  split
  · rfl
  · decide
/-- the code of what a server of the file f answers to s -/
def orgC (h p f : List UInt8) (s : ByteArray) : Int :=
  if askE s ≠ 0 ∨ askN s < (s.size : Int) then 400
  else if askPath s ≠ p ∨ askHost s ≠ h then 404
  else if clipE (askA s) (askB s) (f.length : Int) ≠ 0 then 416 else 206
def orgA (f : List UInt8) (s : ByteArray) : Int := clipA (askA s) (askB s) (f.length : Int)
def orgB (f : List UInt8) (s : ByteArray) : Int := clipB (askA s) (askB s) (f.length : Int)
def orgF (h p f : List UInt8) (s : ByteArray) : List (List UInt8 × List UInt8) := if orgC h p f s = 206 then [(crangeK, toldL (orgA f s) (orgB f s) (f.length : Int))] else []
def orgY (h p f : List UInt8) (s : ByteArray) : List UInt8 := if orgC h p f s = 206 then (f.take (orgB f s + 1).toNat).drop (orgA f s).toNat else []
def orgS (h p f : List UInt8) (s : ByteArray) : List UInt8 := if orgE h p = 0 then repS (orgC h p f s) (orgF h p f s) (orgY h p f s) else []
theorem orgC_four (h p f : List UInt8) (s : ByteArray) : orgC h p f s = 400 ∨ orgC h p f s = 404 ∨ orgC h p f s = 416 ∨ orgC h p f s = 206 := by
  unfold orgC
  split
  · exact .inl rfl
  · split
    · exact .inr (.inl rfl)
    · split
      · exact .inr (.inr (.inl rfl))
      · exact .inr (.inr (.inr rfl))
theorem orgC_206 (h p f : List UInt8) (s : ByteArray) (hc : orgC h p f s = 206) : askE s = 0 ∧ (s.size : Int) ≤ askN s ∧ askPath s = p ∧ askHost s = h ∧ clipE (askA s) (askB s) (f.length : Int) = 0 := by
  unfold orgC at hc
  split at hc
  · exact absurd hc (by decide)
  · split at hc
    · exact absurd hc (by decide)
    · split at hc
      · exact absurd hc (by decide)
      · rename_i h1 h2 h3
        rw [not_or] at h1 h2
        exact ⟨Decidable.not_not.1 h1.1, by omega, Decidable.not_not.1 h2.1, Decidable.not_not.1 h2.2, Decidable.not_not.1 h3⟩
theorem orgF_other (h p f : List UInt8) (s : ByteArray) (hc : orgC h p f s ≠ 206) : orgF h p f s = [] ∧ orgY h p f s = [] := by
  unfold orgF orgY
  rw [if_neg hc, if_neg hc]
  exact ⟨rfl, rfl⟩
theorem orgY_len (h p f : List UInt8) (s : ByteArray) : (orgY h p f s).length ≤ f.length := by
  unfold orgY
  split
  · rw [List.length_drop]
    have := List.length_take_le (orgB f s + 1).toNat f
    have := List.length_take_le' (orgB f s + 1).toNat f
    omega
  · exact Nat.zero_le _
theorem err_four (c : Int) (h : c = 400 ∨ c = 404 ∨ c = 416 ∨ c = 206) : printErr c = 0 := by
  rcases h with rfl | rfl | rfl | rfl <;> decide
/-- what is answered may be laid -/
theorem org_good (h p f : List UInt8) (s : ByteArray) (hf : f.length ≤ 1000000) : repE (orgC h p f s) (orgF h p f s) = 0 := by
  unfold repE
  rw [if_neg (by rw [err_four _ (orgC_four h p f s)]; decide)]
  by_cases hc : orgC h p f s = 206
  · obtain ⟨-, -, -, -, h5⟩ := orgC_206 h p f s hc
    have ht := clip_told _ _ _ h5 (by omega)
    have hfe := told_field _ _ _ ht
    unfold orgF
    rw [if_pos hc, if_neg (by simp)]
    show (if crangeK = clen then 22 else if fieldE crangeK (toldL (orgA f s) (orgB f s) (f.length : Int)) ≠ 0 then fieldE crangeK (toldL (orgA f s) (orgB f s) (f.length : Int)) else ownE []) = 0
    unfold orgA orgB
    rw [if_neg (by decide), hfe]
    rfl
  · rw [(orgF_other h p f s hc).1, if_neg (by simp)]
    rfl
theorem orgS_eq (h p f : List UInt8) (s : ByteArray) (hf : f.length ≤ 1000000) (he : orgE h p = 0) : orgS h p f s = repL (orgC h p f s) (orgF h p f s) (orgY h p f s) := by
  unfold orgS repS
  rw [if_pos he, if_pos (org_good h p f s hf)]
end Go.Proofs.YtbdmmgmcbecolaaGreatDoor
namespace Go.Proofs.YtbdmmgmcbecolaaGreatDoor
open Go.RowKit
end Go.Proofs.YtbdmmgmcbecolaaGreatDoor
namespace Go.Proofs.YtbdmmgmcbecolaaGreatDoor
open Go.RowKit
/-- a reply of the document's that lies in a block -/
structure QAt (w : World) (b : Nat) (c : Int) (v : Value) (fs : List (List UInt8 × List UInt8)) (x : ByteArray) : Prop where
  blk : w.heap[b]? = some (.cells #[.int .i64 c, v, .string x] 79 (0, 0))
  hold : HoldsF w v fs
theorem QAt.lt {w : World} {b : Nat} {c : Int} {v : Value} {fs : List (List UInt8 × List UInt8)} {x : ByteArray} (h : QAt w b c v fs x) : b < w.heap.size := (Array.getElem?_eq_some_iff.1 h.blk).1
theorem QAt.below {w w' : World} {b : Nat} {c : Int} {v : Value} {fs : List (List UInt8 × List UInt8)} {x : ByteArray} (h : QAt w b c v fs x) (hb : Below w.heap.size w w') : QAt w' b c v fs x :=
  ⟨(hb.block b h.lt).trans h.blk, h.hold.below hb⟩
theorem QAt.new {w : World} {c : Int} {v : Value} {fs : List (List UInt8 × List UInt8)} {x : ByteArray} (h : HoldsF w v fs) :
    QAt (w.alloc (.cells #[.int .i64 c, v, .string x] 79)) w.heap.size c v fs x :=
  ⟨heap_alloc_new w _, h.below ((Below.refl _ _).alloc (Nat.le_refl _) _)⟩
theorem QAt.alloc {w : World} {b : Nat} {c : Int} {v : Value} {fs : List (List UInt8 × List UInt8)} {x : ByteArray} (h : QAt w b c v fs x) (o : Obj) : QAt (w.alloc o) b c v fs x := h.below ((Below.refl _ _).alloc (Nat.le_refl _) o)
theorem QAt.cells {w : World} {b : Nat} {c : Int} {v : Value} {fs : List (List UInt8 × List UInt8)} {x : ByteArray} (h : QAt w b c v fs x) : w.cell? ⟨b, 0, none⟩ = some (.int .i64 c) ∧ w.cell? ⟨b, 1, none⟩ = some v ∧ w.cell? ⟨b, 2, none⟩ = some (.string x) :=
  let ⟨h0, h1, h2, _⟩ := three_facts h.blk; ⟨h0, h1, h2⟩
end Go.Proofs.YtbdmmgmcbecolaaGreatDoor
namespace Go.Proofs.YtbdmmgmcbecolaaGreatDoor
open Go.RowKit
theorem takF_len (s : ByteArray) (most : Int) : (takF s most).length ≤ 17 := by
  unfold takF
  split
  · refine Nat.le_trans (restF_len _) ?_
    unfold fldL
    rw [List.length_map, List.length_tail]
    have := (headOf_bound s).2
    omega
  · exact Nat.zero_le _
theorem PAt.cells {w : World} {b : Nat} {c : Int} {a : Option Addr} {n cp : Nat} {fs : List (List UInt8 × List UInt8)} {x : ByteArray} (h : PAt w b c a n cp fs x) : w.cell? ⟨b, 0, none⟩ = some (.int .i64 c) ∧ w.cell? ⟨b, 1, none⟩ = some (.slice a n cp) ∧ w.cell? ⟨b, 2, none⟩ = some (.string x) :=
  let ⟨h0, h1, h2, _⟩ := three_facts h.blk; ⟨h0, h1, h2⟩
end Go.Proofs.YtbdmmgmcbecolaaGreatDoor
namespace Go.Proofs.YtbdmmgmcbecolaaGreatDoor
open Go.RowKit
theorem body_len (ls : List (List UInt8)) (h : ∀ x ∈ ls, x.length ≤ 256) : (body ls).length ≤ ls.length * 258 := by
  induction ls with
  | nil => exact Nat.le_refl _
  | cons x t ih =>
    have h1 := h x (List.mem_cons_self ..)
    have h2 := ih (fun y hy => h y (List.mem_cons_of_mem _ hy))
    show (x ++ 13 :: 10 :: body t).length ≤ (t.length + 1) * 258
    rw [List.length_append, List.length_cons, List.length_cons]; omega
theorem repL_len (c : Int) (fs : List (List UInt8 × List UInt8)) (b : List UInt8) (h : repE c fs = 0) (hn : b.length ≤ 1000000) : (repL c fs b).length ≤ 4400 + b.length ∧ 2 ≤ (repL c fs b).length := by
  obtain ⟨g1, g2⟩ := good_lines c fs b.length h hn
  have := body_len (repLines c fs b.length) (fun x hx => (g1 x hx).2.2)
  unfold repL
  rw [List.length_append, List.length_cons, List.length_cons]; omega
end Go.Proofs.YtbdmmgmcbecolaaGreatDoor
namespace Go.Proofs.YtbdmmgmcbecolaaGreatDoor
open Go.RowKit
theorem drop_take {α : Type} (a b : List α) (n : Nat) (h : n = a.length) : (a ++ b).drop n = b := by subst h; exact List.drop_left
theorem putF_len (s : ByteArray) (k : Nat) (x : List UInt8) : (putF s k x).length ≤ s.size + x.length := by
  unfold putF
  rw [List.length_append, List.length_append, List.length_take, List.length_drop, size_len]
  omega
theorem applyF_len (k n : Int) (t : List UInt8) (s : ByteArray) : (applyF k n t s).length ≤ s.size + t.length + 200 := by
  have hc := cleanL_len t
  have hp : (printOf n).data.toList.length ≤ 100 := by rw [size_len]; exact printOf_size n
  have hs : s.data.toList.length = s.size := size_len s
  unfold applyF
  by_cases k1 : k = 1
  · rw [if_pos k1]; simp
  rw [if_neg k1]
  by_cases k2 : k = 2
  · rw [if_pos k2, List.length_take]; omega
  rw [if_neg k2]
  by_cases hb : (headOf s).2.2 ≠ 0 ∨ (headOf s).1 = []
  · rw [if_pos hb]; omega
  rw [if_neg hb]
  by_cases k3 : k = 3
  · rw [if_pos k3]
    by_cases hp2 : printErr n ≠ 0
    · rw [if_pos hp2]; omega
    · rw [if_neg hp2]; have := putF_len s 0 (printOf n).data.toList; omega
  rw [if_neg k3]
  by_cases k5 : k = 5
  · rw [if_pos k5]
    by_cases hl : (headOf s).1.length < 2
    · rw [if_pos hl]; omega
    · rw [if_neg hl]; have := putF_len s 1 (cleanL t); omega
  rw [if_neg k5]
  by_cases k4 : k = 4
  · rw [if_pos k4]
    cases placeF crangeN (headOf s).1 0 with
    | none => simp only; omega
    | some i =>
      have := putF_len s i (crangeF ++ cleanL t)
      rw [List.length_append, show crangeF.length = 15 from rfl] at this
      simp only
      omega
  rw [if_neg k4]; omega
end Go.Proofs.YtbdmmgmcbecolaaGreatDoor
namespace Go.Proofs.YtbdmmgmcbecolaaGreatDoor
open Go.RowKit

/-- what is answered to bytes, what is left, how many answers, whether it is closed -/
def srvR (h p f : List UInt8) : Nat → List UInt8 → List UInt8 × List UInt8 × Nat × Bool
  | 0, l => ([], l, 0, false)
  | k + 1, l => if askE (bs l) = 0 then (orgS h p f (bs (l.take (askN (bs l)).toNat)) ++ (srvR h p f k (l.drop (askN (bs l)).toNat)).1, (srvR h p f k (l.drop (askN (bs l)).toNat)).2.1, (srvR h p f k (l.drop (askN (bs l)).toNat)).2.2.1 + 1, (srvR h p f k (l.drop (askN (bs l)).toNat)).2.2.2) else if askE (bs l) = 3 then ([], l, 0, false) else (orgS h p f (bs l), [], 1, true)
def srvOf (h p f : List UInt8) (l : List UInt8) : List UInt8 × List UInt8 × Nat × Bool := srvR h p f (l.length + 1) l
theorem ask_n (l : List UInt8) (h : askE (bs l) = 0) : 1 ≤ (askN (bs l)).toNat ∧ (askN (bs l)).toNat ≤ l.length ∧ askN (bs l) = ((askN (bs l)).toNat : Int) := by
  obtain ⟨-, h2, h3, -⟩ := ask_again (bs l) h
  rw [bs_size] at h3
  omega
theorem srvR_more (h p f : List UInt8) : ∀ (k : Nat) (l : List UInt8), l.length < k → srvR h p f k l = srvR h p f (k + 1) l := by
  intro k
  induction k with
  | zero => intro l hl; exact absurd hl (Nat.not_lt_zero _)
  | succ k ih =>
    intro l hl
    rw [srvR, srvR]
    by_cases h0 : askE (bs l) = 0
    · rw [if_pos h0, if_pos h0]
      obtain ⟨n1, n2, n3⟩ := ask_n l h0
      rw [ih (l.drop (askN (bs l)).toNat) (by rw [List.length_drop]; omega)]
    · rw [if_neg h0, if_neg h0]
theorem srvR_all (h p f : List UInt8) (l : List UInt8) (k : Nat) (hl : l.length < k) : srvR h p f k l = srvOf h p f l := by
  unfold srvOf
  obtain ⟨j, rfl⟩ : ∃ j, k = l.length + 1 + j := ⟨k - (l.length + 1), by omega⟩
  clear hl
  induction j with
  | zero => rfl
  | succ j ih => rw [← ih, show l.length + 1 + (j + 1) = l.length + 1 + j + 1 by omega, ← srvR_more h p f _ l (by omega)]
theorem srv_more (h p f : List UInt8) (l : List UInt8) (h0 : askE (bs l) = 0) : srvOf h p f l = (orgS h p f (bs (l.take (askN (bs l)).toNat)) ++ (srvOf h p f (l.drop (askN (bs l)).toNat)).1, (srvOf h p f (l.drop (askN (bs l)).toNat)).2.1, (srvOf h p f (l.drop (askN (bs l)).toNat)).2.2.1 + 1, (srvOf h p f (l.drop (askN (bs l)).toNat)).2.2.2) := by
  obtain ⟨n1, n2, n3⟩ := ask_n l h0
  have e := srvR_all h p f (l.drop (askN (bs l)).toNat) l.length (by rw [List.length_drop]; omega)
  unfold srvOf at e ⊢
  rw [srvR, if_pos h0, e]
theorem srv_short (h p f : List UInt8) (l : List UInt8) (h3 : askE (bs l) = 3) : srvOf h p f l = ([], l, 0, false) := by
  unfold srvOf
  rw [srvR, if_neg (by rw [h3]; decide), if_pos h3]
theorem orgS_len (h p f : List UInt8) (s : ByteArray) (hf : f.length ≤ 1000000) : (orgS h p f s).length ≤ 4400 + f.length := by
  by_cases he : orgE h p = 0
  · rw [orgS_eq h p f s hf he]
    have h1 := orgY_len h p f s
    have h2 := (repL_len _ _ (orgY h p f s) (org_good h p f s hf) (by omega)).1
    omega
  · unfold orgS; rw [if_neg he]; exact Nat.zero_le _
end Go.Proofs.YtbdmmgmcbecolaaGreatDoor
namespace Go.Proofs.YtbdmmgmcbecolaaGreatDoor
open Go.RowKit
/-- a fault: its kind, number and text; a request's event -/
abbrev Flt := Int × Int × ByteArray
abbrev Evt := Int × Int × Bool
def noF : Flt := (0, 0, ⟨#[]⟩)
def wholeK (h p f s : ByteArray) : ByteArray := bs (orgS h.data.toList p.data.toList f.data.toList s)
def gotK (h p f : ByteArray) (x : Flt) (s : ByteArray) : ByteArray := bs (applyF x.1 x.2.1 x.2.2.data.toList (wholeK h p f s))
def hurtK (h p f : ByteArray) (x : Flt) (s : ByteArray) : Bool := harmF x.1 x.2.1 x.2.2.data.toList (wholeK h p f s)
def evK (h p f : ByteArray) (x : Flt) (s : ByteArray) : Evt := ((s.size : Int), ((gotK h p f x s).size : Int), hurtK h p f x s)
def oneK (b : Bool) : Nat := if b = true then 1 else 0
theorem hurt_eq (h p f : ByteArray) (x : Flt) (s : ByteArray) : hurtK h p f x s = !((gotK h p f x s).toList == (wholeK h p f s).toList) := by
  unfold hurtK gotK harmF
  rw [ByteArray.toList_eq, ByteArray.toList_eq, bs_data]
  by_cases e : applyF x.1 x.2.1 x.2.2.data.toList (wholeK h p f s) = (wholeK h p f s).data.toList
  · rw [e]; simp
  · rw [decide_eq_true e, beq_eq_false_iff_ne.2 e]; rfl
theorem whole_size (h p f s : ByteArray) (hf : f.size ≤ 1000000) : (wholeK h p f s).size ≤ 4400 + f.size := by
  unfold wholeK
  rw [bs_size]
  have := orgS_len h.data.toList p.data.toList f.data.toList s (by rw [size_len]; exact hf)
  rw [size_len] at this
  exact this
theorem got_size (h p f : ByteArray) (x : Flt) (s : ByteArray) (hf : f.size ≤ 1000000) : (gotK h p f x s).size ≤ 4600 + f.size + x.2.2.size := by
  unfold gotK
  rw [bs_size]
  have h1 := applyF_len x.1 x.2.1 x.2.2.data.toList (wholeK h p f s)
  have h2 := whole_size h p f s hf
  rw [size_len] at h1
  omega
/-- a link's state behind some requests -/
def restK (l : List Flt) (asks : List ByteArray) : List Flt := l.drop asks.length
def logK (h p f : ByteArray) : List Flt → List ByteArray → List Evt
  | _, [] => []
  | l, s :: t => evK h p f (l.headD noF) s :: logK h p f l.tail t
def harmsK (l : List Evt) : Nat := l.countP (fun e => e.2.2)
theorem logK_snoc (h p f : ByteArray) : ∀ (asks : List ByteArray) (l : List Flt) (s : ByteArray), logK h p f l (asks ++ [s]) = logK h p f l asks ++ [evK h p f ((restK l asks).headD noF) s] := by
  intro asks
  induction asks with
  | nil => intro l s; rfl
  | cons a t ih =>
    intro l s
    have h1 : restK l (a :: t) = restK l.tail t := by
      unfold restK
      rw [List.length_cons, List.drop_tail]
    show evK h p f (l.headD noF) a :: logK h p f l.tail (t ++ [s]) = evK h p f (l.headD noF) a :: logK h p f l.tail t ++ [_]
    rw [ih, h1]
    rfl
theorem harmsK_snoc (l : List Evt) (e : Evt) : harmsK (l ++ [e]) = harmsK l + oneK e.2.2 := by
  unfold harmsK oneK
  rw [List.countP_append]
  congr 1
  cases h : e.2.2 <;> simp [h]
/-- the cells of faults and of events -/
def flts (l : List Flt) : List Value := l.flatMap fun x => [.int .u8 x.1, .int .i64 x.2.1, .string x.2.2]
def evs (l : List Evt) : List Value := l.flatMap fun e => [.int .i64 e.1, .int .i64 e.2.1, .bool e.2.2]
theorem flts_length (l : List Flt) : (flts l).length = l.length * 3 := by
  induction l with
  | nil => rfl
  | cons x t ih =>
    unfold flts at ih ⊢
    rw [List.flatMap_cons, List.length_append, ih, List.length_cons]
    simp only [List.length_cons, List.length_nil]
    omega
theorem flts_append (a b : List Flt) : flts (a ++ b) = flts a ++ flts b := by simp [flts]
theorem evs_append (a b : List Evt) : evs (a ++ b) = evs a ++ evs b := by simp [evs]
theorem flts_get (l : List Flt) : ∀ (j : Nat) (hj : j < l.length), (flts l)[3 * j]? = some (.int .u8 l[j].1) ∧ (flts l)[3 * j + 1]? = some (.int .i64 l[j].2.1) ∧ (flts l)[3 * j + 2]? = some (.string l[j].2.2) := by
  induction l with
  | nil => intro j hj; simp at hj
  | cons x t ih =>
    intro j hj
    cases j with
    | zero => exact ⟨rfl, rfl, rfl⟩
    | succ j =>
      obtain ⟨a, b, c⟩ := ih j (by simpa using hj)
      refine ⟨?_, ?_, ?_⟩
      · rw [show 3 * (j + 1) = 3 * j + 3 by omega]; exact a
      · rw [show 3 * (j + 1) + 1 = 3 * j + 1 + 3 by omega]; exact b
      · rw [show 3 * (j + 1) + 2 = 3 * j + 2 + 3 by omega]; exact c
end Go.Proofs.YtbdmmgmcbecolaaGreatDoor
namespace Go.Proofs.YtbdmmgmcbecolaaGreatDoor
open Go.RowKit
/-- w' is w but for blocks of which S holds, and new ones -/
structure Touch (S : Nat → Prop) (w w' : World) : Prop where
  os : w'.os = w.os
  tape : w'.tape = w.tape
  output : w'.output = w.output
  size : w.heap.size ≤ w'.heap.size
  block : ∀ k, k < w.heap.size → ¬ S k → w'.heap[k]? = w.heap[k]?
theorem Touch.refl (S : Nat → Prop) (w : World) : Touch S w w := ⟨rfl, rfl, rfl, Nat.le_refl _, fun _ _ _ => rfl⟩
theorem Touch.trans {S S' : Nat → Prop} {a b c : World} (h : Touch S a b) (k : Touch S' b c) (hS : ∀ g, S' g → S g ∨ a.heap.size ≤ g) : Touch S a c :=
  ⟨k.os.trans h.os, k.tape.trans h.tape, k.output.trans h.output, Nat.le_trans h.size k.size, fun i hi hn =>
    (k.block i (Nat.lt_of_lt_of_le hi h.size) (fun hs => (hS i hs).elim hn (fun h2 => by omega))).trans (h.block i hi hn)⟩
theorem Touch.of_below {S : Nat → Prop} {w w' : World} (h : Below w.heap.size w w') : Touch S w w' := ⟨h.os, h.tape, h.output, h.size, fun k hk _ => h.block k hk⟩
theorem Touch.of_grown {S : Nat → Prop} {w w' : World} {row : Option Nat} (h : w.grownBy w' row) (hr : ∀ g, row = some g → S g ∨ w.heap.size ≤ g) : Touch S w w' :=
  ⟨h.os, h.tape, h.output, h.size, fun k hk hn => h.block k hk (fun e => (hr k e.symm).elim hn (fun h2 => by omega))⟩
theorem Touch.mono {S S' : Nat → Prop} {w w' : World} (h : Touch S w w') (hS : ∀ g, S g → S' g) : Touch S' w w' := ⟨h.os, h.tape, h.output, h.size, fun k hk hn => h.block k hk (fun hs => hn (hS k hs))⟩
theorem Touch.below {S : Nat → Prop} {B : Nat} {w w' : World} (h : Touch S w w') (hS : ∀ g, S g → B ≤ g) (hB : B ≤ w.heap.size) : Below B w w' :=
  ⟨h.os, h.tape, h.output, h.size, fun k hk => h.block k (by omega) (fun hs => by have := hS k hs; omega)⟩

/-- a row that stands in its block is owned in every world that has that block -/
theorem own_of_block {w w' : World} {base : Nat} {e : TypeId} {size : Nat} {v : Value} {n : Nat} {xs : List Value} (h : w.ownsRow base e size v n xs) (hb : ∀ g, v.ownBlock = some g → w'.heap[g]? = w.heap[g]?) : w'.ownsRow base e size v n xs := by
  refine ⟨h.1, ?_⟩
  rcases h.2 with hn | ⟨g, cap, cur, rfl, hg, hgg, rest⟩
  · exact .inl hn
  · refine .inr ⟨g, cap, cur, rfl, hg, ?_, rest⟩
    rw [hb g rfl]; exact hgg
/-- the block of an owned row bears its element's type -/
theorem own_tag {w : World} {base : Nat} {e : TypeId} {size : Nat} {v : Value} {n : Nat} {xs : List Value} (h : w.ownsRow base e size v n xs) (g : Nat) (hg : v.ownBlock = some g) : ∃ cur, w.heap[g]? = some (.cells cur e (0, 0)) := by
  rcases h.2 with ⟨rfl, _⟩ | ⟨g', cap, cur, rfl, _, hgg, _⟩
  · cases hg
  · obtain rfl : g' = g := by simpa [Value.ownBlock] using hg
    exact ⟨cur, hgg⟩
theorem own_apart {w : World} {b1 b2 : Nat} {e1 e2 : TypeId} {s1 s2 n1 n2 : Nat} {v1 v2 : Value} {x1 x2 : List Value} (h1 : w.ownsRow b1 e1 s1 v1 n1 x1) (h2 : w.ownsRow b2 e2 s2 v2 n2 x2) (hne : e1 ≠ e2) : v1.ownBlock = none ∨ v1.ownBlock ≠ v2.ownBlock := by
  cases hv : v1.ownBlock with
  | none => exact .inl rfl
  | some g =>
    refine .inr (fun e => ?_)
    obtain ⟨c1, k1⟩ := own_tag h1 g hv
    obtain ⟨c2, k2⟩ := own_tag h2 g e.symm
    rw [k1] at k2
    simp only [Option.some.injEq, Obj.cells.injEq] at k2
    exact hne k2.2.1
theorem own_not_row {w : World} {b1 : Nat} {e1 : TypeId} {s1 n1 : Nat} {v1 : Value} {x1 : List Value} (h1 : w.ownsRow b1 e1 s1 v1 n1 x1) {b : Nat} {cs : Array Value} {t : TypeId} {m : Nat × Nat} (hb : w.heap[b]? = some (.cells cs t m)) (hne : e1 ≠ t) : v1.ownBlock ≠ some b := fun hv => by
  obtain ⟨c1, k1⟩ := own_tag h1 b hv
  rw [k1] at hb
  simp only [Option.some.injEq, Obj.cells.injEq] at hb
  exact hne hb.2.1

theorem touch_set {S : Nat → Prop} {w w' : World} {a : Addr} (v : Value) (h : Touch S w w') (ha : S a.block ∨ w.heap.size ≤ a.block) : Touch S w (w'.setCell a v) :=
  h.trans (S' := fun g => g = a.block) ⟨rfl, rfl, rfl, by rw [set_size]; exact Nat.le_refl _, fun k hk hn => Below.heap_setCell _ _ _ _ hn⟩ (fun g hg => by rw [hg]; exact ha)
end Go.Proofs.YtbdmmgmcbecolaaGreatDoor
namespace Go.Proofs.YtbdmmgmcbecolaaGreatDoor
open Go.RowKit
/-- a world with two pairs of cells more -/
def W2of (w : World) (a b : Value) (t t2 : TypeId) : World := (w.alloc (.cells #[a, b] t)).alloc (.cells #[.int .i64 0, .int .i64 0] t2)
theorem w2_facts (w : World) (a b : Value) (t t2 : TypeId) : Below w.heap.size w (W2of w a b t t2) ∧ (W2of w a b t t2).heap[w.heap.size]? = some (.cells #[a, b] t (0, 0)) ∧ (W2of w a b t t2).heap[w.heap.size + 1]? = some (.cells #[.int .i64 0, .int .i64 0] t2 (0, 0)) ∧ (W2of w a b t t2).heap.size = w.heap.size + 1 + 1 := by
  refine ⟨bstep (below_agg2 w a b t) (below_agg2 _ _ _ _), ?_, ?_, by unfold W2of; simp⟩
  · exact ((below_agg2 (w.alloc (.cells #[a, b] t)) (.int .i64 0) (.int .i64 0) t2).block w.heap.size (by simp)).trans (heap_alloc_new w _)
  · have := heap_alloc_new (w.alloc (.cells #[a, b] t)) (.cells #[.int .i64 0, .int .i64 0] t2)
    simpa [W2of] using this
set_option maxRecDepth 100000 in
set_option maxHeartbeats 1000000 in
theorem ranges_clip (a b t : Int) (w : World) (ht0 : -9223372036854775807 ≤ t) (ht : t ≤ 9223372036854775807) :
    Calls Tryz.prog 126 #[.agg #[.int .i64 a, .int .i64 b], .int .i64 t] w fun e w' => e = .returned (.tuple #[.agg #[.int .i64 (clipA a b t), .int .i64 (clipB a b t)], .int .i64 (clipE a b t : Nat)]) ∧ Below w.heap.size w w' := by
  have HC := Lib.hid (fun w => ranges_check a b w)
  obtain ⟨hB0, hr0, hk0, hs0⟩ := w2_facts w (.int .i64 a) (.int .i64 b) 28 28
  unfold W2of at hB0 hr0 hk0 hs0
  have HB0 := Lib.hid hB0
  have HR0 := Lib.hid hr0
  have HK0 := Lib.hid hk0
  have HS0 := Lib.hid hs0
  obtain ⟨r0, r1, -, -⟩ := two_of hr0
  clear hB0 hr0 hk0 hs0
  by_cases he : rErr a b = 0
  case neg =>
    have h8 := (rErr_no a b he).1
    have HA : Hid (clipE a b t = 8 ∧ clipA a b t = 0 ∧ clipB a b t = 0) := Lib.hid (by
      have : clipE a b t = 8 := by unfold clipE; rw [if_pos he, h8]
      unfold clipA clipB; rw [this]; exact ⟨rfl, rfl, rfl⟩)
    rw [h8] at HC
    clear he h8
    go_enter Tryz.func126, Tryz.ntmps126
    go_wp2_with fail
    refine (HC.out _).mono ?_
    rintro e w1 ⟨rfl, hb1⟩
    generalize ((w.alloc (.cells #[.int .i64 a, .int .i64 b] 28)).alloc (.cells #[.int .i64 0, .int .i64 0] 28)) = W0 at HB0 HR0 HK0 HS0 hb1 r0 r1 ⊢
    have hk1 : w1.heap[w.heap.size + 1]? = some (.cells #[.int .i64 0, .int .i64 0] 28 (0, 0)) := (hb1.block _ (by have := HS0.out; omega)).trans HK0.out
    obtain ⟨k0, k1, f0, f1⟩ := two_of hk1
    have HK1 := Lib.hid hk1
    have HB1 := Lib.hid (bstep HB0.out hb1)
    clear hk1 hb1
    go_wp2_with fail
    refine ret_field (b := w.heap.size + 1) (x := .int .i64 0) (y := .int .i64 0) rfl (load_range _ _ _ _ _ (two_set HK1.out _ _)) rfl rfl rfl ?_
    refine ⟨?_, two_below HB1.out _ (by omega) _ _⟩
    rw [HA.out.1, HA.out.2.1, HA.out.2.2]; rfl
  have hab := rErr_ok a b he
  rw [he] at HC
  by_cases hf : t ≤ a
  · have HA : Hid (clipE a b t = 8 ∧ clipA a b t = 0 ∧ clipB a b t = 0) := Lib.hid (by
      have : clipE a b t = 8 := by unfold clipE; rw [if_neg (fun h => h he), if_pos hf]
      unfold clipA clipB; rw [this]; exact ⟨rfl, rfl, rfl⟩)
    have tf : decide (a ≥ t) = true := decide_eq_true hf
    clear he hf hab
    go_enter Tryz.func126, Tryz.ntmps126
    go_wp2_with fail
    refine (HC.out _).mono ?_
    rintro e w1 ⟨rfl, hb1⟩
    generalize ((w.alloc (.cells #[.int .i64 a, .int .i64 b] 28)).alloc (.cells #[.int .i64 0, .int .i64 0] 28)) = W0 at HB0 HR0 HK0 HS0 hb1 r0 r1 ⊢
    have hk1 : w1.heap[w.heap.size + 1]? = some (.cells #[.int .i64 0, .int .i64 0] 28 (0, 0)) := (hb1.block _ (by have := HS0.out; omega)).trans HK0.out
    have hr1 : w1.heap[w.heap.size]? = some (.cells #[.int .i64 a, .int .i64 b] 28 (0, 0)) := (hb1.block _ (by have := HS0.out; omega)).trans HR0.out
    clear r0 r1
    obtain ⟨k0, k1, f0, f1⟩ := two_of hk1
    obtain ⟨r0, r1, -, -⟩ := two_of hr1
    have HK1 := Lib.hid hk1
    have HB1 := Lib.hid (bstep HB0.out hb1)
    clear hk1 hb1 hr1
    go_wp2_with fail
    refine ret_field (b := w.heap.size + 1) (x := .int .i64 0) (y := .int .i64 0) rfl (load_range _ _ _ _ _ (two_set HK1.out _ _)) rfl rfl rfl ?_
    refine ⟨?_, two_below HB1.out _ (by omega) _ _⟩
    rw [HA.out.1, HA.out.2.1, HA.out.2.2]; rfl
  have tf : decide (a ≥ t) = false := decide_eq_false hf
  obtain ⟨B, hB⟩ : ∃ B, (if b < t - 1 then b else t - 1) = B := ⟨_, rfl⟩
  have HA : Hid (clipE a b t = 0 ∧ clipA a b t = a ∧ clipB a b t = B) := Lib.hid (by
    have : clipE a b t = 0 := by unfold clipE; rw [if_neg (fun h => h he), if_neg hf]
    unfold clipA clipB; rw [if_pos this, if_pos this, hB]; exact ⟨this, rfl, rfl⟩)
  have hmin : min b (t - 1) = B := by rw [← hB]; split <;> omega
  have HM := Lib.hid hmin
  have tw : IntKind.i64.wrap (t - 1) = t - 1 := by rw [IntKind.wrap_i64]; omega
  clear he hf hab hB hmin
  go_enter Tryz.func126, Tryz.ntmps126
  go_wp2_with fail
  refine (HC.out _).mono ?_
  rintro e w1 ⟨rfl, hb1⟩
  generalize ((w.alloc (.cells #[.int .i64 a, .int .i64 b] 28)).alloc (.cells #[.int .i64 0, .int .i64 0] 28)) = W0 at HB0 HR0 HK0 HS0 hb1 r0 r1 ⊢
  have hk1 : w1.heap[w.heap.size + 1]? = some (.cells #[.int .i64 0, .int .i64 0] 28 (0, 0)) := (hb1.block _ (by have := HS0.out; omega)).trans HK0.out
  have hr1 : w1.heap[w.heap.size]? = some (.cells #[.int .i64 a, .int .i64 b] 28 (0, 0)) := (hb1.block _ (by have := HS0.out; omega)).trans HR0.out
  clear r0 r1
  obtain ⟨k0, k1, f0, f1⟩ := two_of hk1
  obtain ⟨r0, r1, g0, g1⟩ := two_of hr1
  have HK1 := Lib.hid hk1
  have HB1 := Lib.hid (bstep HB0.out hb1)
  clear hk1 hb1 hr1
  go_wp2_with fail
  have hk2 : ∀ V, (w1.setCell ⟨w.heap.size, 1, none⟩ V).heap[w.heap.size + 1]? = some (.cells #[.int .i64 0, .int .i64 0] 28 (0, 0)) := fun V => (Below.heap_setCell _ _ _ _ (by simp)).trans HK1.out
  refine ret_field (b := w.heap.size + 1) (x := .int .i64 a) rfl (load_range _ _ _ _ _ (two_set (hk2 _) _ _)) rfl rfl rfl ?_
  refine ⟨?_, two_below (HB1.out.setCell (Nat.le_refl _) _) _ (by omega) _ _⟩
  rw [HA.out.1, HA.out.2.1, HA.out.2.2, ← HM.out]
  rfl
end Go.Proofs.YtbdmmgmcbecolaaGreatDoor
namespace Go.Proofs.YtbdmmgmcbecolaaGreatDoor
open Go.RowKit
theorem box3 (w : World) (x y z : Value) (t : TypeId) : (w.alloc (.cells #[x, y, z] t)).cell? ⟨w.heap.size, 0, none⟩ = some x ∧ (w.alloc (.cells #[x, y, z] t)).cell? ⟨w.heap.size, 1, none⟩ = some y ∧ (w.alloc (.cells #[x, y, z] t)).cell? ⟨w.heap.size, 2, none⟩ = some z :=
  let ⟨h0, h1, h2, _⟩ := three_facts (heap_alloc_new w (.cells #[x, y, z] t)); ⟨h0, h1, h2⟩
set_option maxRecDepth 100000 in
set_option maxHeartbeats 1000000 in
theorem told_wrong (a b t : Int) (w : World) :
    Calls Tryz.prog 79 #[.agg #[.int .i64 a, .int .i64 b, .int .i64 t]] w fun e w' => e = .returned (.int .i64 (toldE a b t : Nat)) ∧ Below w.heap.size w w' := by
  have HC := Lib.hid (fun w => ranges_check a b w)
  obtain ⟨x0, x1, x2⟩ := box3 w (.int .i64 a) (.int .i64 b) (.int .i64 t) 169
  have hB0 := below_agg3 w (.int .i64 a) (.int .i64 b) (.int .i64 t) 169
  have HB0 := Lib.hid hB0
  have hl : w.heap.size < (w.alloc (.cells #[.int .i64 a, .int .i64 b, .int .i64 t] 169)).heap.size := by simp
  have HL := Lib.hid hl
  clear hB0 hl
  by_cases he : rErr a b = 0
  case neg =>
    have h8 := (rErr_no a b he).1
    have HA : Hid (toldE a b t = 8) := Lib.hid (by unfold toldE; rw [if_pos he, h8])
    rw [h8] at HC
    clear he h8
    go_enter Tryz.func79, Tryz.ntmps79
    go_wp2_with fail
    refine (HC.out _).mono ?_
    rintro e w1 ⟨rfl, hb1⟩
    go_wp2_with fail
    go_ret
    exact ⟨by rw [HA.out]; rfl, bstep HB0.out hb1⟩
  rw [he] at HC
  by_cases h1 : t ≤ b
  · have HA : Hid (toldE a b t = 8) := Lib.hid (by unfold toldE; rw [if_neg (fun h => h he), if_pos (.inl h1)])
    have t1 : decide (t ≤ b) = true := decide_eq_true h1
    clear he h1
    go_enter Tryz.func79, Tryz.ntmps79
    go_wp2_with fail
    refine (HC.out _).mono ?_
    rintro e w1 ⟨rfl, hb1⟩
    have y1 := (hb1.cell (p := ⟨w.heap.size, 1, none⟩) HL.out).trans x1
    have y2 := (hb1.cell (p := ⟨w.heap.size, 2, none⟩) HL.out).trans x2
    have HB1 := Lib.hid (bstep HB0.out hb1)
    clear hb1 x0 x1 x2
    go_wp2_with fail
    go_ret
    exact ⟨by rw [HA.out]; rfl, HB1.out⟩
  have t1 : decide (t ≤ b) = false := decide_eq_false h1
  obtain ⟨r, hr⟩ : ∃ r, decide (t > 9007199254740991) = r := ⟨_, rfl⟩
  have HA : Hid (toldE a b t = if r = true then 8 else 0) := Lib.hid (by
    unfold toldE
    rw [if_neg (fun h => h he)]
    cases r with
    | true => rw [if_pos (.inr (of_decide_eq_true hr)), if_pos rfl]
    | false => rw [if_neg (fun h => h.elim h1 (of_decide_eq_false hr)), if_neg (by decide)])
  clear he h1
  cases r
  all_goals
    go_enter Tryz.func79, Tryz.ntmps79
    go_wp2_with fail
    refine (HC.out _).mono ?_
    rintro e w1 ⟨rfl, hb1⟩
    have y1 := (hb1.cell (p := ⟨w.heap.size, 1, none⟩) HL.out).trans x1
    have y2 := (hb1.cell (p := ⟨w.heap.size, 2, none⟩) HL.out).trans x2
    have HB1 := Lib.hid (bstep HB0.out hb1)
    clear hb1 x0 x1 x2
    go_wp2_with fail
    go_ret
    exact ⟨by rw [HA.out]; rfl, HB1.out⟩
theorem told_text (a b t : Int) (h : toldE a b t = 0) (X Y : ByteArray) (hX : bs (textR a b) = X) (hY : bs (digL t) = Y) : ((⟨#[98, 121, 116, 101, 115, 32]⟩ ++ X) ++ ⟨#[47]⟩) ++ Y = bs (toldL a b t) := by
  unfold toldL
  rw [if_pos h, ← hX, ← hY, show (⟨#[98, 121, 116, 101, 115, 32]⟩ : ByteArray) = bs tellsL from rfl, show (⟨#[47]⟩ : ByteArray) = bs [47] from rfl, bs_cat, bs_cat, bs_cat]
  simp
set_option maxRecDepth 100000 in
set_option maxHeartbeats 2000000 in
theorem ranges_told (a b t : Int) (w : World) (hE : EnvF w) :
    Calls Tryz.prog 309 #[.agg #[.int .i64 a, .int .i64 b], .int .i64 t] w fun e w' => e = .returned (.tuple #[.string (bs (toldL a b t)), .int .i64 (toldE a b t : Nat)]) ∧ Below w.heap.size w w' := by
  have HW := Lib.hid (fun w => told_wrong a b t w)
  obtain ⟨r0, r1⟩ := box2 w (.int .i64 a) (.int .i64 b) 28
  have HB0 := Lib.hid (below_agg2 w (.int .i64 a) (.int .i64 b) 28)
  by_cases he : toldE a b t = 0
  case neg =>
    have HA : Hid (toldL a b t = []) := Lib.hid (by unfold toldL; rw [if_neg he])
    have tz : ((toldE a b t : Int) != 0) = true := by rw [bne_iff_ne]; omega
    generalize toldE a b t = E at HW tz ⊢
    clear he
    go_enter Tryz.func309, Tryz.ntmps309
    go_wp2_with fail
    refine (HW.out _).mono ?_
    rintro e w1 ⟨rfl, hb1⟩
    have HB1 := Lib.hid (bstep HB0.out (bstep (below_agg3 _ _ _ _ _) hb1))
    clear hb1
    go_wp2_with fail
    go_ret2
    exact ⟨by rw [HA.out]; rfl, HB1.out⟩
  obtain ⟨g1, g2, g3⟩ := toldE_ok a b t he
  obtain ⟨q1, q2, q3⟩ := rErr_ok a b g1
  have HX := Lib.hid (fun w hE => ranges_text a b w hE (by omega) (by omega) (by omega) (by omega))
  have HD := Lib.hid (fun w hE => fields_digits t (by omega) (by omega) w hE)
  have hxl := textR_len a b (by omega) (by omega)
  have hdl := digL_len t (by omega)
  obtain ⟨X, hX⟩ : ∃ X, bs (textR a b) = X := ⟨_, rfl⟩
  obtain ⟨Y, hY⟩ : ∃ Y, bs (digL t) = Y := ⟨_, rfl⟩
  have HR := Lib.hid (told_text a b t he X Y hX hY)
  have hXs : X.size ≤ 41 := by rw [← hX, bs_size]; exact hxl
  have hYs : Y.size ≤ 20 := by rw [← hY, bs_size]; exact hdl
  rw [hX] at HX
  rw [hY] at HD
  have p1 := fun w => run_string_add_sum (P := Tryz.prog) w ⟨#[98, 121, 116, 101, 115, 32]⟩ X (by show 6 + _ ≤ _; omega)
  have p2 := fun w => run_string_add_sum (P := Tryz.prog) w (⟨#[98, 121, 116, 101, 115, 32]⟩ ++ X) ⟨#[47]⟩ (by rw [ByteArray.size_append]; show 6 + _ + 1 ≤ _; omega)
  have p3 := fun w => run_string_add_sum (P := Tryz.prog) w ((⟨#[98, 121, 116, 101, 115, 32]⟩ ++ X) ++ ⟨#[47]⟩) Y (by rw [ByteArray.size_append, ByteArray.size_append]; show 6 + _ + 1 + _ ≤ _; omega)
  rw [he] at HW ⊢
  have HE := Lib.hid hE
  clear he g1 g2 g3 q1 q2 q3 hxl hdl hX hY hE
  go_enter Tryz.func309, Tryz.ntmps309
  go_wp2_with fail
  refine (HW.out _).mono ?_
  rintro e w1 ⟨rfl, hb1⟩
  have hsz : (w.alloc (.cells #[.int .i64 a, .int .i64 b] 28)).heap.size = w.heap.size + 1 := by simp
  obtain ⟨y0, y1, y2⟩ := box3 (w.alloc (.cells #[.int .i64 a, .int .i64 b] 28)) (.int .i64 a) (.int .i64 b) (.int .i64 t) 169
  rw [hsz] at y0 y1 y2
  have hl : w.heap.size + 1 < ((w.alloc (.cells #[.int .i64 a, .int .i64 b] 28)).alloc (.cells #[.int .i64 a, .int .i64 b, .int .i64 t] 169)).heap.size := by simp
  have z0 := (hb1.cell (p := ⟨w.heap.size + 1, 0, none⟩) hl).trans y0
  have z1 := (hb1.cell (p := ⟨w.heap.size + 1, 1, none⟩) hl).trans y1
  have z2 := (hb1.cell (p := ⟨w.heap.size + 1, 2, none⟩) hl).trans y2
  have hbl : w.heap.size + 1 < w1.heap.size := Nat.lt_of_lt_of_le hl hb1.size
  have HB1 := Lib.hid (bstep HB0.out (bstep (below_agg3 _ _ _ _ _) hb1))
  have HE1 := Lib.hid (HE.out.below HB1.out)
  clear hb1 y0 y1 y2 hl hsz r0 r1
  go_wp2_with fail
  have k0 : ∀ p : BelowOf w1, p.world.cell? ⟨w.heap.size + 1, 0, none⟩ = some (.int .i64 a) := fun p => cell_of p hbl z0
  have k1 : ∀ p : BelowOf w1, p.world.cell? ⟨w.heap.size + 1, 1, none⟩ = some (.int .i64 b) := fun p => cell_of p hbl z1
  have k2 : ∀ p : BelowOf w1, p.world.cell? ⟨w.heap.size + 1, 2, none⟩ = some (.int .i64 t) := fun p => cell_of p hbl z2
  clear z0 z1 z2
  refine wp_region_quiet_below (by kernel_rfl) (by kernel_rfl) ?_
  repeat (go_big_quiet_step (fail))
  go_big_quiet_step ((go_at_call 87; exact below_of (HX.out _ (HE1.out.below (BelowOf.below _)))))
  repeat (go_big_quiet_step (fail))
  go_big_quiet_step ((go_at_call 118; exact below_of (HD.out _ (HE1.out.below (BelowOf.below _)))))
  repeat (go_big_quiet_step (fail))
  refine wpQuiet_nil ?_
  intro W1 hw'
  have hb2 := of_class hw'
  clear hw'
  go_wp2_with fail
  go_ret2
  exact ⟨by rw [← HR.out]; rfl, bstep HB1.out hb2⟩
end Go.Proofs.YtbdmmgmcbecolaaGreatDoor
namespace Go.Proofs.YtbdmmgmcbecolaaGreatDoor
open Go.RowKit
theorem below_o3 (w : World) (x y z : Value) : Below w.heap.size w (w.alloc (.cells #[x, y, z] 63)) := (Below.refl _ _).alloc (Nat.le_refl _) _
set_option maxRecDepth 100000 in
set_option maxHeartbeats 1000000 in
theorem origin_check (h p f : ByteArray) (w : World) :
    Calls Tryz.prog 44 #[.agg #[.string h, .string p, .string f]] w fun e w' => e = .returned (.int .i64 (orgE h.data.toList p.data.toList : Nat)) ∧ Below w.heap.size w w' := by
  have HC := Lib.hid (fun w => asking_check p h 0 0 w)
  rw [orgE_asks] at HC
  generalize orgE h.data.toList p.data.toList = E at HC ⊢
  obtain ⟨x0, x1, x2⟩ := box3 w (.string h) (.string p) (.string f) 63
  have HB0 := Lib.hid (below_o3 w (.string h) (.string p) (.string f))
  go_enter Tryz.func44, Tryz.ntmps44
  go_wp2_with fail
  refine (HC.out _).mono ?_
  rintro e w1 ⟨rfl, hb1⟩
  go_wp2_with fail
  go_ret
  exact ⟨rfl, bstep HB0.out hb1⟩
/-- a code's reply, without fields and body -/
theorem refusal_reply (c : Int) (w : World) :
    Calls Tryz.prog 307 #[.int .i64 c] w fun e w' => e = .returned (.agg #[.int .i64 c, .slice none 0 0, .string ⟨#[]⟩]) ∧ Below w.heap.size w w' := by
  obtain ⟨k0, k1, k2, f0, f1, f2⟩ := three_facts (heap_alloc_new w (.cells #[.int .i64 0, .slice none 0 0, .string ⟨#[]⟩] 113))
  go_enter Tryz.func307, Tryz.ntmps307
  go_wp2_with fail
  refine ret_cell (A := ⟨w.heap.size, 0, none⟩) rfl (load_rep _ _ _ _ _ _ (heap_alloc_new w _)) rfl rfl ?_
  exact ⟨rfl, below_agg3 _ _ _ _ _⟩
/-- a block of one field is a row of it -/
theorem own_one (w : World) (x y : Value) (T : TypeId) : (w.alloc (.cells #[x, y] T)).ownsRow w.heap.size T 2 (.slice (some ⟨w.heap.size, 0, none⟩) 1 1) 1 [x, y] :=
  ⟨rfl, .inr ⟨w.heap.size, 1, #[x, y], rfl, Nat.le_refl _, heap_alloc_new w _, Nat.le_refl _, by unfold maxLen; decide, rfl, rfl⟩⟩
theorem own_one_at (w : World) (g : Nat) (hg : g = w.heap.size) (x y : Value) (T : TypeId) : (w.alloc (.cells #[x, y] T)).ownsRow 0 T 2 (.slice (some ⟨g, 0, none⟩) 1 1) 1 [x, y] := by
  subst hg
  exact own_lowerF (own_one w x y T) (Nat.zero_le _)
/-- what a reply's making hands over -/
def PartPost (c : Int) (fs : List (List UInt8 × List UInt8)) (x : ByteArray) (T : TypeId) (w : World) (e : Ending) (w' : World) : Prop :=
  ∃ a cp, e = .returned (.agg #[.int .i64 c, .slice a fs.length cp, .string x]) ∧ (∃ B, w'.ownsRow B T 2 (.slice a fs.length cp) fs.length (fcells fs)) ∧ Below w.heap.size w w'
set_option maxRecDepth 100000 in
set_option maxHeartbeats 2000000 in
theorem part_reply (a b : Int) (f : ByteArray) (w : World) (hE : EnvF w) (h0 : 0 ≤ a) (h1 : a ≤ b) (h2 : b < (f.size : Int)) (hf : f.size ≤ 1000000) :
    Calls Tryz.prog 308 #[.agg #[.int .i64 a, .int .i64 b, .string f]] w (PartPost 206 [(crangeK, toldL a b (f.size : Int))] (f.extract a.toNat (b + 1).toNat) 161 w) := by
  have HT := Lib.hid (fun w hE => ranges_told a b (f.size : Int) w hE)
  obtain ⟨V, hV⟩ : ∃ V, bs (toldL a b (f.size : Int)) = V := ⟨_, rfl⟩
  rw [hV] at HT
  have HV := Lib.hid hV
  generalize toldE a b (f.size : Int) = E at HT
  obtain ⟨x0, x1, x2⟩ := box3 w (.int .i64 a) (.int .i64 b) (.string f) 237
  have hB0 := below_agg3 w (.int .i64 a) (.int .i64 b) (.string f) 237
  have hB1 := bstep hB0 (below_agg3 _ (.int .i64 0) (.slice none 0 0) (.string ⟨#[]⟩) 113)
  have hsz : ((w.alloc (.cells #[.int .i64 a, .int .i64 b, .string f] 237)).alloc (.cells #[.int .i64 0, .slice none 0 0, .string ⟨#[]⟩] 113)).heap.size = w.heap.size + 1 + 1 := by simp
  have hk0 := heap_alloc2_new w (.cells #[.int .i64 a, .int .i64 b, .string f] 237) (.cells #[.int .i64 0, .slice none 0 0, .string ⟨#[]⟩] 113)
  have hp0 := ((below_agg3 (w.alloc (.cells #[.int .i64 a, .int .i64 b, .string f] 237)) (.int .i64 0) (.slice none 0 0) (.string ⟨#[]⟩) 113).block w.heap.size (by simp)).trans (heap_alloc_new w _)
  have HB1 := Lib.hid hB1
  have HE1 := Lib.hid (hE.below hB1)
  have HK0 := Lib.hid hk0
  have HP0 := Lib.hid hp0
  have HSZ := Lib.hid hsz
  clear hB0 hB1 hk0 hp0 hsz x0 x1 x2 hE hV
  go_enter Tryz.func308, Tryz.ntmps308
  go_wp2_with fail
  generalize ((w.alloc (.cells #[.int .i64 a, .int .i64 b, .string f] 237)).alloc (.cells #[.int .i64 0, .slice none 0 0, .string ⟨#[]⟩] 113)) = W0 at HB1 HE1 HK0 HP0 HSZ ⊢
  obtain ⟨p0, p1, p2, -, -, -⟩ := three_facts HP0.out
  go_wp2_with fail
  refine (HT.out _ HE1.out).mono ?_
  rintro e w1 ⟨rfl, hb1⟩
  have hp1 := (hb1.block w.heap.size (by have := HSZ.out; omega)).trans HP0.out
  have hk1 := (hb1.block (w.heap.size + 1) (by have := HSZ.out; omega)).trans HK0.out
  clear p0 p1 p2
  obtain ⟨p0, p1, p2, -, -, -⟩ := three_facts hp1
  obtain ⟨k0, k1, k2, f0, f1, f2⟩ := three_facts hk1
  have HK1 := Lib.hid hk1
  have HB2 := Lib.hid (bstep HB1.out hb1)
  have hs1 : w.heap.size + 1 < w1.heap.size := by have := hb1.size; have := HSZ.out; omega
  have hs2 : w.heap.size < w1.heap.size := by omega
  clear hp1 hk1 hb1 HT HE1
  go_wp2_with fail
  refine ret_cell (A := ⟨w.heap.size + 1, 0, none⟩) rfl (load_rep _ _ _ _ _ _ ((heap_alloc_old _ _ (by simp; omega)).trans (three_set HK1.out _ _ _))) rfl rfl ?_
  refine ⟨_, _, rfl, ⟨0, ?_⟩, ?_⟩
  · have := own_one_at (((w1.setCell ⟨w.heap.size + 1, 0, none⟩ (.int .i64 206)).setCell ⟨w.heap.size + 1, 1, none⟩ (.slice (some ⟨w1.heap.size, 0, none⟩) 1 1)).setCell ⟨w.heap.size + 1, 2, none⟩ (.string (f.extract a.toNat (b + 1).toNat))) w1.heap.size (by simp) (.string (bs crangeK)) (.string (bs (toldL a b (f.size : Int)))) 161
    rw [HV.out] at this
    have e : fcells [(crangeK, toldL a b (f.size : Int))] = [.string (bs crangeK), .string V] := by rw [← HV.out]; rfl
    rw [e]
    exact this
  · exact (three_below HB2.out _ (by omega) _ _ _).alloc (by have := HB2.out.size; simp; omega) _
/-- the sort of answer, as an interface's value -/
def sortV (h p f s : ByteArray) : Value := if orgC h.data.toList p.data.toList f.data.toList s = 206 then .iface 237 (.agg #[.int .i64 (orgA f.data.toList s), .int .i64 (orgB f.data.toList s), .string f]) else .iface 233 (.int .i64 (orgC h.data.toList p.data.toList f.data.toList s))
set_option maxRecDepth 100000 in
set_option maxHeartbeats 4000000 in
theorem origin_sort (h p f s : ByteArray) (w : World) (hE : EnvF w) (hs : s.size ≤ 1000000) (hf : f.size ≤ 1000000) :
    Calls Tryz.prog 93 #[.agg #[.string h, .string p, .string f], .string s] w fun e w' => e = .returned (sortV h p f s) ∧ Below w.heap.size w w' := by
  have HA := Lib.hid (fun w hE => asking_parse s w hs hE)
  have hB0 := below_o3 w (.string h) (.string p) (.string f)
  have HE0 := Lib.hid (hE.below hB0)
  have HB0 := Lib.hid hB0
  have HP0 := Lib.hid (heap_alloc_new w (.cells #[.string h, .string p, .string f] 63))
  have hsz : (w.alloc (.cells #[.string h, .string p, .string f] 63)).heap.size = w.heap.size + 1 := by simp
  have HSZ := Lib.hid hsz
  unfold askV at HA
  have hn0 : askE s ≠ 0 → askN s = 0 := fun hh => (ask_bad s hh).2.2.2.2
  have hnb : askE s = 0 → 0 < askN s ∧ askN s ≤ (s.size : Int) := fun hh => let ⟨_, h1, h2, _⟩ := ask_again s hh; ⟨h1, h2⟩
  obtain ⟨P, hP⟩ : ∃ P, bs (askPath s) = P := ⟨_, rfl⟩
  obtain ⟨Q, hQ⟩ : ∃ Q, bs (askHost s) = Q := ⟨_, rfl⟩
  obtain ⟨a, ha⟩ : ∃ a, askA s = a := ⟨_, rfl⟩
  obtain ⟨b, hb⟩ : ∃ b, askB s = b := ⟨_, rfl⟩
  obtain ⟨n, hn⟩ : ∃ n, askN s = n := ⟨_, rfl⟩
  obtain ⟨E, hE1⟩ : ∃ E, askE s = E := ⟨_, rfl⟩
  have hPd : askPath s = P.data.toList := by rw [← hP, bs_data]
  have hQd : askHost s = Q.data.toList := by rw [← hQ, bs_data]
  obtain ⟨C, hC⟩ : ∃ C, orgC h.data.toList p.data.toList f.data.toList s = C := ⟨_, rfl⟩
  have hCC : C = if E ≠ 0 ∨ n < (s.size : Int) then 400 else if P.data.toList ≠ p.data.toList ∨ Q.data.toList ≠ h.data.toList then 404 else if clipE a b (f.size : Int) ≠ 0 then 416 else 206 := by
    rw [← hC]; unfold orgC; rw [hE1, hn, hPd, hQd, ha, hb, size_len]
  have hV : sortV h p f s = if C = 206 then .iface 237 (.agg #[.int .i64 (clipA a b (f.size : Int)), .int .i64 (clipB a b (f.size : Int)), .string f]) else .iface 233 (.int .i64 C) := by
    unfold sortV orgA orgB; rw [hC, ha, hb, size_len]
  obtain ⟨V, hVV⟩ : ∃ V, sortV h p f s = V := ⟨_, rfl⟩
  rw [hVV] at hV ⊢
  have HV := Lib.hid hV
  rw [hP, hQ, ha, hb, hn, hE1] at HA
  have HCC := Lib.hid hCC
  clear hE hP hQ hPd hQd hC hCC hV hVV hB0 hsz hn0 hnb
  by_cases h1 : E = 0
  case neg =>
    have HR : Hid (C = 400) := Lib.hid (by rw [HCC.out, if_pos (.inl h1)])
    have tz : ((E : Int) != 0) = true := by rw [bne_iff_ne]; omega
    clear h1 hE1 hn ha hb
    go_enter Tryz.func93, Tryz.ntmps93
    go_wp2_with fail
    refine (HA.out _ HE0.out).mono ?_
    rintro e w1 ⟨rfl, hb1⟩
    have hp1 := (hb1.block w.heap.size (by have := HSZ.out; omega)).trans HP0.out
    have HB1 := Lib.hid (bstep HB0.out hb1)
    have hs1 : w.heap.size < w1.heap.size := by have := hb1.size; have := HSZ.out; omega
    obtain ⟨o0, o1, o2, -, -, -⟩ := three_facts hp1
    obtain ⟨q0, q1, q2, q3⟩ := box4 w1 (.string P) (.string Q) (.int .i64 a) (.int .i64 b) 91
    clear hp1 hb1 HE0 HP0
    go_wp2_with fail
    go_ret
    exact ⟨by rw [HV.out, HR.out]; rfl, HB1.out.alloc HB1.out.size _⟩
  subst h1
  by_cases h2 : n < (s.size : Int)
  · have HR : Hid (C = 400) := Lib.hid (by rw [HCC.out, if_pos (.inr h2)])
    have t2 : decide (n < (s.size : Int)) = true := decide_eq_true h2
    clear h2 hE1 hn ha hb
    go_enter Tryz.func93, Tryz.ntmps93
    go_wp2_with fail
    refine (HA.out _ HE0.out).mono ?_
    rintro e w1 ⟨rfl, hb1⟩
    have hp1 := (hb1.block w.heap.size (by have := HSZ.out; omega)).trans HP0.out
    have HB1 := Lib.hid (bstep HB0.out hb1)
    have hs1 : w.heap.size < w1.heap.size := by have := hb1.size; have := HSZ.out; omega
    obtain ⟨o0, o1, o2, -, -, -⟩ := three_facts hp1
    obtain ⟨q0, q1, q2, q3⟩ := box4 w1 (.string P) (.string Q) (.int .i64 a) (.int .i64 b) 91
    clear hp1 hb1 HE0 HP0
    go_wp2_with fail
    go_ret
    exact ⟨by rw [HV.out, HR.out]; rfl, HB1.out.alloc HB1.out.size _⟩
  have t2 : decide (n < (s.size : Int)) = false := decide_eq_false h2
  by_cases h3 : P.data.toList = p.data.toList
  case neg =>
    have HR : Hid (C = 404) := Lib.hid (by rw [HCC.out, if_neg (fun e => e.elim (fun e => e rfl) h2), if_pos (.inl h3)])
    have t3 : ¬ P.toList = p.toList := by rw [ByteArray.toList_eq, ByteArray.toList_eq]; exact h3
    clear h2 h3 hE1 hn ha hb
    go_enter Tryz.func93, Tryz.ntmps93
    go_wp2_with fail
    refine (HA.out _ HE0.out).mono ?_
    rintro e w1 ⟨rfl, hb1⟩
    have hp1 := (hb1.block w.heap.size (by have := HSZ.out; omega)).trans HP0.out
    have HB1 := Lib.hid (bstep HB0.out hb1)
    have hs1 : w.heap.size < w1.heap.size := by have := hb1.size; have := HSZ.out; omega
    obtain ⟨o0, o1, o2, -, -, -⟩ := three_facts hp1
    obtain ⟨q0, q1, q2, q3⟩ := box4 w1 (.string P) (.string Q) (.int .i64 a) (.int .i64 b) 91
    clear hp1 hb1 HE0 HP0
    go_wp2_with fail
    go_ret
    exact ⟨by rw [HV.out, HR.out]; rfl, HB1.out.alloc HB1.out.size _⟩
  have t3 : P.toList = p.toList := by rw [ByteArray.toList_eq, ByteArray.toList_eq]; exact h3
  by_cases h4 : Q.data.toList = h.data.toList
  case neg =>
    have HR : Hid (C = 404) := Lib.hid (by rw [HCC.out, if_neg (fun e => e.elim (fun e => e rfl) h2), if_pos (.inr h4)])
    have t4 : ¬ Q.toList = h.toList := by rw [ByteArray.toList_eq, ByteArray.toList_eq]; exact h4
    have t4b : (Q.toList == h.toList) = false := by rw [beq_eq_false_iff_ne]; exact t4
    clear h2 h3 h4 hE1 hn ha hb
    go_enter Tryz.func93, Tryz.ntmps93
    go_wp2_with fail
    refine (HA.out _ HE0.out).mono ?_
    rintro e w1 ⟨rfl, hb1⟩
    have hp1 := (hb1.block w.heap.size (by have := HSZ.out; omega)).trans HP0.out
    have HB1 := Lib.hid (bstep HB0.out hb1)
    have hs1 : w.heap.size < w1.heap.size := by have := hb1.size; have := HSZ.out; omega
    obtain ⟨o0, o1, o2, -, -, -⟩ := three_facts hp1
    obtain ⟨q0, q1, q2, q3⟩ := box4 w1 (.string P) (.string Q) (.int .i64 a) (.int .i64 b) 91
    clear hp1 hb1 HE0 HP0
    go_wp2_with fail
    go_ret
    exact ⟨by rw [HV.out, HR.out]; rfl, HB1.out.alloc HB1.out.size _⟩
  have t4 : Q.toList = h.toList := by rw [ByteArray.toList_eq, ByteArray.toList_eq]; exact h4
  have HCl := Lib.hid (fun w => ranges_clip a b (f.size : Int) w (by omega) (by omega))
  obtain ⟨K, hK⟩ : ∃ K, clipE a b (f.size : Int) = K := ⟨_, rfl⟩
  have HCK : Hid (C = if K ≠ 0 then 416 else 206) := Lib.hid (by
    rw [HCC.out, if_neg (fun e => e.elim (fun e => e rfl) h2), if_neg (fun e => e.elim (fun e => e h3) (fun e => e h4)), hK])
  rw [hK] at HCl
  generalize clipA a b (f.size : Int) = A at HCl HV
  generalize clipB a b (f.size : Int) = B at HCl HV
  by_cases h5 : K = 0
  case neg =>
    have HR : Hid (C = 416) := Lib.hid (by rw [HCK.out, if_pos h5])
    have tz : ((K : Int) != 0) = true := by rw [bne_iff_ne]; omega
    clear h2 h3 h4 h5 hK hE1 hn ha hb
    go_enter Tryz.func93, Tryz.ntmps93
    go_wp2_with fail
    refine (HA.out _ HE0.out).mono ?_
    rintro e w1 ⟨rfl, hb1⟩
    have hp1 := (hb1.block w.heap.size (by have := HSZ.out; omega)).trans HP0.out
    have HB1 := Lib.hid (bstep HB0.out hb1)
    have hs1 : w.heap.size < w1.heap.size := by have := hb1.size; have := HSZ.out; omega
    obtain ⟨o0, o1, o2, -, -, -⟩ := three_facts hp1
    obtain ⟨q0, q1, q2, q3⟩ := box4 w1 (.string P) (.string Q) (.int .i64 a) (.int .i64 b) 91
    clear hp1 hb1 HE0 HP0
    go_wp2_with fail
    refine (HCl.out _).mono ?_
    rintro e w2 ⟨rfl, hb2⟩
    have HB2 := Lib.hid (bstep HB1.out (bstep (below_agg4 _ _ _ _ _ _) hb2))
    clear hb2
    go_wp2_with fail
    go_ret
    exact ⟨by rw [HV.out, HR.out]; rfl, HB2.out.alloc HB2.out.size _⟩
  subst h5
  have HR : Hid (C = 206) := Lib.hid (by rw [HCK.out, if_neg (fun e => e rfl)])
  clear h2 h3 h4 hK hE1 hn ha hb
  go_enter Tryz.func93, Tryz.ntmps93
  go_wp2_with fail
  refine (HA.out _ HE0.out).mono ?_
  rintro e w1 ⟨rfl, hb1⟩
  have hp1 := (hb1.block w.heap.size (by have := HSZ.out; omega)).trans HP0.out
  have HB1 := Lib.hid (bstep HB0.out hb1)
  have hs1 : w.heap.size < w1.heap.size := by have := hb1.size; have := HSZ.out; omega
  obtain ⟨o0, o1, o2, -, -, -⟩ := three_facts hp1
  obtain ⟨q0, q1, q2, q3⟩ := box4 w1 (.string P) (.string Q) (.int .i64 a) (.int .i64 b) 91
  clear hp1 hb1 HE0 HP0
  go_wp2_with fail
  refine (HCl.out _).mono ?_
  rintro e w2 ⟨rfl, hb2⟩
  have hx : w.heap.size < (w1.alloc (.cells #[.string P, .string Q, .int .i64 a, .int .i64 b] 91)).heap.size := by simp; omega
  have o2' := (hb2.cell (p := ⟨w.heap.size, 2, none⟩) hx).trans (((below_agg4 w1 (.string P) (.string Q) (.int .i64 a) (.int .i64 b) 91).cell (p := ⟨w.heap.size, 2, none⟩) hs1).trans o2)
  have HB2 := Lib.hid (bstep HB1.out (bstep (below_agg4 _ _ _ _ _ _) hb2))
  have hs2 : w.heap.size < w2.heap.size := Nat.lt_of_lt_of_le hx hb2.size
  obtain ⟨k0, k1⟩ := box2 w2 (.int .i64 A) (.int .i64 B) 28
  clear hb2 hx o0 o1 o2 q0 q1 q2 q3
  go_wp2_with fail
  go_ret
  exact ⟨by rw [HV.out, HR.out]; rfl, HB2.out.alloc HB2.out.size _⟩
end Go.Proofs.YtbdmmgmcbecolaaGreatDoor
namespace Go.Proofs.YtbdmmgmcbecolaaGreatDoor
open Go.RowKit
/-- what is answered with bytes -/
theorem org_part (h p f : List UInt8) (s : ByteArray) (hc : orgC h p f s = 206) (hf : f.length ≤ 1000000) : 0 ≤ orgA f s ∧ orgA f s ≤ orgB f s ∧ orgB f s < (f.length : Int) ∧ orgF h p f s = [(crangeK, toldL (orgA f s) (orgB f s) (f.length : Int))] ∧ orgY h p f s = (f.take (orgB f s + 1).toNat).drop (orgA f s).toNat := by
  obtain ⟨-, -, -, -, h5⟩ := orgC_206 h p f s hc
  obtain ⟨q1, q2, q3, q4⟩ := clip_ok _ _ _ h5
  obtain ⟨r1, r2, r3⟩ := rErr_ok _ _ q1
  unfold orgA orgB orgF orgY
  rw [q3, q4, if_pos hc, if_pos hc]
  unfold orgA orgB
  rw [q3, q4]
  refine ⟨r1, ?_, ?_, rfl, rfl⟩ <;> split <;> omega
theorem meth_refusal (v : Value) (w : World) : (Go.method 528 233 v "gazetteer/origin.reply").run Tryz.prog w = .ok (307, v) w := by kernel_rfl
theorem meth_part (v : Value) (w : World) : (Go.method 528 237 v "gazetteer/origin.reply").run Tryz.prog w = .ok (308, v) w := by kernel_rfl
set_option maxRecDepth 100000 in
set_option maxHeartbeats 4000000 in
theorem origin_answer (h p f s : ByteArray) (w : World) (hE : EnvF w) (hs : s.size ≤ 1000000) (hf : f.size ≤ 1000000) :
    Calls Tryz.prog 62 #[.agg #[.string h, .string p, .string f], .string s] w fun e w' => e = .returned (.string (bs (orgS h.data.toList p.data.toList f.data.toList s))) ∧ Below w.heap.size w w' := by
  have HC := Lib.hid (fun w => origin_check h p f w)
  have HS := Lib.hid (fun w hE => origin_sort h p f s w hE hs hf)
  have hB0 := below_o3 w (.string h) (.string p) (.string f)
  have HE0 := Lib.hid (hE.below hB0)
  have HB0 := Lib.hid hB0
  have HP0 := Lib.hid (heap_alloc_new w (.cells #[.string h, .string p, .string f] 63))
  have hsz : (w.alloc (.cells #[.string h, .string p, .string f] 63)).heap.size = w.heap.size + 1 := by simp
  have HSZ := Lib.hid hsz
  obtain ⟨o0, o1, o2, -, -, -⟩ := three_facts HP0.out
  clear hE hB0 hsz
  by_cases he : orgE h.data.toList p.data.toList = 0
  case neg =>
    have HR : Hid (orgS h.data.toList p.data.toList f.data.toList s = []) := Lib.hid (by unfold orgS; rw [if_neg he])
    have tz : ((orgE h.data.toList p.data.toList : Int) != 0) = true := by rw [bne_iff_ne]; omega
    generalize orgE h.data.toList p.data.toList = E at HC tz
    clear he
    go_enter Tryz.func62, Tryz.ntmps62
    go_wp2_with fail
    refine (HC.out _).mono ?_
    rintro e w1 ⟨rfl, hb1⟩
    go_wp2_with fail
    go_ret
    exact ⟨by rw [HR.out]; rfl, bstep HB0.out hb1⟩
  rw [he] at HC
  by_cases hc : orgC h.data.toList p.data.toList f.data.toList s = 206
  · have hV : sortV h p f s = .iface 237 (.agg #[.int .i64 (orgA f.data.toList s), .int .i64 (orgB f.data.toList s), .string f]) := if_pos hc
    rw [hV] at HS
    obtain ⟨g1, g2, g3, g4, g5⟩ := org_part h.data.toList p.data.toList f.data.toList s hc (by rw [size_len]; exact hf)
    have HR : Hid (orgS h.data.toList p.data.toList f.data.toList s = repS 206 (orgF h.data.toList p.data.toList f.data.toList s) (orgY h.data.toList p.data.toList f.data.toList s)) := Lib.hid (by unfold orgS; rw [if_pos he, hc])
    rw [size_len] at g3 g4
    have hex : bs (orgY h.data.toList p.data.toList f.data.toList s) = f.extract (orgA f.data.toList s).toNat (orgB f.data.toList s + 1).toNat := by rw [extract_bs, g5]
    have hYl := orgY_len h.data.toList p.data.toList f.data.toList s
    rw [size_len] at hYl
    generalize orgY h.data.toList p.data.toList f.data.toList s = Y at HR g5 hex hYl
    have HPa := Lib.hid (fun W hE => part_reply (orgA f.data.toList s) (orgB f.data.toList s) f W hE g1 g2 g3 hf)
    rw [← g4, ← hex] at HPa
    have hFb : ∀ x ∈ orgF h.data.toList p.data.toList f.data.toList s, x.1.length ≤ 1000000 ∧ x.2.length ≤ 1000000 := by
      rw [g4]
      intro x hx
      obtain rfl := List.mem_singleton.1 hx
      exact ⟨by show crangeK.length ≤ 1000000; decide, Nat.le_trans (toldL_len _ _ _) (by decide)⟩
    have hFl : (orgF h.data.toList p.data.toList f.data.toList s).length ≤ 1000000 := by rw [g4]; show 1 ≤ 1000000; decide
    generalize orgF h.data.toList p.data.toList f.data.toList s = F at HR HPa g4 hFb hFl
    generalize orgA f.data.toList s = A at HS HPa
    generalize orgB f.data.toList s = B at HS HPa
    have HPr := Lib.hid (fun W fv BB hE hO => reply_print 206 fv F (bs Y) BB W hE (by decide) (by decide) hO hFl hFb (by rw [bs_size]; omega))
    rw [bs_data] at HPr
    unfold RPost at HPr
    unfold PartPost at HPa
    generalize bs Y = YB at HPa HPr
    have hm := meth_part
    clear hV hc he g1 g2 g3 g4 g5 hex hYl hFb hFl
    go_enter Tryz.func62, Tryz.ntmps62
    go_wp2_with fail
    refine (HC.out _).mono ?_
    rintro e w1 ⟨rfl, hb1⟩
    have hp1 := (hb1.block w.heap.size (by have := HSZ.out; omega)).trans HP0.out
    have HB1 := Lib.hid (bstep HB0.out hb1)
    have HE1 := Lib.hid (HE0.out.below hb1)
    clear hb1 o0 o1 o2
    obtain ⟨o0, o1, o2, -, -, -⟩ := three_facts hp1
    clear hp1
    go_wp2_with fail
    refine (HS.out _ HE1.out).mono ?_
    rintro e w2 ⟨rfl, hb2⟩
    have HB2 := Lib.hid (bstep HB1.out hb2)
    have HE2 := Lib.hid (HE1.out.below hb2)
    clear hb2 o0 o1 o2
    go_wp2_with fail
    refine (HPa.out _ HE2.out).mono ?_
    rintro e w3 ⟨a3, c3, rfl, ⟨BB, hO⟩, hb3⟩
    have HB3 := Lib.hid (bstep HB2.out hb3)
    have HE3 := Lib.hid (HE2.out.below hb3)
    have HO := Lib.hid hO
    clear hb3 hO
    go_wp2_with fail
    refine (HPr.out _ _ _ HE3.out HO.out).mono ?_
    rintro e w4 ⟨rfl, hb4⟩
    go_wp2_with fail
    go_ret
    exact ⟨by rw [HR.out]; rfl, bstep HB3.out hb4⟩
  · have hV : sortV h p f s = .iface 233 (.int .i64 (orgC h.data.toList p.data.toList f.data.toList s)) := if_neg hc
    rw [hV] at HS
    obtain ⟨e1, e2⟩ := orgF_other h.data.toList p.data.toList f.data.toList s hc
    have HR : Hid (orgS h.data.toList p.data.toList f.data.toList s = repS (orgC h.data.toList p.data.toList f.data.toList s) [] []) := Lib.hid (by unfold orgS; rw [if_pos he, e1, e2])
    have hc4 := orgC_four h.data.toList p.data.toList f.data.toList s
    generalize orgC h.data.toList p.data.toList f.data.toList s = C at HS HR hc hc4
    have HPr := Lib.hid (fun W hE => reply_print C (.slice none 0 0) [] ⟨#[]⟩ 0 W hE (by omega) (by omega) (nil_own W) (by decide) (fun f hf => by simp at hf) (by decide))
    have HRe := Lib.hid (fun W => refusal_reply C W)
    have hm := meth_refusal
    unfold RPost at HPr
    clear hV e1 e2 hc hc4 he
    go_enter Tryz.func62, Tryz.ntmps62
    go_wp2_with fail
    refine (HC.out _).mono ?_
    rintro e w1 ⟨rfl, hb1⟩
    have hp1 := (hb1.block w.heap.size (by have := HSZ.out; omega)).trans HP0.out
    have HB1 := Lib.hid (bstep HB0.out hb1)
    have HE1 := Lib.hid (HE0.out.below hb1)
    clear hb1 o0 o1 o2
    obtain ⟨o0, o1, o2, -, -, -⟩ := three_facts hp1
    clear hp1
    go_wp2_with fail
    refine (HS.out _ HE1.out).mono ?_
    rintro e w2 ⟨rfl, hb2⟩
    have HB2 := Lib.hid (bstep HB1.out hb2)
    have HE2 := Lib.hid (HE1.out.below hb2)
    clear hb2 o0 o1 o2
    go_wp2_with fail
    refine (HRe.out _).mono ?_
    rintro e w3 ⟨rfl, hb3⟩
    have HB3 := Lib.hid (bstep HB2.out hb3)
    have HE3 := Lib.hid (HE2.out.below hb3)
    clear hb3
    go_wp2_with fail
    refine (HPr.out _ HE3.out).mono ?_
    rintro e w4 ⟨rfl, hb4⟩
    go_wp2_with fail
    go_ret
    exact ⟨by rw [HR.out]; rfl, bstep HB3.out hb4⟩
end Go.Proofs.YtbdmmgmcbecolaaGreatDoor
namespace Go.Proofs.YtbdmmgmcbecolaaGreatDoor
open Go.RowKit
theorem below_ro3 (w : World) (x y z : Value) : Below w.heap.size w (w.alloc (.cells #[x, y, z] 38)) := (Below.refl _ _).alloc (Nat.le_refl _) _
def overO (h p f : List UInt8) (most : Int) : Bool := decide (300 < h.length) || decide (300 < p.length) || decide (most < (f.length : Int))
set_option maxRecDepth 100000 in
set_option maxHeartbeats 1000000 in
theorem ref_oover (h p f : ByteArray) (m : Int) (w : World) :
    Calls Tryz.prog 35 #[.agg #[.string h, .string p, .string f], .int .i64 m] w fun e w' => e = .returned (.bool (overO h.data.toList p.data.toList f.data.toList m)) ∧ Below w.heap.size w w' := by
  obtain ⟨x0, x1, x2⟩ := box3 w (.string h) (.string p) (.string f) 38
  have HB0 := Lib.hid (below_ro3 w (.string h) (.string p) (.string f))
  obtain ⟨A, hA⟩ : ∃ A, decide (300 < h.size) = A := ⟨_, rfl⟩
  obtain ⟨B, hB⟩ : ∃ B, decide (300 < p.size) = B := ⟨_, rfl⟩
  obtain ⟨C, hC⟩ : ∃ C, decide (m < (f.size : Int)) = C := ⟨_, rfl⟩
  have HR : Hid (overO h.data.toList p.data.toList f.data.toList m = (A || B || C)) := Lib.hid (by unfold overO; rw [size_len, size_len, size_len, hA, hB, hC])
  have tA : decide ((h.size : Int) > 300) = A := by rw [← hA]; exact decide_eq_decide.2 (by omega)
  have tB : decide ((p.size : Int) > 300) = B := by rw [← hB]; exact decide_eq_decide.2 (by omega)
  have tC : decide ((f.size : Int) > m) = C := hC
  clear hA hB hC
  cases A
  · cases B
    all_goals
      go_enter Tryz.func35, Tryz.ntmps35
      go_wp2_with fail
      go_ret
      exact ⟨by rw [HR.out]; rfl, HB0.out⟩
  · go_enter Tryz.func35, Tryz.ntmps35
    go_wp2_with fail
    go_ret
    exact ⟨by rw [HR.out]; rfl, HB0.out⟩
end Go.Proofs.YtbdmmgmcbecolaaGreatDoor
namespace Go.Proofs.YtbdmmgmcbecolaaGreatDoor
open Go.RowKit
theorem overO_false (h p f : ByteArray) (m : Int) (hh : overO h.data.toList p.data.toList f.data.toList m = false) : h.size ≤ 300 ∧ p.size ≤ 300 ∧ (f.size : Int) ≤ m := by
  unfold overO at hh
  rw [Bool.or_eq_false_iff, Bool.or_eq_false_iff, decide_eq_false_iff_not, decide_eq_false_iff_not, decide_eq_false_iff_not, size_len, size_len, size_len] at hh
  omega
/-- an origin that lies in a block of its type -/
structure OAt (w : World) (b : Nat) (T : TypeId) (h p f : ByteArray) : Prop where
  blk : w.heap[b]? = some (.cells #[.string h, .string p, .string f] T (0, 0))
theorem OAt.lt {w : World} {b : Nat} {T : TypeId} {h p f : ByteArray} (k : OAt w b T h p f) : b < w.heap.size := (Array.getElem?_eq_some_iff.1 k.blk).1
theorem OAt.below {w w' : World} {b : Nat} {T : TypeId} {h p f : ByteArray} (k : OAt w b T h p f) (hb : Below w.heap.size w w') : OAt w' b T h p f := ⟨(hb.block b k.lt).trans k.blk⟩
theorem OAt.new (w : World) (T : TypeId) (h p f : ByteArray) : OAt (w.alloc (.cells #[.string h, .string p, .string f] T)) w.heap.size T h p f := ⟨heap_alloc_new w _⟩
theorem OAt.cells {w : World} {b : Nat} {T : TypeId} {h p f : ByteArray} (k : OAt w b T h p f) : w.cell? ⟨b, 0, none⟩ = some (.string h) ∧ w.cell? ⟨b, 1, none⟩ = some (.string p) ∧ w.cell? ⟨b, 2, none⟩ = some (.string f) :=
  let ⟨h0, h1, h2, _⟩ := three_facts k.blk; ⟨h0, h1, h2⟩
end Go.Proofs.YtbdmmgmcbecolaaGreatDoor
namespace Go.Proofs.YtbdmmgmcbecolaaGreatDoor
open Go.RowKit
theorem six_facts {w : World} {b : Nat} {x0 x1 x2 x3 x4 x5 : Value} {t : TypeId} (k : w.heap[b]? = some (.cells #[x0, x1, x2, x3, x4, x5] t (0, 0))) :
    (w.cell? ⟨b, 0, none⟩ = some x0 ∧ w.cell? ⟨b, 1, none⟩ = some x1 ∧ w.cell? ⟨b, 2, none⟩ = some x2 ∧ w.cell? ⟨b, 3, none⟩ = some x3 ∧ w.cell? ⟨b, 4, none⟩ = some x4 ∧ w.cell? ⟨b, 5, none⟩ = some x5) ∧ w.frozen? ⟨b, 3, none⟩ = false ∧ w.frozen? ⟨b, 4, none⟩ = false ∧ w.frozen? ⟨b, 5, none⟩ = false := by
  refine ⟨⟨?_, ?_, ?_, ?_, ?_, ?_⟩, ?_, ?_, ?_⟩ <;> first | (unfold World.cell?; rw [k]; rfl) | (unfold World.frozen?; rw [k]; rfl)
theorem six_set3 {w : World} {b : Nat} {x0 x1 x2 x3 x4 x5 : Value} {t : TypeId} (k : w.heap[b]? = some (.cells #[x0, x1, x2, x3, x4, x5] t (0, 0))) (y : Value) : (w.setCell ⟨b, 3, none⟩ y).heap[b]? = some (.cells #[x0, x1, x2, y, x4, x5] t (0, 0)) := by
  simp [World.setCell, Array.getElem?_modify, k]
theorem six_set4 {w : World} {b : Nat} {x0 x1 x2 x3 x4 x5 : Value} {t : TypeId} (k : w.heap[b]? = some (.cells #[x0, x1, x2, x3, x4, x5] t (0, 0))) (y : Value) : (w.setCell ⟨b, 4, none⟩ y).heap[b]? = some (.cells #[x0, x1, x2, x3, y, x5] t (0, 0)) := by
  simp [World.setCell, Array.getElem?_modify, k]
theorem six_set5 {w : World} {b : Nat} {x0 x1 x2 x3 x4 x5 : Value} {t : TypeId} (k : w.heap[b]? = some (.cells #[x0, x1, x2, x3, x4, x5] t (0, 0))) (y : Value) : (w.setCell ⟨b, 5, none⟩ y).heap[b]? = some (.cells #[x0, x1, x2, x3, x4, y] t (0, 0)) := by
  simp [World.setCell, Array.getElem?_modify, k]
/-- a builder in block b holds the text l -/
abbrev BIs (b : Nat) (l : List UInt8) (w : World) : Prop := Lib.IsBuilderF 194 5 b b (Lib.byteCells l) w
theorem BIs.below {b : Nat} {l : List UInt8} {w w' : World} (h : BIs b l w) (hb : Below w.heap.size w w') : BIs b l w' := Lib.IsBuilderF.below h hb
theorem bat_keep {T e : TypeId} {b : Nat} {p : Value} {xs : List Value} {w w' : World} (h : Lib.BuilderAtF T e b b p xs w) (hk : ∀ g, b ≤ g → g < w.heap.size → w'.heap[g]? = w.heap[g]?) : Lib.BuilderAtF T e b b p xs w' := by
  obtain ⟨hB, v, hv, hown, hne⟩ := h
  refine ⟨hB, v, (hk b (Nat.le_refl _) (Array.getElem?_eq_some_iff.1 hv).1).trans hv, ⟨hown.1, ?_⟩, hne⟩
  rcases hown.2 with h0 | ⟨g, cap, cur, fz, h1, h2, h3, h4⟩
  · exact .inl h0
  · exact .inr ⟨g, cap, cur, fz, h1, h2, (hk g h2 (Array.getElem?_eq_some_iff.1 h3).1).trans h3, h4⟩
/-- what is written below the builder does not touch it -/
theorem BIs.keep {b : Nat} {l : List UInt8} {w w' : World} (h : BIs b l w) (hk : ∀ g, b ≤ g → g < w.heap.size → w'.heap[g]? = w.heap[g]?) : BIs b l w' :=
  h.elim (fun x => .inl (bat_keep x hk)) (fun x => .inr (bat_keep x hk))
end Go.Proofs.YtbdmmgmcbecolaaGreatDoor
namespace Go.Proofs.YtbdmmgmcbecolaaGreatDoor
open Go.RowKit
/-- the slice v reads as the faults l -/
def HoldsC (w : World) (v : Value) (l : List Flt) : Prop :=
  ∃ a c, v = .slice a l.length c ∧ l.length ≤ c ∧ (l ≠ [] → ∃ b o, a = some ⟨b, o, none⟩ ∧ b < w.heap.size ∧ ∀ j (hj : j < l.length), w.cell? ⟨b, o + 3 * j, none⟩ = some (.int .u8 l[j].1) ∧ w.cell? ⟨b, o + 3 * j + 1, none⟩ = some (.int .i64 l[j].2.1) ∧ w.cell? ⟨b, o + 3 * j + 2, none⟩ = some (.string l[j].2.2))
theorem HoldsC.below {w w' : World} {v : Value} {l : List Flt} (h : HoldsC w v l) (hb : Below w.heap.size w w') : HoldsC w' v l := by
  obtain ⟨a, c, hv, hc, hx⟩ := h
  refine ⟨a, c, hv, hc, fun hne => ?_⟩
  obtain ⟨b, o, ha, hlt, hcell⟩ := hx hne
  exact ⟨b, o, ha, Nat.lt_of_lt_of_le hlt hb.size, fun j hj =>
    let ⟨x, y, z⟩ := hcell j hj
    ⟨(hb.cell (p := ⟨b, o + 3 * j, none⟩) hlt).trans x, (hb.cell (p := ⟨b, o + 3 * j + 1, none⟩) hlt).trans y, (hb.cell (p := ⟨b, o + 3 * j + 2, none⟩) hlt).trans z⟩⟩
theorem HoldsC.empty (w : World) (a : Option Addr) (c : Nat) : HoldsC w (.slice a 0 c) [] := ⟨a, c, rfl, Nat.zero_le _, fun h => absurd rfl h⟩
theorem HoldsC.len {w : World} {v : Value} {l : List Flt} (h : HoldsC w v l) : ∃ a c, v = .slice a l.length c ∧ l.length ≤ c := let ⟨a, c, h1, h2, _⟩ := h; ⟨a, c, h1, h2⟩
/-- the block that a slice lies in -/
def ablk : Value → Option Nat
  | .slice (some a) _ _ => some a.block
  | _ => none
theorem HoldsC.kept {w w' : World} {v : Value} {l : List Flt} (h : HoldsC w v l) (hs : w.heap.size ≤ w'.heap.size) (hb : ∀ b, ablk v = some b → w'.heap[b]? = w.heap[b]?) : HoldsC w' v l := by
  obtain ⟨a, c, rfl, hc, hx⟩ := h
  refine ⟨a, c, rfl, hc, fun hne => ?_⟩
  obtain ⟨b, o, rfl, hlt, hcell⟩ := hx hne
  have hk := hb b rfl
  have key : ∀ i, w'.cell? ⟨b, i, none⟩ = w.cell? ⟨b, i, none⟩ := fun i => cell_kept (a := ⟨b, i, none⟩) hk
  exact ⟨b, o, rfl, Nat.lt_of_lt_of_le hlt hs, fun j hj =>
    let ⟨x, y, z⟩ := hcell j hj
    ⟨(key _).trans x, (key _).trans y, (key _).trans z⟩⟩
theorem HoldsC.of_own {w : World} {base n : Nat} {e : TypeId} {v : Value} {l : List Flt} (h : w.ownsRow base e 3 v n (flts l)) : HoldsC w v l := by
  have hn : l.length = n := by have := h.1; rw [flts_length] at this; omega
  subst hn
  rcases h.2 with ⟨rfl, h0⟩ | ⟨g, cap, cur, rfl, hb, hg, hle, hm, hs, ht⟩
  · have : l = [] := List.eq_nil_of_length_eq_zero h0
    subst this
    exact HoldsC.empty w none 0
  · refine ⟨_, cap, rfl, hle, fun _ => ⟨g, 0, rfl, (Array.getElem?_eq_some_iff.1 hg).1, fun j hj => ?_⟩⟩
    obtain ⟨x, y, z⟩ := flts_get l j hj
    have key : ∀ i u, (flts l)[i]? = some u → w.cell? ⟨g, 0 + i, none⟩ = some u := by
      intro i u hu
      have := h.cells (g := g) rfl i u hu
      have e0 : (⟨g, 0, none⟩ : Addr).add i = ⟨g, 0 + i, none⟩ := by unfold Addr.add; split <;> simp_all
      rwa [e0] at this
    exact ⟨key _ _ x, by have := key _ _ y; rwa [show 0 + 3 * j + 1 = 0 + (3 * j + 1) by omega], by have := key _ _ z; rwa [show 0 + 3 * j + 2 = 0 + (3 * j + 2) by omega]⟩
/-- the first fault, and the rest of them -/
theorem HoldsC.first {w : World} {v : Value} {x : Flt} {l : List Flt} (h : HoldsC w v (x :: l)) : ∃ b o c, v = .slice (some ⟨b, o, none⟩) (l.length + 1) c ∧ l.length + 1 ≤ c ∧ b < w.heap.size ∧ w.cell? ⟨b, o, none⟩ = some (.int .u8 x.1) ∧ w.cell? ⟨b, o + 1, none⟩ = some (.int .i64 x.2.1) ∧ w.cell? ⟨b, o + 2, none⟩ = some (.string x.2.2) ∧
    HoldsC w (.slice (some (if c = 1 then ⟨b, o, none⟩ else ⟨b, o + 3, none⟩)) l.length (c - 1)) l := by
  obtain ⟨a, c, rfl, hc, hx⟩ := h
  obtain ⟨b, o, rfl, hlt, hcell⟩ := hx (by simp)
  obtain ⟨x1, x2, x3⟩ := hcell 0 (by simp)
  refine ⟨b, o, c, rfl, hc, hlt, x1, x2, x3, _, _, rfl, by simp at hc; omega, fun hne => ?_⟩
  have hl : 0 < l.length := List.length_pos_iff.2 hne
  have hc1 : c ≠ 1 := by simp at hc; omega
  rw [if_neg hc1]
  refine ⟨b, o + 3, rfl, hlt, fun j hj => ?_⟩
  obtain ⟨y1, y2, y3⟩ := hcell (j + 1) (by simp; omega)
  simp only [List.getElem_cons_succ] at y1 y2 y3
  refine ⟨?_, ?_, ?_⟩
  · rw [show o + 3 + 3 * j = o + 3 * (j + 1) by omega]; exact y1
  · rw [show o + 3 + 3 * j + 1 = o + 3 * (j + 1) + 1 by omega]; exact y2
  · rw [show o + 3 + 3 * j + 2 = o + 3 * (j + 1) + 2 by omega]; exact y3
end Go.Proofs.YtbdmmgmcbecolaaGreatDoor
namespace Go.Proofs.YtbdmmgmcbecolaaGreatDoor
open Go.RowKit
theorem run_make3 {P : Program} (t e : TypeId) (z : Value) (k b : Nat) (hu : P.underlying t = some (.slice e)) (hinf : (P.info? e).map (fun i => (i.zero, i.size, i.bytes)) = some (some z, k, b)) (hb : b ≤ 1000) (N : Nat) (hN : N ≤ 1000000) (w : World) :
    (Instr.makeSlice t (.int .i64 (N : Int)) (.int .i64 (N : Int))).run P w = .ok (.slice (some ⟨w.heap.size, 0, none⟩) N N) (w.alloc (.cells (madeCells z.cells (N * k)) e)) := by
  obtain ⟨i0, hi, hz0, hz1, hz2⟩ := info_parts hinf
  have hbN : b * N ≤ 1000 * 1000000 := Nat.mul_le_mul hb hN
  have := run_make (P := P) w t e i0 _ hu hi hz0 .i64 .i64 N N (by omega) (by omega) (by rw [hz2]; rw [← Int.natCast_mul]; omega) (by omega)
  rw [this, hz1, Int.toNat_natCast]
theorem run_copy_zero {P : Program} (dT sT ty e : TypeId) (k : Nat) (hu : P.underlying dT = some (.slice e)) (hs : (P.info? e).map (·.size) = some k) (d s : Option Addr) (n c cx : Nat) (w : World) :
    (Builtin.copy_ #[dT, sT] ty #[.slice d n c, .slice s 0 cx]).run P w = .ok (.int .i64 0) w := by
  cases hq : P.info? e with
  | none => simp [hq] at hs
  | some i =>
    cases d <;> cases s <;> simp [Builtin.copy_, run_underlying hu, Builtin.lenOf, Builtin.firstCells, sizeOf, typeInfo, hq, storeCells, loadCells, goInt, loadCellsFrom]
/-- the cells of a list, three for each of its elements, read from a slice -/
theorem holds_src {w : World} {l : List Flt} {b o : Nat} (h : ∀ j (hj : j < l.length), w.cell? ⟨b, o + 3 * j, none⟩ = some (.int .u8 l[j].1) ∧ w.cell? ⟨b, o + 3 * j + 1, none⟩ = some (.int .i64 l[j].2.1) ∧ w.cell? ⟨b, o + 3 * j + 2, none⟩ = some (.string l[j].2.2)) :
    ∀ i v, (flts l)[i]? = some v → w.cell? ((⟨b, o, none⟩ : Addr).add i) = some v := by
  intro i v hv
  have hlt : i < (flts l).length := (List.getElem?_eq_some_iff.1 hv).1
  rw [flts_length] at hlt
  have hj : i / 3 < l.length := by omega
  obtain ⟨a, b', c⟩ := flts_get l (i / 3) hj
  obtain ⟨x, y, z⟩ := h (i / 3) hj
  rw [Addr.add_lit]
  have hm : i % 3 = 0 ∨ i % 3 = 1 ∨ i % 3 = 2 := by omega
  rcases hm with hm | hm | hm
  · have e : i = 3 * (i / 3) := by omega
    rw [e] at hv ⊢
    rw [a] at hv
    rw [← Option.some.inj hv]; exact x
  · have e : i = 3 * (i / 3) + 1 := by omega
    rw [e] at hv ⊢
    rw [b'] at hv
    rw [← Option.some.inj hv, ← Nat.add_assoc]; exact y
  · have e : i = 3 * (i / 3) + 2 := by omega
    rw [e] at hv ⊢
    rw [c] at hv
    rw [← Option.some.inj hv, ← Nat.add_assoc]; exact z
theorem flts_one (l : List Flt) : ∀ v ∈ flts l, v.oneCell' = true := by
  intro v hv
  unfold flts at hv
  obtain ⟨x, -, hx⟩ := List.mem_flatMap.1 hv
  simp only [List.mem_cons, List.not_mem_nil, or_false] at hx
  rcases hx with rfl | rfl | rfl <;> rfl
/-- a whole row laid anew is owned -/
theorem own_filled {w : World} {e : TypeId} {N k : Nat} {cs : List Value} {cur : Array Value} {B : Nat} (hg : w.heap[B]? = some (.cells cur e (0, 0))) (hl : cs.length = N * k) (hc : cur.size = N * k) (hN : N ≤ 1000000) (base : Nat) (hb : base ≤ B) :
    (w.setRow B (splice cur.toList 0 cs).toArray).ownsRow base e k (.slice (some ⟨B, 0, none⟩) N N) N cs := by
  have hsp : splice cur.toList 0 cs = cs := by
    unfold splice
    rw [List.take_zero, List.nil_append, Nat.zero_add, List.drop_of_length_le (by rw [Array.length_toList, hc, hl]; exact Nat.le_refl _), List.append_nil]
  rw [hsp]
  refine ⟨hl, .inr ⟨B, N, cs.toArray, rfl, hb, setRow_heap w B cur _ e _ hg, Nat.le_refl _, by unfold maxLen; omega, by simp [hl], ?_⟩⟩
  rw [List.take_of_length_le (by simp [hl])]
/-- a copy of faults into a new row -/
theorem copy_holds {P : Program} (dT sT e : TypeId) (hu : P.underlying dT = some (.slice e)) (hs : (P.info? e).map (·.size) = some 3) {W : World} {v : Value} {l : List Flt} {B : Nat} {cur : Array Value} (hg : W.heap[B]? = some (.cells cur e (0, 0))) (hc : cur.size = l.length * 3) (hh : HoldsC W v l) (hn : l.length ≤ 1000000) :
    ∃ W', (∀ ty, (Builtin.copy_ #[dT, sT] ty #[.slice (some ⟨B, 0, none⟩) l.length l.length, v]).run P W = .ok (.int .i64 l.length) W') ∧ W'.ownsRow B e 3 (.slice (some ⟨B, 0, none⟩) l.length l.length) l.length (flts l) ∧ Touch (fun g => g = B) W W' := by
  obtain ⟨a, c, rfl, hcl, hx⟩ := hh
  by_cases hl : l = []
  · subst hl
    refine ⟨W, fun ty => run_copy_zero dT sT ty e 3 hu hs _ _ _ _ _ W, ⟨rfl, .inr ⟨B, 0, cur, rfl, Nat.le_refl _, hg, Nat.le_refl _, Nat.zero_le _, by simpa using hc, by simp [flts]⟩⟩, Touch.refl _ _⟩
  · obtain ⟨b, o, rfl, hlt, hcell⟩ := hx hl
    refine ⟨W.setRow B (splice cur.toList 0 (flts l)).toArray, fun ty => ?_, own_filled hg (flts_length l) hc hn B (Nat.le_refl _), ⟨rfl, rfl, rfl, by simp [World.setRow], fun k hk hne => setRow_other W B k _ hne⟩⟩
    exact run_copy_row_wide W dT sT ty e 3 l.length B 0 l.length l.length ⟨b, o, none⟩ l.length c cur e (flts l) hu hs (Nat.min_self _) (flts_length l).symm hg (holds_src hcell) (by rw [flts_length, hc]; omega) (flts_one l)
/-- append of one element of three cells -/
theorem append3 {ops : Array Oper} {rest : List Oper} {o : Oper} {a : Act} {Q : Exit → Act → World → Prop} (t e : TypeId) (z : Value) (b : Nat) (hu : Tryz.prog.underlying t = some (.slice e)) (hinf : (Tryz.prog.info? e).map (fun i => (i.zero, i.size, i.bytes)) = some (some z, 3, b)) (hz : z.cells.size = 3) (hb : b ≤ 64)
    (w0 : World) (c1 c2 c3 : Value) (h1 : c1.oneCell' = true) (h2 : c2.oneCell' = true) (h3 : c3.oneCell' = true) (hgd : o.guard = none) (s x : Operand) (ho : o.op = .call { callee := .builtin .append, args := #[s, x], argTypes := #[t, t] })
    (base : Nat) (v : Value) (n : Nat) (xs : List Value) (hs : a.eval s = v) (hown : w0.ownsRow base e 3 v n xs) (hx : a.eval x = .slice (some ⟨w0.heap.size, 0, none⟩) 1 1) (hn : n < 2147483648) (hbase : base ≤ w0.heap.size)
    (h : ∀ g cap w', w'.ownsRow base e 3 (.slice (some ⟨g, 0, none⟩) (n + 1) cap) (n + 1) (xs ++ [c1, c2, c3]) → w0.grownBy w' v.ownBlock → (v.ownBlock = some g ∨ w0.heap.size ≤ g) → wpList Tryz.prog ops Q rest (a.put o.dst (.slice (some ⟨g, 0, none⟩) (n + 1) cap)) w') :
    wpList Tryz.prog ops Q (o :: rest) a (w0.alloc (.cells #[c1, c2, c3] e)) := by
  obtain ⟨i0, hi, hz0, hz1, hz2⟩ := info_parts hinf
  have hbn : (n + 1) * b ≤ 2147483648 * 64 := Nat.mul_le_mul (by omega) hb
  refine wpList_append_lies _ hgd s x t ho base e i0 z 3 b hu hi hz0 hz1 hz2 hz (by decide) v n xs hs (hown.alloc _) ⟨w0.heap.size, 0, none⟩ 1 1 [c1, c2, c3] hx rfl (World.news_of_block (heap_alloc_new w0 _)) (fun u hm => ?_) (by decide) (by unfold maxLen; omega) (by omega) (by simp; omega) _ rfl ?_
  · simp only [List.mem_cons, List.not_mem_nil, or_false] at hm
    rcases hm with rfl | rfl | rfl <;> assumption
  · intro g cap w' k2 k3 k4 k5
    refine h g cap w' k2 ⟨k3.os, k3.tape, k3.output, Nat.le_trans (by simp) k3.size, fun k hk hne => (k3.block k (by simp; omega) hne).trans (heap_alloc_old w0 _ hk)⟩ ?_
    rcases k4 with k4 | k4
    · exact .inl k4
    · exact .inr (by rw [k4]; simp)
end Go.Proofs.YtbdmmgmcbecolaaGreatDoor
