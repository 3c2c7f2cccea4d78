/- The small example of the laws of layer 46. The law ServeAnswers. Plain words on feeds: printed replies that come byte by byte (no program in sight). A feed in memory; rows of replies. What none, New, Rest, Bad, End and cut of package feed do. What cut of package feed does. The steps of Put of a feed: bytes and replies are appended. What Put of package feed does. What Put of package feed does: the loop. Plain words on ServePieces: a feed takes off just as many replies as were told. What an argument that is a slice of the reference's fields reads as. What an argument that is a slice of ranges reads as. The law ServeMany. The law ServePieces. The law ServeNobody. What the listed variables give. The law function ServeNobody, as the row's proof takes it. The law function ServeAnswers, as the row's proof takes it. The law function ServePieces, as the row's proof takes it. The law function ServeMany, as the row's proof takes it. -/
import Derived.Test.YtgnkmfjleecmfaaGreatDoorPs10
import Derived.Deep.RegionHeld3
import Derived.BigQuiet
import Derived.Deep.AppendLies
import Derived.Deep.Slices
import Derived.Deep.Fields
import Derived.ChangeSame
import Derived.Test.YtgnkmfjleecmfaaGreatDoorRows
import Derived.OpenShut
import Derived.MakeChecks
import Derived.Stop.LaidErr
import Derived.PinnedBridge
import Derived.Lib.LaidU8T
import Derived.Lib.SmallJoins
import Derived.ChangeArms
import Derived.WideShapes
set_option linter.unusedVariables false
namespace Go.Proofs.YtgnkmfjleecmfaaGreatDoor
open Go.RowKit
def s46 : List UInt8 := [71, 69, 84, 32, 47, 102, 32, 72, 84, 84, 80, 47, 49, 46, 49, 13, 10, 72, 111, 115, 116, 58, 32, 104, 13, 10, 82, 97, 110, 103, 101, 58, 32, 98, 121, 116, 101, 115, 61, 49, 45, 49, 13, 10, 13, 10]
def x46 : List UInt8 := [120, 32, 121, 13, 10, 13, 10]
def g46 : List UInt8 := [71, 69, 84, 32, 47]
set_option maxRecDepth 100000 in
theorem aw46_a : askE (bs s46) = 0 ∧ askN (bs s46) = 46 := by decide +kernel
set_option maxRecDepth 100000 in
theorem aw46_b : askE (bs g46) = 3 := by decide +kernel
set_option maxRecDepth 100000 in
theorem aw46_c : askE (bs (g46 ++ x46)) ≠ 0 ∧ askE (bs (g46 ++ x46)) ≠ 3 := by decide +kernel
theorem aw46_e : orgE [104] [47, 102] = 0 := by decide
def A46 : List UInt8 := orgS [104] [47, 102] [97, 98, 99] (bs s46)
def B46 : List UInt8 := orgS [104] [47, 102] [97, 98, 99] (bs (g46 ++ x46))
theorem aw46_len : s46.length = 46 := by decide
theorem aw46_t (T : List UInt8) : srvOf [104] [47, 102] [97, 98, 99] (s46 ++ T) = (A46 ++ (srvOf [104] [47, 102] [97, 98, 99] T).1, (srvOf [104] [47, 102] [97, 98, 99] T).2.1, (srvOf [104] [47, 102] [97, 98, 99] T).2.2.1 + 1, (srvOf [104] [47, 102] [97, 98, 99] T).2.2.2) := by
  obtain ⟨k1, k2⟩ := ask_behind s46 T (by rw [aw46_a.1]; decide)
  rw [srv_more _ _ _ _ (k1.trans aw46_a.1), k2, aw46_a.2, show ((46 : Int)).toNat = s46.length from by rw [aw46_len]; rfl, List.drop_left, List.take_left]
  rfl
theorem aw46_1 : srvOf [104] [47, 102] [97, 98, 99] (s46 ++ s46 ++ g46) = (A46 ++ A46, g46, 2, false) := by
  rw [List.append_assoc, aw46_t, aw46_t, srv_short _ _ _ g46 aw46_b]
  simp
theorem aw46_2 : srvOf [104] [47, 102] [97, 98, 99] (g46 ++ x46) = (B46, [], 1, true) := srv_bad _ _ _ _ aw46_c.1 aw46_c.2
theorem st400 : (printOf 400).data.toList = [72, 84, 84, 80, 47, 49, 46, 49, 32, 52, 48, 48, 32, 66, 97, 100, 32, 82, 101, 113, 117, 101, 115, 116] := by
  rw [printOf_line 400 (by decide) (by decide)]
  exact (statusLine_data 400 (by decide) (by decide)).trans (by decide +kernel)
theorem aw46_p : Lib.hasPrefix (bs B46).data.toList [72, 84, 84, 80, 47, 49, 46, 49, 32, 52, 48, 48, 32] = true := by
  have hc : orgC [104] [47, 102] [97, 98, 99] (bs (g46 ++ x46)) = 400 := by unfold orgC; rw [if_pos (.inl aw46_c.1)]
  obtain ⟨h1, h2⟩ := orgF_other [104] [47, 102] [97, 98, 99] (bs (g46 ++ x46)) (by rw [hc]; decide)
  rw [bs_data]
  unfold B46
  rw [orgS_eq _ _ _ _ (by decide) aw46_e, hc, h1, h2]
  unfold repL repLines
  rw [st400, show (([] : List UInt8).length : Int) = ((0 : Nat) : Int) from rfl, digL_one 0 (by decide)]
  decide +kernel
theorem A46_len : A46.length ≤ 5000 := by
  have := orgS_len [104] [47, 102] [97, 98, 99] (bs s46) (by decide)
  unfold A46
  have h3 : ([97, 98, 99] : List UInt8).length = 3 := rfl
  omega
theorem env_touch {w w1 : World} {b : Nat} (hE : EnvF w) (hb : Below w.heap.size w w1) (hlt : w.heap.size ≤ b) : ∀ W, Touch (fun g => g = b) w1 W → EnvF W := fun W ht =>
  hE.below (hb.trans (ht.below (fun g hg => by rw [show g = b from hg]; exact hlt) hb.size))
theorem below_touch {w w1 w2 : World} {b : Nat} (hb : Below w.heap.size w w1) (ht : Touch (fun g => g = b) w1 w2) (hlt : w.heap.size ≤ b) : Below w.heap.size w w2 :=
  hb.trans (ht.below (fun g hg => by rw [show g = b from hg]; exact hlt) hb.size)
theorem aw46_put1 {w : World} {b : Nat} (X : ByteArray) (hX : X = bs (s46 ++ s46 ++ g46)) (hc : CAt w b ⟨#[104]⟩ ⟨#[47, 102]⟩ ⟨#[97, 98, 99]⟩ true [] 0) (hE : ∀ W, Touch (fun g => g = b) w W → EnvF W) :
    Calls Tryz.prog 25 #[.pointer (some ⟨b, 0, none⟩), .string X] w fun e w' => e = .returned (.string (bs (A46 ++ A46))) ∧ CAt w' b ⟨#[104]⟩ ⟨#[47, 102]⟩ ⟨#[97, 98, 99]⟩ true g46 2 ∧ Touch (fun g => g = b) w w' := by
  subst hX
  refine (srv_put (bs (s46 ++ s46 ++ g46)) hc hE (by decide) (by decide) (by decide)).mono ?_
  rintro e w' ⟨rfl, h2, h3⟩
  rw [bs_data, List.nil_append] at h2 ⊢
  rw [show srvOf (ByteArray.mk #[104]).data.toList (ByteArray.mk #[47, 102]).data.toList (ByteArray.mk #[97, 98, 99]).data.toList (s46 ++ s46 ++ g46) = (A46 ++ A46, g46, 2, false) from aw46_1] at h2 ⊢
  exact ⟨rfl, h2, h3⟩
theorem aw46_put2 {w : World} {b : Nat} (X : ByteArray) (hX : X = bs x46) (hc : CAt w b ⟨#[104]⟩ ⟨#[47, 102]⟩ ⟨#[97, 98, 99]⟩ true g46 2) (hE : ∀ W, Touch (fun g => g = b) w W → EnvF W) :
    Calls Tryz.prog 25 #[.pointer (some ⟨b, 0, none⟩), .string X] w fun e w' => e = .returned (.string (bs B46)) ∧ CAt w' b ⟨#[104]⟩ ⟨#[47, 102]⟩ ⟨#[97, 98, 99]⟩ false [] 3 ∧ Touch (fun g => g = b) w w' := by
  subst hX
  refine (srv_put (bs x46) hc hE (by decide) (by decide) (by decide)).mono ?_
  rintro e w' ⟨rfl, h2, h3⟩
  rw [bs_data] at h2 ⊢
  rw [show srvOf (ByteArray.mk #[104]).data.toList (ByteArray.mk #[47, 102]).data.toList (ByteArray.mk #[97, 98, 99]).data.toList (g46 ++ x46) = (B46, [], 1, true) from aw46_2] at h2 ⊢
  exact ⟨rfl, h2, h3⟩
theorem aw46_ans (X : ByteArray) (hX : X = bs s46) (w : World) (hE : EnvF w) : Calls Tryz.prog 24 #[.agg #[.string ⟨#[104]⟩, .string ⟨#[47, 102]⟩, .string ⟨#[97, 98, 99]⟩], .string X] w fun e w' => e = .returned (.string (bs A46)) ∧ Below w.heap.size w w' := by
  subst hX
  exact origin_answer ⟨#[104]⟩ ⟨#[47, 102]⟩ ⟨#[97, 98, 99]⟩ (bs s46) w hE (by decide) (by decide)
set_option maxRecDepth 100000 in
set_option maxHeartbeats 4000000 in
theorem awake46 (w : World) (hE : EnvF w) : Calls Tryz.prog 21 #[] w fun e w' => e = .returned (.bool true) ∧ Below w.heap.size w w' := by
  have HE := Lib.hid hE
  have HN := Lib.hid (fun w => srv_new ⟨#[104]⟩ ⟨#[47, 102]⟩ ⟨#[97, 98, 99]⟩ w (show orgE [104] [47, 102] = 0 from aw46_e))
  have HZ := Lib.hid (fun w => srv_new_bad ⟨#[]⟩ ⟨#[]⟩ ⟨#[]⟩ w (show orgE [] [] ≠ 0 by decide))
  have HB0 := Lib.hid (below_o3 w (.string ⟨#[104]⟩) (.string ⟨#[47, 102]⟩) (.string ⟨#[97, 98, 99]⟩))
  have HP0 := Lib.hid (heap_alloc_new w (.cells #[.string ⟨#[104]⟩, .string ⟨#[47, 102]⟩, .string ⟨#[97, 98, 99]⟩] 49))
  have HSZ : Hid ((w.alloc (.cells #[.string ⟨#[104]⟩, .string ⟨#[47, 102]⟩, .string ⟨#[97, 98, 99]⟩] 49)).heap.size = w.heap.size + 1) := Lib.hid (by simp)
  have padd := fun w => run_string_add_sum (P := Tryz.prog) w (bs A46) (bs A46) (by rw [bs_size]; have := A46_len; omega)
  rw [bs_cat] at padd
  clear hE
  go_enter Tryz.func21, Tryz.ntmps21
  go_wp2_with fail
  refine (HN.out _).mono ?_
  rintro e w1 ⟨b, rfl, hb, hc1, hb1⟩
  have hlt : w.heap.size < b := by have := HSZ.out; omega
  have HLT := Lib.hid hlt
  have hp1 := (hb1.block w.heap.size (by have := HSZ.out; omega)).trans HP0.out
  have HC1 := Lib.hid hc1
  have HB1 := Lib.hid (bstep HB0.out hb1)
  clear hb hc1 hb1 hlt HN HB0 HP0 HSZ
  have HP1 := Lib.hid hp1
  clear hp1
  go_wp2_with fail
  refine (HZ.out _).mono ?_
  rintro e w2 ⟨rfl, hb2⟩
  have HC2 := Lib.hid (HC1.out.below hb2)
  have HB2 := Lib.hid (bstep HB1.out hb2)
  have HP2 := Lib.hid ((hb2.block w.heap.size (Array.getElem?_eq_some_iff.1 HP1.out).1).trans HP1.out)
  clear hb2 HC1 HB1 HP1 HZ
  go_wp2_with fail
  refine (aw46_put1 _ (by rfl) HC2.out (env_touch HE.out HB2.out (Nat.le_of_lt HLT.out))).mono ?_
  rintro e w3 ⟨rfl, hc3, ht3⟩
  have HC3 := Lib.hid hc3
  have HB3 := Lib.hid (below_touch HB2.out ht3 (Nat.le_of_lt HLT.out))
  have HP3 := Lib.hid ((ht3.block w.heap.size (Array.getElem?_eq_some_iff.1 HP2.out).1 (by have := HLT.out; show ¬ (w.heap.size = b); omega)).trans HP2.out)
  have HR3 := Lib.hid (srv_rest_at hc3.blk)
  have HV3 := Lib.hid (srv_served_at hc3.blk)
  rw [show (bs g46).size = 5 from by decide] at HR3
  clear hc3 ht3 HC2 HB2 HP2
  go_wp2_with fail
  refine HR3.out.mono ?_
  rintro e w' ⟨rfl, hww⟩
  obtain rfl := hww.symm
  go_wp2_with fail
  refine HV3.out.mono ?_
  rintro e w' ⟨rfl, hww⟩
  obtain rfl := hww.symm
  clear hww HR3 HV3
  go_wp2_with fail
  refine (aw46_put2 _ (by rfl) HC3.out (env_touch HE.out HB3.out (Nat.le_of_lt HLT.out))).mono ?_
  rintro e w4 ⟨rfl, hc4, ht4⟩
  have HB4 := Lib.hid (below_touch HB3.out ht4 (Nat.le_of_lt HLT.out))
  have hp4 := (ht4.block w.heap.size (Array.getElem?_eq_some_iff.1 HP3.out).1 (by have := HLT.out; show ¬ (w.heap.size = b); omega)).trans HP3.out
  have HCW := Lib.hid (fun W (hW : Below w4.heap.size w4 W) => hc4.below hW)
  have HS : Hid (∀ W, Below w4.heap.size w4 W → W.cell? ⟨w.heap.size, 0, none⟩ = some (.string ⟨#[104]⟩) ∧ W.cell? ⟨w.heap.size, 1, none⟩ = some (.string ⟨#[47, 102]⟩) ∧ W.cell? ⟨w.heap.size, 2, none⟩ = some (.string ⟨#[97, 98, 99]⟩)) := Lib.hid (fun W hW => by
    obtain ⟨x0, x1, x2, -, -, -⟩ := three_facts ((hW.block w.heap.size (Array.getElem?_eq_some_iff.1 hp4).1).trans hp4)
    exact ⟨x0, x1, x2⟩)
  have HEE : Hid (∀ W, Below w4.heap.size w4 W → EnvF W) := Lib.hid (fun W hW => HE.out.below (bstep HB4.out hW))
  have HDr : Hid (Below w4.heap.size w4 w4.drew) := Lib.hid (Below.refl _ _).drew
  have HPf := Lib.hid (fun w => Tryz.strings_HasPrefix (bs B46) ⟨#[72, 84, 84, 80, 47, 49, 46, 49, 32, 52, 48, 48, 32]⟩ w)
  rw [show Lib.hasPrefix (bs B46).data.toList (ByteArray.mk #[72, 84, 84, 80, 47, 49, 46, 49, 32, 52, 48, 48, 32]).data.toList = true from aw46_p] at HPf
  have HPt := Lib.hid (fun W (hW : Below w4.heap.size w4 W) (X : ByteArray) => srv_put_closed X (hc4.below hW))
  clear hc4 ht4 HC3 HB3 HP3 hp4
  generalize bs (A46 ++ A46) = S2 at padd ⊢
  generalize bs B46 = S3 at HPf ⊢
  go_wp2_with fail
  go_region_held3 (fun w' => w'.cell? ⟨w.heap.size, 0, none⟩ = some (.string ⟨#[104]⟩) ∧ w'.cell? ⟨w.heap.size, 1, none⟩ = some (.string ⟨#[47, 102]⟩) ∧ w'.cell? ⟨w.heap.size, 2, none⟩ = some (.string ⟨#[97, 98, 99]⟩)) (first | exact HS.out _ HDr.out | exact HS.out _ HA1.out | exact HS.out _ HA2.out)
    (first
      | (go_at_call 24; refine (aw46_ans _ (by rfl) _ (HEE.out _ HDr.out)).mono ?_; rintro e wa ⟨rfl, hba⟩; have HA1 : Hid (Below w4.heap.size w4 wa) := Lib.hid (bstep HDr.out hba); clear hba)
      | (go_at_call 24; refine (aw46_ans _ (by rfl) _ (HEE.out _ HA1.out)).mono ?_; rintro e wb ⟨rfl, hbb⟩; have HA2 : Hid (Below w4.heap.size w4 wb) := Lib.hid (bstep HA1.out hbb); clear hbb)
      | (go_at_call 16; refine (HPf.out _).mono ?_; rintro e w' ⟨rfl, hww⟩; obtain rfl := hww.symm; clear hww)
      | (go_at_call 27; refine (srv_closed_at (HCW.out _ HA2.out).blk).mono ?_; rintro e w' ⟨rfl, hww⟩; obtain rfl := hww.symm; clear hww)
      | (go_at_call 25; refine (HPt.out _ HA2.out _).mono ?_; rintro e w' ⟨rfl, hww⟩; obtain rfl := hww.symm; clear hww)
      | (go_at_call 26; refine (srv_served_at (HCW.out _ HA2.out).blk).mono ?_; rintro e w' ⟨rfl, hww⟩; obtain rfl := hww.symm; clear hww)
      | (go_at_call 28; refine (srv_rest_at (HCW.out _ HA2.out).blk).mono ?_; rintro e w' ⟨rfl, hww⟩; obtain rfl := hww.symm; clear hww))
  go_wp2_with fail
  go_ret
  exact ⟨rfl, bstep HB4.out HA2.out⟩
end Go.Proofs.YtgnkmfjleecmfaaGreatDoor
namespace Go.Proofs.YtgnkmfjleecmfaaGreatDoor
open Go.RowKit
theorem strArg_below {w w' : World} {v : Value} {ls : List (List UInt8)} (h : StrArg w v ls) (hb : Below w.heap.size w w') : StrArg w' v ls := by
  obtain ⟨⟨a, c, rfl, hc, hx⟩, h2, h3⟩ := h
  refine ⟨⟨a, c, rfl, hc, fun hn => ?_⟩, h2, h3⟩
  obtain ⟨bb, ob, h4, h5, h6⟩ := hx hn
  exact ⟨bb, ob, h4, Nat.lt_of_lt_of_le h5 hb.size, fun k hk => (hb.cell (p := ⟨bb, ob + k, none⟩) h5).trans (h6 k hk)⟩
theorem srvP_count (h p f : List UInt8) (cl : Bool) (l s : List UInt8) (hf : f.length ≤ 1000000) : (srvP h p f cl l s).2.1.length ≤ l.length + s.length ∧ (srvP h p f cl l s).2.2.1 ≤ l.length + s.length + 1 := by
  unfold srvP
  cases cl with
  | true => rw [if_pos rfl]; exact ⟨Nat.le_add_right _ _, Nat.zero_le _⟩
  | false =>
    rw [if_neg (by decide)]
    have := srv_rest h p f hf (l ++ s)
    unfold SrvRest at this
    obtain ⟨-, -, h1, h2, -⟩ := this
    rw [List.length_append] at h1 h2
    exact ⟨h1, h2⟩
theorem srv_put_any {w : World} {b : Nat} {h p f : ByteArray} {l : List UInt8} {n : Nat} {cl : Bool} (s : List UInt8) (hc : CAt w b h p f (!cl) l n) (hE : ∀ W, Touch (fun g => g = b) w W → EnvF W) (hl : l.length + s.length ≤ 100000) (hf : f.size ≤ 2000) (hn : n ≤ 100000) :
    Calls Tryz.prog 25 #[.pointer (some ⟨b, 0, none⟩), .string (bs s)] w (SPost b h p f n (srvP h.data.toList p.data.toList f.data.toList cl l s) w) := by
  unfold srvP
  cases cl with
  | true =>
    rw [if_pos rfl]
    refine (srv_put_closed (bs s) hc).mono ?_
    rintro e w' ⟨rfl, rfl⟩
    exact ⟨rfl, hc, Touch.refl _ _⟩
  | false =>
    rw [if_neg (by decide)]
    have := srv_put (bs s) hc hE (by rw [bs_size]; exact hl) hf hn
    rw [bs_data] at this
    exact this
theorem CAt.lowB {w w' : World} {B b : Nat} {h p f : ByteArray} {op : Bool} {l : List UInt8} {n : Nat} (k : CAt w b h p f op l n) (hb : Below B w w') (hlt : b < B) : CAt w' b h p f op l n := ⟨(hb.block b hlt).trans k.blk⟩
theorem srv_closed_is {w : World} {b : Nat} {h p f : ByteArray} {cl : Bool} {l : List UInt8} {n : Nat} (k : CAt w b h p f (!cl) l n) : Calls Tryz.prog 27 #[.pointer (some ⟨b, 0, none⟩)] w fun e w' => e = .returned (.bool cl) ∧ w' = w := by
  have := srv_closed_at k.blk
  rw [Bool.not_not] at this
  exact this
theorem srv_rest_is {w : World} {b : Nat} {h p f : ByteArray} {op : Bool} {l : List UInt8} {n : Nat} {S : ByteArray} (k : CAt w b h p f op l n) (hs : bs l = S) : Calls Tryz.prog 28 #[.pointer (some ⟨b, 0, none⟩)] w fun e w' => e = .returned (.int .i64 (S.size : Nat)) ∧ w' = w := by
  rw [← hs]
  exact srv_rest_at k.blk
end Go.Proofs.YtgnkmfjleecmfaaGreatDoor
namespace Go.Proofs.YtgnkmfjleecmfaaGreatDoor
open Go.RowKit
theorem rep_cutM (c : Int) (fs : List (List UInt8 × List UInt8)) (b : List UInt8) (s : ByteArray) (k : Nat) (most : Int) (hm : (b.length : Int) ≤ most) (h : repE c fs = 0) (hn : b.length ≤ 1000000) (hk : k < (repL c fs b).length) (hs : s.data.toList = (repL c fs b).take k) : takE s most = 3 := by
  obtain ⟨g1, g2⟩ := good_lines c fs b.length h hn
  by_cases hb : k < (body (repLines c fs b.length)).length + 2
  · have hs2 : s.data.toList = (body (repLines c fs b.length) ++ [13, 10]).take k := by
      rw [hs]; unfold repL
      have e5 : body (repLines c fs b.length) ++ 13 :: 10 :: b = (body (repLines c fs b.length) ++ [13, 10]) ++ b := by simp
      rw [e5, List.take_append_of_le_length (by simp; omega)]
    have := head_cut s (repLines c fs b.length) [] [] 18 k g1 (by simpa using g2) (by simp) hb (by rw [hs2]; simp)
    have hd : headOf s = ([], 0, 3) := by
      unfold headOf
      rw [show (0 : Int) = ((([] : List UInt8).length : Nat) : Int) from rfl, this]
      rfl
    unfold takE
    rw [hd]
    rfl
  · have hl : (repL c fs b).length = (body (repLines c fs b.length)).length + 2 + b.length := by unfold repL; simp only [List.length_append, List.length_cons]; omega
    have hd := head_rep c fs b (b.take (k - ((body (repLines c fs b.length)).length + 2))) s h hn (by
      rw [hs]; unfold repL
      have e5 : ∀ x, body (repLines c fs b.length) ++ 13 :: 10 :: x = (body (repLines c fs b.length) ++ [13, 10]) ++ x := fun x => by simp
      rw [e5, e5, List.take_append, List.take_of_length_le (by simp; omega)]
      simp)
    obtain ⟨e1, e2, e3, e4⟩ := hd_rep c fs b.length h hn
    have hsz : s.size = k := by rw [← size_len, hs, List.length_take]; omega
    unfold takE
    rw [hd]
    simp only [e1, e3]
    rw [if_neg (by simp), if_neg (by simp), if_neg (by omega), if_pos (by omega)]
theorem tak_nil (m : Int) : takE (bs []) m = 3 := rfl
theorem feed_nil (m : Int) : feedOf m [] = ([], [], 0) := feed_short m [] (tak_nil m)
theorem feed_cut (m : Int) (c : Int) (fs : List (List UInt8 × List UInt8)) (b : List UInt8) (k : Nat) (hm : (b.length : Int) ≤ m) (h : repE c fs = 0) (hn : b.length ≤ 1000000) (hk : k < (repL c fs b).length) : feedOf m ((repL c fs b).take k) = ([], (repL c fs b).take k, 0) :=
  feed_short m _ (rep_cutM c fs b _ k m hm h hn hk (bs_data _))
theorem feed_print (m : Int) (c : Int) (fs : List (List UInt8 × List UInt8)) (b : List UInt8) (hm : (b.length : Int) ≤ m) (h : repE c fs = 0) (hn : b.length ≤ 1000000) : feedOf m (repL c fs b) = ([(c, fs, b)], [], 0) := by
  obtain ⟨t1, t2, t3, t4, t5⟩ := rep_take c fs b [] (bs (repL c fs b)) m h hn (by rw [bs_data, List.append_nil]) hm
  rw [feed_more m _ t1, t2, t3, t4, t5, Int.toNat_natCast, List.drop_length, feed_nil]
end Go.Proofs.YtgnkmfjleecmfaaGreatDoor
namespace Go.Proofs.YtgnkmfjleecmfaaGreatDoor
open Go.RowKit

/-- the blocks of a feed -/
def FS (p : Nat) (v : Value) (g : Nat) : Prop := g = p ∨ v.ownBlock = some g
theorem row_set4 {w : World} {b : Nat} {x y z u : Value} {t : TypeId} (h : w.heap[b]? = some (.cells #[x, y, z, u] t (0, 0))) (z' : Value) : (w.setCell ⟨b, 2, none⟩ z').heap[b]? = some (.cells #[x, y, z', u] t (0, 0)) := by
  simp [World.setCell, Array.getElem?_modify, h]
theorem row_set5 {w : World} {b : Nat} {x y z u : Value} {t : TypeId} (h : w.heap[b]? = some (.cells #[x, y, z, u] t (0, 0))) (u' : Value) : (w.setCell ⟨b, 3, none⟩ u').heap[b]? = some (.cells #[x, y, z, u'] t (0, 0)) := by
  simp [World.setCell, Array.getElem?_modify, h]
theorem set_far {w : World} {a : Addr} {v : Value} {k : Nat} (h : k ≠ a.block) : (w.setCell a v).heap[k]? = w.heap[k]? := Below.heap_setCell _ _ _ _ h

/-- the cells of replies: their fields' slices lie beside -/
def rcells : List (Int × List (List UInt8 × List UInt8) × List UInt8) → List Value → List Value
  | r :: rs, f :: fs => .int .i64 r.1 :: f :: .string (bs r.2.2) :: rcells rs fs
  | _, _ => []
theorem rcells_length (rs : List (Int × List (List UInt8 × List UInt8) × List UInt8)) : ∀ fs, fs.length = rs.length → (rcells rs fs).length = rs.length * 3 := by
  induction rs with
  | nil => intro fs h; cases fs with
    | nil => rfl
    | cons f t => simp at h
  | cons r t ih => intro fs h; cases fs with
    | nil => simp at h
    | cons f u => show (rcells t u).length + 1 + 1 + 1 = (t.length + 1) * 3; rw [ih u (by simpa using h)]; omega
theorem rcells_snoc (rs : List (Int × List (List UInt8 × List UInt8) × List UInt8)) (r : Int × List (List UInt8 × List UInt8) × List UInt8) (f : Value) : ∀ fs, fs.length = rs.length → rcells (rs ++ [r]) (fs ++ [f]) = rcells rs fs ++ [.int .i64 r.1, f, .string (bs r.2.2)] := by
  induction rs with
  | nil => intro fs h; cases fs with
    | nil => rfl
    | cons f t => simp at h
  | cons x t ih => intro fs h; cases fs with
    | nil => simp at h
    | cons y u => show _ :: _ :: _ :: rcells (t ++ [r]) (u ++ [f]) = _; rw [ih u (by simpa using h)]; rfl
theorem rcells_get (rs : List (Int × List (List UInt8 × List UInt8) × List UInt8)) : ∀ (fs : List Value) (h : fs.length = rs.length) (j : Nat) (hj : j < rs.length), (rcells rs fs)[j * 3]? = some (.int .i64 rs[j].1) ∧ (rcells rs fs)[j * 3 + 1]? = some (fs[j]'(by omega)) ∧ (rcells rs fs)[j * 3 + 2]? = some (.string (bs rs[j].2.2)) := by
  induction rs with
  | nil => intro fs h j hj; exact absurd hj (Nat.not_lt_zero _)
  | cons r t ih => intro fs h j hj; cases fs with
    | nil => simp at h
    | cons f u =>
      cases j with
      | zero => exact ⟨rfl, rfl, rfl⟩
      | succ j =>
        have := ih u (by simpa using h) j (by simpa using hj)
        rw [show (j + 1) * 3 = j * 3 + 1 + 1 + 1 by omega]
        exact this
/-- a row of replies; the rows of their fields -/
def ROwn (w : World) (B : Nat) (v : Value) (rs : List (Int × List (List UInt8 × List UInt8) × List UInt8)) : Prop :=
  ∃ fs : List Value, fs.length = rs.length ∧ w.ownsRow B 63 3 v rs.length (rcells rs fs) ∧ ∀ j (hj : j < rs.length) (hf : j < fs.length), ∃ a c, fs[j] = .slice a (rs[j].2.1).length c ∧ w.ownsRow 0 149 2 fs[j] (rs[j].2.1).length (fcells rs[j].2.1)
theorem ROwn.nil (w : World) (B : Nat) : ROwn w B (.slice none 0 0) [] := ⟨[], rfl, World.ownsRow_nil _ _ _ _, fun j hj => absurd hj (Nat.not_lt_zero _)⟩
/-- blocks of replies and of fields stay -/
def TagKeep (w w' : World) : Prop := ∀ (g : Nat) (cur : Array Value) (t : TypeId), w.heap[g]? = some (.cells cur t (0, 0)) → (t = 63 ∨ t = 149) → w'.heap[g]? = w.heap[g]?
theorem TagKeep.of_below {w w' : World} (h : Below w.heap.size w w') : TagKeep w w' := fun g cur t hg _ => h.block g (Array.getElem?_eq_some_iff.1 hg).1
theorem TagKeep.trans {a b c : World} (h : TagKeep a b) (k : TagKeep b c) : TagKeep a c := fun g cur t hg ht => (k g cur t ((h g cur t hg ht).trans hg) ht).trans (h g cur t hg ht)
theorem own_tagk {w w' : World} {B : Nat} {e : TypeId} {size : Nat} {v : Value} {n : Nat} {xs : List Value} (h : w.ownsRow B e size v n xs) (hk : TagKeep w w') (he : e = 63 ∨ e = 149) : w'.ownsRow B e size v n xs :=
  own_of_block h (fun g hg => let ⟨cur, hc⟩ := own_tag h g hg; hk g cur e hc he)
theorem ROwn.keep {w w' : World} {B : Nat} {v : Value} {rs : List (Int × List (List UInt8 × List UInt8) × List UInt8)} (h : ROwn w B v rs) (hk : TagKeep w w') : ROwn w' B v rs := by
  obtain ⟨fs, h1, h2, h3⟩ := h
  refine ⟨fs, h1, own_tagk h2 hk (.inl rfl), fun j hj hf => ?_⟩
  obtain ⟨a, c, e1, e2⟩ := h3 j hj hf
  exact ⟨a, c, e1, own_tagk e2 hk (.inr rfl)⟩
theorem ROwn.form {w : World} {B : Nat} {v : Value} {rs : List (Int × List (List UInt8 × List UInt8) × List UInt8)} (h : ROwn w B v rs) : ∃ a c, v = .slice a rs.length c := by
  obtain ⟨fs, h1, h2, h3⟩ := h
  exact slice_of_own h2
/-- one reply of a row -/
theorem ROwn.at {w : World} {B g n cp : Nat} {rs : List (Int × List (List UInt8 × List UInt8) × List UInt8)} (h : ROwn w B (.slice (some ⟨g, 0, none⟩) n cp) rs) (j : Nat) (hj : j < rs.length) :
    ∃ a c, w.cell? ⟨g, j * 3, none⟩ = some (.int .i64 rs[j].1) ∧ w.cell? ⟨g, j * 3 + 1, none⟩ = some (.slice a (rs[j].2.1).length c) ∧ w.cell? ⟨g, j * 3 + 2, none⟩ = some (.string (bs rs[j].2.2)) ∧ w.ownsRow 0 149 2 (.slice a (rs[j].2.1).length c) (rs[j].2.1).length (fcells rs[j].2.1) ∧ g < w.heap.size := by
  obtain ⟨fs, h1, h2, h3⟩ := h
  obtain ⟨a, c, e1, e2⟩ := h3 j hj (by omega)
  obtain ⟨g1, g2, g3⟩ := rcells_get rs fs h1 j hj
  have e0 : ∀ k, (⟨g, 0, none⟩ : Addr).add k = ⟨g, k, none⟩ := fun k => by unfold Addr.add; split <;> simp_all
  have k1 := h2.cells (g := g) rfl _ _ g1
  have k2 := h2.cells (g := g) rfl _ _ g2
  have k3 := h2.cells (g := g) rfl _ _ g3
  rw [e0] at k1 k2 k3
  rw [e1] at k2 e2
  exact ⟨a, c, k1, k2, k3, e2, (h2.lt g rfl).2⟩
theorem info_reply : (Tryz.prog.info? 63).map (fun i => (i.zero, i.size, i.bytes)) = some (some (.agg #[.int .i64 0, .slice none 0 0, .string ByteArray.empty]), 3, 48) := by kernel_rfl
theorem info_byteF : (Tryz.prog.info? 5).map (fun i => (i.zero, i.size, i.bytes)) = some (some (.int .u8 0), 1, 1) := by kernel_rfl
end Go.Proofs.YtgnkmfjleecmfaaGreatDoor
namespace Go.Proofs.YtgnkmfjleecmfaaGreatDoor
open Go.RowKit Go.Shelf Go.Lib
theorem bytes_oneF (l : List UInt8) : ∀ u ∈ bytesV l, u.oneCell' = true := by
  intro u hu
  obtain ⟨b, -, rfl⟩ := List.mem_map.1 hu
  rfl
theorem conv_own (w : World) (v : Value) (l : List UInt8) (h : w.ownsRow 0 5 1 v l.length (bytesV l)) : (convert 102 9 v).run Tryz.prog w = .ok (.string (bs l)) w := by
  rcases h.2 with ⟨rfl, h0⟩ | ⟨g, cap, cur, rfl, -⟩
  · obtain rfl : l = [] := List.length_eq_zero_iff.1 h0
    exact run_convert_bytes_nil w 102 5 Tryz.underlying102 Tryz.underlying5 0 0 9 Tryz.underlying9
  · have hc := h.cells (g := g) rfl
    exact run_convert_bytes_back w 102 9 5 ⟨g, 0, none⟩ cap l Tryz.underlying102 Tryz.underlying5 Tryz.underlying9 (fun j hj => hc j _ (by unfold bytesV; rw [List.getElem?_map, List.getElem?_eq_getElem hj]; rfl))
def endE (l : List UInt8) (e : Nat) : Nat := if e ≠ 0 then e else if l = [] then 0 else 3
end Go.Proofs.YtgnkmfjleecmfaaGreatDoor
namespace Go.Proofs.YtgnkmfjleecmfaaGreatDoor
open Go.RowKit Go.Shelf Go.Lib
end Go.Proofs.YtgnkmfjleecmfaaGreatDoor
namespace Go.Proofs.YtgnkmfjleecmfaaGreatDoor
open Go.RowKit Go.Shelf Go.Lib
theorem run_append_string_at0 (w : World) (t u ty e : TypeId) (i : TypeInfo) (ht : Tryz.prog.underlying t = some (.slice e)) (hu : Tryz.prog.underlying u = some .string) (hi : Tryz.prog.info? e = some i) (hz : i.zero = some (.int .u8 0)) (hsize : i.size = 1) (hby : i.bytes = 1)
    (v : Value) (n : Nat) (xs : List Value) (hown : w.ownsRow 0 e 1 v n xs) (s : ByteArray) (h63 : n + s.size ≤ maxLen) (hbytes : n + s.size ≤ 140737488355328) (v' : Value) (w' : World) (hr : (Builtin.append_ #[t, u] ty #[v, .string s]).run Tryz.prog w = .ok v' w') (h0 : v = .slice none 0 0 → s.size = 0 → v' = .slice none 0 0) :
    v'.ownBlock = v.ownBlock ∨ v'.ownBlock = some w.heap.size := by
  by_cases hs : 0 < s.size
  · exact run_append_string_at w t u ty e i ht hu hi hz hsize hby v n xs hown s hs h63 hbytes v' w' hr
  have hs0 : s.size = 0 := by omega
  have hown2 := hown
  rcases hown2.2 with ⟨hv, rfl⟩ | ⟨g, cap, cur, rfl, hbg, hg, hnc, hcm, hcs, htake⟩
  · rw [h0 hv hs0, hv]; exact .inl rfl
  · have h := Lib.run_append_room_string (P := Tryz.prog) w t u ty e i ht hu hi hsize g n cap cur hg s (by omega) (by have : cur.size = cap := (by simpa using hcs); omega)
    rw [h] at hr
    injection hr with e1 _
    exact .inl (by rw [← e1]; rfl)
end Go.Proofs.YtgnkmfjleecmfaaGreatDoor
namespace Go.Proofs.YtgnkmfjleecmfaaGreatDoor
open Go.RowKit Go.Shelf Go.Lib
theorem FS.sub {p : Nat} {v v1 : Value} {w : World} (h : ∀ g, v1.ownBlock = some g → v.ownBlock = some g ∨ w.heap.size ≤ g) : ∀ g, FS p v1 g → FS p v g ∨ w.heap.size ≤ g := fun g hg => by
  rcases hg with hg | hg
  · exact .inl (.inl hg)
  · exact (h g hg).elim (fun h => .inl (.inr h)) .inr
/-- the cells that Put's region reads -/
def PutS (p : Nat) (m : Int) (x : Value) (S : ByteArray) (w' : World) : Prop := w'.cell? ⟨p, 2, none⟩ = some x ∧ w'.cell? ⟨p, 1, none⟩ = some (.int .i64 m) ∧ (convert 102 9 x).run Tryz.prog w' = .ok (.string S) w'
end Go.Proofs.YtgnkmfjleecmfaaGreatDoor
namespace Go.Proofs.YtgnkmfjleecmfaaGreatDoor
open Go.RowKit Go.Shelf Go.Lib
theorem three_block {w : World} {b : Nat} {x y z : Value} {t : TypeId} (h : w.heap[b]? = some (.cells #[x, y, z] t (0, 0))) (x' y' z' : Value) : (((w.setCell ⟨b, 0, none⟩ x').setCell ⟨b, 1, none⟩ y').setCell ⟨b, 2, none⟩ z').heap[b]? = some (.cells #[x', y', z'] t (0, 0)) := by
  simp [World.setCell, Array.getElem?_modify, h]
/-- what Put's region hands over: a reply in a block -/
def Seven (wr W : World) (q : Nat) (C : Int) (a : Option Addr) (cc : Nat) (F : List (List UInt8 × List UInt8)) (B : ByteArray) : Prop :=
  W.heap[q]? = some (.cells #[.int .i64 C, .slice a F.length cc, .string B] 63 (0, 0)) ∧ Below wr.heap.size wr W ∧ W.ownsRow 0 149 2 (.slice a F.length cc) F.length (fcells F)
theorem seven_one {wr wc : World} {b : Nat} {C : Int} {a : Option Addr} {cc : Nat} {F : List (List UInt8 × List UInt8)} {B : ByteArray} (h : Below wr.heap.size wr wc) (ho : wc.ownsRow b 149 2 (.slice a F.length cc) F.length (fcells F)) :
    Seven wr (wc.alloc (.cells #[.int .i64 C, .slice a F.length cc, .string B] 63)) wc.heap.size C a cc F B :=
  ⟨heap_alloc_new wc _, h.alloc h.size _, (own_mono ho (Nat.zero_le _)).alloc _⟩
theorem seven_two {wr wc : World} {b : Nat} {C : Int} {a : Option Addr} {cc : Nat} {F : List (List UInt8 × List UInt8)} {B : ByteArray} {x y z : Value} (h : Below wr.heap.size wr wc) (ho : wc.ownsRow b 149 2 (.slice a F.length cc) F.length (fcells F)) (hz : wc.heap[wr.heap.size]? = some (.cells #[x, y, z] 63 (0, 0))) :
    Seven wr (((wc.setCell ⟨wr.heap.size, 0, none⟩ (.int .i64 C)).setCell ⟨wr.heap.size, 1, none⟩ (.slice a F.length cc)).setCell ⟨wr.heap.size, 2, none⟩ (.string B)) wr.heap.size C a cc F B :=
  ⟨three_block hz _ _ _, three_below h _ (Nat.le_refl _) _ _ _, own_of_block (own_mono ho (Nat.zero_le _)) (fun g hg => by
    have hne : g ≠ wr.heap.size := fun e => own_not_row ho hz (by decide) (by rw [hg, e])
    exact (set_far (a := ⟨wr.heap.size, 2, none⟩) hne).trans ((set_far (a := ⟨wr.heap.size, 1, none⟩) hne).trans (set_far (a := ⟨wr.heap.size, 0, none⟩) hne)))⟩
end Go.Proofs.YtgnkmfjleecmfaaGreatDoor
namespace Go.Proofs.YtgnkmfjleecmfaaGreatDoor
open Go.RowKit
def SrvFeed (h p f : List UInt8) (l : List UInt8) : Prop := (feedOf 500 (srvOf h p f l).1).1.length = (srvOf h p f l).2.2.1 ∧ (feedOf 500 (srvOf h p f l).1).2 = ([], 0)
theorem feed_ans (h p f : List UInt8) (s : ByteArray) (he : orgE h p = 0) (hf : f.length ≤ 500) : ∃ r, feedOf 500 (orgS h p f s) = ([r], [], 0) := by
  have hy := orgY_len h p f s
  rw [orgS_eq h p f s (by omega) he]
  exact ⟨_, feed_print 500 _ _ _ (by omega) (org_good h p f s (by omega)) (by omega)⟩
theorem srv_feed (h p f : List UInt8) (he : orgE h p = 0) (hf : f.length ≤ 500) : ∀ l, SrvFeed h p f l := by
  refine srv_ind (SrvFeed h p f) ?_
  intro l ih
  unfold SrvFeed at ih ⊢
  by_cases h0 : askE (bs l) = 0
  · have ih0 := ih h0
    rw [srv_more h p f l h0]
    obtain ⟨r, hr⟩ := feed_ans h p f (bs (l.take (askN (bs l)).toNat)) he hf
    generalize srvOf h p f (l.drop (askN (bs l)).toNat) = R at ih0 ⊢
    have hb := feed_behind 500 R.1 (orgS h p f (bs (l.take (askN (bs l)).toNat)))
    unfold PieceOk at hb
    rw [hr, if_pos rfl, List.nil_append] at hb
    simp only
    rw [hb]
    exact ⟨by rw [List.length_append, ih0.1, List.length_singleton, Nat.add_comm], ih0.2⟩
  · by_cases h3 : askE (bs l) = 3
    · rw [srv_short h p f l h3]
      rw [feed_nil]
      exact ⟨rfl, rfl⟩
    · rw [srv_bad h p f l h0 h3]
      obtain ⟨r, hr⟩ := feed_ans h p f (bs l) he hf
      simp only
      rw [hr]
      exact ⟨rfl, rfl⟩
/-- one piece more -/
theorem srv_step (h p f : List UInt8) (Q P l s : List UInt8) (n : Nat) (cl : Bool) (e : srvOf h p f Q = (P, l, n, cl)) : srvOf h p f (Q ++ s) = (P ++ (srvP h p f cl l s).1, (srvP h p f cl l s).2.1, n + (srvP h p f cl l s).2.2.1, (srvP h p f cl l s).2.2.2) := by
  have hb := srv_behind h p f s Q
  unfold SrvPiece at hb
  rw [e] at hb
  rw [hb]
  unfold srvP
  cases cl with
  | true => rw [if_pos rfl, if_pos rfl, List.append_nil, Nat.add_zero]
  | false => rw [if_neg (show ¬ (false = true) by decide), if_neg (show ¬ (false = true) by decide)]
theorem srv_nil (h p f : List UInt8) : srvOf h p f [] = ([], [], 0, false) := srv_short h p f [] (by decide +kernel)
/-- what is told to at most 2000 bytes is short -/
theorem srv_len (h p f : List UInt8) (l : List UInt8) (hl : l.length ≤ 2000) (hf : f.length ≤ 500) : (srvOf h p f l).1.length ≤ 600000 ∧ (srvOf h p f l).2.2.1 ≤ 118 := by
  have h1 := srv_few h p f l
  unfold SrvFew at h1
  have h2 := srv_rest h p f (by omega) l
  unfold SrvRest at h2
  obtain ⟨-, -, -, -, h3⟩ := h2
  have h4 : (srvOf h p f l).2.2.1 ≤ 118 := by omega
  exact ⟨Nat.le_trans h3 (Nat.le_trans (Nat.mul_le_mul h4 (show 4400 + f.length ≤ 4900 by omega)) (by decide)), h4⟩
end Go.Proofs.YtgnkmfjleecmfaaGreatDoor
namespace Go.Proofs.YtgnkmfjleecmfaaGreatDoor
open Go.RowKit

def FieldArg (W : World) (v : Value) (fs : List (List UInt8 × List UInt8)) : Prop := HoldsF W v fs ∧ (∀ f ∈ fs, f.1.length ≤ maxLen ∧ f.2.length ≤ maxLen) ∧ fs.length ≤ maxLen
theorem len_two {α : Type} {l : List α} (h : l.length = 2) : ∃ a b, l = [a, b] := by
  cases l with
  | nil => simp at h
  | cons a t => cases t with
    | nil => simp at h
    | cons b u => cases u with
      | nil => exact ⟨a, b, rfl⟩
      | cons c v => simp at h
theorem string_cell {H : Type} {enc : TypeId × Value → H} {W : World} {n : Nat} {cs : List Value} {x : DataW H × List MemPlace} (h : DataW.trod enc Tryz.prog W 0 (fun _ => true) true n 9 cs = some x) : ∃ l : List UInt8, cs = [.string (bs l)] ∧ l.length ≤ maxLen := by
  obtain ⟨s, hs, _, hm⟩ := DataW.trod_string Tryz.underlying9 h
  exact ⟨s.data.toList, by rw [hs, bs_self], by rw [size_len]; exact hm⟩
set_option maxRecDepth 10000 in
theorem fieldArg_of {H : Type} {enc : TypeId × Value → H} {W : World} {b : Option Addr} {n c : Nat} {d : DataW H} {p : List MemPlace}
    (h : DataW.Trod enc Tryz.prog W 0 (fun _ => true) true 33 (.slice b n c) d p) : ∃ fs, FieldArg W (.slice b n c) fs := by
  obtain ⟨fuel, hf⟩ := h
  rcases Go.Deep.open_slice Tryz.underlying33 hf with ⟨hcs, _⟩ | ⟨a, len, cap, m, q, D, Pl, hcs, _, hl, hm, hmm, _, hi⟩
  · simp [Value.cells] at hcs
    obtain ⟨rfl, rfl, rfl⟩ := hcs
    exact ⟨[], HoldsF.nil W none 0, fun f hf => by simp at hf, by unfold maxLen; simp⟩
  · simp [Value.cells] at hcs
    obtain ⟨rfl, rfl, rfl⟩ := hcs
    have hC : Tryz.prog.cellsOf 74 = 2 := by kernel_rfl
    have hS : Tryz.prog.cellsOf 9 = 1 := by kernel_rfl
    have key : ∀ i, ∃ f : List UInt8 × List UInt8, i < n → W.cell? (a.add (i * 2)) = some (.string (bs f.1)) ∧ W.cell? (a.add (i * 2 + 1)) = some (.string (bs f.2)) ∧ f.1.length ≤ maxLen ∧ f.2.length ≤ maxLen := by
      intro i
      by_cases hin : i < n
      · obtain ⟨cs', hc', ht⟩ := hi i (by rw [hmm]; simp; omega)
        rw [hC] at hc'
        obtain ⟨_, hcl, hcell⟩ := World.cells?_some hc'
        obtain ⟨xs, k, _, _, hcl2, hxl, hg⟩ := DataW.trod_struct Tryz.underlying74 ht
        obtain ⟨u0, u1, rfl⟩ := len_two hcl
        have hxl2 : xs.length = 2 := hxl
        obtain ⟨z0, z1, rfl⟩ := len_two hxl2
        have g0 : DataW.trod enc Tryz.prog W 0 (fun _ => true) true k 9 (([u0, u1].drop 0).take (Tryz.prog.cellsOf 9)) = some z0 := hg 0 _ rfl
        have g1 : DataW.trod enc Tryz.prog W 0 (fun _ => true) true k 9 (([u0, u1].drop 1).take (Tryz.prog.cellsOf 9)) = some z1 := hg 1 _ rfl
        rw [hS] at g0 g1
        obtain ⟨l0, e0, b0⟩ := string_cell g0
        obtain ⟨l1, e1, b1⟩ := string_cell g1
        have c0 := hcell 0 (by omega)
        have c1 := hcell 1 (by omega)
        rw [Go.Deep.add_add] at c0 c1
        simp at e0 e1 c0 c1
        subst e0 e1
        exact ⟨(l0, l1), fun _ => ⟨c0, c1, b0, b1⟩⟩
      · exact ⟨([], []), fun h => absurd h hin⟩
    obtain ⟨g, hg⟩ := Classical.skolem.1 key
    have hlen : ((List.range n).map g).length = n := by simp
    refine ⟨(List.range n).map g, ⟨some a, c, by rw [hlen], by rw [hlen]; exact hl, fun hne => ?_⟩, ?_, by rw [hlen]; omega⟩
    · have hpos : 0 < n := by
        rcases Nat.eq_zero_or_pos n with h0 | h0
        · subst h0; simp at hne
        · exact h0
      have h0 := (hg 0 hpos).1
      obtain ⟨b, o, sp⟩ := a
      have hsp : sp = none := by simpa [Addr.add] using World.cell?_spot h0
      subst hsp
      have ea : ∀ k, (⟨b, o, none⟩ : Addr).add k = ⟨b, o + k, none⟩ := fun k => by unfold Addr.add; split <;> simp_all
      refine ⟨b, o, rfl, by have := World.block_lt_of_cell? _ _ h0; simpa [Addr.add] using this, fun j hj => ?_⟩
      rw [hlen] at hj
      have hj2 := hg j hj
      rw [ea, ea] at hj2
      rw [List.getElem_map, List.getElem_range]
      exact ⟨hj2.1, hj2.2.1⟩
    · intro f hf
      obtain ⟨i, hi', rfl⟩ := List.mem_map.1 hf
      exact (hg i (List.mem_range.1 hi')).2.2
end Go.Proofs.YtgnkmfjleecmfaaGreatDoor
namespace Go.Proofs.YtgnkmfjleecmfaaGreatDoor
open Go.RowKit
def HoldsR (w : World) (v : Value) (rs : List (Int × Int)) : Prop :=
  ∃ a c, v = .slice a rs.length c ∧ rs.length ≤ c ∧ (rs ≠ [] → ∃ b o, a = some ⟨b, o, none⟩ ∧ b < w.heap.size ∧ ∀ j (hj : j < rs.length), w.cell? ⟨b, o + j * 2, none⟩ = some (.int .i64 rs[j].1) ∧ w.cell? ⟨b, o + j * 2 + 1, none⟩ = some (.int .i64 rs[j].2))
theorem HoldsR.nil (w : World) (a : Option Addr) (c : Nat) : HoldsR w (.slice a 0 c) [] := ⟨a, c, rfl, Nat.zero_le _, fun h => absurd rfl h⟩
def RangesArg (W : World) (v : Value) (rs : List (Int × Int)) : Prop := HoldsR W v rs ∧ (∀ r ∈ rs, (Lit.int .i64 r.1).wf = true ∧ (Lit.int .i64 r.2).wf = true) ∧ rs.length ≤ maxLen
theorem int_cell {H : Type} {enc : TypeId × Value → H} {W : World} {n : Nat} {cs : List Value} {x : DataW H × List MemPlace} (h : DataW.trod enc Tryz.prog W 0 (fun _ => true) true n 3 cs = some x) : ∃ k : Int, cs = [.int .i64 k] ∧ (Lit.int .i64 k).wf = true := by
  obtain ⟨k, h1, h2, h3⟩ := DataW.trod_int Tryz.underlying3 h
  exact ⟨k, h1, h3⟩
set_option maxRecDepth 10000 in
theorem rangesArg_of {H : Type} {enc : TypeId × Value → H} {W : World} {b : Option Addr} {n c : Nat} {d : DataW H} {p : List MemPlace}
    (h : DataW.Trod enc Tryz.prog W 0 (fun _ => true) true 46 (.slice b n c) d p) : ∃ fs, RangesArg W (.slice b n c) fs := by
  obtain ⟨fuel, hf⟩ := h
  rcases Go.Deep.open_slice Tryz.underlying46 hf with ⟨hcs, _⟩ | ⟨a, len, cap, m, q, D, Pl, hcs, _, hl, hm, hmm, _, hi⟩
  · simp [Value.cells] at hcs
    obtain ⟨rfl, rfl, rfl⟩ := hcs
    exact ⟨[], HoldsR.nil W none 0, fun f hf => by simp at hf, by unfold maxLen; simp⟩
  · simp [Value.cells] at hcs
    obtain ⟨rfl, rfl, rfl⟩ := hcs
    have hC : Tryz.prog.cellsOf 56 = 2 := by kernel_rfl
    have hS : Tryz.prog.cellsOf 3 = 1 := by kernel_rfl
    have key : ∀ i, ∃ f : Int × Int, i < n → W.cell? (a.add (i * 2)) = some (.int .i64 f.1) ∧ W.cell? (a.add (i * 2 + 1)) = some (.int .i64 f.2) ∧ (Lit.int .i64 f.1).wf = true ∧ (Lit.int .i64 f.2).wf = true := by
      intro i
      by_cases hin : i < n
      · obtain ⟨cs', hc', ht⟩ := hi i (by rw [hmm]; simp; omega)
        rw [hC] at hc'
        obtain ⟨_, hcl, hcell⟩ := World.cells?_some hc'
        obtain ⟨xs, k, _, _, hcl2, hxl, hg⟩ := DataW.trod_struct Tryz.underlying56 ht
        obtain ⟨u0, u1, rfl⟩ := len_two hcl
        have hxl2 : xs.length = 2 := hxl
        obtain ⟨z0, z1, rfl⟩ := len_two hxl2
        have g0 : DataW.trod enc Tryz.prog W 0 (fun _ => true) true k 3 (([u0, u1].drop 0).take (Tryz.prog.cellsOf 3)) = some z0 := hg 0 _ rfl
        have g1 : DataW.trod enc Tryz.prog W 0 (fun _ => true) true k 3 (([u0, u1].drop 1).take (Tryz.prog.cellsOf 3)) = some z1 := hg 1 _ rfl
        rw [hS] at g0 g1
        obtain ⟨l0, e0, b0⟩ := int_cell g0
        obtain ⟨l1, e1, b1⟩ := int_cell g1
        have c0 := hcell 0 (by omega)
        have c1 := hcell 1 (by omega)
        rw [Go.Deep.add_add] at c0 c1
        simp at e0 e1 c0 c1
        subst e0 e1
        exact ⟨(l0, l1), fun _ => ⟨c0, c1, b0, b1⟩⟩
      · exact ⟨(0, 0), fun h => absurd h hin⟩
    obtain ⟨g, hg⟩ := Classical.skolem.1 key
    have hlen : ((List.range n).map g).length = n := by simp
    refine ⟨(List.range n).map g, ⟨some a, c, by rw [hlen], by rw [hlen]; exact hl, fun hne => ?_⟩, ?_, by rw [hlen]; omega⟩
    · have hpos : 0 < n := by
        rcases Nat.eq_zero_or_pos n with h0 | h0
        · subst h0; simp at hne
        · exact h0
      have h0 := (hg 0 hpos).1
      obtain ⟨b, o, sp⟩ := a
      have hsp : sp = none := by simpa [Addr.add] using World.cell?_spot h0
      subst hsp
      have ea : ∀ k, (⟨b, o, none⟩ : Addr).add k = ⟨b, o + k, none⟩ := fun k => by unfold Addr.add; split <;> simp_all
      refine ⟨b, o, rfl, by have := World.block_lt_of_cell? _ _ h0; simpa [Addr.add] using this, fun j hj => ?_⟩
      rw [hlen] at hj
      have hj2 := hg j hj
      rw [ea, ea] at hj2
      rw [List.getElem_map, List.getElem_range]
      exact ⟨hj2.1, hj2.2.1⟩
    · intro f hf
      obtain ⟨i, hi', rfl⟩ := List.mem_map.1 hf
      exact (hg i (List.mem_range.1 hi')).2.2
end Go.Proofs.YtgnkmfjleecmfaaGreatDoor
namespace Go.Proofs.YtgnkmfjleecmfaaGreatDoor
open Go.RowKit
theorem reqL_lenS (p h : List UInt8) (a b : Int) (he : aErr p h a b = 0) (ha : a ≤ 9223372036854775807) (hb : b ≤ 9223372036854775807) : (reqL p h a b).length ≤ 1000 := by
  have hg := lines_good p h a b he ha hb
  have h1 := (hg (line1 p) (by simp)).2.2
  have h2 := (hg (line2 h) (by simp)).2.2
  have h3 := (hg (line3 a b) (by simp)).2.2
  unfold reqL body body body body
  simp only [List.length_append, List.length_cons, List.length_nil]
  omega
/-- what stands behind these bytes is answered behind these answers -/
def SrvAll (h p f : List UInt8) (A W : List UInt8) (n : Nat) : Prop := ∀ T, srvOf h p f (A ++ T) = (W ++ (srvOf h p f T).1, (srvOf h p f T).2.1, (srvOf h p f T).2.2.1 + n, (srvOf h p f T).2.2.2)
theorem srvAll_nil (h p f : List UInt8) : SrvAll h p f [] [] 0 := fun T => rfl
theorem srvAll_step {h p f A W : List UInt8} {n : Nat} (k : SrvAll h p f A W n) (a b : Int) (he : aErr p h a b = 0) (ha : a ≤ 9223372036854775807) (hb : b ≤ 9223372036854775807) : SrvAll h p f (A ++ reqL p h a b) (W ++ orgS h p f (bs (reqL p h a b))) (n + 1) := by
  intro T
  obtain ⟨r1, -, -, -, -, r2⟩ := ask_req p h a b he ha hb (bs (reqL p h a b ++ T)) T (bs_data _)
  rw [List.append_assoc, k, srv_more _ _ _ _ r1, r2, Int.toNat_natCast, List.take_left, List.drop_left]
  simp only [List.append_assoc, Prod.mk.injEq, true_and, and_true]
  omega
theorem srvAll_end {h p f A W : List UInt8} {n : Nat} (k : SrvAll h p f A W n) : srvOf h p f A = (W, [], n, false) := by
  have := k []
  rw [List.append_nil, srv_nil] at this
  rw [this]; simp
/-- two pieces -/
theorem srv_two (h p f A : List UInt8) (j : Nat) : srvOf h p f A = ((srvOf h p f (A.take j)).1 ++ (srvP h p f (srvOf h p f (A.take j)).2.2.2 (srvOf h p f (A.take j)).2.1 (A.drop j)).1, (srvP h p f (srvOf h p f (A.take j)).2.2.2 (srvOf h p f (A.take j)).2.1 (A.drop j)).2.1, (srvOf h p f (A.take j)).2.2.1 + (srvP h p f (srvOf h p f (A.take j)).2.2.2 (srvOf h p f (A.take j)).2.1 (A.drop j)).2.2.1, (srvP h p f (srvOf h p f (A.take j)).2.2.2 (srvOf h p f (A.take j)).2.1 (A.drop j)).2.2.2) := by
  conv => lhs; rw [← List.take_append_drop j A]
  exact srv_step h p f (A.take j) _ _ (A.drop j) _ _ rfl
/-- the state of ServeMany's loop -/
structure MK (w wr : World) (X b : Nat) (h p f : ByteArray) : Prop where
  q : OAt wr w.heap.size 45 h p f
  x : OAt wr X 49 h p f
  c : CAt wr b h p f true [] 0
  b' : Below w.heap.size w wr
  hb : w.heap.size ≤ b
theorem MK.below {w wr w' : World} {X b : Nat} {h p f : ByteArray} (k : MK w wr X b h p f) (hb : Below wr.heap.size wr w') : MK w w' X b h p f := ⟨k.q.below hb, k.x.below hb, k.c.below hb, bstep k.b' hb, k.hb⟩
set_option maxRecDepth 100000 in
set_option maxHeartbeats 8000000 in
theorem serveMany_walk (h p f : ByteArray) (v : Value) (rs : List (Int × Int)) (ct : Nat) (w : World) (hE : EnvF w) (hv : HoldsR w v rs) (hrs : ∀ r ∈ rs, r.1 ≤ 9223372036854775807 ∧ r.2 ≤ 9223372036854775807) (hll : rs.length ≤ 9223372036854775807) (hct : ct < 65536) :
    Calls Tryz.prog 5 #[.agg #[.string h, .string p, .string f], v, .int .u16 (ct : Nat)] w fun e w' => e = .returned (.bool true) ∧ Below w.heap.size w w' := by
  have HOv := Lib.hid (fun w => ref_oover h p f 500 w)
  have HB0 := Lib.hid (below_ro3 w (.string h) (.string p) (.string f))
  have HE := Lib.hid hE
  have HV := Lib.hid hv
  have HQ0 := Lib.hid (OAt.new w 45 h p f)
  obtain ⟨va, vc, rfl, hvc, -⟩ := id hv
  obtain ⟨q0, q1, q2⟩ := HQ0.out.cells
  have hcI : IntKind.i64.wrap (ct : Int) = (ct : Int) := by rw [IntKind.wrap_i64]; omega
  cases h1 : overO h.data.toList p.data.toList f.data.toList 500 with
  | true =>
    rw [h1] at HOv
    clear h1 hE hv
    go_enter Tryz.func5, Tryz.ntmps5
    go_wp2_with fail
    refine (HOv.out _).mono ?_
    rintro e w1 ⟨rfl, hb1⟩
    have HB1 := Lib.hid (bstep HB0.out hb1)
    clear hb1
    go_wp2_with fail
    refine (awake46 _ (HE.out.below HB1.out)).mono ?_
    rintro e w2 ⟨rfl, hb2⟩
    go_wp2_with fail
    go_ret
    exact ⟨rfl, bstep HB1.out hb2⟩
  | false =>
  rw [h1] at HOv
  by_cases hlen : (12 : Int) < (rs.length : Int)
  · have t0 : decide ((rs.length : Int) > 12) = true := decide_eq_true hlen
    clear h1 hE hv hlen
    go_enter Tryz.func5, Tryz.ntmps5
    go_wp2_with fail
    refine (HOv.out _).mono ?_
    rintro e w1 ⟨rfl, hb1⟩
    have HB1 := Lib.hid (bstep HB0.out hb1)
    clear hb1
    go_wp2_with fail
    refine (awake46 _ (HE.out.below HB1.out)).mono ?_
    rintro e w2 ⟨rfl, hb2⟩
    go_wp2_with fail
    go_ret
    exact ⟨rfl, bstep HB1.out hb2⟩
  have t0 : decide ((rs.length : Int) > 12) = false := decide_eq_false hlen
  have HF := Lib.hid (overO_false h p f 500 h1)
  by_cases he : orgE h.data.toList p.data.toList = 0
  case neg =>
    have HN := Lib.hid (fun W => srv_new_bad h p f W he)
    clear h1 hE hv hlen he
    go_enter Tryz.func5, Tryz.ntmps5
    go_wp2_with fail
    refine (HOv.out _).mono ?_
    rintro e w1 ⟨rfl, hb1⟩
    have HB1 := Lib.hid (bstep HB0.out hb1)
    have HQ1 := Lib.hid (HQ0.out.below hb1)
    clear hb1 q0 q1 q2
    obtain ⟨q0, q1, q2⟩ := HQ1.out.cells
    go_wp2_with fail
    refine (HN.out _).mono ?_
    rintro e w2 ⟨rfl, hb2⟩
    have HB2 := Lib.hid (bstep (bstep HB1.out (below_o3 w1 (.string h) (.string p) (.string f))) hb2)
    clear hb2
    go_wp2_with fail
    refine (awake46 _ (HE.out.below HB2.out)).mono ?_
    rintro e w5 ⟨rfl, hb5⟩
    go_wp2_with fail
    go_ret
    exact ⟨rfl, bstep HB2.out hb5⟩
  have HN := Lib.hid (fun W => srv_new h p f W he)
  have HAn := Lib.hid (fun (s : List UInt8) (hs : s.length ≤ 1000) W (hE : EnvF W) => origin_answer h p f (bs s) W hE (by rw [bs_size]; omega) (by have := HF.out; omega))
  obtain ⟨N, hn⟩ : ∃ N, rs.length = N := ⟨_, rfl⟩
  rw [hn] at hvc HV hll t0 ⊢
  have HNN := Lib.hid (And.intro hn (show N ≤ 12 by omega))
  have HRs := Lib.hid hrs
  clear h1 hE hv he hn hlen hrs
  go_enter Tryz.func5, Tryz.ntmps5
  go_wp2_with fail
  refine (HOv.out _).mono ?_
  rintro e w1 ⟨rfl, hb1⟩
  have HB1 := Lib.hid (bstep HB0.out hb1)
  have HQ1 := Lib.hid (HQ0.out.below hb1)
  clear hb1 q0 q1 q2 HOv HB0 HQ0
  obtain ⟨q0, q1, q2⟩ := HQ1.out.cells
  go_wp2_with fail
  refine (HN.out _).mono ?_
  rintro e w2 ⟨b, rfl, hb, hc2, hb2⟩
  have hbo := below_o3 w1 (.string h) (.string p) (.string f)
  have HK : Hid (MK w w2 w1.heap.size b h p f) := Lib.hid ⟨(HQ1.out.below hbo).below hb2, (OAt.new w1 49 h p f).below hb2, hc2, bstep (bstep HB1.out hbo) hb2, Nat.le_trans HB1.out.size (Nat.le_trans hbo.size hb)⟩
  clear hb2 q0 q1 q2 hb hc2 HQ1 HB1 HN hbo
  go_wp2_with fail
  generalize w1.heap.size = X at HK ⊢
  go_loopg [10, 11, 12, 13] N (fun gk s10 s11 s12 s13 wr => ∃ (k n : Nat) (A Wn : List UInt8), s13 = .int .i64 (k : Int) ∧ s12 = .int .i64 (n : Int) ∧ s11 = .string (bs Wn) ∧ s10 = .string (bs A) ∧ k + gk = N ∧ n ≤ k ∧ A.length ≤ 1000 * k ∧ Wn.length ≤ 4900 * k ∧ Hid (SrvAll h.data.toList p.data.toList f.data.toList A Wn n) ∧ Hid (MK w wr X b h p f))
  case atStart => exact ⟨0, 0, [], [], by simp, by simp, rfl, rfl, by omega, Nat.le_refl _, Nat.le_refl _, Nat.zero_le _, Lib.hid (srvAll_nil _ _ _), HK⟩
  case round =>
    obtain ⟨k, n, A, Wn, rfl, rfl, rfl, rfl, hgk, hnk, hAk, hWk, HS, HKr⟩ := hrel
    clear HK
    have hN12 := HNN.out.2
    have hff := HF.out
    by_cases hk : k < N
    · obtain ⟨g', rfl⟩ : ∃ g', gk = g' + 1 := ⟨gk - 1, by omega⟩
      have hkl : k < rs.length := by rw [HNN.out.1]; exact hk
      obtain ⟨va', vc', hv1, -, hx⟩ := HV.out
      obtain ⟨bb, ob, rfl, hbl, hcell⟩ := hx (fun e => by rw [e] at hkl; exact absurd hkl (Nat.not_lt_zero _))
      injection hv1 with hv1 hv2 hv3
      subst hv1
      clear hv2 hv3
      obtain ⟨⟨a, c⟩, hac⟩ : ∃ r, rs[k] = r := ⟨_, rfl⟩
      have hce := hcell k hkl
      have hbd := HRs.out rs[k] (List.getElem_mem hkl)
      rw [hac] at hce hbd
      simp only at hce hbd
      have HSt : Hid (∀ W, Below wr.heap.size wr W → W.cell? ⟨w.heap.size, 0, none⟩ = some (.string h) ∧ W.cell? ⟨w.heap.size, 1, none⟩ = some (.string p) ∧ W.cell? ⟨bb, ob + k * 2, none⟩ = some (.int .i64 a) ∧ W.cell? ⟨bb, ob + k * 2 + 1, none⟩ = some (.int .i64 c)) := Lib.hid (fun W hW => by
        obtain ⟨y0, y1, -⟩ := (HKr.out.q.below hW).cells
        have hB := bstep HKr.out.b' hW
        exact ⟨y0, y1, (hB.cell (p := ⟨bb, ob + k * 2, none⟩) hbl).trans hce.1, (hB.cell (p := ⟨bb, ob + k * 2 + 1, none⟩) hbl).trans hce.2⟩)
      have HDr : Hid (Below wr.heap.size wr wr.drew) := Lib.hid (Below.refl _ _).drew
      have HP := ref_aprint p h a c wr.drew hbd.1 hbd.2 (by omega) (by omega)
      have tk : decide ((k : Int) < (N : Int)) = true := decide_eq_true (by omega)
      by_cases h0 : aErr p.data.toList h.data.toList a c = 0
      · have hrl := reqL_lenS _ _ a c h0 hbd.1 hbd.2
        have hSn := srvAll_step HS.out a c h0 hbd.1 hbd.2
        unfold aPrint at HP
        rw [if_pos h0, h0] at HP
        have hol := orgS_len h.data.toList p.data.toList f.data.toList (bs (reqL p.data.toList h.data.toList a c)) (by rw [size_len]; omega)
        rw [size_len] at hol
        generalize reqL p.data.toList h.data.toList a c = s at HP hrl hSn hol
        have HAs := Lib.hid (HAn.out s hrl)
        generalize orgS h.data.toList p.data.toList f.data.toList (bs s) = y at HAs hSn hol
        have HP := Lib.hid HP
        have HSn := Lib.hid hSn
        have padd1 := fun w => run_string_add_sum (P := Tryz.prog) w (bs A) (bs s) (by rw [bs_size, bs_size]; omega)
        have padd2 := fun w => run_string_add_sum (P := Tryz.prog) w (bs Wn) (bs y) (by rw [bs_size, bs_size]; omega)
        rw [bs_cat] at padd1 padd2
        have HL : Hid ((A ++ s).length ≤ 1000 * (k + 1) ∧ (Wn ++ y).length ≤ 4900 * (k + 1)) := Lib.hid (by rw [List.length_append, List.length_append]; omega)
        have tw : IntKind.i64.wrap ((n : Int) + 1) = (n : Int) + 1 := by rw [IntKind.wrap_i64]; omega
        clear hx hcell hkl hac hce hbd h0 hrl hSn hol hff hN12
        go_wp2_with fail
        go_region_held3 (fun w' => w'.cell? ⟨w.heap.size, 0, none⟩ = some (.string h) ∧ w'.cell? ⟨w.heap.size, 1, none⟩ = some (.string p) ∧ w'.cell? ⟨bb, ob + k * 2, none⟩ = some (.int .i64 a) ∧ w'.cell? ⟨bb, ob + k * 2 + 1, none⟩ = some (.int .i64 c)) (first | with_reducible exact HSt.out _ HDr.out | with_reducible exact HSt.out _ HA1.out)
          (first
            | (go_at_call 23; refine HP.out.mono ?_; rintro r wa ⟨rfl, hba⟩; have HA1 : Hid (Below wr.heap.size wr wa) := Lib.hid (bstep HDr.out hba); clear hba))
        have HK2 := Lib.hid (HKr.out.below HA1.out)
        clear HKr HA1 HSt HDr HP
        obtain ⟨x0, x1, x2⟩ := HK2.out.x.cells
        go_wp2_with fail
        refine (HAs.out wa (HE.out.below HK2.out.b')).mono ?_
        rintro r wb ⟨rfl, hbb⟩
        have HK3 := Lib.hid (HK2.out.below hbb)
        clear hbb x0 x1 x2 HK2 HAs
        go_wp2_with fail
        go_roundg g'
        case measure => omega
        case rel => exact ⟨k + 1, n + 1, _, _, by simp, by simp, rfl, rfl, by omega, by omega, HL.out.1, HL.out.2, HSn, HK3⟩
      · obtain ⟨E, hE⟩ : ∃ E, aErr p.data.toList h.data.toList a c = E := ⟨_, rfl⟩
        rw [hE] at HP h0
        generalize aPrint p.data.toList h.data.toList a c = s at HP
        have HP := Lib.hid HP
        have tz : ((E : Int) != 0) = true := by rw [bne_iff_ne]; omega
        clear hx hcell hkl hac hce hbd h0 hE hff hN12
        go_wp2_with fail
        go_region_held3 (fun w' => w'.cell? ⟨w.heap.size, 0, none⟩ = some (.string h) ∧ w'.cell? ⟨w.heap.size, 1, none⟩ = some (.string p) ∧ w'.cell? ⟨bb, ob + k * 2, none⟩ = some (.int .i64 a) ∧ w'.cell? ⟨bb, ob + k * 2 + 1, none⟩ = some (.int .i64 c)) (first | with_reducible exact HSt.out _ HDr.out | with_reducible exact HSt.out _ HA1.out)
          (first
            | (go_at_call 23; refine HP.out.mono ?_; rintro r wa ⟨rfl, hba⟩; have HA1 : Hid (Below wr.heap.size wr wa) := Lib.hid (bstep HDr.out hba); clear hba))
        have HK2 := Lib.hid (HKr.out.below HA1.out)
        clear HKr HA1 HSt HDr HP
        go_wp2_with fail
        go_roundg g'
        case measure => omega
        case rel => exact ⟨k + 1, n, _, _, by simp, rfl, rfl, rfl, by omega, by omega, by omega, by omega, HS, HK2⟩
    · obtain rfl : k = N := by omega
      have tk : decide ((k : Int) < (k : Int)) = false := decide_eq_false (by omega)
      obtain ⟨M, hM⟩ : ∃ M, A.length = M := ⟨_, rfl⟩
      obtain ⟨j, hj⟩ : ∃ j, ct % (M + 1) = j := ⟨_, rfl⟩
      have hjM : j ≤ M := by rw [← hj]; have := Nat.mod_lt ct (show 0 < M + 1 by omega); omega
      have hjI : Int.tmod (ct : Int) ((M : Int) + 1) = (j : Int) := by rw [← hj]; exact (Int.ofNat_tmod ct (M + 1)).symm
      have hall := srvAll_end HS.out
      have htwo := srv_two h.data.toList p.data.toList f.data.toList A j
      rw [hall] at htwo
      have HP1 := srv_put_any (cl := false) (A.take j) HKr.out.c (env_touch HE.out HKr.out.b' HKr.out.hb) (by rw [List.length_take, List.length_nil]; omega) (by omega) (by decide)
      have hct1 := srv_rest h.data.toList p.data.toList f.data.toList (by rw [size_len]; omega) (A.take j)
      unfold SrvRest at hct1
      have e1 : srvP h.data.toList p.data.toList f.data.toList false [] (A.take j) = srvOf h.data.toList p.data.toList f.data.toList (A.take j) := by unfold srvP; rw [if_neg (by decide), List.nil_append]
      rw [e1] at HP1
      obtain ⟨⟨y1, l1, n1, c1⟩, hR1⟩ : ∃ R, srvOf h.data.toList p.data.toList f.data.toList (A.take j) = R := ⟨_, rfl⟩
      rw [hR1] at HP1 htwo hct1
      simp only at htwo hct1
      have hl1 : l1.length ≤ 12000 ∧ n1 ≤ 12001 := by
        obtain ⟨-, -, z1, z2, -⟩ := hct1
        rw [List.length_take] at z1 z2
        omega
      have HP2 := Lib.hid (fun (W : World) (hc : CAt W b h p f (!c1) l1 n1) (hE : ∀ W', Touch (fun g => g = b) W W' → EnvF W') => srv_put_any (A.drop j) hc hE (by rw [List.length_drop]; omega) (by omega) (by omega))
      obtain ⟨⟨y2, l2, n2, c2⟩, hR2⟩ : ∃ R, srvP h.data.toList p.data.toList f.data.toList c1 l1 (A.drop j) = R := ⟨_, rfl⟩
      rw [hR2] at HP2 htwo
      simp only [Prod.mk.injEq] at htwo
      obtain ⟨rfl, rfl, rfl, rfl⟩ := htwo
      unfold SPost at HP1 HP2
      simp only [Nat.zero_add] at HP1 HP2
      have HP1 := Lib.hid HP1
      have padd := fun w => run_string_add_sum (P := Tryz.prog) w (bs y1) (bs y2) (by rw [bs_size, bs_size]; rw [List.length_append] at hWk; omega)
      rw [bs_cat] at padd
      have hex1 : (bs A).extract 0 j = bs (A.take j) := by rw [extract_bs, bs_data, List.drop_zero]
      have hex2 : (bs A).extract j A.length = bs (A.drop j) := by rw [extract_bs, bs_data, List.take_length]
      have hsz := bs_size A
      rw [hM] at hsz hex2
      have hkI : (j : Int) ≤ (M : Int) := by omega
      have hk0 : (0 : Int) ≤ (j : Int) := by omega
      have tw : IntKind.i64.wrap ((M : Int) + 1) = (M : Int) + 1 := by rw [IntKind.wrap_i64]; omega
      have twj : IntKind.i64.wrap (j : Int) = (j : Int) := by rw [IntKind.wrap_i64]; omega
      have hM0 : ((M : Int) + 1 == 0) = false := by rw [beq_eq_false_iff_ne]; omega
      clear hall hct1 e1 hR1 hR2 hl1 hff hN12 hj hWk hAk hM HS
      go_wp2_with fail
      refine HP1.out.mono ?_
      rintro r wa ⟨rfl, hca, hta⟩
      have hba := below_touch HKr.out.b' hta HKr.out.hb
      have HPp := Lib.hid (HP2.out wa hca (env_touch HE.out hba HKr.out.hb))
      have HBa := Lib.hid hba
      have HLb := Lib.hid HKr.out.hb
      clear hca hta hba HP1 HP2 HKr
      go_wp2_with fail
      refine HPp.out.mono ?_
      rintro r wb ⟨rfl, hcb, htb⟩
      have HBb := Lib.hid (below_touch HBa.out htb HLb.out)
      have HCl := Lib.hid (srv_closed_is (cl := false) hcb)
      have HSv := Lib.hid (srv_served_at hcb.blk)
      have HRs := Lib.hid (srv_rest_at hcb.blk)
      rw [show (bs []).size = 0 from rfl] at HRs
      clear hcb htb HPp HBa
      go_wp2_with fail
      refine HSv.out.mono ?_
      rintro r w' ⟨rfl, hww⟩
      obtain rfl := hww.symm
      clear hww
      go_wp2_with fail
      refine HCl.out.mono ?_
      rintro r w' ⟨rfl, hww⟩
      obtain rfl := hww.symm
      clear hww
      go_wp2_with fail
      refine HRs.out.mono ?_
      rintro r w' ⟨rfl, hww⟩
      obtain rfl := hww.symm
      clear hww
      go_wp2_with fail
      refine (awake46 _ (HE.out.below HBb.out)).mono ?_
      rintro r wz ⟨rfl, hbz⟩
      go_wp2_with fail
      go_ret
      exact ⟨rfl, bstep HBb.out hbz⟩
end Go.Proofs.YtgnkmfjleecmfaaGreatDoor
namespace Go.Proofs.YtgnkmfjleecmfaaGreatDoor
open Go.RowKit
theorem fs_none {p g : Nat} (h : FS p (.slice none 0 0) g) : g = p := h.elim id (fun e => by cases e)
end Go.Proofs.YtgnkmfjleecmfaaGreatDoor
namespace Go.Proofs.YtgnkmfjleecmfaaGreatDoor
open Go.RowKit
theorem srv_put_nil (s : ByteArray) (w : World) :
    Calls Tryz.prog 25 #[.pointer none, .string s] w fun e w' => e = .returned (.string ⟨#[]⟩) ∧ w' = w := by
  have HC := Lib.hid (srv_closed_nil w)
  go_enter Tryz.func25, Tryz.ntmps25
  go_wp2_with fail
  refine HC.out.mono ?_
  rintro e w' ⟨rfl, hww⟩
  obtain rfl := hww.symm
  go_wp2_with fail
  go_ret
  exact ⟨rfl, rfl⟩
end Go.Proofs.YtgnkmfjleecmfaaGreatDoor
namespace Go.Proofs.YtgnkmfjleecmfaaGreatDoor
open Go.RowKit

def renU : Go.Shelf.Ren := ⟨fun n => n, fun | 5 => 5 | 119 => 220 | 138 => 259 | 139 => 260 | n => n, fun | 3 => 1 | 4 => 2 | n => n⟩
theorem u8t : U8Types Tryz.prog renU := ⟨Tryz.underlying5, Tryz.underlying220, Tryz.underlying259, Tryz.underlying260⟩
theorem u8x : U8Extra Tryz.prog renU := ⟨by kernel_rfl, by kernel_rfl, by kernel_rfl, by kernel_rfl, by kernel_rfl, by kernel_rfl, by kernel_rfl⟩
theorem accept_data : (Rows.laid_unicode_utf8_acceptRanges : DataW Unit) = Go.Lib.acceptData := by kernel_rfl
theorem pow10_data : (Rows.laid_internal_strconv_uint64pow10 : DataW Unit) = Go.Lib.tabData .u64 Go.Lib.pow10Tab := rfl
theorem maxLen_cell {W : World} (h : W.ShapedOpen Tryz.prog) : ∃ m, W.cell? ⟨0, 0, none⟩ = some (.int .i64 m) := Tryz.laysM145.s1_3 W h
theorem lt_of_cell {W : World} {g : Nat} {v : Value} (h : W.cell? ⟨g, 0, none⟩ = some v) : g < W.heap.size := World.block_lt_of_cell? _ _ h
theorem err_star : "*" ++ "errors.errorString" = "*errors.errorString" := by decide
theorem err_row (u : TypeId) (h : Tryz.prog.typeName? 3 u = some "*errors.errorString") : u = 302 :=
  typeName_ptr_named (nm := "errors.errorString") (by rw [err_star]; kernel_rfl) (by kernel_rfl) (by decide) u (by rw [err_star]; exact h)
theorem env_of {W : World} {rest : List (String × DataW Unit)} (h : laidMet Tryz.prog (("math/bits.deBruijn32tab", Rows.laid_math_bits_deBruijn32tab) :: ("math/bits.deBruijn64tab", Rows.laid_math_bits_deBruijn64tab) :: ("internal/strconv.uint64pow10", Rows.laid_internal_strconv_uint64pow10) :: ("unicode/utf8.acceptRanges", Rows.laid_unicode_utf8_acceptRanges) :: ("strconv.ErrRange", Rows.laid_strconv_ErrRange) :: rest) W)
    (hf : ("unicode/utf8.first", Rows.laid_unicode_utf8_first) ∈ rest) (hsh : W.ShapedOpen Tryz.prog) : EnvF W := by
  have ht : Go.Lib.TabIs Tryz.prog W "internal/strconv.uint64pow10" .u64 Go.Lib.pow10Tab :=
    Go.Lib.tabIs_of_head (n := 20) (t := 299) (e := 282) g_pow10 (by kernel_rfl) (by kernel_rfl) (by kernel_rfl) (by kernel_rfl) (by kernel_rfl) h.tail.tail
  have h3 : Go.Lib.VarReads Tryz.prog W "unicode/utf8.first" Go.Lib.firstData := by
    have := Go.Lib.laidMet.reads h (n := "unicode/utf8.first") (d := Rows.laid_unicode_utf8_first) (by simp [hf])
    rwa [show (Rows.laid_unicode_utf8_first : DataW Unit) = Go.Lib.firstData from Pinned.utf8First_eq] at this
  have h4 : Go.Lib.VarReads Tryz.prog W "unicode/utf8.acceptRanges" Go.Lib.acceptData := by
    have := Go.Lib.laidMet.reads h (n := "unicode/utf8.acceptRanges") (d := Rows.laid_unicode_utf8_acceptRanges) (by simp)
    rwa [accept_data] at this
  obtain ⟨a0, s0, hv0, _, _, _⟩ := laid_sentinel h.tail.tail.tail.tail (g := 4) (ti := 112) (tp := 302) (te := 304) (ts := 9) (by kernel_rfl) (by kernel_rfl) Tryz.underlying112 err_row Tryz.underlying302 Tryz.underlying304 rfl rfl Tryz.underlying9 (by kernel_rfl) (by kernel_rfl)
  obtain ⟨m, hm⟩ := maxLen_cell hsh
  have hr : W.cell? ⟨4, 0, none⟩ = some (.iface 302 (.pointer (some a0))) := World.var?_cell (show Tryz.prog.globalNamed "strconv.ErrRange" = some 4 by kernel_rfl) hv0 0
  refine ⟨⟨m, hm⟩, lt_of_cell hm, utf8Tabs_of_readsT u8t u8x h3 h4, ht, ?_, ⟨_, _, hr⟩, lt_of_cell hr⟩
  rcases Nat.lt_or_ge 5 W.heap.size with hlt | hge
  · exact hlt
  · unfold Go.Lib.TabIs World.var? at ht
    rw [g_pow10] at ht
    simp [Array.getElem?_eq_none hge] at ht
end Go.Proofs.YtgnkmfjleecmfaaGreatDoor
namespace Go.Proofs.YtgnkmfjleecmfaaGreatDoor
open Go.RowKit
end Go.Proofs.YtgnkmfjleecmfaaGreatDoor
namespace Go.Proofs.YtgnkmfjleecmfaaGreatDoor
open Go.RowKit
end Go.Proofs.YtgnkmfjleecmfaaGreatDoor
namespace Go.Proofs.YtgnkmfjleecmfaaGreatDoor
open Go.RowKit
end Go.Proofs.YtgnkmfjleecmfaaGreatDoor
namespace Go.Proofs.YtgnkmfjleecmfaaGreatDoor
open Go.RowKit
theorem serveMany_go (h p f : ByteArray) (v : Value) (rs : List (Int × Int)) (c : Int) (W : World) (_ : h.size ≤ maxLen) (_ : p.size ≤ maxLen) (_ : f.size ≤ maxLen) (hv : RangesArg W v rs) (hc : (Lit.int .u16 c).wf = true) (hL : laidMetH Tryz.prog Rows.serveManyRow.laid W) (hsh : W.ShapedOpen Tryz.prog) :
    Calls Tryz.prog 5 #[.agg #[.string h, .string p, .string f], v, .int .u16 c] W fun e W' => e = .returned (.bool true) ∧ Below W.heap.size W W' := by
  rw [MakeChecks.laidMetH_plain _ _ _ (by kernel_rfl)] at hL
  have hb0 : IntKind.u16.min ≤ c ∧ c ≤ IntKind.u16.max := by simpa [Lit.wf] using hc
  have hb : 0 ≤ c ∧ c ≤ 65535 := hb0
  obtain ⟨m, rfl⟩ : ∃ m : Nat, c = (m : Int) := ⟨c.toNat, by omega⟩
  refine serveMany_walk h p f v rs m W (env_of hL (by simp) hsh) hv.1 (fun r hr => ?_) (by have := hv.2.2; unfold maxLen at this; omega) (by omega)
  obtain ⟨h1, h2⟩ := hv.2.1 r hr
  obtain ⟨b1, b2⟩ := bounds_i64 h1
  obtain ⟨b3, b4⟩ := bounds_i64 h2
  omega
end Go.Proofs.YtgnkmfjleecmfaaGreatDoor
