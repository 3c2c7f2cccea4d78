/- What parts of the program compute: packed for TopReach. Conditions: none. -/
import Derived.Test.YtilaebjndadkhaaGreatDoorPz17
set_option linter.all false
set_option maxRecDepth 100000
set_option maxHeartbeats 8000000
open Go.Lib (hid)
namespace Go.Proofs.YtilaebjndadkhaaGreatDoor
section
open Go.RowKit
def QzP(e:Nat):Value:=if e=0 then .nilIface else .iface 289 (.agg #[.int .i64 (e:Int)])
def QwA(s:ByteArray)(a b t:Int):Value:=.tuple #[.string (bs (Qrg s a b t)),QzP (QeH s a b t)]
theorem QcM(s:ByteArray)(a b t:Int)(e:Nat)(h:QeH s a b t=e)(h0:e≠0):QwA s a b t = .tuple #[.string ⟨#[]⟩,.iface 289 (.agg #[.int .i64 (e:Int)])]:=by
 unfold QwA QzP Qrg;rw [h,if_neg h0,if_neg h0];rfl
theorem QxS(s:ByteArray)(a b t:Int)(h:QeH s a b t=0):QwA s a b t = .tuple #[.string (bs (QiP s (QaQ a b))),.nilIface]:=by
 unfold QwA QzP Qrg;rw [h,if_pos rfl,if_pos rfl]
theorem Qz8(s:ByteArray)(a b t:Int)(h:s.size=0):QeH s a b t=16:=by unfold QeH;rw [if_pos h]
theorem Qz7(s:ByteArray)(a b t:Int)(h:s.size≠0)(h2:Qec s (QaQ a b)≠0):QeH s a b t=Qec s (QaQ a b):=by unfold QeH;rw [if_neg h,if_pos h2]
theorem Qz6(s:ByteArray)(a b t:Int)(h:s.size≠0)(h2:Qec s (QaQ a b)=0)(h3:Qha s (QaQ a b)<(s.size:Int)):QeH s a b t=4:=by unfold QeH;rw [if_neg h,if_neg (fun e=>e h2),if_pos h3]
theorem Qz5(s:ByteArray)(a b t:Int)(h:s.size≠0)(h2:Qec s (QaQ a b)=0)(h3:¬Qha s (QaQ a b)<(s.size:Int))(h4:Qj2 s (QaQ a b)≠206):QeH s a b t=17:=by unfold QeH;rw [if_neg h,if_neg (fun e=>e h2),if_neg h3,if_pos h4]
theorem Qz4(s:ByteArray)(a b t:Int)(h:s.size≠0)(h2:Qec s (QaQ a b)=0)(h3:¬Qha s (QaQ a b)<(s.size:Int))(h4:Qj2 s (QaQ a b)=206)(h5:Qc8 (Qcf s (QaQ a b)) Qag≠0):QeH s a b t=Qc8 (Qcf s (QaQ a b)) Qag:=by unfold QeH;rw [if_neg h,if_neg (fun e=>e h2),if_neg h3,if_neg (fun e=>e h4),if_pos h5]
theorem Qz3(s:ByteArray)(a b t:Int)(h:s.size≠0)(h2:Qec s (QaQ a b)=0)(h3:¬Qha s (QaQ a b)<(s.size:Int))(h4:Qj2 s (QaQ a b)=206)(h5:Qc8 (Qcf s (QaQ a b)) Qag=0)(h6:Qce (QbC (Qcf s (QaQ a b)) Qag)≠0):QeH s a b t=Qce (QbC (Qcf s (QaQ a b)) Qag):=by unfold QeH;rw [if_neg h,if_neg (fun e=>e h2),if_neg h3,if_neg (fun e=>e h4),if_neg (fun e=>e h5),if_pos h6]
theorem Qz2(s:ByteArray)(a b t:Int)(h:s.size≠0)(h2:Qec s (QaQ a b)=0)(h3:¬Qha s (QaQ a b)<(s.size:Int))(h4:Qj2 s (QaQ a b)=206)(h5:Qc8 (Qcf s (QaQ a b)) Qag=0)(h6:Qce (QbC (Qcf s (QaQ a b)) Qag)=0)(h7:¬((QcX (QbC (Qcf s (QaQ a b)) Qag)=a∧QcW (QbC (Qcf s (QaQ a b)) Qag)=b)∧Qdu (QbC (Qcf s (QaQ a b)) Qag)=t)):QeH s a b t=19:=by
 unfold QeH;rw [if_neg h,if_neg (fun e=>e h2),if_neg h3,if_neg (fun e=>e h4),if_neg (fun e=>e h5),if_neg (fun e=>e h6),if_pos]
 by_cases g1:QcX (QbC (Qcf s (QaQ a b)) Qag)=a
 ·by_cases g2:QcW (QbC (Qcf s (QaQ a b)) Qag)=b
  ·exact .inr (.inr (fun g3=>h7 ⟨⟨g1,g2⟩,g3⟩))
  ·exact .inr (.inl g2)
 ·exact .inl g1
theorem Qz1(s:ByteArray)(a b t:Int)(h:s.size≠0)(h2:Qec s (QaQ a b)=0)(h3:¬Qha s (QaQ a b)<(s.size:Int))(h4:Qj2 s (QaQ a b)=206)(h5:Qc8 (Qcf s (QaQ a b)) Qag=0)(h6:Qce (QbC (Qcf s (QaQ a b)) Qag)=0)(h7:(QcX (QbC (Qcf s (QaQ a b)) Qag)=a∧QcW (QbC (Qcf s (QaQ a b)) Qag)=b)∧Qdu (QbC (Qcf s (QaQ a b)) Qag)=t)(h8:((QiP s (QaQ a b)).length:Int)≠QaQ a b):QeH s a b t=18:=by
 unfold QeH;rw [if_neg h,if_neg (fun e=>e h2),if_neg h3,if_neg (fun e=>e h4),if_neg (fun e=>e h5),if_neg (fun e=>e h6),if_neg (by rw [h7.1.1,h7.1.2,h7.2];simp),if_pos h8]
theorem QqC(s:ByteArray)(m:Int):(bs (QbC (Qcf s m) Qag)).size≤1000000:=by
 rw [QaC];have h:=QpH s m;unfold QbC;cases hh:QfH (Qcf s m) Qag with
 |nil=>exact Nat.zero_le _
 |cons v r=>
  cases r with
  |cons _ _=>exact Nat.zero_le _
  |nil=>
   have:v∈QfH (Qcf s m) Qag:=by rw [hh];exact List.mem_cons_self ..
   unfold QfH at this;obtain ⟨f,hf,rfl⟩:=List.mem_map.1 this;have:=(h f (List.mem_filter.1 hf).1).2;show f.2.length≤_;omega
theorem QnZ(s:ByteArray)(a b t:Int)(w:World)(hs:s.size≤1000000)(hE:EnvF w) :
  Calls Tryz.prog 182 #[.string s,.agg #[.int .i64 a,.int .i64 b],.int .i64 t] w fun e w'=>e = .returned (QwA s a b t)∧Below w.heap.size w w':=by
 have HL:=hid (fun w=>Qfy a b w)
 have HP:=hid (fun w hE=>Qnd s (QaQ a b) w hs hE)
 unfold Qf5 QzN at HP;have HB0:=hid (Qbq w (.int .i64 a) (.int .i64 b) 67);have HE0:=hid (hE.below HB0.out);have HR0:=hid (heap_alloc_new w (.cells #[.int .i64 a,.int .i64 b] 67));have HSz:Hid ((Qcf s (QaQ a b)).length≤1000000):=hid (Nat.le_trans (QuC _ _) (by decide))
 have HGs:=hid (QqC s (QaQ a b));obtain ⟨r0,r1⟩:=QwQ w (.int .i64 a) (.int .i64 b) 67;clear hE
 by_cases hz:s.size=0
 ·have HA:=hid (QcM s a b t 16 (Qz8 s a b t hz) (by decide))
  have z1:(s.toList == [])=true:=by rw [ByteArray.toList_eq,beq_iff_eq];exact List.eq_nil_of_length_eq_zero (by rw [Qab];exact hz)
  have z2:s.toList = []:=by simpa using z1
  clear hz;go_enter Tryz.func182,Tryz.ntmps182;go_wp2_with fail;go_ret2;exact ⟨by rw [HA.out];rfl,HB0.out⟩
 have z1:(s.toList == [])=false:=by rw [ByteArray.toList_eq,beq_eq_false_iff_ne];intro e;exact hz (by rw [←Qab,e];rfl)
 have z2:¬s.toList = []:=by simpa using z1
 go_enter Tryz.func182,Tryz.ntmps182;go_wp2_with fail;generalize (w.alloc (.cells #[.int .i64 a,.int .i64 b] 67))=W0 at HB0 HE0 HR0 r0 r1 ⊢;generalize w.heap.size=X at HR0 r0 r1 ⊢;refine (HL.out _).mono ?_;rintro e w1 ⟨rfl,hb1⟩;go_wp2_with fail;refine (HP.out _ (HE0.out.below hb1)).mono ?_;rintro e w2 ⟨fv,rfl,QAq,hb2⟩;obtain ⟨fa,fc,rfl⟩:=Qbe QAq;have HB2:=hid (Qaa hb1 hb2);have HOw:=hid (HoldsF.of_own QAq);clear hb1 hb2 QAq HP
 by_cases h2:Qec s (QaQ a b)=0
 case neg=>
  have HA:=hid (QcM s a b t _ (Qz7 s a b t hz h2) h2);have tz:(((Qec s (QaQ a b):Nat):Int) != 0)=true:=by rw [bne_iff_ne];omega
  clear hz h2;generalize Qec s (QaQ a b)=E at HA tz ⊢;go_wp2_with fail;go_ret2;exact ⟨by rw [HA.out]<;>rfl,Qaa HB0.out (HB2.out.alloc HB2.out.size _)⟩
 rw [h2]
 by_cases h3:Qha s (QaQ a b)<(s.size:Int)
 ·have HA:=hid (QcM s a b t 4 (Qz6 s a b t hz h2 h3) (by decide))
  have t3:decide (Qha s (QaQ a b)<(s.size:Int))=true:=decide_eq_true h3;clear hz h2;generalize Qha s (QaQ a b)=N at h3 t3 ⊢;go_wp2_with fail;go_ret2;exact ⟨by rw [HA.out];rfl,Qaa HB0.out (HB2.out.alloc HB2.out.size _)⟩
 have t3:decide (Qha s (QaQ a b)<(s.size:Int))=false:=decide_eq_false h3
 by_cases h4:Qj2 s (QaQ a b)=206
 case neg=>
  have HA:=hid (QcM s a b t 17 (Qz5 s a b t hz h2 h3 h4) (by decide))
  have t4:(Qj2 s (QaQ a b) != 206)=true:=by rw [bne_iff_ne];exact h4
  clear hz h2;generalize Qha s (QaQ a b)=N at h3 t3 ⊢;generalize Qj2 s (QaQ a b)=C at h4 t4 ⊢;go_wp2_with fail;go_ret2;exact ⟨by rw [HA.out];rfl,Qaa HB0.out (HB2.out.alloc HB2.out.size _)⟩
 rw [h4];have HAs:=hid (And.intro hz (And.intro h2 (And.intro h3 h4)));clear hz h2 h4;generalize Qha s (QaQ a b)=N at h3 t3 ⊢;have HBB:Hid ((bs (QiP s (QaQ a b))).size=(QiP s (QaQ a b)).length):=hid (QaC _);have hB3:=HB2.out.alloc HB2.out.size (.cells #[.int .i64 206,.slice fa (Qcf s (QaQ a b)).length fc,.string (bs (QiP s (QaQ a b)))] 328);have HO3:=hid (HOw.out.below ((Below.refl _ _).alloc (Nat.le_refl _) (.cells #[.int .i64 206,.slice fa (Qcf s (QaQ a b)).length fc,.string (bs (QiP s (QaQ a b)))] 328)));have HR3:=hid (heap_alloc_new w2 (.cells #[.int .i64 206,.slice fa (Qcf s (QaQ a b)).length fc,.string (bs (QiP s (QaQ a b)))] 328));have HB3:=hid hB3;clear hB3 h3 HOw;go_wp2_with fail;refine (Qx3 _ _ _ Qag rfl _ HO3.out HSz.out).mono ?_;rintro e w3 ⟨rfl,hb3⟩;have HB4:=hid (Qaa HB3.out hb3);have HR4:=hid ((hb3.block w2.heap.size (by simp)).trans HR3.out)
 have hwl:w2.heap.size<w3.heap.size:=(gsi HR4.out).1;have HWl:=hid hwl;clear hb3 HB3 HR3 HO3 hwl;generalize w2.heap.size=Y at HR4 HWl ⊢;obtain ⟨V,hV⟩:∃ V,QbC (Qcf s (QaQ a b)) Qag=V:=⟨_,rfl⟩;have HV:=hid hV;rw [hV] at HGs ⊢;clear hV
 by_cases h5:Qc8 (Qcf s (QaQ a b)) Qag=0
 case neg=>
  have HA:=hid (QcM s a b t _ (Qz4 s a b t HAs.out.1 HAs.out.2.1 (Int.not_lt.2 HAs.out.2.2.1) HAs.out.2.2.2 h5) h5);have tz:(((Qc8 (Qcf s (QaQ a b)) Qag:Nat):Int) != 0)=true:=by rw [bne_iff_ne];omega
  clear h5;generalize Qc8 (Qcf s (QaQ a b)) Qag=E at HA tz ⊢;go_wp2_with fail;go_ret2;exact ⟨by rw [HA.out]<;>rfl,Qaa HB0.out HB4.out⟩
 rw [h5];have HT:=hid (fun w hE=>Qnl (bs V) w HGs.out hE)
 rw [Qaj] at HT;go_wp2_with fail;refine (HT.out _ (HE0.out.below HB4.out)).mono ?_;rintro e w4 ⟨rfl,hb4⟩;have HB5:=hid (Qaa HB4.out hb4);have HR5:=hid ((hb4.block Y HWl.out).trans HR4.out);clear hb4 HB4 HR4 HT
 by_cases h6:Qce V=0
 case neg=>
  have HA:=hid (QcM s a b t _ (by have:=Qz3 s a b t HAs.out.1 HAs.out.2.1 (Int.not_lt.2 HAs.out.2.2.1) HAs.out.2.2.2 h5;rw [HV.out] at this;exact this h6) h6)
  have tz:(((Qce V:Nat):Int) != 0)=true:=by rw [bne_iff_ne];omega
  clear h5 h6;generalize Qce V=E at HA tz ⊢;go_wp2_with fail;go_ret2;exact ⟨by rw [HA.out]<;>rfl,Qaa HB0.out (HB5.out.alloc HB5.out.size _)⟩
 rw [h6];have hB6:=HB5.out.alloc HB5.out.size (.cells #[.int .i64 (QcX V),.int .i64 (QcW V)] 67);have hwx:X<W0.heap.size:=(gsi HR0.out).1;have x0:=(hB6.cell (p:=⟨X,0,none⟩) hwx).trans r0;have x1:=(hB6.cell (p:=⟨X,1,none⟩) hwx).trans r1;have HB6:=hid hB6;have HWx:=hid hwx;have hne:=Qu8 (QcX V) (QcW V) a b;have hgd:=Qqz;clear hB6 hwx r0 r1
 by_cases h7:(QcX V=a∧QcW V=b)∧Qdu V=t
 case neg=>
  have HA:=hid (QcM s a b t 19 (by have:=Qz2 s a b t HAs.out.1 HAs.out.2.1 (Int.not_lt.2 HAs.out.2.2.1) HAs.out.2.2.2 h5;rw [HV.out] at this;exact this h6 h7) (by decide))
  clear h5 h6
  by_cases h8:QcX V=a∧QcW V=b
  ·have t9:(Qdu V != t)=true:=by rw [bne_iff_ne];exact fun e=>h7 ⟨h8,e⟩
   rw [decide_eq_true h8] at hne;clear h7 h8;generalize QcX V=A at hne x0 x1 HB6 ⊢;generalize QcW V=B at hne x0 x1 HB6 ⊢;generalize Qdu V=C at t9 ⊢;go_wp2_with fail;go_ret2;exact ⟨by rw [HA.out];rfl,Qaa HB0.out HB6.out⟩
  ·rw [decide_eq_false h8] at hne
   clear h7 h8;generalize QcX V=A at hne x0 x1 HB6 ⊢;generalize QcW V=B at hne x0 x1 HB6 ⊢;generalize Qdu V=C;go_wp2_with fail;go_ret2;exact ⟨by rw [HA.out];rfl,Qaa HB0.out HB6.out⟩
 have h7':(QcX (QbC (Qcf s (QaQ a b)) Qag)=a∧QcW (QbC (Qcf s (QaQ a b)) Qag)=b)∧Qdu (QbC (Qcf s (QaQ a b)) Qag)=t:=by rw [HV.out];exact h7
 have h6':Qce (QbC (Qcf s (QaQ a b)) Qag)=0:=by rw [HV.out];exact h6
 obtain ⟨⟨g1,g2⟩,g3⟩:=h7;rw [g1,g2] at hne x0 x1 HB6 ⊢;rw [g3];rw [decide_eq_true (And.intro rfl rfl)] at hne;have H7:=hid (And.intro h5 (And.intro h6' h7'));have hR6:=(((Below.refl w4.heap.size w4).alloc (Nat.le_refl _) (.cells #[.int .i64 a,.int .i64 b] 67)).block Y (gsi HR5.out).1).trans HR5.out;have HR6:=hid hR6;clear h5 h6 h6' h7' g1 g2 g3 hR6 HR5 HB5;go_wp2_with fail;generalize w4.alloc (.cells #[.int .i64 a,.int .i64 b] 67)=W6 at HB6 HR6 x0 x1 ⊢;have HS:Hid (∀ W,Below W6.heap.size W6 W→W.cell? ⟨Y,2,none⟩=some (.string (bs (QiP s (QaQ a b))))∧W.cell? ⟨X,0,none⟩=some (.int .i64 a)∧W.cell? ⟨X,1,none⟩=some (.int .i64 b)):=hid (fun W hW=>by
  have hy:=(hW.block Y (gsi HR6.out).1).trans HR6.out;have hx:=((Qaa HB6.out hW).block X HWx.out).trans HR0.out;exact ⟨by unfold World.cell?;rw [hy];rfl,by unfold World.cell?;rw [hx];rfl,by unfold World.cell?;rw [hx];rfl⟩)
 have HDr:Hid (Below W6.heap.size W6 W6.drew):=hid (Below.refl _ _).drew;obtain ⟨Bd,hBd⟩:∃ Bd,bs (QiP s (QaQ a b))=Bd:=⟨_,rfl⟩;rw [hBd] at HS HBB
 by_cases h8:((Bd.size:Nat):Int)=QaQ a b
 ·have HA:Hid (QwA s a b t = .tuple #[.string Bd,.nilIface]):=hid (by
   rw [QxS s a b t (QoS s a b t HAs.out.1 HAs.out.2.1 (by have:=HAs.out.2.2.1;omega) HAs.out.2.2.2 H7.out.1 H7.out.2.1 ⟨H7.out.2.2.1.1,H7.out.2.2.1.2,H7.out.2.2.2⟩ (by rw [←HBB.out];exact h8)),hBd])
  have t8:(((Bd.size:Nat):Int) != QaQ a b)=false:=by rw [bne_eq_false_iff_eq];exact h8
  clear h8 hBd x0 x1;generalize QaQ a b=M at HL t8;go_region_held3 (fun w'=>w'.cell? ⟨Y,2,none⟩=some (.string Bd)∧w'.cell? ⟨X,0,none⟩=some (.int .i64 a)∧w'.cell? ⟨X,1,none⟩=some (.int .i64 b)) (first|with_reducible exact HS.out _ HDr.out|with_reducible exact HS.out _ HX1.out)
   (first
    |(go_at_call 141;refine (HL.out _).mono ?_;rintro e wa ⟨rfl,hba⟩;have HX1:Hid (Below W6.heap.size W6 wa):=hid (Qaa HDr.out hba);clear hba))
  obtain ⟨y2,-,-⟩:=HS.out _ HX1.out;go_wp2_with fail;go_ret2;exact ⟨by rw [HA.out]<;>rfl,Qaa HB0.out (Qaa HB6.out HX1.out)⟩
 ·have HA:=hid (QcM s a b t 18 (Qz1 s a b t HAs.out.1 HAs.out.2.1 (Int.not_lt.2 HAs.out.2.2.1) HAs.out.2.2.2 H7.out.1 H7.out.2.1 H7.out.2.2 (by rw [←HBB.out];exact h8)) (by decide))
  have t8:(((Bd.size:Nat):Int) != QaQ a b)=true:=by rw [bne_iff_ne];exact h8
  clear h8 hBd x0 x1;generalize QaQ a b=M at HL t8;go_region_held3 (fun w'=>w'.cell? ⟨Y,2,none⟩=some (.string Bd)∧w'.cell? ⟨X,0,none⟩=some (.int .i64 a)∧w'.cell? ⟨X,1,none⟩=some (.int .i64 b)) (first|with_reducible exact HS.out _ HDr.out|with_reducible exact HS.out _ HX1.out)
   (first
    |(go_at_call 141;refine (HL.out _).mono ?_;rintro e wa ⟨rfl,hba⟩;have HX1:Hid (Below W6.heap.size W6 wa):=hid (Qaa HDr.out hba);clear hba))
  go_wp2_with fail;go_ret2;exact ⟨by rw [HA.out];rfl,Qaa HB0.out (Qaa HB6.out HX1.out)⟩
end
section
open Go.RowKit Go.Extern.Stop Go.Stop Go.Extern
theorem Qzu(t:Value)(w:World) :
  Calls Tryz.prog 183 #[.nilIface,t] w fun e w'=>e = .returned (.bool false)∧w'=w:=by
 go_enter Tryz.func183,Tryz.ntmps183;go_wp2;go_ret;exact ⟨rfl,rfl⟩
theorem Qty(t:Addr)(w:World):(ReflectliteValue.unpack (.iface 291 (.pointer (some t)))).run Tryz.prog w
  = .ok (.agg #[.pointer (some ⟨9,291,none⟩),.pointer (some ⟨w.heap.size,0,none⟩),.int .u64 150]) (w.alloc (.cells #[.pointer (some t)] 291)):=by kernel_rfl
theorem Qya(a:Addr)(w:World):(ReflectliteValue.methodAny (ReflectliteValue.valueError "reflectlite.Value.Type" 0) (fun t _ _ _=>ReflectliteType.toType t) #[.agg #[.pointer (some ⟨9,291,none⟩),.pointer (some a),.int .u64 150]]).run Tryz.prog w
  = .ok (.iface 387 (.agg #[.pointer (some ⟨9,291,none⟩)])) w:=by kernel_rfl
theorem QvZ(h:Value)(w:World):(Go.method 685 387 (.agg #[h]) "Kind").run Tryz.prog w = .ok (399,h) w:=by kernel_rfl
theorem Qv3(w:World):((ReflectliteType.abiMethod fun t=>Functor.map (fun a:Nat=>Value.int IntKind.u8 (a:Int)) (Rtype.kind t)) #[.pointer (some ⟨9,291,none⟩)]).run Tryz.prog w = .ok (.int .u8 22) w:=by kernel_rfl
theorem Qv2(w:World):((ReflectliteType.abiMethod fun t=>Functor.map (fun a:Nat=>Value.int IntKind.u8 (a:Int)) (Rtype.kind t)) #[.pointer (some ⟨9,289,none⟩)]).run Tryz.prog w = .ok (.int .u8 25) w:=by kernel_rfl
theorem QwK(z:Sem Value)(f:TypeId→Addr→Nat→Nat→Sem Value)(v:Value) :
  ReflectliteValue.method z f #[v]=(do match ←ReflectliteValue.parts v with|none=>z|some (t,a,fl)=>f t a fl (fl%32)):=rfl
theorem Qmd(a:Addr)(w:World):(ReflectliteValue.parts (.agg #[.pointer (some ⟨9,291,none⟩),.pointer (some a),.int .u64 150])).run Tryz.prog w = .ok (some (291,a,150)) w:=by kernel_rfl
theorem Qv4(a p:Addr)(W:World)(ha:W.cell? a=some (.pointer (some p))) :
  (ReflectliteValue.method (ReflectliteValue.valueError "reflectlite.Value.IsNil" 0) ReflectliteValue.isNil #[.agg #[.pointer (some ⟨9,291,none⟩),.pointer (some a),.int .u64 150]]).run Tryz.prog W = .ok (.bool false) W:=by
 rw [QwK];simp only [Sem.run_bind,Qmd,Result.andThen];simp [ReflectliteValue.isNil,loadVar,isAgg,underlying,Tryz.underlying291,ha,Result.andThen]
theorem Qv1(h:Value)(w:World):(Go.method 685 387 (.agg #[h]) "Elem").run Tryz.prog w = .ok (417,.agg #[h]) w:=by kernel_rfl
theorem Qv0(h:Value)(w:World):(Go.method 685 387 (.agg #[h]) "Implements").run Tryz.prog w = .ok (418,.agg #[h]) w:=by kernel_rfl
theorem QqM(h:Value)(w:World):(Go.method 685 387 (.agg #[h]) "AssignableTo").run Tryz.prog w = .ok (415,.agg #[h]) w:=by kernel_rfl
theorem Qyd(w:World):(ReflectliteType.method ReflectliteType.elem #[.agg #[.pointer (some ⟨9,291,none⟩)]]).run Tryz.prog w = .ok (.iface 387 (.agg #[.pointer (some ⟨9,289,none⟩)])) w:=by kernel_rfl
theorem Qyc(w:World):(ReflectliteType.relation "Implements" ReflectliteType.implements_ #[.agg #[.pointer (some ⟨9,289,none⟩)],.iface 387 (.agg #[.pointer (some ⟨9,239,none⟩)])]).run Tryz.prog w = .ok (.bool true) w:=by kernel_rfl
theorem Qtz(v:Value)(w:World):(ReflectliteType.typeOf #[.iface 289 v]).run Tryz.prog w = .ok (.iface 387 (.agg #[.pointer (some ⟨9,289,none⟩)])) w:=by kernel_rfl
theorem QtE(w:World):(ReflectliteType.relation "AssignableTo" ReflectliteType.assignableTo #[.agg #[.pointer (some ⟨9,289,none⟩)],.iface 387 (.agg #[.pointer (some ⟨9,289,none⟩)])]).run Tryz.prog w = .ok (.bool true) w:=by kernel_rfl
theorem Qtx(n:Int)(w:World):(ReflectliteValue.unpack (.iface 289 (.agg #[.int .i64 n]))).run Tryz.prog w
  = .ok (.agg #[.pointer (some ⟨9,289,none⟩),.pointer (some ⟨w.heap.size,0,none⟩),.int .u64 153]) (w.alloc (.cells #[.int .i64 n] 289)):=by kernel_rfl
theorem QtC(w:World):(Rtype.elem? 291).run Tryz.prog w = .ok (some 289) w:=by kernel_rfl
theorem QAe(p:Addr)(w:World):(ReflectliteValue.mk 289 p ReflectliteValue.flagAddr).run Tryz.prog w = .ok (.agg #[.pointer (some ⟨9,289,none⟩),.pointer (some p),.int .u64 409]) w:=by kernel_rfl
theorem Qv5(a p:Addr)(W:World)(ha:W.cell? a=some (.pointer (some p))) :
  (ReflectliteValue.method (ReflectliteValue.valueError "reflectlite.Value.Elem" 0) ReflectliteValue.elem #[.agg #[.pointer (some ⟨9,291,none⟩),.pointer (some a),.int .u64 150]]).run Tryz.prog W
   = .ok (.agg #[.pointer (some ⟨9,289,none⟩),.pointer (some p),.int .u64 409]) W:=by
 rw [QwK];simp only [Sem.run_bind,Qmd,Result.andThen];simp [ReflectliteValue.elem,loadVar,isAgg,underlying,Tryz.underlying291,ha,Result.andThen,QtC,QAe]
theorem Qzg(v x:Value):ReflectliteValue.set #[v,x]=(do
  let (some (dst,a,fl),some (src,b,_)):=(←ReflectliteValue.parts v,←ReflectliteValue.parts x)
   |unsupported (.noEntry "extern/(internal/reflectlite.Value).Set.zeroValue")
  if fl/ReflectliteValue.flagAddr%2==0 then unsupported (.noEntry "extern/(internal/reflectlite.Value).Set.unaddressable")
  let val ←loadVar src b
  if ←Rtype.directlyAssignable dst src then storeVar dst a val
  else if ←Rtype.implements dst src then
   if (←Rtype.kind src)==20 then
    match val with
    | .nilIface=>unsupported (.noEntry "extern/reflectlite: a nil value of one interface type handed on as a value of another")
    |_=>storeVar dst a val
   else storeVar dst a (.iface src val)
  else panicString ("reflectlite.Set: value of type "++(←Rtype.spelt src)++ " is not assignable to type "++(←Rtype.spelt dst))
  pure (.tuple #[])):=rfl
theorem QtB(a:Addr)(w:World):(ReflectliteValue.parts (.agg #[.pointer (some ⟨9,289,none⟩),.pointer (some a),.int .u64 409])).run Tryz.prog w = .ok (some (289,a,409)) w:=by kernel_rfl
theorem QtA(a:Addr)(w:World):(ReflectliteValue.parts (.agg #[.pointer (some ⟨9,289,none⟩),.pointer (some a),.int .u64 153])).run Tryz.prog w = .ok (some (289,a,153)) w:=by kernel_rfl
theorem QtD(w:World):(Rtype.directlyAssignable 289 289).run Tryz.prog w = .ok true w:=by kernel_rfl
theorem Qyb(w:World)(b:Nat)(n:Int)(h:w.heap[b]?=some (.cells #[.int .i64 n] 289 (0,0))):(loadVar 289 ⟨b,0,none⟩).run Tryz.prog w = .ok (.agg #[.int .i64 n]) w:=
 run_loadVar_row w b 289 289 #[.int .i64 n] (0,0) _ h Tryz.underlying289 rfl (by kernel_rfl)
end
section
open Go.RowKit Go.Extern.Stop Go.Stop Go.Extern
structure EnvT(w:World):Prop where
 f:EnvF w
 et:w.cell? ⟨0,0,none⟩=some (.iface 387 (.agg #[.pointer (some ⟨9,239,none⟩)]))
 elt:0<w.heap.size
theorem EnvT.below{w w':World}(h:EnvT w)(hb:Below w.heap.size w w'):EnvT w':=
 ⟨h.f.below hb,(hb.cell (p:=⟨0,0,none⟩) h.elt).trans h.et,Nat.lt_of_lt_of_le h.elt hb.size⟩
theorem Qzf(ta b:Nat)(n old:Int)(W:World)(hb:W.heap[b]?=some (.cells #[.int .i64 n] 289 (0,0)))(ht:W.heap[ta]?=some (.cells #[.int .i64 old] 289 (0,0))) :
  (ReflectliteValue.set #[.agg #[.pointer (some ⟨9,289,none⟩),.pointer (some ⟨ta,0,none⟩),.int .u64 409],.agg #[.pointer (some ⟨9,289,none⟩),.pointer (some ⟨b,0,none⟩),.int .u64 153]]).run Tryz.prog W
   = .ok (.tuple #[]) (W.setCell ⟨ta,0,none⟩ (.int .i64 n)):=by
 have h1:W.cell? ⟨ta,0,none⟩=some (.int .i64 old):=by unfold World.cell?;rw [ht];rfl
 have h2:W.frozen? ⟨ta,0,none⟩=false:=by simp [World.frozen?,ht]
 rw [Qzg];simp only [Sem.run_bind,QtB,QtA,Result.andThen];simp [ReflectliteValue.flagAddr,Qyb W b n hb,Result.andThen,QtD,storeVar,Value.cells,storeCells,Addr.add];rw [run_store Tryz.prog W ⟨ta,0,none⟩ _ _ (by rfl)]
 simp [h1,h2]
theorem Qzv(n old:Int)(t:Nat)(w:World)(hE:EnvT w)(ht:w.heap[t]?=some (.cells #[.int .i64 old] 289 (0,0))) :
  Calls Tryz.prog 183 #[.iface 289 (.agg #[.int .i64 n]),.iface 291 (.pointer (some ⟨t,0,none⟩))] w fun ev w'=>ev = .returned (.bool true)∧w'.heap[t]?=some (.cells #[.int .i64 n] 289 (0,0))∧Touch (fun g=>g=t) w w':=by
 have h6:=@run_callFunc_extern Tryz.prog 215 _ (fun args=>ReflectliteValue.unpack (args.getD 0 (.tuple #[]))) Tryz.func215 (by kernel_rfl) (by kernel_rfl) (by kernel_rfl) (by kernel_rfl)
 have h7:=@run_callFunc_extern Tryz.prog 216 _ (ReflectliteValue.methodAny (ReflectliteValue.valueError "reflectlite.Value.Type" 0) (fun t _ _ _=>ReflectliteType.toType t)) Tryz.func216 (by kernel_rfl) (by kernel_rfl) (by kernel_rfl) (by kernel_rfl)
 have h8:=@run_callFunc_extern Tryz.prog 217 _ (ReflectliteValue.method (ReflectliteValue.valueError "reflectlite.Value.IsNil" 0) ReflectliteValue.isNil) Tryz.func217 (by kernel_rfl) (by kernel_rfl) (by kernel_rfl) (by kernel_rfl)
 have h27:=@run_callFunc_extern Tryz.prog 399 _ (ReflectliteType.abiMethod fun t=>do pure (.int .u8 (←Rtype.kind t))) Tryz.func399 (by kernel_rfl) (by kernel_rfl) (by kernel_rfl) (by kernel_rfl)
 have h37:=@run_callFunc_extern Tryz.prog 417 _ (ReflectliteType.method ReflectliteType.elem) Tryz.func417 (by kernel_rfl) (by kernel_rfl) (by kernel_rfl) (by kernel_rfl)
 have h38:=@run_callFunc_extern Tryz.prog 418 _ (ReflectliteType.relation "Implements" ReflectliteType.implements_) Tryz.func418 (by kernel_rfl) (by kernel_rfl) (by kernel_rfl) (by kernel_rfl)
 have h10:=@run_callFunc_extern Tryz.prog 249 _ ReflectliteType.typeOf Tryz.func249 (by kernel_rfl) (by kernel_rfl) (by kernel_rfl) (by kernel_rfl)
 have h35:=@run_callFunc_extern Tryz.prog 415 _ (ReflectliteType.relation "AssignableTo" ReflectliteType.assignableTo) Tryz.func415 (by kernel_rfl) (by kernel_rfl) (by kernel_rfl) (by kernel_rfl)
 have h11:=@run_callFunc_extern Tryz.prog 250 _ (ReflectliteValue.method (ReflectliteValue.valueError "reflectlite.Value.Elem" 0) ReflectliteValue.elem) Tryz.func250 (by kernel_rfl) (by kernel_rfl) (by kernel_rfl) (by kernel_rfl)
 have h12:=@run_callFunc_extern Tryz.prog 251 _ ReflectliteValue.set Tryz.func251 (by kernel_rfl) (by kernel_rfl) (by kernel_rfl) (by kernel_rfl)
 have tO:=Qtz;have mA:=QqM;have aR:=QtE;have vR:=Qtx n;have f6:=Qty;have f7:=Qya;have mK:=QvZ;have mE:=Qv1;have mI:=Qv0;have kP:=Qv3;have kR:=Qv2;have eP:=Qyd;have iR:=Qyc;have htl:t<w.heap.size:=(gsi ht).1;have hg:=hE.et;have hgl:=hE.elt;have n8:=Qv4 ⟨w.heap.size,0,none⟩ ⟨t,0,none⟩ ((w.alloc (.cells #[.pointer (some ⟨t,0,none⟩)] 291)).alloc (.cells #[.pointer (some ⟨9,291,none⟩),.pointer (some ⟨w.heap.size,0,none⟩),.int .u64 150] 336)) (by simp)
 have hg2:((w.alloc (.cells #[.pointer (some ⟨t,0,none⟩)] 291)).alloc (.cells #[.pointer (some ⟨9,291,none⟩),.pointer (some ⟨w.heap.size,0,none⟩),.int .u64 150] 336)).cell? ⟨0,0,none⟩=some (.iface 387 (.agg #[.pointer (some ⟨9,239,none⟩)])):=by
  rw [World.cell?_alloc_lt _ _ ⟨0,0,none⟩ (by simp<;>omega),World.cell?_alloc_lt _ _ ⟨0,0,none⟩ hgl];exact hg
 have el:=Qv5 ⟨w.heap.size,0,none⟩ ⟨t,0,none⟩ (((w.alloc (.cells #[.pointer (some ⟨t,0,none⟩)] 291)).alloc (.cells #[.pointer (some ⟨9,291,none⟩),.pointer (some ⟨w.heap.size,0,none⟩),.int .u64 150] 336)).alloc (.cells #[.pointer (some ⟨9,291,none⟩),.pointer (some ⟨w.heap.size,0,none⟩),.int .u64 150] 336)) (by rw [World.cell?_alloc_lt _ _ ⟨w.heap.size,0,none⟩ (by simp<;>omega)];simp)
 have hb4:Below w.heap.size w ((((w.alloc (.cells #[.pointer (some ⟨t,0,none⟩)] 291)).alloc (.cells #[.pointer (some ⟨9,291,none⟩),.pointer (some ⟨w.heap.size,0,none⟩),.int .u64 150] 336)).alloc (.cells #[.pointer (some ⟨9,291,none⟩),.pointer (some ⟨w.heap.size,0,none⟩),.int .u64 150] 336)).alloc (.cells #[.int .i64 n] 289)):=((((Below.refl _ _).alloc (Nat.le_refl _) _).alloc (by simp) _).alloc (by simp<;>omega) _).alloc (by simp<;>omega) _
 have st:=Qzf t (w.heap.size+1+1+1) n old ((((w.alloc (.cells #[.pointer (some ⟨t,0,none⟩)] 291)).alloc (.cells #[.pointer (some ⟨9,291,none⟩),.pointer (some ⟨w.heap.size,0,none⟩),.int .u64 150] 336)).alloc (.cells #[.pointer (some ⟨9,291,none⟩),.pointer (some ⟨w.heap.size,0,none⟩),.int .u64 150] 336)).alloc (.cells #[.int .i64 n] 289))
  (by have:=heap_alloc_new (((w.alloc (.cells #[.pointer (some ⟨t,0,none⟩)] 291)).alloc (.cells #[.pointer (some ⟨9,291,none⟩),.pointer (some ⟨w.heap.size,0,none⟩),.int .u64 150] 336)).alloc (.cells #[.pointer (some ⟨9,291,none⟩),.pointer (some ⟨w.heap.size,0,none⟩),.int .u64 150] 336)) (.cells #[.int .i64 n] 289);simpa using this)
  ((hb4.block t htl).trans ht)
 have HB4:=hid hb4;have HT:=hid ((hb4.block t htl).trans ht);clear hb4 ht hE;go_enter Tryz.func183,Tryz.ntmps183;go_wp2;refine wp_loop_rounds 1 ?_;rw [rounds_succ];go_wp2;go_ret;refine ⟨rfl,by simp [World.setCell,Array.getElem?_modify,HT.out],Qaf _ (Touch.of_below HB4.out) (.inl rfl)⟩
end
section
open Go.RowKit
def QyD(s:ByteArray)(a b t:Int):Value:=.tuple #[.string (bs (Qrg s a b t)),.int .i64 (QeH s a b t:Nat)]
theorem Qvs(s:ByteArray)(a b t:Int)(h:QeH s a b t≠0):QyD s a b t = .tuple #[.string ⟨#[]⟩,.int .i64 (QeH s a b t:Nat)]:=by
 unfold QyD Qrg;rw [if_neg h];rfl
theorem Qn0(s:ByteArray)(a b t:Int)(w:World)(hs:s.size≤1000000)(hE:EnvT w) :
  Calls Tryz.prog 143 #[.string s,.agg #[.int .i64 a,.int .i64 b],.int .i64 t] w fun e w'=>e = .returned (QyD s a b t)∧Below w.heap.size w w':=by
 have HJ:=hid (fun w hE=>QnZ s a b t w hs hE)
 have HB0:=hid (Qbq w (.int .i64 a) (.int .i64 b) 67);have HE0:=hid (hE.below HB0.out);obtain ⟨r0,r1⟩:=QwQ w (.int .i64 a) (.int .i64 b) 67;clear hE
 by_cases h0:QeH s a b t=0
 ·have HA:Hid (QwA s a b t = .tuple #[.string (bs (Qrg s a b t)),.nilIface]∧QyD s a b t = .tuple #[.string (bs (Qrg s a b t)),.int .i64 0]):=hid (by
   unfold QwA QzP QyD;rw [h0];exact ⟨rfl,rfl⟩)
  rw [HA.out.1] at HJ;clear h0;generalize bs (Qrg s a b t)=B at HJ HA;go_enter Tryz.func143,Tryz.ntmps143;go_wp2_with fail;refine (HJ.out _ HE0.out.f).mono ?_;rintro e w1 ⟨rfl,hb1⟩;have HB1:=hid (Qaa HB0.out hb1);clear hb1 r0 r1;go_wp2_with fail;refine (Qzu _ _).mono ?_;rintro e w' ⟨rfl,hww⟩;obtain rfl:=hww.symm;clear hww;go_wp2_with fail;go_ret2;exact ⟨by rw [HA.out.2]<;>rfl,HB1.out.alloc HB1.out.size _⟩
 ·have HA:Hid (QwA s a b t = .tuple #[.string ⟨#[]⟩,.iface 289 (.agg #[.int .i64 (QeH s a b t:Nat)])]∧QyD s a b t = .tuple #[.string ⟨#[]⟩,.int .i64 (QeH s a b t:Nat)]):=hid ⟨QcM s a b t _ rfl h0,Qvs s a b t h0⟩
  rw [HA.out.1] at HJ;clear h0;generalize ((QeH s a b t:Nat):Int)=E at HJ HA;go_enter Tryz.func143,Tryz.ntmps143;go_wp2_with fail;refine (HJ.out _ HE0.out.f).mono ?_;rintro e w1 ⟨rfl,hb1⟩;have hbN:Below w1.heap.size w1 (w1.alloc (.cells #[.int .i64 0] 289)):=(Below.refl _ _).alloc (Nat.le_refl _) _;have HEN:=hid ((HE0.out.below hb1).below hbN);have HN:=hid (heap_alloc_new w1 (.cells #[.int .i64 0] 289));have HB1:=hid (Qaa HB0.out hb1);have HBN:=hid hbN;clear hb1 r0 r1 hbN;go_wp2_with fail;refine (Qzv E 0 w1.heap.size _ HEN.out HN.out).mono ?_;rintro e w2 ⟨rfl,hN2,hT2⟩;have n0:w2.cell? ⟨w1.heap.size,0,none⟩=some (.int .i64 E):=by unfold World.cell?;rw [hN2];rfl
  have HB2:Hid (Below w.heap.size w w2):=hid ((Qaa HB1.out HBN.out).trans (hT2.below (fun g hg=>by rw [show g=w1.heap.size from hg];exact HB1.out.size) (Nat.le_trans HB1.out.size HBN.out.size)))
  clear hN2 hT2;go_wp2_with fail;go_quiet (fail);go_wp2_with fail;go_ret2;exact ⟨by rw [HA.out.2]<;>rfl,HB2.out.trans ⟨rfl,rfl,rfl,Nat.le_refl _,fun _ _=>rfl⟩⟩
structure FC(w0 w:World)(Cb P:Nat)(hh hp:ByteArray)(t r:Int)(h p f:ByteArray)(rest:List Flt)(log:List Evt)(n asks last:Nat)(rv lv:Value):Prop where
 k:KL w0 w P h p f rest log n rv lv
 c:w.heap[Cb]?=some (.cells #[.pointer (some ⟨P,0,none⟩),.string hh,.string hp,.int .i64 t,.int .i64 r,.int .i64 (asks:Int),.int .i64 (last:Int)] 71 (0,0))
 lo:w0.heap.size≤Cb
def FS(P Cb:Nat)(lv:Value)(g:Nat):Prop:=LS P lv g∨g=Cb
theorem Qb3{w:World}{b:Nat}{x0 x1 x2 x3 x4 x5 x6:Value}{t:TypeId}(k:w.heap[b]?=some (.cells #[x0,x1,x2,x3,x4,x5,x6] t (0,0))) :
  (w.cell? ⟨b,0,none⟩=some x0∧w.cell? ⟨b,1,none⟩=some x1∧w.cell? ⟨b,2,none⟩=some x2∧w.cell? ⟨b,3,none⟩=some x3∧w.cell? ⟨b,4,none⟩=some x4∧w.cell? ⟨b,5,none⟩=some x5∧w.cell? ⟨b,6,none⟩=some x6)∧w.frozen? ⟨b,5,none⟩=false∧w.frozen? ⟨b,6,none⟩=false:=by
 refine ⟨⟨?_,?_,?_,?_,?_,?_,?_⟩,?_,?_⟩
 all_goals first
  |(unfold World.cell?;rw [k];rfl)
  |(unfold World.frozen?;rw [k];rfl)
theorem QpN{w:World}{b:Nat}{x0 x1 x2 x3 x4 x5 x6:Value}{t:TypeId}(k:w.heap[b]?=some (.cells #[x0,x1,x2,x3,x4,x5,x6] t (0,0)))(y:Value):(w.setCell ⟨b,5,none⟩ y).heap[b]?=some (.cells #[x0,x1,x2,x3,x4,y,x6] t (0,0)):=by
 simp [World.setCell,Array.getElem?_modify,k]
theorem QpM{w:World}{b:Nat}{x0 x1 x2 x3 x4 x5 x6:Value}{t:TypeId}(k:w.heap[b]?=some (.cells #[x0,x1,x2,x3,x4,x5,x6] t (0,0)))(y:Value):(w.setCell ⟨b,6,none⟩ y).heap[b]?=some (.cells #[x0,x1,x2,x3,x4,x5,y] t (0,0)):=by
 simp [World.setCell,Array.getElem?_modify,k]
section
variable {w0 w w':World} {Cb P:Nat} {hh hp h p f:ByteArray} {t r:Int} {rest rest':List Flt} {log log':List Evt} {n n' asks last:Nat} {rv lv rv' lv':Value}
theorem FC.step(k:FC w0 w Cb P hh hp t r h p f rest log n asks last rv lv)(hb:Below w.heap.size w w'):FC w0 w' Cb P hh hp t r h p f rest log n asks last rv lv:=
 ⟨k.k.step hb,(hb.block Cb (gsi k.c).1).trans k.c,k.lo⟩
theorem FC.set5(k:FC w0 w Cb P hh hp t r h p f rest log n asks last rv lv)(m:Nat):FC w0 (w.setCell ⟨Cb,5,none⟩ (.int .i64 (m:Int))) Cb P hh hp t r h p f rest log n m last rv lv:=
 ⟨k.k.far k.c (by decide) (by decide) (by decide) k.lo (Qaf _ (Touch.refl _ _) (.inl rfl)),QpN k.c _,k.lo⟩
theorem FC.set6(k:FC w0 w Cb P hh hp t r h p f rest log n asks last rv lv)(m:Nat):FC w0 (w.setCell ⟨Cb,6,none⟩ (.int .i64 (m:Int))) Cb P hh hp t r h p f rest log n asks m rv lv:=
 ⟨k.k.far k.c (by decide) (by decide) (by decide) k.lo (Qaf _ (Touch.refl _ _) (.inl rfl)),QpM k.c _,k.lo⟩
theorem FC.link(k:FC w0 w Cb P hh hp t r h p f rest log n asks last rv lv)(k':KL w0 w' P h p f rest' log' n' rv' lv')(ht:Touch (LS P lv) w w'):FC w0 w' Cb P hh hp t r h p f rest' log' n' asks last rv' lv':=
 ⟨k',QjN k.k k.c (by decide) (by decide) ht,k.lo⟩
theorem FC.total(k:FC w0 w Cb P hh hp t r h p f rest log n asks last rv lv):Calls Tryz.prog 85 #[.pointer (some ⟨Cb,0,none⟩)] w fun e w'=>e = .returned (.int .i64 t)∧w'=w:=by
 obtain ⟨⟨-,-,-,c3,-,-,-⟩,-⟩:=Qb3 k.c;clear k;go_enter Tryz.func85,Tryz.ntmps85;go_wp2_with fail;go_ret;exact ⟨rfl,rfl⟩
theorem FC.asked(k:FC w0 w Cb P hh hp t r h p f rest log n asks last rv lv):Calls Tryz.prog 21 #[.pointer (some ⟨Cb,0,none⟩)] w fun e w'=>e = .returned (.int .i64 (asks:Int))∧w'=w:=by
 obtain ⟨⟨-,-,-,-,-,c5,-⟩,-⟩:=Qb3 k.c;clear k;go_enter Tryz.func21,Tryz.ntmps21;go_wp2_with fail;go_ret;exact ⟨rfl,rfl⟩
theorem FC.lasts(k:FC w0 w Cb P hh hp t r h p f rest log n asks last rv lv):Calls Tryz.prog 11 #[.pointer (some ⟨Cb,0,none⟩)] w fun e w'=>e = .returned (.int .i64 (last:Int))∧w'=w:=by
 obtain ⟨⟨-,-,-,-,-,-,c6⟩,-⟩:=Qb3 k.c;clear k;go_enter Tryz.func11,Tryz.ntmps11;go_wp2_with fail;go_ret;exact ⟨rfl,rfl⟩
end
def Qwi(hh hp:List UInt8)(t r:Int):Nat:=if Qg0 hh hp≠0∨t<0∨9007199254740991<t∨r<0∨8<r then 2 else 0
theorem Qu2(hh hp:List UInt8)(h:Qg0 hh hp≠0):Qg0 hh hp=2:=by
 unfold Qg0 at h ⊢;split
 ·rfl
 ·rename_i hq;rw [if_neg hq] at h;exact absurd rfl h
theorem QkV(P:Nat)(hh hp:ByteArray)(t r:Int)(w:World)(hc:Qwi hh.data.toList hp.data.toList t r≠0):Calls Tryz.prog 6 #[.pointer (some ⟨P,0,none⟩),.string hh,.string hp,.int .i64 t,.int .i64 r] w fun e w'=>e = .returned (.tuple #[.pointer none,.int .i64 2])∧Below w.heap.size w w':=by
 have HC:=hid (fun w=>Qdl hp hh 0 0 w)
 rw [QhY] at HC
 by_cases h1:Qg0 hh.data.toList hp.data.toList=0
 ·rw [h1] at HC
  by_cases h2:t<0
  ·clear hc h1
   go_enter Tryz.func6,Tryz.ntmps6;go_wp2_with fail;refine (HC.out _).mono ?_;rintro e w1 ⟨rfl,hb1⟩;have t2:decide (t<0)=true:=decide_eq_true h2;go_wp2_with fail;go_ret2;exact ⟨rfl,hb1⟩
  have t2:decide (t<0)=false:=decide_eq_false h2
  by_cases h3:9007199254740991<t
  ·clear hc h1
   have t3:decide (t>9007199254740991)=true:=decide_eq_true h3;go_enter Tryz.func6,Tryz.ntmps6;go_wp2_with fail;refine (HC.out _).mono ?_;rintro e w1 ⟨rfl,hb1⟩;go_wp2_with fail;go_ret2;exact ⟨rfl,hb1⟩
  have t3:decide (t>9007199254740991)=false:=decide_eq_false h3
  by_cases h4:r<0
  ·clear hc h1
   have t4:decide (r<0)=true:=decide_eq_true h4;go_enter Tryz.func6,Tryz.ntmps6;go_wp2_with fail;refine (HC.out _).mono ?_;rintro e w1 ⟨rfl,hb1⟩;go_wp2_with fail;go_ret2;exact ⟨rfl,hb1⟩
  have t4:decide (r<0)=false:=decide_eq_false h4;have h5:8<r:=by
   unfold Qwi at hc
   by_cases h5:8<r
   ·exact h5
   ·rw [if_neg (by rintro (h|h|h|h|h);exact h h1;exact h2 h;exact h3 h;exact h4 h;exact h5 h)] at hc
    exact absurd rfl hc
  have t5:decide (r>8)=true:=decide_eq_true h5;clear hc h1;go_enter Tryz.func6,Tryz.ntmps6;go_wp2_with fail;refine (HC.out _).mono ?_;rintro e w1 ⟨rfl,hb1⟩;go_wp2_with fail;go_ret2;exact ⟨rfl,hb1⟩
 ·rw [Qu2 _ _ h1] at HC
  clear hc h1;go_enter Tryz.func6,Tryz.ntmps6;go_wp2_with fail;refine (HC.out _).mono ?_;rintro e w1 ⟨rfl,hb1⟩;go_wp2_with fail;go_ret2;exact ⟨rfl,hb1⟩
theorem Qzk(hh hp:List UInt8)(t r:Int)(h:Qwi hh hp t r=0):Qg0 hh hp=0∧0≤t∧t≤9007199254740991∧0≤r∧r≤8:=by
 unfold Qwi at h;split at h
 ·exact absurd h (by decide)
 ·rename_i hq
  refine ⟨Classical.byContradiction fun e=>hq (.inl e),?_,?_,?_,?_⟩
  ·exact Int.not_lt.1 fun e=>hq (.inr (.inl e))
  ·exact Int.not_lt.1 fun e=>hq (.inr (.inr (.inl e)))
  ·exact Int.not_lt.1 fun e=>hq (.inr (.inr (.inr (.inl e))))
  ·exact Int.not_lt.1 fun e=>hq (.inr (.inr (.inr (.inr e))))
theorem Qtv(w0:World)(P:Nat)(hh hp:ByteArray)(t r:Int)(h p f:ByteArray)(rest:List Flt)(log:List Evt)(n:Nat)(rv lv:Value)(w:World)(k:KL w0 w P h p f rest log n rv lv)(hc:Qwi hh.data.toList hp.data.toList t r=0):Calls Tryz.prog 6 #[.pointer (some ⟨P,0,none⟩),.string hh,.string hp,.int .i64 t,.int .i64 r] w fun e w'=>∃ Cb,e = .returned (.tuple #[.pointer (some ⟨Cb,0,none⟩),.int .i64 0])∧FC w0 w' Cb P hh hp t r h p f rest log n 0 0 rv lv∧Below w.heap.size w w'∧w.heap.size≤Cb:=by
 have HC:=hid (fun w=>Qdl hp hh 0 0 w)
 rw [QhY] at HC;obtain ⟨h1,h2,h3,h4,h5⟩:=Qzk _ _ _ _ hc;rw [h1] at HC;have t2:decide (t<0)=false:=decide_eq_false (by omega)
 have t3:decide (t>9007199254740991)=false:=decide_eq_false (by omega)
 have t4:decide (r<0)=false:=decide_eq_false (by omega)
 have t5:decide (r>8)=false:=decide_eq_false (by omega)
 have HK:=hid k;clear hc h1 k;go_enter Tryz.func6,Tryz.ntmps6;go_wp2_with fail;refine (HC.out _).mono ?_;rintro e w1 ⟨rfl,hb1⟩;have HB1:=hid hb1;clear hb1;go_wp2_with fail;go_ret2;have hk1:=HK.out.step HB1.out;have hbn:Below w1.heap.size w1 (w1.alloc (.cells #[.pointer (some ⟨P,0,none⟩),.string hh,.string hp,.int .i64 t,.int .i64 r,.int .i64 0,.int .i64 0] 71)):=(Below.refl _ _).alloc (Nat.le_refl _) _;exact ⟨w1.heap.size,rfl,⟨hk1.step hbn,heap_alloc_new w1 _,hk1.bel.size⟩,Qaa HB1.out hbn,HB1.out.size⟩
end
section
open Go.RowKit
def QjC(a b t:Int):Nat:=if Qc9 a b≠0∨t≤b then 8 else if 65536<QaQ a b then 5 else 0
def GS(X Cb P:Nat)(hh hp:ByteArray)(t r a b:Int)(w:World):Prop:=(w.cell? ⟨X,0,none⟩=some (.int .i64 a)∧w.cell? ⟨X,1,none⟩=some (.int .i64 b))∧w.cell? ⟨Cb,0,none⟩=some (.pointer (some ⟨P,0,none⟩))∧w.cell? ⟨Cb,1,none⟩=some (.string hh)∧w.cell? ⟨Cb,2,none⟩=some (.string hp)∧w.cell? ⟨Cb,3,none⟩=some (.int .i64 t)∧w.cell? ⟨Cb,4,none⟩=some (.int .i64 r)
theorem Qzc{w:World}{X Cb P:Nat}{hh hp:ByteArray}{t r a b:Int}{x5 x6:Value}(hX:w.heap[X]?=some (.cells #[.int .i64 a,.int .i64 b] 67 (0,0)))(hC:w.heap[Cb]?=some (.cells #[.pointer (some ⟨P,0,none⟩),.string hh,.string hp,.int .i64 t,.int .i64 r,x5,x6] 71 (0,0))):GS X Cb P hh hp t r a b w:=by
 obtain ⟨⟨c0,c1,c2,c3,c4,-,-⟩,-⟩:=Qb3 hC;exact ⟨⟨by unfold World.cell?;rw [hX];rfl,by unfold World.cell?;rw [hX];rfl⟩,c0,c1,c2,c3,c4⟩
section
variable {w0 w:World} {Cb P:Nat} {hh hp h p f:ByteArray} {t r:Int} {rest:List Flt} {log:List Evt} {n asks last:Nat} {rv lv:Value}
theorem FC.range(k:FC w0 w Cb P hh hp t r h p f rest log n asks last rv lv)(a b:Int):∀ W,Below (w.alloc (.cells #[.int .i64 a,.int .i64 b] 67)).heap.size (w.alloc (.cells #[.int .i64 a,.int .i64 b] 67)) W→GS w.heap.size Cb P hh hp t r a b W:=fun W hW=>
 Qzc ((hW.block _ (by simp)).trans (heap_alloc_new w _)) ((k.step (Qaa (Qbq w _ _ _) hW)).c)
end
end
section
open Go.RowKit
theorem QvT(p h:List UInt8)(a b:Int)(he:QgE p h a b=0)(ha:a≤9223372036854775807)(hb:b≤9223372036854775807):(Qlo p h a b).length≤1000:=by
 have hg:=Qjv p h a b he ha hb;have h1:=(hg (Qcu p) (by simp)).2.2
 have h2:=(hg (Qdb h) (by simp)).2.2
 have h3:=(hg (Qdo a b) (by simp)).2.2
 unfold Qlo QcK QcK QcK QcK;simp only [List.length_append,List.length_cons,List.length_nil];omega
theorem Ql4(a b t:Int)(h:QjC a b t=0):Qc9 a b=0∧b<t∧QaQ a b≤65536:=by
 unfold QjC at h;split at h
 ·exact absurd h (by decide)
 ·rename_i hq
  split at h
  ·exact absurd h (by decide)
  ·rename_i hl
   exact ⟨Classical.byContradiction fun e=>hq (.inl e),Int.not_le.1 fun e=>hq (.inr e),Int.not_lt.1 hl⟩
theorem Qo3{w:World}{X Cb P:Nat}{hh hp:ByteArray}{t r a b:Int}{x5 x6:Value}(hX:w.heap[X]?=some (.cells #[.int .i64 a,.int .i64 b] 67 (0,0)))(hC:w.heap[Cb]?=some (.cells #[.pointer (some ⟨P,0,none⟩),.string hh,.string hp,.int .i64 t,.int .i64 r,x5,x6] 71 (0,0))):w.cell? ⟨X,0,none⟩=some (.int .i64 a)∧w.cell? ⟨X,1,none⟩=some (.int .i64 b)∧w.cell? ⟨Cb,0,none⟩=some (.pointer (some ⟨P,0,none⟩))∧w.cell? ⟨Cb,3,none⟩=some (.int .i64 t):=by
 obtain ⟨⟨x0,x1⟩,c0,-,-,c3,-⟩:=Qzc hX hC;exact ⟨x0,x1,c0,c3⟩
theorem x_ne{w:World}{X Cb:Nat}{A B:Array Value}(hX:w.heap[X]?=some (.cells A 67 (0,0)))(hC:w.heap[Cb]?=some (.cells B 71 (0,0))):X≠Cb:=fun e=>by
 rw [e,hC] at hX;simp only [Option.some.injEq,Obj.cells.injEq] at hX;exact absurd hX.2.1 (by decide)
theorem Qor{w w':World}{P Cb:Nat}{lv:Value}{o:Nat}(y:Value)(h:Touch (FS P Cb lv) w w'):Touch (FS P Cb lv) w (w'.setCell ⟨Cb,o,none⟩ y):=Qaf _ h (.inl (.inr rfl))
end
end Go.Proofs.YtilaebjndadkhaaGreatDoor
