/- What parts of the program compute: packed for TopReach. Conditions: none. -/
import Derived.Test.YtilaebjndadkhaaGreatDoorPz19
set_option linter.all false
set_option maxRecDepth 100000
set_option maxHeartbeats 8000000
open Go.Lib (hid)
namespace Go.Proofs.YtilaebjndadkhaaGreatDoor
section
open Go.RowKit
def QwU(w0 w wr:World)(A:Adr)(C:Con)(N:Net)(id d:Nat)(v:Value)(E:Nat):Prop:=
 ∃ (lost:Nat) (N1:Net) (nx1:Nat) (kn1:Bool) (Z1:List (Key×Nat×List Ent)) (G:Nat),RdS w0 wr A C N1 nx1 kn1 Z1∧NetRun C.R N N1 G lost∧G≤d+1∧RdTouch A N N1 w wr∧
  ((lost=0∧E=0∧kn1=true∧Qcn C.F=0∧∃ l,HoldsE wr v l∧(∀ e∈l,Qbl e)∧l.length≤4096∧QpE C.F id=Qop C.F id (2-d) l)∨(lost=0∧E≠0∧QpE C.F id=(E,[],false))∨(lost=23∧E=23))
theorem QjT{w0 w:World}{A:Adr}{C:Con}{N:Net}{nx:Nat}{Z:List (Key×Nat×List Ent)}(k:RdS w0 w A C N nx true Z){K i o n r:Nat}(hx:w.heap[K]?=some (.cells #[.int .u64 (i:Nat),.int .u64 (o:Nat),.int .u32 (n:Nat),.int .u32 (r:Nat)] 86 (0,0))) :
  (w.cell? ⟨K,0,none⟩=some (.int .u64 (i:Nat))∧w.cell? ⟨K,1,none⟩=some (.int .u64 (o:Nat))∧w.cell? ⟨K,2,none⟩=some (.int .u32 (n:Nat))∧w.cell? ⟨K,3,none⟩=some (.int .u32 (r:Nat))∧w.cell? ⟨A.Rb,8,none⟩=some (.int .u64 ((Qb6 C.F).df:Nat))∧w.cell? ⟨A.Rb,9,none⟩=some (.int .u64 ((Qb6 C.F).dl:Nat)))∧
  (w.cell? ⟨K,0,none⟩=some (.int .u64 (i:Nat))∧w.cell? ⟨K,1,none⟩=some (.int .u64 (o:Nat))∧w.cell? ⟨K,2,none⟩=some (.int .u32 (n:Nat))∧w.cell? ⟨K,3,none⟩=some (.int .u32 (r:Nat))∧w.cell? ⟨A.Rb,6,none⟩=some (.int .u64 ((Qb6 C.F).lf:Nat))∧w.cell? ⟨A.Rb,7,none⟩=some (.int .u64 ((Qb6 C.F).ll:Nat))):=by
 obtain ⟨⟨a0,a1,a2,a3⟩,-⟩:=QaF hx;obtain ⟨-,-,b6,b7,b8,b9⟩:=k.cellH;exact ⟨⟨a0,a1,a2,a3,b8,b9⟩,⟨a0,a1,a2,a3,b6,b7⟩⟩
theorem QmZ{w0 w w1:World}{A:Adr}{C:Con}{N N1:Net}{id lost E nx1 G:Nat}{kn1:Bool}{Z1:List (Key×Nat×List Ent)}{v:Value}(hk:RdS w0 w1 A C N1 nx1 kn1 Z1)(hr:NetRun C.R N N1 G lost)(hg:G≤1)(ht:RdTouch A N N1 w w1)(hc:(lost=0∧E=(Qcn C.F,(Qc4 (Qdw C.F)).2).1∧(E=0→kn1=true∧w1.ownsRow w.heap.size 86 4 v (Qcn C.F,(Qc4 (Qdw C.F)).2).2.length (Qay (Qcn C.F,(Qc4 (Qdw C.F)).2).2)))∨(lost=23∧E=23)):QwU w0 w w1 A C N id 0 v E:=by
 refine ⟨lost,N1,nx1,kn1,Z1,G,hk,hr,by omega,ht,?_⟩
 rcases hc with ⟨h1,h2,h3⟩|h
 ·have h2:E=Qcn C.F:=h2
  by_cases hE:E=0
  ·obtain ⟨h4,h5⟩:=h3 hE
   have hr0:Qcn C.F=0:=by rw [←h2];exact hE
   obtain ⟨q1,q2,-⟩:=Qn8 _ (Qkh _ hr0).2;refine .inl ⟨h1,hE,h4,hr0,_,HoldsR.of_own h5,q1,q2,?_⟩;unfold QpE;rw [if_neg (fun x=>x hr0)]
  ·refine .inr (.inl ⟨h1,hE,?_⟩)
   unfold QpE;rw [if_pos (by rw [←h2];exact hE),h2]
 ·exact .inr (.inr h)
theorem Qnj{w0 w:World}{A:Adr}{C:Con}{N:Net}{nx:Nat}{kn:Bool}{Z:List (Key×Nat×List Ent)}(k:RdS w0 w A C N nx kn Z)(hE:EnvT w0)(hC:C.Ok)(hN:N.Ok)(hNb:N.lg.length≤800000∧N.n≤800000∧N.a≤800000)(id:Nat) :
  Calls Tryz.prog 10 #[.pointer (some ⟨A.Rb,0,none⟩),.int .u64 id] w (QAm w0 w A C N (QpE C.F id) 3):=by
 have HRt:=hid (Qng k hE hC hN);have c0:=k.cellC;have HLT:=hid k.lts;have HH:=hid (And.intro hE (And.intro hC (And.intro hN hNb)));clear k hE hC hN hNb;go_enter Tryz.func10,Tryz.ntmps10;go_wp2_with fail;refine HRt.out.mono ?_;rintro e w1 ⟨lost,E,v,N1,nx1,kn1,Z1,G,rfl,hk,hr,hg,hc,ht⟩;have HS:=hid (QmZ (id:=id) hk hr hg ht hc);have HW:=hid ht.t.size;clear hk hr hg hc ht HRt c0;go_wp2_with fail;go_loopw [7,8,9] (fun u7 u8 u9 wr=>∃ d E:Nat,d≤2∧u8 = .int .i64 (E:Nat)∧u9 = .int .i64 ((d:Int)+1)∧Hid (QwU w0 w wr A C N id d u7 E)∧Hid (w.heap.size≤wr.heap.size)) (fun _ _ u9 _=>4-(intOf u9).toNat)
 case atStart=>exact ⟨0,E,by omega,rfl,rfl,HS,HW⟩
 case round=>
  clear HS HW;obtain ⟨d,E,hd,rfl,rfl,HS,HW⟩:=hrel
  by_cases hE0:E=0
  ·subst hE0
   obtain ⟨lost,N1,nx1,kn1,Z1,G,hk,hr,hg,ht,hcs⟩:=HS.out;obtain ⟨rfl,rfl,hro,l,hl1,hl2,hl3,hl4⟩:lost=0∧kn1=true∧Qcn C.F=0∧∃ l,HoldsE wr u7 l∧(∀ e∈l,Qbl e)∧l.length≤4096∧QpE C.F id=Qop C.F id (2-d) l:=by
    rcases hcs with ⟨a,-,c,d,e⟩|⟨-,h,-⟩|⟨-,h⟩
    ·exact ⟨a,c,d,e⟩
    ·exact absurd rfl h
    ·cases h
   have HK:=hid hk;have HR:=hid hr;have HG:=hid hg;have HT:=hid ht;have HFd:=QrK u7 l id wr hl1 hl2 hl3;have HL:=hid (And.intro hro (And.intro hl2 hl4));obtain ⟨a7,c7,hu7,hle7⟩:=HoldsR.len hl1;subst hu7;clear hcs HS hk hr hg ht hro hl1 hl2 hl3 hl4 hle7;cases hf:QeU l id with
   |none=>
    rw [hf] at HFd;have HFd:=hid HFd;have HF:=hid hf;unfold Qx9 at HFd;clear hf;go_wp2_with fail;refine HFd.out.mono ?_;rintro e w2 ⟨rfl,hb2⟩;have HB2:=hid hb2;clear hb2;go_wp2_with fail;go_ret3;have hbx:Below w2.heap.size w2 (w2.alloc (.cells #[.int .u64 0,.int .u64 0,.int .u32 0,.int .u32 0] 86)):=(Below.refl _ _).alloc (Nat.le_refl _) _;have hw:Qop C.F id (2-d) l=(0,[],false):=Qur _ _ _ _ HF.out;refine ⟨0,0,⟨#[]⟩,false,N1,nx1,true,Z1,G,rfl,(HK.out.below HB2.out).below hbx,HR.out,by have:=HG.out;omega,fun _ _=>by have:=HG.out;omega,.inl ⟨rfl,?_,?_,?_⟩,(HT.out.trans (RdTouch.of_below A N1 HB2.out)).trans (RdTouch.of_below A N1 hbx)⟩
    ·rw [HL.out.2.2,hw]
    ·rw [HL.out.2.2,hw]
    ·rw [HL.out.2.2,hw]
   |some x=>
    rw [hf] at HFd;obtain ⟨i,o,n,r⟩:=x;have HFd:=hid HFd;unfold Qx9 at HFd;obtain ⟨QBm,hck⟩:=Qtu l id _ hf;have hokx:=HL.out.2.1 _ QBm;obtain ⟨x1,x2,-⟩:=Qix _ hck;have QAK:Qdr=1099511627776:=rfl;have x2:o+n≤1099511627776:=by rw [←QAK];exact x2
    obtain ⟨s1,s2,s3,s4,s5⟩:=QyS C HL.out.1;have HX:=hid (And.intro hck (And.intro hokx (And.intro x1 (And.intro x2 (And.intro s4 s5)))));have HF:=hid hf;have hN1:N1.Ok:=by
     obtain ⟨-,hC,hN,h1,h2,h3⟩:=HH.out;have hg4:G*(C.R+1)≤3*9:=Nat.mul_le_mul (by have:=HG.out;omega) (by have:=hC.R;omega)
     exact hN.run HR.out (by omega)
    have HN1:=hid hN1;have hrr:r<4294967296:=hokx.2.2.2;have hfb:=HH.out.2.1.f;clear hf QBm hck hokx x1 QAK hN1 s1 s2 s3;go_wp2_with fail;refine HFd.out.mono ?_;rintro e w2 ⟨rfl,hb2⟩;have HB2:=hid (Qaa hb2 (QaJ w2 (.int .u64 (i:Nat)) (.int .u64 (o:Nat)) (.int .u32 (n:Nat)) (.int .u32 (r:Nat)) 86));have HE2:=hid (heap_alloc_new w2 (.cells #[.int .u64 (i:Nat),.int .u64 (o:Nat),.int .u32 (n:Nat),.int .u32 (r:Nat)] 86));have HK2:=hid hb2.size;clear hb2 HFd;go_upto_region 8 with fail
    generalize w2.alloc (.cells #[.int .u64 (i:Nat),.int .u64 (o:Nat),.int .u32 (n:Nat),.int .u32 (r:Nat)] 86)=W3 at HB2 HE2 ⊢;generalize w2.heap.size=K at HE2 HK2 ⊢;have HR3:=hid (HK.out.below HB2.out);have HT3:=hid (HT.out.trans (RdTouch.of_below A N1 HB2.out));obtain ⟨⟨e0,e1,e2,e3⟩,-⟩:=QaF HE2.out
    by_cases hr0:0<r
    ·have tr:decide ((r:Int)>0)=true:=decide_eq_true (by omega)
     have tr2:decide (0<r)=true:=decide_eq_true hr0;have HV:=hid (Quq C.F id (2-d) l _ HF.out hr0);obtain ⟨p,hp⟩:∃ p,(Qb6 C.F).df=p:=⟨_,rfl⟩;obtain ⟨q,hq⟩:∃ q,(Qb6 C.F).dl=q:=⟨_,rfl⟩;have HPQ:=hid (And.intro hp hq);have HTl:Hid (∀ W,Below W3.heap.size W3 W→Calls Tryz.prog 24 #[.pointer (some ⟨A.Rb,0,none⟩),.agg #[.int .u64 i,.int .u64 o,.int .u32 n,.int .u32 r,.int .u64 p,.int .u64 q,.int .u32 65536]] W (QwV w0 W A C N1 nx1 true Z1 (Qlt C p q (i,o,n,r)))):=hid (fun W hW=>Qnf (HR3.out.below hW) HH.out.1 HH.out.2.1 HN1.out i o n r p q HX.out.1 (by rw [←hp,←hq];exact HX.out.2.2.2.2.2))
     have HD:Hid (Below W3.heap.size W3 W3.drew):=hid (Below.refl _ _).drew;have HSD:Hid (W3.drew.cell? ⟨K,0,none⟩=some (.int .u64 (i:Nat))∧W3.drew.cell? ⟨K,1,none⟩=some (.int .u64 (o:Nat))∧W3.drew.cell? ⟨K,2,none⟩=some (.int .u32 (n:Nat))∧W3.drew.cell? ⟨K,3,none⟩=some (.int .u32 (r:Nat))∧W3.drew.cell? ⟨A.Rb,8,none⟩=some (.int .u64 (p:Nat))∧W3.drew.cell? ⟨A.Rb,9,none⟩=some (.int .u64 (q:Nat))):=hid (by have:=(QjT (HR3.out.below HD.out) (Qae HE2.out HD.out)).1;rw [hp,hq] at this;exact this)
     clear hr0 hp hq s4 s5;go_upto_region 11 with fail
     go_region_held3 (fun w'=>w'.cell? ⟨K,0,none⟩=some (.int .u64 (i:Nat))∧w'.cell? ⟨K,1,none⟩=some (.int .u64 (o:Nat))∧w'.cell? ⟨K,2,none⟩=some (.int .u32 (n:Nat))∧w'.cell? ⟨K,3,none⟩=some (.int .u32 (r:Nat))∧w'.cell? ⟨A.Rb,8,none⟩=some (.int .u64 (p:Nat))∧w'.cell? ⟨A.Rb,9,none⟩=some (.int .u64 (q:Nat))) (first|exact HSD.out|exact HSX.out)
      (first
       |(go_at_call 24;refine (HTl.out _ HD.out).mono ?_;rintro e w4 ⟨lost,E,S,b,N',G',rfl,q1,q2,q3,q4,q5,q6⟩;have HQ:=hid (And.intro q1 (And.intro q2 (And.intro q3 (And.intro q4 (And.intro q5 q6)))));have HSX:Hid (w4.cell? ⟨K,0,none⟩=some (.int .u64 (i:Nat))∧w4.cell? ⟨K,1,none⟩=some (.int .u64 (o:Nat))∧w4.cell? ⟨K,2,none⟩=some (.int .u32 (n:Nat))∧w4.cell? ⟨K,3,none⟩=some (.int .u32 (r:Nat))∧w4.cell? ⟨A.Rb,8,none⟩=some (.int .u64 (p:Nat))∧w4.cell? ⟨A.Rb,9,none⟩=some (.int .u64 (q:Nat))):=hid (by
         have hx3:W3.drew.heap[K]?=some (.cells #[.int .u64 (i:Nat),.int .u64 (o:Nat),.int .u32 (n:Nat),.int .u32 (r:Nat)] 86 (0,0)):=HE2.out;have hx4:=(q6.stays (gsi hx3).1 (fun hs=>by have:=HK.out.lts K hs;have:=HK2.out;omega)).trans hx3
         have:=(QjT q1 hx4).1;rw [HPQ.out.1,HPQ.out.2] at this;exact this);clear q1 q2 q3 q4 q5 q6))
     all_goals
      go_wp2_with fail;go_ret3;obtain ⟨q1,q2,q3,q4,q5,q6⟩:=HQ.out;refine ⟨lost,E,S,b,N',nx1,true,Z1,G+G',rfl,q1,HR.out.trans q2,by have:=HG.out;omega,fun h1 h2=>by have:=HG.out;have:=q4 h1 h2;omega,?_,(HT3.out.trans (RdTouch.of_below A N1 HD.out)).trans q6⟩
      rw [HL.out.2.2,HV.out,HPQ.out.1,HPQ.out.2];exact q5
    ·obtain rfl:r=0:=by omega
     have tr:decide (((0:Nat):Int)>0)=false:=decide_eq_false (by omega)
     clear hr0
     by_cases hd2:d=2
     ·subst hd2
      have HV:=hid (Qus C.F id l _ HF.out rfl);clear s4 s5;go_wp2_with fail;go_ret3;refine ⟨0,20,⟨#[]⟩,false,N1,nx1,true,Z1,G,rfl,HR3.out,HR.out,by have:=HG.out;omega,fun _ _=>by have:=HG.out;omega,.inl ⟨rfl,?_,?_,?_⟩,HT3.out⟩
      ·rw [HL.out.2.2,HV.out]
      ·rw [HL.out.2.2,HV.out]
      ·rw [HL.out.2.2,HV.out]
     ·have td:((d:Int)+1==3)=false:=by rw [beq_eq_false_iff_ne];omega
      obtain ⟨c,hc⟩:∃ c,2-d=c+1:=⟨1-d,by omega⟩
      have HV:=hid (QyL C.F id c l _ HF.out rfl);obtain ⟨p,hp⟩:∃ p,(Qb6 C.F).lf=p:=⟨_,rfl⟩;obtain ⟨q,hq⟩:∃ q,(Qb6 C.F).ll=q:=⟨_,rfl⟩;have HPQ:=hid (And.intro hp (And.intro hq (And.intro hc hd2)));rw [hp,hq] at s4;have HSL:Hid (∀ W,Below W3.heap.size W3 W→W.cell? ⟨K,0,none⟩=some (.int .u64 (i:Nat))∧W.cell? ⟨K,1,none⟩=some (.int .u64 (o:Nat))∧W.cell? ⟨K,2,none⟩=some (.int .u32 (n:Nat))∧W.cell? ⟨K,3,none⟩=some (.int .u32 ((0:Nat):Int))∧W.cell? ⟨A.Rb,6,none⟩=some (.int .u64 (p:Nat))∧W.cell? ⟨A.Rb,7,none⟩=some (.int .u64 (q:Nat))):=hid (fun W hW=>by
       have:=(QjT (HR3.out.below hW) (Qae HE2.out hW)).2;rw [hp,hq] at this;exact this)
      have HD:Hid (Below W3.heap.size W3 W3.drew):=hid (Below.refl _ _).drew;have HSD:=hid (HSL.out _ HD.out);have HA:Hid (Below W3.heap.size W3 ((W3.drew).alloc (.cells #[.int .u64 (i:Nat),.int .u64 (o:Nat),.int .u32 (n:Nat),.int .u32 ((0:Nat):Int),.int .u64 (p:Nat),.int .u64 (q:Nat),.int .u32 65536] 91))):=hid (HD.out.alloc HD.out.size _);clear hp hq hc hd2;go_upto_region 14 with fail
      clear e0 e1 e2 e3;go_region_held3 (fun w'=>w'.cell? ⟨K,0,none⟩=some (.int .u64 (i:Nat))∧w'.cell? ⟨K,1,none⟩=some (.int .u64 (o:Nat))∧w'.cell? ⟨K,2,none⟩=some (.int .u32 (n:Nat))∧w'.cell? ⟨K,3,none⟩=some (.int .u32 ((0:Nat):Int))∧w'.cell? ⟨A.Rb,6,none⟩=some (.int .u64 (p:Nat))∧w'.cell? ⟨A.Rb,7,none⟩=some (.int .u64 (q:Nat))) (first|exact HSD.out|exact HSL.out _ ((Below.refl _ _).alloc (Nat.le_refl _) _)|exact HSL.out _ (HD.out.alloc HD.out.size _)) (fail)
      have HX4:Hid (((W3.alloc (.cells #[.int .u64 (i:Nat),.int .u64 (o:Nat),.int .u32 (n:Nat),.int .u32 0,.int .u64 (p:Nat),.int .u64 (q:Nat),.int .u32 65536] 91)).drew).heap[W3.heap.size]?=some (.cells #[.int .u64 (i:Nat),.int .u64 (o:Nat),.int .u32 (n:Nat),.int .u32 0,.int .u64 (p:Nat),.int .u64 (q:Nat),.int .u32 65536] 91 (0,0))):=hid (heap_alloc_new W3 _);have HB4:Hid (Below W3.heap.size W3 ((W3.alloc (.cells #[.int .u64 (i:Nat),.int .u64 (o:Nat),.int .u32 (n:Nat),.int .u32 0,.int .u64 (p:Nat),.int .u64 (q:Nat),.int .u32 65536] 91)).drew)):=hid (((Below.refl _ _).alloc (Nat.le_refl _) _).drew);generalize (W3.alloc (.cells #[.int .u64 (i:Nat),.int .u64 (o:Nat),.int .u32 (n:Nat),.int .u32 0,.int .u64 (p:Nat),.int .u64 (q:Nat),.int .u32 65536] 91)).drew=W4 at HX4 HB4 ⊢;generalize W3.heap.size=Y at HX4 ⊢;have HR4:=hid (HR3.out.below HB4.out);have HT4:=hid (HT3.out.trans (RdTouch.of_below A N1 HB4.out));clear HSD HA HSL HD;obtain ⟨c0,c1,c2,c3,c4,c5,c6⟩:=Qge HX4.out;obtain ⟨P,hP⟩:∃ P,Qda q 65536 (i,o,n,0)=P:=⟨_,rfl⟩;have HWr:Hid (∀ W,Calls Tryz.prog 25 #[.agg #[.int .u64 (i:Nat),.int .u64 (o:Nat),.int .u32 (n:Nat),.int .u32 0,.int .u64 (p:Nat),.int .u64 (q:Nat),.int .u32 65536]] W fun e w'=>e = .returned (.int .i64 (P:Nat))∧Below W.heap.size W w'):=hid (fun W=>by
       have:=Qjk i o n 0 p q 65536 (by omega) W
       rw [hP] at this;exact this)
      have HKy:Hid (∀ W,Calls Tryz.prog 27 #[.agg #[.int .u64 (i:Nat),.int .u64 (o:Nat),.int .u32 (n:Nat),.int .u32 0,.int .u64 (p:Nat),.int .u64 (q:Nat),.int .u32 65536]] W fun e w'=>e = .returned (.agg #[.int .u64 ((p+o:Nat):Int),.int .u64 (n:Nat)])∧Below W.heap.size W w'):=hid (fun W=>Qoy i o n 0 p q 65536 (by omega) (by omega) W)
      have HPe:=hid hP;clear hP;go_wp2_with fail;refine (HWr.out _).mono ?_;rintro e w5 ⟨rfl,hb5⟩;have HR5:=hid (HR4.out.below hb5);have HT5:=hid (HT4.out.trans (RdTouch.of_below A N1 hb5));have HX5:=hid (Qae HX4.out hb5);have HW5:Hid (w.heap.size≤w5.heap.size):=hid HT5.out.t.size;clear hb5 c0 c1 c2 c3 c4 c5 c6 HX4 HR4 HT4 HB4;have tw:IntKind.i64.wrap ((d:Int)+1+1)=(d:Int)+1+1:=by rw [IntKind.wrap_i64];omega
      by_cases hP:P=0
      ·subst hP
       obtain ⟨p1,p2⟩:=Qoz _ _ _ HPe.out;have p1:o+n≤q:=p1;have p2:n≤65536:=p2;obtain ⟨T,hT⟩:∃ T,Qc4 (Qd8 C.F (p+o) n)=T:=⟨_,rfl⟩;have HDi:Hid (∀ W,Below w5.heap.size w5 W→Calls Tryz.prog 26 #[.pointer (some ⟨A.Rb,0,none⟩),.agg #[.int .u64 ((p+o:Nat):Int),.int .u64 (n:Nat)]] W (Qwz w0 W A C N1 T)):=hid (fun W hW=>by
        have:=Qd3 (HR5.out.below hW) HH.out.1 HH.out.2.1 HN1.out (p+o,n) HX.out.2.2.1 (by show p+o+n≤C.f.size;omega) p2
        rw [show Qc4 (Qd8 C.F (p+o,n).1 (p+o,n).2)=T from hT] at this;exact this)
       have HTe:=hid hT;obtain ⟨c0,c1,c2,c3,c4,c5,c6⟩:=Qge HX5.out;clear p1 p2 hT;go_wp2_with fail;refine (HKy.out _).mono ?_;rintro e w6 ⟨rfl,hb6⟩;have HD6:=hid (HDi.out _ hb6);have HT6:=hid (HT5.out.trans (RdTouch.of_below A N1 hb6));clear hb6 c0 c1 c2 c3 c4 c5 c6;go_wp2_with fail;refine HD6.out.mono ?_;rintro e w7 ⟨lost,E',v',N',nx',kn',Z',G',rfl,q1,q2,q3,q4,q5⟩;have HQ:=hid (And.intro q1 (And.intro q2 (And.intro q3 (And.intro q4 q5))));clear q1 q2 q3 q4 q5;go_wp2_with fail;go_roundw
       case rel=>
        refine ⟨d+1,E',by have:=HPQ.out.2.2.2;omega,rfl,by go_num,?_,?_⟩
        ·obtain ⟨q1,q2,q3,q4,q5⟩:=HQ.out
         refine hid ⟨lost,N',nx',kn',Z',G+G',q1,HR.out.trans q2,by have:=HG.out;omega,HT6.out.trans q5,?_⟩
         have hcc:2-(d+1)=c:=by have:=HPQ.out.2.2.1;omega
         have hv:=HV.out;rw [HPQ.out.1,HPQ.out.2.1,if_neg (fun x=>x HPe.out)] at hv
         have hlw:=HL.out.2.2;rw [HPQ.out.2.2.1,hv] at hlw;rcases q4 with ⟨z1,z2,z3⟩|z
         ·by_cases hE':E'=0
          ·obtain ⟨z4,z5⟩:=z3 hE'
           have hT0:(Qc4 (Qd8 C.F (p+o) n)).1=0:=by rw [HTe.out,←z2];exact hE'
           obtain ⟨d1,d2,-⟩:=Qn8 _ hT0;rw [if_neg (fun x=>x hT0)] at hlw
           refine .inl ⟨z1,hE',z4,HL.out.1,(Qc4 (Qd8 C.F (p+o) n)).2,?_,d1,d2,by rw [hcc];exact hlw⟩
           rw [HTe.out];exact HoldsR.of_own z5
          ·have hT0:(Qc4 (Qd8 C.F (p+o) n)).1≠0:=by rw [HTe.out,←z2];exact hE'
           rw [if_pos hT0,HTe.out,←z2] at hlw;exact .inr (.inl ⟨z1,hE',hlw⟩)
         ·exact .inr (.inr z)
        ·exact hid (Nat.le_trans HT6.out.t.size HQ.out.2.2.2.2.t.size)
       case measure=>simp [intOf];omega
      ·have tP:((P:Int)==0)=false:=by rw [beq_eq_false_iff_ne];omega
       have HP0:=hid hP;clear hP;go_wp2_with fail;go_roundw
       case rel=>
        refine ⟨d+1,P,by have:=HPQ.out.2.2.2;omega,rfl,by go_num,?_,HW5⟩
        refine hid ⟨0,N1,nx1,true,Z1,G,HR5.out,HR.out,by have:=HG.out;omega,HT5.out,.inr (.inl ⟨rfl,HP0.out,?_⟩)⟩
        have hv:=HV.out;rw [HPQ.out.1,HPQ.out.2.1,if_pos (by rw [HPe.out];exact HP0.out),HPe.out] at hv
        have hlw:=HL.out.2.2;rw [HPQ.out.2.2.1,hv] at hlw;exact hlw
       case measure=>simp [intOf];omega
  ·have tE:((E:Int)==0)=false:=by rw [beq_eq_false_iff_ne];omega
   have HE0:=hid hE0;clear hE0;go_wp2_with fail;go_ret3;obtain ⟨lost,N1,nx1,kn1,Z1,G,hk,hr,hg,ht,hcs⟩:=HS.out;refine ⟨lost,E,⟨#[]⟩,false,N1,nx1,kn1,Z1,G,rfl,hk,hr,by omega,fun _ _=>by omega,?_,ht⟩
   rcases hcs with ⟨-,h,-⟩|⟨h1,-,h2⟩|⟨h1,h2⟩
   ·exact absurd h HE0.out
   ·exact .inl ⟨h1,by rw [h2],by rw [h2],by rw [h2]⟩
   ·exact .inr ⟨h1,h2,rfl,rfl⟩
end
section
open Go.RowKit
def Qug(W:World)(v:Value)(ids:List Nat):Prop:=HoldsR 1 W v ids.length (ids.map fun n=>Value.int .u64 (n:Nat))∧ids.length≤maxLen∧∀ x∈ids,x<18446744073709551616
def QyG(r m:Int):Bool:=decide (0≤r)&&(decide (r≤8)&&(decide (0≤m)&&decide (m≤64)))
theorem QwG(s:ByteArray)(r m:Int)(h:QyG r m=false)(w:World):Calls Tryz.prog 8 #[.agg #[.string s,.int .i64 r,.int .i64 m]] w fun e w'=>e = .returned (.bool false)∧Below w.heap.size w w':=by
 obtain ⟨c0,c1,c2⟩:=Qrq w (.string s) (.int .i64 r) (.int .i64 m) 39;have HB:=hid (QbR w (.string s) (.int .i64 r) (.int .i64 m) 39)
 by_cases h1:0≤r
 ·have t1:decide (r≥0)=true:=decide_eq_true h1
  by_cases h2:r≤8
  ·have t2:decide (r≤8)=true:=decide_eq_true h2
   by_cases h3:0≤m
   ·have t3:decide (m≥0)=true:=decide_eq_true h3
    have h4:¬m≤64:=by
     intro h4;unfold QyG at h;rw [decide_eq_true h1,decide_eq_true h2,decide_eq_true h3,decide_eq_true h4] at h;cases h
    have t4:decide (m≤64)=false:=decide_eq_false h4;clear h h1 h2 h3 h4;go_enter Tryz.func8,Tryz.ntmps8;go_wp2_with fail;go_ret;exact ⟨rfl,HB.out⟩
   ·have t3:decide (m≥0)=false:=decide_eq_false h3
    clear h h1 h2 h3;go_enter Tryz.func8,Tryz.ntmps8;go_wp2_with fail;go_ret;exact ⟨rfl,HB.out⟩
  ·have t2:decide (r≤8)=false:=decide_eq_false h2
   clear h h1 h2;go_enter Tryz.func8,Tryz.ntmps8;go_wp2_with fail;go_ret;exact ⟨rfl,HB.out⟩
 ·have t1:decide (r≥0)=false:=decide_eq_false h1
  clear h h1;go_enter Tryz.func8,Tryz.ntmps8;go_wp2_with fail;go_ret;exact ⟨rfl,HB.out⟩
def Qul:Prop:=∀ W,EnvT W→Calls Tryz.prog 4 #[] W fun e w'=>e = .returned (.bool true)∧Below W.heap.size W w'
def hO:ByteArray:=⟨#[104]⟩
def pO:ByteArray:=⟨#[47]⟩
theorem QzX:Qg0 hO.data.toList pO.data.toList=0:=by decide +kernel
theorem Qyp(t r:Int)(h0:0≤t)(h1:t≤9007199254740991)(h2:0≤r)(h3:r≤8):Qwi hO.data.toList pO.data.toList t r=0:=by
 unfold Qwi;rw [if_neg];rintro (h|h|h|h|h)
 ·exact h QzX
 all_goals omega
theorem Qwh(t r:Int)(h:r<0∨8<r):Qwi hO.data.toList pO.data.toList t r≠0:=by
 unfold Qwi;rw [if_pos (by rcases h with h|h;exact .inr (.inr (.inr (.inl h)));exact .inr (.inr (.inr (.inr h))))]
 decide
def Qok(w0 w:World)(A:Adr)(C:Con)(k:Nat):Prop:=
 ∃ (N:Net) (nx:Nat) (kn:Bool) (Z:List (Key×Nat×List Ent)),RdS w0 w A C N nx kn Z∧N.l = []∧N.last=0∧N.n=0∧N.lg.length=N.a∧N.a≤4*k
theorem QjY(f:ByteArray)(r0 r1:Int)(v:Value)(ids:List Nat)(w:World)(hE:EnvT w)(hf:f.size≤maxLen)(hv:Qug w v ids)(hA:Qul) :
  Calls Tryz.prog 3 #[.string f,.agg #[.int .i64 r0,.int .i64 r1],v] w fun e w'=>e = .returned (.bool true)∧Below w.heap.size w w':=by
 obtain ⟨hv1,hv2,hv3⟩:=hv;unfold maxLen at hf hv2;have hB0:=Qai w (.int .i64 r0) (.int .i64 r1) 22;obtain ⟨c0,c1⟩:=QaA w (.int .i64 r0) (.int .i64 r1) 22;have HX:=hid (heap_alloc_new w (.cells #[.int .i64 r0,.int .i64 r1] 22));have HB0:=hid hB0;have HE0:=hid (hE.below hB0);have HAw:=hid hA;have HV:=hid (And.intro (hv1.below hB0) hv3);obtain ⟨av,cv,hve,hvc⟩:=hv1.len;subst hve;clear hB0 hE hA hv1 hv3 hvc
 by_cases QAK:3000<f.size∨12<ids.length
 ·have HO:Hid ((decide ((f.size:Int)>3000)=true)∨((decide ((f.size:Int)>3000)=false)∧(decide ((ids.length:Int)>12)=true))):=hid (by
   by_cases h1:3000<f.size
   ·exact .inl (decide_eq_true (by omega))
   ·exact .inr ⟨decide_eq_false (by omega),decide_eq_true (by omega)⟩)
  clear QAK;rcases HO.out with t1|⟨t1,t2⟩
  all_goals
   clear HO;go_enter Tryz.func3,Tryz.ntmps3;go_wp2_with fail;refine (HAw.out _ HE0.out).mono ?_;rintro e w1 ⟨rfl,hb1⟩;have HB1:=hid (Qaa HB0.out hb1);clear hb1 c0 c1;go_wp2_with fail;go_ret;exact ⟨rfl,HB1.out⟩
 have hf3:f.size≤3000:=by omega
 have hi12:ids.length≤12:=by omega
 have t1:decide ((f.size:Int)>3000)=false:=decide_eq_false (by omega)
 have t2:decide ((ids.length:Int)>12)=false:=decide_eq_false (by omega)
 clear QAK;generalize hW0:w.alloc (.cells #[.int .i64 r0,.int .i64 r1] 22)=W0 at HX HB0 HE0 HV c0 c1;have HLn:=hid (Qvk hO pO f (.slice none 0 0) [] W0 QzX (HoldsC.empty _ _ _) (by decide))
 have HW0e:=hid hW0;clear hW0
 by_cases hr0:¬(0≤r0∧r0≤8)
 ·have QAP:r0<0∨8<r0:=by omega
  have hm:QyG r0 r1=false:=by
   unfold QyG;rcases QAP with h|h
   ·rw [decide_eq_false (by omega:¬0≤r0)];rfl
   ·rw [decide_eq_false (by omega:¬r0≤8)];simp
  have HM:=hid (fun s W=>QwG s r0 r1 hm W)
  have HCb:=hid (fun P W=>QkV P hO pO (f.size:Int) r0 W (Qwh _ _ QAP))
  clear hr0 QAP hm;go_enter Tryz.func3,Tryz.ntmps3;go_wp2_with fail;rw [HW0e.out];refine HLn.out.mono ?_;rintro e w1 hn1;obtain ⟨P,rv,rfl,-,-,hb1⟩:=KL.new (Below.refl _ _) hn1;have HB1:=hid hb1;obtain ⟨⟨d0,d1⟩,-⟩:=Qam (Qae HX.out hb1);clear hb1 c0 c1 hn1;go_wp2_with fail;refine (HCb.out _ _).mono ?_;rintro e w2 ⟨rfl,hb2⟩;have HB2:=hid (Qaa HB1.out hb2);have HX2:=hid (Qae HX.out HB2.out);clear hb2 d0 d1 HB1;obtain ⟨⟨d0,d1⟩,-⟩:=Qam HX2.out;go_wp2_with fail;refine (QiS r1 _).mono ?_;rintro e w3 ⟨rfl,hw⟩;obtain rfl:=hw.symm;clear hw;go_wp2_with fail;refine (HM.out _ _).mono ?_;rintro e w3 ⟨rfl,hb3⟩;have HB3:=hid (Qaa HB2.out hb3);clear hb3 d0 d1;go_wp2_with fail;refine (HAw.out _ (HE0.out.below HB3.out)).mono ?_;rintro e w4 ⟨rfl,hb4⟩;have HB4:=hid (Qaa HB0.out (Qaa HB3.out hb4));clear hb4;go_wp2_with fail;go_ret;exact ⟨rfl,HB4.out⟩
 obtain ⟨hr0a,hr0b⟩:0≤r0∧r0≤8:=Classical.not_not.1 hr0;clear hr0;obtain ⟨R,rfl⟩:=Int.eq_ofNat_of_zero_le hr0a;have hR:R≤8:=by omega
 have HFn:=hid (fun (P:Nat) (rv:Value) (W:World) (k:KL W0 W P hO pO f [] [] 0 rv (.slice none 0 0))=>Qtv W0 P hO pO (f.size:Int) (R:Int) hO pO f [] [] 0 rv (.slice none 0 0) W k (Qyp _ _ (by omega) (by omega) hr0a hr0b))
 by_cases hr1:¬(0≤r1∧r1≤64)
 ·have QAP:r1<0∨64<r1:=by omega
  have hm:QyG (R:Int) r1=false:=by
   unfold QyG;rcases QAP with h|h
   ·rw [decide_eq_false (by omega:¬0≤r1)];simp
   ·rw [decide_eq_false (by omega:¬r1≤64)];simp
  have HM:=hid (fun s W=>QwG s (R:Int) r1 hm W)
  have HCb:=hid (fun Cb W=>QiT Cb r1 QAP W)
  clear hr1 QAP hm hr0a hr0b hR;go_enter Tryz.func3,Tryz.ntmps3;go_wp2_with fail;rw [HW0e.out];refine HLn.out.mono ?_;rintro e w1 hn1;obtain ⟨P,rv,rfl,-,hk1,hb1⟩:=KL.new (Below.refl _ _) hn1;have HB1:=hid hb1;have HK1:=hid hk1;obtain ⟨⟨d0,d1⟩,-⟩:=Qam (Qae HX.out hb1);clear hb1 hk1 c0 c1 hn1;go_wp2_with fail;refine (HFn.out _ _ _ HK1.out).mono ?_;rintro e w2 ⟨Cb,rfl,-,hb2,-⟩;have HB2:=hid (Qaa HB1.out hb2);have HX2:=hid (Qae HX.out HB2.out);clear hb2 d0 d1 HB1;obtain ⟨⟨d0,d1⟩,-⟩:=Qam HX2.out;go_wp2_with fail;refine (HCb.out _ _).mono ?_;rintro e w3 ⟨rfl,hw⟩;obtain rfl:=hw.symm;clear hw;go_wp2_with fail;refine (HM.out _ _).mono ?_;rintro e w3 ⟨rfl,hb3⟩;have HB3:=hid (Qaa HB2.out hb3);clear hb3 d0 d1;go_wp2_with fail;refine (HAw.out _ (HE0.out.below HB3.out)).mono ?_;rintro e w4 ⟨rfl,hb4⟩;have HB4:=hid (Qaa HB0.out (Qaa HB3.out hb4));clear hb4;go_wp2_with fail;go_ret;exact ⟨rfl,HB4.out⟩
 obtain ⟨hr1a,hr1b⟩:0≤r1∧r1≤64:=Classical.not_not.1 hr1;clear hr1;obtain ⟨M,rfl⟩:=Int.eq_ofNat_of_zero_le hr1a;have hM:M≤64:=by omega
 have HC:Hid (Con.Ok ⟨hO,pO,f,R,M⟩):=hid ⟨hR,by show f.size≤20000;omega,QzX⟩
 have HRn:=hid (fun (Cb P:Nat) (rv:Value) (W:World) (k:FC W0 W Cb P hO pO (f.size:Int) (R:Int) hO pO f [] [] 0 0 0 rv (.slice none 0 0))=>QpX W0 W Cb P ⟨hO,pO,f,R,M⟩ ⟨[],[],0,0,0,rv,.slice none 0 0⟩ hM k)
 clear hr0a hr0b hr1a hr1b hR hM;go_enter Tryz.func3,Tryz.ntmps3;go_wp2_with fail;rw [HW0e.out];refine HLn.out.mono ?_;rintro e w1 hn1;obtain ⟨P,rv,rfl,-,hk1,hb1⟩:=KL.new (Below.refl _ _) hn1;have HB1:=hid hb1;have HK1:=hid hk1;obtain ⟨⟨d0,d1⟩,-⟩:=Qam (Qae HX.out hb1);clear hb1 hk1 c0 c1 hn1;go_wp2_with fail;refine (HFn.out _ _ _ HK1.out).mono ?_;rintro e w2 ⟨Cb,rfl,hk2,hb2,-⟩;have HB2:=hid (Qaa HB1.out hb2);have HK2:=hid hk2;have HX2:=hid (Qae HX.out HB2.out);clear hb2 hk2 d0 d1 HB1 HK1;obtain ⟨⟨d0,d1⟩,-⟩:=Qam HX2.out;go_wp2_with fail;refine (HRn.out _ _ _ _ HK2.out).mono ?_;rintro e w3 ⟨A,hAc,hAp,rfl,hk3,-⟩;subst hAc hAp;have HS3:Hid (Qok W0 w3 A ⟨hO,pO,f,R,M⟩ 0):=hid ⟨_,_,_,_,hk3,rfl,rfl,rfl,rfl,Nat.le_refl _⟩;clear hk3 d0 d1 HK2 HX2 HB2;go_wp2_with fail;go_loopw [13,14] (fun i _ wr=>∃ k:Nat,k≤ids.length∧i = .int .i64 k∧Hid (Qok W0 wr A ⟨hO,pO,f,R,M⟩ k)) (fun i _ _=>ids.length-(intOf i).toNat)
 case atStart=>exact ⟨0,Nat.zero_le _,rfl,HS3⟩
 case round=>
  clear HS3;obtain ⟨k,hk,rfl,HS⟩:=hrel
  by_cases hlt:k<ids.length
  ·obtain ⟨N,nx,kn,Z,hrd,n1,n2,n3,n4,n5⟩:=HS.out
   have HRd:=hid hrd;have HN:=hid (And.intro n1 (And.intro n2 (And.intro n3 (And.intro n4 n5))));have HAs:=hid (QdI hrd);have hbl:Below W0.heap.size W0 wr:=hrd.fc.k.bel;obtain ⟨bb,oo,cc,hvv,hle,hltb,Qao⟩:=(HV.out.1.below hbl).at (by omega)
   have y0:wr.cell? ⟨bb,oo+k,none⟩=some (.int .u64 ((ids[k]'hlt:Nat):Int)):=Qao k _ (by rw [List.getElem?_map,List.getElem?_eq_getElem hlt];rfl)
   obtain ⟨x,hx⟩:∃ x,ids[k]'hlt=x:=⟨_,rfl⟩;rw [hx] at y0;obtain ⟨rfl,rfl⟩:av=some ⟨bb,oo,none⟩∧cv=cc:=by injection hvv with a1 a2 a3;exact ⟨a1,a3⟩
   have hNok:N.Ok:=⟨(by rw [n1];intro x hx;cases hx),(by rw [n1];exact Nat.zero_le _),by omega,by omega,by omega⟩
   have HTi:=hid (Qnj hrd HE0.out HC.out hNok (by omega) x)
   clear hrd n1 n2 n3 n4 hbl hvv hle hltb Qao hx hNok;go_wp2_with fail;refine HAs.out.mono ?_;rintro e w4 ⟨rfl,hw⟩;obtain rfl:=hw.symm;clear hw;go_wp2_with fail;refine HTi.out.mono ?_;rintro e w5 ⟨lost,E,S,b,N',nx',kn',Z',G,rfl,hk5,QAw,hg,-,-,-⟩;obtain ⟨z1,z2,z3⟩:=QAw.z HN.out.1;subst z1;have hl0:N'.last=0:=QAw.e rfl HN.out.2.1;have HLa:=hk5.fc.lasts;rw [hl0] at HLa;have HLa:=hid HLa;have HAs5:=hid (QdI hk5);have HS5:Hid (Qok W0 w5 A ⟨hO,pO,f,R,M⟩ (k+1)):=hid ⟨N',nx',kn',Z',hk5,by rw [QAw.l,HN.out.1,List.drop_nil],hl0,by rw [z3];exact HN.out.2.2.1,by rw [QAw.lg,HN.out.2.2.2.1];have:=QAw.le;omega,by have:=HN.out.2.2.2.2;omega⟩
   have hna:N'.a=N.a+G:=z2;have ta:IntKind.i64.wrap ((N'.a:Int)-(N.a:Int))=(G:Int):=by rw [IntKind.wrap_i64,hna];omega
   have tb:decide ((G:Int)>4)=false:=decide_eq_false (by omega)
   have td:decide (4<G)=false:=decide_eq_false (by omega)
   have TT:=hid (And.intro hna hg);clear hk5 QAw hg z2 z3 hl0 HAs HRd HTi hna;go_wp2_with fail;refine HLa.out.mono ?_;rintro e w6 ⟨rfl,hw⟩;obtain rfl:=hw.symm;clear hw;go_wp2_with fail;refine HAs5.out.mono ?_;rintro e w6 ⟨rfl,hw⟩;obtain rfl:=hw.symm;clear hw;go_wp2_with fail;go_roundw
   case rel=>exact ⟨k+1,by omega,by go_num,HS5⟩
   case measure=>simp [intOf];omega
  ·obtain rfl:k=ids.length:=by omega
   obtain ⟨N,nx,kn,Z,hrd,n1,n2,n3,n4,n5⟩:=HS.out;have HAs:=hid (QdI hrd);have HLg:=hid (Qvl hrd.fc.k.a (by omega))
   have hha:=Qqm hrd.fc.k.a;have n3':N.n=0:=n3;rw [n3'] at hha;have HHa:=hid hha;have HB:=hid hrd.fc.k.bel;have HRd:=hid hrd;have te:((N.lg.length:Int)==(N.a:Int))=true:=by rw [n4];simp
   have HN:=hid n4;clear hha hrd n1 n2 n3 n3' n5 n4;go_wp2_with fail;refine HHa.out.mono ?_;rintro e w4 ⟨rfl,hw⟩;obtain rfl:=hw.symm;clear hw;go_wp2_with fail;refine HLg.out.mono ?_;rintro e w4 ⟨al,cl,rfl,-,hb4⟩;have HAs4:=hid (QdI (HRd.out.below hb4));have HB4:=hid (Qaa HB0.out (Qaa HB.out hb4));have HE4:=hid (HE0.out.below (Qaa HB.out hb4));clear hb4;go_wp2_with fail;refine HAs4.out.mono ?_;rintro e w5 ⟨rfl,hw⟩;obtain rfl:=hw.symm;clear hw;go_wp2_with fail;refine (HAw.out _ HE4.out).mono ?_;rintro e w6 ⟨rfl,hb6⟩;have HB6:=hid (Qaa HB4.out hb6);clear hb6;go_wp2_with fail;go_ret;exact ⟨rfl,HB6.out⟩
end
section
open Go.RowKit
def xB:ByteArray:=⟨#[120]⟩
def nB:ByteArray:=⟨#[123,125]⟩
def eA:Ent:=(0,0,1,1)
def HA:Hdr:=Qrm (Qy9 0) 127 5 132 2 134 0 134 1
def LA:List UInt8:=QiN HA++(QfQ [eA]++(nB.data.toList++xB.data.toList))
def FA:ByteArray:=bs LA
theorem QzQ:Qhp 0=0:=by decide +kernel
theorem QAk:QcF eA=0:=by decide +kernel
theorem QzK:(QfQ [eA]).length=5:=by decide +kernel
theorem Qzn:QjM HA=0:=by decide +kernel
theorem QzG:HdrOk HA:=by
 constructor<;>(unfold HA Qrm Qy9)<;>simp
theorem lenA:LA.length=135:=by
 unfold LA;simp only [List.length_append];rw [QkR,QzK];rfl
theorem Qw7:FA.size=135:=by unfold FA;rw [QaC,lenA]
theorem QxN:FA.data.toList=LA:=Qaj _
theorem Qzs:QmO LA=HA∧Qfj LA=0:=QvI HA Qzn (QzG.ad) (QzG.en) (QzG.co) _
theorem Qxr(a n:Nat):(FA.extract a (a+n)).data.toList=(LA.drop a).take n:=by rw [Qfb,QxN]
theorem arcA:OneArc FA HA 0 1 xB (FA.extract 127 (127+5)) (FA.extract 132 (132+2)) (FA.extract 134 (134+0)) where
 hs:=by rw [Qw7];omega
 hD:=by rw [QxN];exact Qzs.1
 hE:=by rw [QxN];exact Qzs.2
 hin:=fun k hk=>by
  rw [Qw7]
  match k,hk with
  |0,_=>exact (by decide:127+5≤135)
  |1,_=>exact (by decide:132+2≤135)
  |2,_=>exact (by decide:134+0≤135)
  |3,_=>exact (by decide:134+1≤135)
 e0:=rfl
 e1:=rfl
 e2:=rfl
 e3:=by
  show FA.extract 134 (134+1)=xB;rw [←Qcx (FA.extract 134 (134+1)),Qxr,show (LA.drop 134).take 1 = [120] by decide +kernel]
  rfl
 hroot:=by
  rw [Qxr,show (LA.drop 127).take 5=QfQ [eA] by decide +kernel]
  exact Qyk [eA] (Qfu _ QAk) (fun e he=>by rw [List.mem_singleton.1 he];exact ⟨by decide,by decide,by decide,by decide⟩) (by rw [QzK];omega)
 hp:=by
  have h:(FA.extract 127 (127+5)).data.toList.length=(FA.extract 127 (127+5)).size:=Qab _;rw [Qxr,List.length_take] at h;omega
theorem Qwo:Qul:=by
 intro w _;have HOf:Hid (∀ (b:Nat) W,b<W.heap.size→W.cell? ⟨b,0,none⟩=some (.int .u64 0)→W.cell? ⟨b,1,none⟩=some (.string ⟨#[120]⟩)→Calls Tryz.prog 14 #[.slice (some ⟨b,0,none⟩) 1 1] W (QiI 0 ⟨#[120]⟩ W)):=hid (fun b W hb c0 c1=>QgV 0 ⟨#[120]⟩ (by decide) (by decide) (by decide) b 0 1 W hb c0 c1)
 have HPr:Hid (∀ (B0 g c:Nat) W,OneItem 0 ⟨#[120]⟩ B0 (.slice (some ⟨g,0,none⟩) 1 c) W→Calls Tryz.prog 15 #[.agg #[.slice (some ⟨g,0,none⟩) 1 c],.agg #[.int .i64 512,.int .u8 0,.string ⟨#[123,125]⟩]] W fun e w'=>e = .returned (.tuple #[.string FA,.int .i64 0])∧Below W.heap.size W w'):=
  hid (fun B0 g c W hI=>Qr9 0 xB nB g c 512 B0 HA W (by decide) (by decide) (by decide) (by decide) (by decide) rfl rfl rfl QAk (by have:=QzK;show (QfQ [eA]).length≤512;omega) hI (by rw [QzQ];show HA=Qrm (Qy9 0) 127 (QfQ [eA]).length (127+(QfQ [eA]).length) 2 (127+(QfQ [eA]).length+2) 0 (127+(QfQ [eA]).length+2+0) 1;rw [QzK];rfl) QzG Qzn)
 have HRd:Hid (∀ W,Calls Tryz.prog 16 #[.string FA] W (QiI 0 ⟨#[120]⟩ W)):=hid (fun W=>QiY FA HA 0 1 xB _ _ _ W arcA QAk (by decide) rfl (by decide) (by decide))
 have hlen:((FA.size:Int)==135)=true:=by rw [Qw7];rfl
 generalize FA=F at HPr HRd hlen;have HSm:=hid (fun B1 B2 va vb W hA hB=>Qi7 0 ⟨#[120]⟩ B1 B2 va vb W hA hB)
 obtain ⟨W0,hW0⟩:∃ W0,w.alloc (.cells #[.int .u64 0,.string ⟨#[120]⟩] 54)=W0:=⟨_,rfl⟩;have hb0:Below w.heap.size w W0:=by rw [←hW0];exact (Below.refl _ _).alloc (Nat.le_refl _) _
 have k0:W0.heap[w.heap.size]?=some (.cells #[.int .u64 0,.string ⟨#[120]⟩] 54 (0,0)):=by rw [←hW0];exact heap_alloc_new w _
 have H0:=hid (And.intro hb0 k0);clear hb0 k0;go_enter Tryz.func4,Tryz.ntmps4;go_wp2_with fail;refine (HOf.out _ _ (gsi H0.out.2).1 (Qam H0.out.2).1.1 (Qam H0.out.2).1.2).mono ?_;rintro e w1 ⟨g,c,rfl,ho,hb1⟩;obtain ⟨V1,hV1⟩:∃ V1,w1.alloc (.cells #[.slice (some ⟨g,0,none⟩) 1 c] 50)=V1:=⟨_,rfl⟩;obtain ⟨N1,hN1⟩:∃ N1,w1.heap.size=N1:=⟨_,rfl⟩;have hbV:Below w1.heap.size w1 V1:=by rw [←hV1];exact (Below.refl _ _).alloc (Nat.le_refl _) _
 have kV:V1.heap[N1]?=some (.cells #[.slice (some ⟨g,0,none⟩) 1 c] 50 (0,0)):=by rw [←hV1,←hN1];exact heap_alloc_new w1 _
 have hI1:OneItem 0 ⟨#[120]⟩ W0.heap.size (.slice (some ⟨g,0,none⟩) 1 c) V1:=⟨g,c,rfl,Qad ho (fun k hk=>hbV.block k (ho.lt k hk).2)⟩
 have H1:=hid (And.intro (Qaa (Qaa H0.out.1 hb1) hbV) (And.intro kV hI1));obtain ⟨r1,-⟩:=Qb5 kV;clear ho hb1 hbV kV hI1 hW0;go_wp2_with fail;refine (HPr.out _ _ _ _ H1.out.2.2).mono ?_;rintro e w2 ⟨rfl,hb2⟩;have H2:=hid (And.intro (Qaa H1.out.1 hb2) (And.intro ((hb2.block _ (gsi H1.out.2.1).1).trans H1.out.2.1) (H1.out.2.2.below hb2)));clear hb2 hV1 hN1 r1;go_wp2_with fail;refine (HRd.out _).mono ?_;rintro e w3 ⟨g3,c3,rfl,ho3,hb3⟩;obtain ⟨V3,hV3⟩:∃ V3,w3.alloc (.cells #[.slice (some ⟨g3,0,none⟩) 1 c3] 50)=V3:=⟨_,rfl⟩;obtain ⟨N3,hN3⟩:∃ N3,w3.heap.size=N3:=⟨_,rfl⟩;have hbV:Below w3.heap.size w3 V3:=by rw [←hV3];exact (Below.refl _ _).alloc (Nat.le_refl _) _
 have kV:V3.heap[N3]?=some (.cells #[.slice (some ⟨g3,0,none⟩) 1 c3] 50 (0,0)):=by rw [←hV3,←hN3];exact heap_alloc_new w3 _
 have hI3:OneItem 0 ⟨#[120]⟩ w2.heap.size (.slice (some ⟨g3,0,none⟩) 1 c3) V3:=⟨g3,c3,rfl,Qad ho3 (fun k hk=>hbV.block k (ho3.lt k hk).2)⟩
 have hb23:=Qaa hb3 hbV;have k1:=(hb23.block _ (gsi H2.out.2.1).1).trans H2.out.2.1;have H3:=hid (And.intro (Qaa H2.out.1 hb23) (HSm.out _ _ _ _ V3 (H2.out.2.2.below hb23) hI3));obtain ⟨r1,-⟩:=Qb5 k1;obtain ⟨r3,-⟩:=Qb5 kV;clear ho3 hb3 hbV kV hI3 hb23 k1;go_wp2_with fail;refine (H3.out.2).mono ?_;rintro e w4 ⟨rfl,hb4⟩;have H4:=hid (Qaa H3.out.1 hb4);clear hb4;go_wp2_with fail;go_ret;exact ⟨rfl,H4.out⟩
end
section
open Go.RowKit
def renU:Go.Shelf.Ren:=⟨fun n=>n,fun|5=>5|119=>441|138=>443|139=>444|n=>n,fun|3=>2|4=>3|n=>n⟩
theorem u8t:U8Types Tryz.prog renU:=⟨Tryz.underlying5,Tryz.underlying441,Tryz.underlying443,Tryz.underlying444⟩
theorem u8x:U8Extra Tryz.prog renU:=⟨by kernel_rfl,by kernel_rfl,by kernel_rfl,by kernel_rfl,by kernel_rfl,by kernel_rfl,by kernel_rfl⟩
theorem Qoj:(Rows.laid_unicode_utf8_acceptRanges:DataW Unit)=Go.Lib.acceptData:=by kernel_rfl
theorem QnB{W:World}(h:W.ShapedOpen Tryz.prog):∃ m,W.cell? ⟨1,0,none⟩=some (.int .i64 m):=Tryz.laysM145.s1_3 W h
theorem Qgl{W:World}{g:Nat}{v:Value}(h:W.cell? ⟨g,0,none⟩=some v):g<W.heap.size:=World.block_lt_of_cell? _ _ h
theorem Qo9 : "*"++ "errors.errorString" = "*errors.errorString":=by decide
theorem Qyf(u:TypeId)(h:Tryz.prog.typeName? 3 u=some "*errors.errorString"):u=464:=
 typeName_ptr_named (nm:= "errors.errorString") (by rw [Qo9];kernel_rfl) (by kernel_rfl) (by decide) u (by rw [Qo9];exact h)
theorem Qzh{W:World}{rest:List (String×DataW Unit)}(h:laidMet Tryz.prog (("math/bits.deBruijn32tab",Rows.laid_math_bits_deBruijn32tab) :: ("math/bits.deBruijn64tab",Rows.laid_math_bits_deBruijn64tab) :: ("internal/strconv.uint64pow10",Rows.laid_internal_strconv_uint64pow10) :: ("unicode/utf8.acceptRanges",Rows.laid_unicode_utf8_acceptRanges) :: ("strconv.ErrRange",Rows.laid_strconv_ErrRange) :: rest) W)
  (hf:("unicode/utf8.first",Rows.laid_unicode_utf8_first)∈rest) (hsh:W.ShapedOpen Tryz.prog):EnvF W:=by
 have ht:Go.Lib.TabIs Tryz.prog W "internal/strconv.uint64pow10" .u64 Go.Lib.pow10Tab:=
  Go.Lib.tabIs_of_head (n:=20) (t:=498) (e:=43) QkS (by kernel_rfl) (by kernel_rfl) (by kernel_rfl) (by kernel_rfl) (by kernel_rfl) h.tail.tail
 have h3:Go.Lib.VarReads Tryz.prog W "unicode/utf8.first" Go.Lib.firstData:=by
  have:=Go.Lib.laidMet.reads h (n:= "unicode/utf8.first") (d:=Rows.laid_unicode_utf8_first) (by simp [hf])
  rwa [show (Rows.laid_unicode_utf8_first:DataW Unit)=Go.Lib.firstData from Pinned.utf8First_eq] at this
 have h4:Go.Lib.VarReads Tryz.prog W "unicode/utf8.acceptRanges" Go.Lib.acceptData:=by
  have:=Go.Lib.laidMet.reads h (n:= "unicode/utf8.acceptRanges") (d:=Rows.laid_unicode_utf8_acceptRanges) (by simp)
  rwa [Qoj] at this
 obtain ⟨a0,s0,hv0,_,_,_⟩:=laid_sentinel h.tail.tail.tail.tail (g:=5) (ti:=239) (tp:=464) (te:=466) (ts:=9) (by kernel_rfl) (by kernel_rfl) Tryz.underlying239 Qyf Tryz.underlying464 Tryz.underlying466 rfl rfl Tryz.underlying9 (by kernel_rfl) (by kernel_rfl)
 obtain ⟨m,hm⟩:=QnB hsh;have hr:W.cell? ⟨5,0,none⟩=some (.iface 464 (.pointer (some a0))):=World.var?_cell (show Tryz.prog.globalNamed "strconv.ErrRange" = some 5 by kernel_rfl) hv0 0
 refine ⟨⟨m,hm⟩,Qgl hm,utf8Tabs_of_readsT u8t u8x h3 h4,ht,?_,⟨_,_,hr⟩,Qgl hr⟩;rcases Nat.lt_or_ge 6 W.heap.size with hlt|hge
 ·exact hlt
 ·unfold Go.Lib.TabIs World.var? at ht
  rw [QkS] at ht;simp [Array.getElem?_eq_none hge] at ht
end
section
open Go.RowKit
def Qvf:List (String×DataW Unit):=[("math/bits.deBruijn32tab",Rows.laid_math_bits_deBruijn32tab),("math/bits.deBruijn64tab",Rows.laid_math_bits_deBruijn64tab),("internal/strconv.uint64pow10",Rows.laid_internal_strconv_uint64pow10),("unicode/utf8.acceptRanges",Rows.laid_unicode_utf8_acceptRanges),("strconv.ErrRange",Rows.laid_strconv_ErrRange),("strconv.ErrSyntax",Rows.laid_strconv_ErrSyntax),("unicode/utf8.first",Rows.laid_unicode_utf8_first)]
def lh30:List (String×DataW Unit):=[("math/bits.deBruijn32tab",Rows.laid_math_bits_deBruijn32tab),("math/bits.deBruijn64tab",Rows.laid_math_bits_deBruijn64tab),("internal/strconv.uint64pow10",Rows.laid_internal_strconv_uint64pow10),("unicode/utf8.acceptRanges",Rows.laid_unicode_utf8_acceptRanges),("errors.errorType",Rows.laid_errors_errorType),("strconv.ErrRange",Rows.laid_strconv_ErrRange),("strconv.ErrSyntax",Rows.laid_strconv_ErrSyntax),("unicode/utf8.first",Rows.laid_unicode_utf8_first)]
theorem Qzb:Tryz.prog.globalNamed "errors.errorType" = some 0:=by kernel_rfl
theorem Qza:(Tryz.prog.cutTypes.find? (·.1 == "internal/reflectlite.rtype")).map (·.2)=some 387:=by kernel_rfl
theorem Qx1:((List.range Tryz.prog.types.size).filter fun t=>Tryz.prog.rowNamed t [101,114,114,111,114]) = [239]:=by kernel_rfl
theorem Qqy:typeHandle Tryz.prog 239 = .pointer (some ⟨9,239,none⟩):=by kernel_rfl
theorem QAf{W:World}(h:laidMetH Tryz.prog lh30 W)(hsh:W.ShapedOpen Tryz.prog):EnvT W:=by
 have h':laidMet Tryz.prog Qvf W∧handlesMet Tryz.prog [("errors.errorType",Rows.laid_errors_errorType)] W:=h;have hf:EnvF W:=Qzh h'.1 (by simp) hsh
 have hc:W.cell? ⟨0,0,none⟩=some (.iface 387 (.agg #[.pointer (some ⟨9,239,none⟩)])):=by
  obtain ⟨name,u,ty,e1,e2,e3,e4,e5⟩:=h'.2 _ (List.mem_singleton.2 rfl);have en:name = [101,114,114,111,114]:=(Option.some.inj e1).symm;subst en;obtain rfl:=Option.some.inj (Qza.symm.trans e2);have hm:ty∈(List.range Tryz.prog.types.size).filter fun t=>Tryz.prog.rowNamed t [101,114,114,111,114]:=List.mem_filter.2 ⟨List.mem_range.2 e3,e4⟩
  rw [Qx1] at hm;obtain rfl:=List.mem_singleton.1 hm;rw [Qqy] at e5;simpa using World.var?_cell Qzb e5 0
 exact ⟨hf,hc,Qgl hc⟩
noncomputable def QwR (os:Os):World:=
 let w0:=World.holding Tryz.prog os ⟨#[],#[],[]⟩
 { w0 with heap:=w0.heap.modify 0 fun | .cells _ t frozen=>.cells #[.iface 387 (.agg #[.pointer (some ⟨9,239,none⟩)])] t frozen|o=>o }
noncomputable def wit30 (os:Os):World:=(QwR os).layVars Tryz.prog Qvf
theorem wit30_os(os:Os):(wit30 os).os=os:=by
 unfold wit30;rw [World.layVars_os];rfl
theorem wit30_met(os:Os)(args:Array Value):laidMetH Tryz.prog lh30 ((wit30 os).forCall (fun _ _=>0) ⟨#[],args,[]⟩).memory:=by
 have e1:(Qvf.filter fun x=>(Qvf.map (·.1)).contains x.1)=Qvf:=List.filter_eq_self.2 fun x hx=>List.contains_iff_mem.2 (List.mem_map.2 ⟨x,hx,rfl⟩)
 have e2:(Qvf.filter fun x=>!(Qvf.map (·.1)).contains x.1) = []:=List.filter_eq_nil_iff.2 fun x hx=>by rw [List.contains_iff_mem.2 (List.mem_map.2 ⟨x,hx,rfl⟩)];simp
 have h:laidMet Tryz.prog Qvf (wit30 os):=laidMet_layVars (w0:=QwR os) (Qvf.map (·.1)) [] (by rw [e1];rfl) (by rw [e1];kernel_rfl) (by rw [e1];kernel_rfl) (by rw [e2];exact LaidIn.none)
 refine laidMetH_of_parts ?_ (by kernel_rfl)
 exact h.of_heap (by simp [World.memory,World.forCall,Input.heap])
end
section
open Go.RowKit
theorem Quv{H:Type}{enc:TypeId×Value→H}{W:World}{n:Nat}{cs:List Value}{x:DataW H×List MemPlace}(h:DataW.trod enc Tryz.prog W 0 (fun _=>true) true n 43 cs=some x):∃ k:Nat,cs = [.int .u64 (k:Nat)]∧k<18446744073709551616:=by
 obtain ⟨k,h1,-,h3⟩:=DataW.trod_int Tryz.underlying43 h;have a:IntKind.u64.min≤k∧k≤IntKind.u64.max:=by simpa [Lit.wf] using h3
 simp [IntKind.min,IntKind.max,IntKind.signed,IntKind.bits] at a;refine ⟨k.toNat,?_,by omega⟩
 rw [h1,Int.toNat_of_nonneg a.1]
theorem idsArg_of{H:Type}{enc:TypeId×Value→H}{W:World}{b:Option Addr}{n c:Nat}{d:DataW H}{p:List MemPlace}
  (h:DataW.Trod enc Tryz.prog W 0 (fun _=>true) true 23 (.slice b n c) d p):∃ ids,Qug W (.slice b n c) ids:=by
 obtain ⟨fuel,hf⟩:=h;rcases Go.Deep.open_slice Tryz.underlying23 hf with ⟨hcs,_⟩|⟨a,len,cap,m,q,D,Pl,hcs,_,hl,hm,hmm,_,hi⟩
 ·simp [Value.cells] at hcs
  obtain ⟨rfl,rfl,rfl⟩:=hcs;exact ⟨[],HoldsR.empty 1 W none 0,by unfold maxLen;simp,fun f hf=>by simp at hf⟩
 ·simp [Value.cells] at hcs
  obtain ⟨rfl,rfl,rfl⟩:=hcs;have hC:Tryz.prog.cellsOf 43=1:=by kernel_rfl
  have key:∀ i,∃ f:Nat,i<n→W.cell? (a.add (i*1))=some (.int .u64 (f:Nat))∧f<18446744073709551616:=by
   intro i
   by_cases hin:i<n
   ·obtain ⟨cs',hc',ht⟩:=hi i (by rw [hmm];simp;omega)
    rw [hC] at hc';obtain ⟨_,hcl,Qao⟩:=World.cells?_some hc';obtain ⟨l0,e0,b0⟩:=Quv ht;have c0:=Qao 0 (by omega)
    rw [Go.Deep.add_add] at c0;subst e0;simp at c0;exact ⟨l0,fun _=>⟨by simpa using c0,b0⟩⟩
   ·exact ⟨0,fun h=>absurd h hin⟩
  obtain ⟨g,hg⟩:=Classical.skolem.1 key;have hlen:((List.range n).map g).length=n:=by simp
  refine ⟨(List.range n).map g,⟨by rw [List.length_map,hlen,Nat.mul_one],some a,c,by rw [hlen],by rw [hlen];exact hl,fun hne=>?_⟩,by rw [hlen];omega,?_⟩
  ·rw [hlen] at hne
   have h0:=(hg 0 (by omega)).1
   obtain ⟨b,o,sp⟩:=a;have hsp:sp=none:=by simpa [Addr.add] using World.cell?_spot h0
   subst hsp;have ea:∀ k,(⟨b,o,none⟩:Addr).add k=⟨b,o+k,none⟩:=fun k=>by unfold Addr.add;split<;>simp_all
   refine ⟨b,o,rfl,by have:=World.block_lt_of_cell? _ _ h0;simpa [Addr.add] using this,fun j u hj=>?_⟩
   have hjn:j<n:=by
    have:=(List.getElem?_eq_some_iff.1 hj).1;simpa using this
   have hj2:=(hg j hjn).1;rw [ea,Nat.mul_one] at hj2;rw [hj2];simpa [List.getElem?_map,List.getElem?_range hjn] using hj
  ·intro f hf
   obtain ⟨i,hi',rfl⟩:=List.mem_map.1 hf;exact (hg i (List.mem_range.1 hi')).2
theorem Qh0{P:Program}{W:World}{r:Reach}{b0:Nat}{v:Value}{t e:TypeId}{n:Nat}(ht:P.underlying t=some (.array n e))(h:Value.okWide P W r b0 t v):∃ cs,v = .agg cs∧cs.size=P.cellsOf t:=by
 simp only [Value.okWide,ht] at h;obtain ⟨cs,h1,h2,_⟩:=h;exact ⟨cs,h1,h2⟩
theorem two_open{H:Type}{enc:TypeId×Value→H}{W:World}{r:Reach}{b0:Nat}{v:Value}{d:DataW H}{p:List MemPlace}(hv:Value.okWide Tryz.prog W r b0 22 v)(h:DataW.Trod enc Tryz.prog W 0 (fun _=>true) true 22 v d p) :
  ∃ (a0 a1:Int),v = .agg #[.int .i64 a0,.int .i64 a1]∧True:=by
 obtain ⟨cs,rfl,hsz⟩:=Qh0 Tryz.underlying22 hv;have hs2:cs.toList.length=2:=by rw [Array.length_toList];exact hsz.trans (show Tryz.prog.cellsOf 22=2 by kernel_rfl)
 obtain ⟨c0,c1,hc⟩:=QsW hs2;obtain rfl:cs=#[c0,c1]:=by rw [←Array.toList_inj,hc]
 obtain ⟨fuel,hf⟩:=h;obtain ⟨xs,k,_,_,_,hxl,hg⟩:=DataW.trod_array Tryz.underlying22 hf;obtain ⟨z0,z1,rfl⟩:=QsW hxl;have hSi:Tryz.prog.cellsOf 3=1:=by kernel_rfl
 have g0:DataW.trod enc Tryz.prog W 0 (fun _=>true) true k 3 (([c0,c1].drop (0*Tryz.prog.cellsOf 3)).take (Tryz.prog.cellsOf 3))=some z0:=hg 0 (by omega)
 have g1:DataW.trod enc Tryz.prog W 0 (fun _=>true) true k 3 (([c0,c1].drop (1*Tryz.prog.cellsOf 3)).take (Tryz.prog.cellsOf 3))=some z1:=hg 1 (by omega)
 rw [hSi] at g0 g1;obtain ⟨a0,e0,-⟩:=QoT g0;obtain ⟨a1,e1,-⟩:=QoT g1;simp at e0 e1;subst e0 e1;exact ⟨a0,a1,rfl,trivial⟩
end
section
open Go.RowKit
theorem Qtm{P:Program}(h:P.funcs.any Func.goes=false)(f:FuncId):P.goes f=false:=by
 have hx:∀ fn∈P.funcs,fn.goes=false:=by
  intro fn hm;cases hg:fn.goes
  ·rfl
  ·exfalso
   have:P.funcs.any Func.goes=true:=Array.any_eq_true'.2 ⟨fn,hm,hg⟩;rw [h] at this;cases this
 have h1:((P.closure f).any fun g=>(P.funcs[g]?).any Func.goes)=false:=by
  rw [List.any_eq_false];intro g _;cases hq:P.funcs[g]? with
  |none=>simp
  |some fn=>
   have hm:fn∈P.funcs:=Array.mem_of_getElem? hq;simp [hx fn hm]
 unfold Program.goes;rw [h1,h];simp
theorem goesBy_none(c:OpenClaim)(P:Program)(hs:c.start = .entering)(h:P.funcs.any Func.goes=false):false=c.goesBy P:=by
 unfold OpenClaim.goesBy Program.goesAt Program.goesFrom;rw [hs];cases P.funcNamed c.func with
 |none=>rfl
 |some f=>
  show false=(P.goes f||false)
  rw [Qtm h];rfl
theorem no_goes:Tryz.pinned.checked.prog.funcs.any Func.goes=false:=by kernel_rfl
end
section
open Go.RowKit
theorem topReach_go(f:ByteArray)(r0 r1:Int)(v:Value)(ids:List Nat)(W:World)(hf:f.size≤maxLen)(_:True)(hv:Qug W v ids)(hL:laidMetH Tryz.prog Rows.topReachRow.laid W)(hsh:W.ShapedOpen Tryz.prog) :
  Calls Tryz.prog 3 #[.string f,.agg #[.int .i64 r0,.int .i64 r1],v] W fun e W'=>e = .returned (.bool true)∧Below W.heap.size W W':=
 QjY f r0 r1 v ids W (QAf hL hsh) hf hv Qwo
end
end Go.Proofs.YtilaebjndadkhaaGreatDoor
