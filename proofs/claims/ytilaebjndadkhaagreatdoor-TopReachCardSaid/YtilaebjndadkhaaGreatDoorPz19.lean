/- What parts of the program compute: packed for TopReach. Conditions: none. -/
import Derived.Test.YtilaebjndadkhaaGreatDoorPz13
import Derived.Test.YtilaebjndadkhaaGreatDoorPz18
set_option linter.all false
set_option maxRecDepth 100000
set_option maxHeartbeats 8000000
open Go.Lib (hid)
namespace Go.Proofs.YtilaebjndadkhaaGreatDoor
section
open Go.RowKit
structure GA(w0 w wr:World)(Cb P X:Nat)(hh hp:ByteArray)(t r a b:Int)(h p f:ByteArray)(l:List Flt)(lg:List Evt)(n0 a0:Nat)(S:ByteArray)(lv:Value)(k last:Nat)(rv' lv':Value):Prop where
 f:FC w0 wr Cb P hh hp t r h p f (l.drop k) (lg++lgN h p f l [] S k) (n0+QbU (lgN h p f l [] S k)) (a0+k) last rv' lv'
 x:wr.heap[X]?=some (.cells #[.int .i64 a,.int .i64 b] 67 (0,0))
 t:Touch (FS P Cb lv) w wr
 o:∀ g,lv'.ownBlock=some g→lv.ownBlock=some g∨w.heap.size≤g
def Qoo(w0 w:World)(Cb P:Nat)(hh hp:ByteArray)(t:Int)(R:Nat)(h p f:ByteArray)(l:List Flt)(lg:List Evt)(n0 a0:Nat)(S:ByteArray)(a b:Int)(lv:Value)(e:Ending)(w':World):Prop:=
 e = .returned (.tuple #[.string (bs (Qxf (Qd7 h p f l S 0 a b t) R (Qup h p f l S 0 a b t))),.int .i64 (Quo (Qd7 h p f l S 0 a b t) R:Nat)])∧
 ∃ rv' lv',FC w0 w' Cb P hh hp t (R:Int) h p f (l.drop (Qkf (Qd7 h p f l S 0 a b t) R)) (lg++lgN h p f l [] S (Qkf (Qd7 h p f l S 0 a b t) R)) (n0+QbU (lgN h p f l [] S (Qkf (Qd7 h p f l S 0 a b t) R))) (a0+Qkf (Qd7 h p f l S 0 a b t) R) (Qxe (Qd7 h p f l S 0 a b t) R) rv' lv'∧Touch (FS P Cb lv) w w'∧∀ g,lv'.ownBlock=some g→lv.ownBlock=some g∨w.heap.size≤g
theorem Qx5(w0 w:World)(Cb P:Nat)(hh hp:ByteArray)(t:Int)(R:Nat)(h p f:ByteArray)(l:List Flt)(lg:List Evt)(n0 a0:Nat)(S:ByteArray)(a b:Int)(last:Nat)(rv lv:Value)(hE:EnvT w0)
  (k:FC w0 w Cb P hh hp t (R:Int) h p f l lg n0 a0 last rv lv)
  (hR:R≤8) (hf:f.size≤20000) (hx:∀ x∈l,FltOk x) (hl:l.length≤1000) (hq:lg.length≤900000∧n0≤900000∧a0≤900000) (hb:QjC a b t=0) (hO:Qg0 hh.data.toList hp.data.toList=0) (hS:bs (QiH hp.data.toList hh.data.toList a b)=S) :
  Calls Tryz.prog 93 #[.pointer (some ⟨Cb,0,none⟩),.agg #[.int .i64 a,.int .i64 b]] w (Qoo w0 w Cb P hh hp t R h p f l lg n0 a0 S a b lv):=by
 obtain ⟨g1,g2,g3⟩:=Ql4 a b t hb;obtain ⟨r1,r2,r3⟩:=Qco a b g1;have haE:QgE hp.data.toList hh.data.toList a b=0:=by
  unfold Qg0 at hO;unfold QgE;split at hO
  ·exact absurd hO (by decide)
  ·rename_i hq;rw [if_neg hq];exact g1
 have hSz:S.size≤1000:=by
  rw [←hS,QaC];unfold QiH;rw [if_pos haE];exact QvT _ _ a b haE (by omega) (by omega)
 have HC:=hid (fun w=>QbL a b w)
 have HL:=hid (fun w=>Qfy a b w)
 have HP:=hid (fun w hE=>QmB hp hh a b w hE (by omega) (by omega) (by omega) (by omega))
 rw [hS,haE] at HP;rw [g1] at HC;have HG:=hid (k.range a b);have HB0:=hid (Qbq w (.int .i64 a) (.int .i64 b) 67);have HK0:=hid (k.step HB0.out);have HX0:=hid (heap_alloc_new w (.cells #[.int .i64 a,.int .i64 b] 67));have HEn:=hid hE;have HFx:=hid hx;have HN:=hid (And.intro hf (And.intro hl (And.intro hq hSz)));have t1:decide (b≥t)=false:=decide_eq_false (by omega)
 have t2:decide (QaQ a b>65536)=false:=decide_eq_false (by omega)
 generalize QaQ a b=M at HL t2;clear k hE hx hf hl hq hb hO hS g1 g2 g3 r1 r2 r3 haE hSz;have HD:Hid (Below (w.alloc (.cells #[.int .i64 a,.int .i64 b] 67)).heap.size (w.alloc (.cells #[.int .i64 a,.int .i64 b] 67)) (w.alloc (.cells #[.int .i64 a,.int .i64 b] 67)).drew):=hid (Below.refl _ _).drew;obtain ⟨⟨x0,x1⟩,c0,c1,c2,c3,c4⟩:=HG.out _ (Below.refl _ _);go_enter Tryz.func93,Tryz.ntmps93;go_wp2_with fail;generalize w.alloc (.cells #[.int .i64 a,.int .i64 b] 67)=W0 at HG HB0 HK0 HX0 HD x0 x1 c0 c1 c2 c3 c4 ⊢;generalize w.heap.size=X at HG HX0 x0 x1 ⊢;go_region_held3 (fun w'=>w'.cell? ⟨X,0,none⟩=some (.int .i64 a)∧w'.cell? ⟨X,1,none⟩=some (.int .i64 b)∧w'.cell? ⟨Cb,3,none⟩=some (.int .i64 t)) (first|exact ⟨(HG.out _ HD.out).1.1,(HG.out _ HD.out).1.2,(HG.out _ HD.out).2.2.2.2.1⟩|exact ⟨(HG.out _ HX1.out).1.1,(HG.out _ HX1.out).1.2,(HG.out _ HX1.out).2.2.2.2.1⟩)
  (first
   |(go_at_call 45;refine (HC.out _).mono ?_;rintro e wa ⟨rfl,hba⟩;have HX1:Hid (Below W0.heap.size W0 wa):=hid (Qaa HD.out hba);clear hba))
 all_goals
  clear x0 x1 c0 c1 c2 c3 c4;obtain ⟨⟨x0,x1⟩,-⟩:=HG.out _ HX1.out;go_wp2_with fail;refine (HL.out _).mono ?_;rintro e wb ⟨rfl,hbb⟩;have HX2:=hid (Qaa HX1.out hbb);clear hbb x0 x1;obtain ⟨⟨x0,x1⟩,c0,c1,c2,c3,c4⟩:=HG.out _ HX2.out;have HD2:Hid (Below W0.heap.size W0 wb.drew):=hid HX2.out.drew;go_wp2_with fail;go_region_held3 (fun w'=>w'.cell? ⟨X,0,none⟩=some (.int .i64 a)∧w'.cell? ⟨X,1,none⟩=some (.int .i64 b)∧w'.cell? ⟨Cb,1,none⟩=some (.string hh)∧w'.cell? ⟨Cb,2,none⟩=some (.string hp)) (first|exact ⟨(HG.out _ HD2.out).1.1,(HG.out _ HD2.out).1.2,(HG.out _ HD2.out).2.2.1,(HG.out _ HD2.out).2.2.2.1⟩|exact ⟨(HG.out _ HX3.out).1.1,(HG.out _ HX3.out).1.2,(HG.out _ HX3.out).2.2.1,(HG.out _ HX3.out).2.2.2.1⟩)
   (first
    |(go_at_call 142;refine (HP.out _ (HEn.out.below ((HK0.out.step HD2.out).k.bel)).f).mono ?_;rintro e wc ⟨rfl,hbc⟩;have HX3:Hid (Below W0.heap.size W0 wc):=hid (Qaa HD2.out hbc);clear hbc))
  all_goals
   clear x0 x1 c0 c1 c2 c3 c4;obtain ⟨-,-,-,-,-,c4⟩:=HG.out _ HX3.out;have hR1:IntKind.i64.wrap ((R:Int)+1)=(R:Int)+1:=by rw [IntKind.wrap_i64];omega
   have HGL:Hid (GA w0 w wc Cb P X hh hp t (R:Int) a b h p f l lg n0 a0 S lv 0 last rv lv):=hid ⟨by rw [QkE];unfold QoM QbU;rw [List.append_nil];exact HK0.out.step HX3.out,(HX3.out.block X (gsi HX0.out).1).trans HX0.out,Touch.of_below (Qaa HB0.out HX3.out),fun g hg=>.inl hg⟩
   go_wp2_with fail;clear HX1 HX2 HX3 HD HD2 HC HL HP HG;go_loopw [58] (fun i wr=>∃ k:Nat,k≤R+1∧i = .int .i64 k∧(∀ j,j<k→Qd7 h p f l S 0 a b t j≠0)∧∃ last' rv' lv',Hid (GA w0 w wr Cb P X hh hp t (R:Int) a b h p f l lg n0 a0 S lv k last' rv' lv')∧(∀ j,k=j+1→last'=Qd7 h p f l S 0 a b t j)) (fun i _=>R+1-(intOf i).toNat)
   case atStart=>exact ⟨0,by omega,rfl,fun j hj=>absurd hj (by omega),last,rv,lv,HGL,fun j hj=>by omega⟩
   case round=>
    obtain ⟨k,hk,rfl,hej,last',rv',lv',HGr,QBW⟩:=hrel;clear HGL c4;have HEj:=hid (And.intro hej QBW);clear hej QBW
    by_cases hlt:k≤R
    ·obtain ⟨N,hN⟩:∃ N,a0+k=N:=⟨_,rfl⟩
     have hf:=HGr.out.f;rw [hN] at hf;have hst:=QoQ h p f l [] S k;have hhm:=Qhh h p f l [] S k;have hml:=QwI h p f l [] S k;have hln:=QnJ h p f l [] S k;rw [List.length_nil,Nat.zero_add] at hst hhm hml hln;have hgo:Ql3 h p f ((l.drop k).headD noF) S=QvO h p f l S 0 k:=by unfold QvO;rw [Nat.zero_add]
     obtain ⟨b1,b2,⟨b3,b5,b6⟩,b4⟩:=HN.out;have hNb:N≤1000000:=by omega
     have HF:=hid hf;have HNk:=hid hN;obtain ⟨E,hE⟩:∃ E,Qd7 h p f l S 0 a b t k=E:=⟨_,rfl⟩;obtain ⟨B,hB⟩:∃ B,bs (Qup h p f l S 0 a b t k)=B:=⟨_,rfl⟩;have hgs:(QvO h p f l S 0 k).size≤1000000:=by
      rw [←hgo];have h1:=QvN h p f ((l.drop k).headD noF) S (by omega)
      have h2:=(QwJ HFx.out k).t;omega
     have HJd:Hid (∀ W,EnvT W→Calls Tryz.prog 143 #[.string (QvO h p f l S 0 k),.agg #[.int .i64 a,.int .i64 b],.int .i64 t] W fun e w'=>e = .returned (.tuple #[.string B,.int .i64 (E:Int)])∧Below W.heap.size W w'):=hid (fun W hW=>by
      have:=Qn0 (QvO h p f l S 0 k) a b t W hgs hW;unfold QyD at this;unfold Qd7 at hE;unfold Qup at hB;rw [hE,hB] at this;exact this)
     have hask:=fun (W:World) (rv2 lv2:Value) (hk:KL w0 W P h p f (l.drop k) (lg++lgN h p f l [] S k) (n0+QbU (lgN h p f l [] S k)) rv2 lv2)=>hk.ask HEn.out.f S (by omega) (by omega) (QwJ HFx.out k) (by rw [List.length_drop];omega) (by rw [List.length_append];omega) (by omega)
     unfold KAsk at hask;rw [drop_tail,List.append_assoc lg,←hst,Nat.add_assoc n0,←hhm,hgo] at hask;have HAk:=hid hask;generalize QvO h p f l S 0 k=G at HJd HAk;have HEB:=hid (And.intro hE hB);obtain ⟨⟨c0,c1,c2,c3,c4,c5,c6⟩,f5,f6⟩:=Qb3 HF.out.c;have tw:IntKind.i64.wrap ((N:Int)+1)=(N:Int)+1:=by rw [IntKind.wrap_i64];omega
     have tk:decide ((k:Int)<(R:Int)+1)=true:=decide_eq_true (by omega)
     have HF1:Hid (FC w0 (wr.setCell ⟨Cb,5,none⟩ (.int .i64 ((N:Int)+1))) Cb P hh hp t (R:Int) h p f (l.drop k) (lg++lgN h p f l [] S k) (n0+QbU (lgN h p f l [] S k)) (N+1) last' rv' lv'):=hid (by
      have:=HF.out.set5 (N+1)
      rwa [show ((N+1:Nat):Int)=(N:Int)+1 by omega] at this)
     have HX1:Hid ((wr.setCell ⟨Cb,5,none⟩ (.int .i64 ((N:Int)+1))).heap[X]?=some (.cells #[.int .i64 a,.int .i64 b] 67 (0,0))):=hid ((Below.heap_setCell _ _ _ _ (x_ne HGr.out.x HF.out.c)).trans HGr.out.x);have HT1:Hid (Touch (FS P Cb lv) w (wr.setCell ⟨Cb,5,none⟩ (.int .i64 ((N:Int)+1)))):=hid (Qor _ HGr.out.t);have HO1:=hid HGr.out.o;clear hN hf hst hhm hml hgo hln b1 b2 b3 b4 b5 b6 hE hB hgs hask HGr HF;go_wp2_with fail;generalize wr.setCell ⟨Cb,5,none⟩ (.int .i64 ((N:Int)+1))=W1 at HF1 HX1 HT1 ⊢;clear c0 c1 c2 c3 c4 c5 c6 f5 f6;have HFd:=hid (HF1.out.step (Below.refl _ W1).drew);have HXd:Hid (W1.drew.heap[X]?=some (.cells #[.int .i64 a,.int .i64 b] 67 (0,0))):=hid HX1.out;have HSd:=hid (Qo3 HXd.out HFd.out.c);have HAd:=hid (HAk.out _ _ _ HFd.out.k);go_region_held3 (fun w'=>w'.cell? ⟨X,0,none⟩=some (.int .i64 a)∧w'.cell? ⟨X,1,none⟩=some (.int .i64 b)∧w'.cell? ⟨Cb,0,none⟩=some (.pointer (some ⟨P,0,none⟩))∧w'.cell? ⟨Cb,3,none⟩=some (.int .i64 t)) (first|with_reducible exact HSd.out|with_reducible exact HSa.out|with_reducible exact HSj.out|with_reducible exact HSs.out)
      (first
       |(go_at_call 144;refine HAd.out.mono ?_;rintro e wa' ⟨rfl,rv2,lv2,hk2,ht2,ho2⟩;have HFa:=hid (HFd.out.link hk2 ht2);have HXa:=hid (QjN HFd.out.k HXd.out (by decide) (by decide) ht2);have HSa:=hid (Qo3 HXa.out HFa.out.c);have HTa:=hid (And.intro ht2 ho2);clear hk2 ht2 ho2)
       |(go_at_call 143;refine (HJd.out _ (HEn.out.below HFa.out.k.bel)).mono ?_;rintro e wj ⟨rfl,hbj⟩;have HFj:=hid (HFa.out.step hbj);have HXj:=hid ((hbj.block X (gsi HXa.out).1).trans HXa.out);have HSj:=hid (Qo3 HXj.out HFj.out.c);obtain ⟨⟨-,-,-,-,-,-,c6⟩,-,f6⟩:=Qb3 HFj.out.c;have HFs:=hid (HFj.out.set6 E);have HXs:=hid ((Below.heap_setCell wj ⟨Cb,6,none⟩ (.int .i64 (E:Int)) X (x_ne HXj.out HFj.out.c)).trans HXj.out);have HSs:=hid (Qo3 HXs.out HFs.out.c);have HBj:=hid hbj;clear hbj))
     have HT2:Hid (Touch (FS P Cb lv) w (wj.setCell ⟨Cb,6,none⟩ (.int .i64 (E:Int)))):=hid (Qor _ (HT1.out.trans (((Touch.of_below (S:=LS P lv') (Below.refl W1.heap.size W1).drew).trans HTa.out.1 (fun g h=>.inl h)).trans (Touch.of_below (S:=LS P lv') HBj.out) (fun g h=>.inl h)) (fun q hq=>by
      rcases hq with rfl|hq
      ·exact .inl (.inl (.inl rfl))
      ·rcases HO1.out q hq with h1|h1
       ·exact .inl (.inl (.inr h1))
       ·exact .inr h1)))
     have HO2:Hid (∀ g,lv2.ownBlock=some g→lv.ownBlock=some g∨w.heap.size≤g):=hid (fun g hg=>by
      rcases HTa.out.2 g hg with h1|h1
      ·exact HO1.out g h1
      ·exact .inr (Nat.le_trans HT1.out.size h1))
     have HGn:Hid (GA w0 w (wj.setCell ⟨Cb,6,none⟩ (.int .i64 (E:Int))) Cb P X hh hp t (R:Int) a b h p f l lg n0 a0 S lv (k+1) E rv2 lv2):=hid ⟨by have:=HFs.out;rw [←HNk.out] at this;exact this,HXs.out,HT2.out,HO2.out⟩
     obtain ⟨⟨-,-,-,-,-,-,c6'⟩,-,-⟩:=Qb3 HFs.out.c;clear HSd HSa HSj HSs HTa HFj HXj c6 f6 HFs HXs HBj HT1 HO1 HT2 HO2 HFd HXd HAd HFa HXa HF1 HX1 HAk HJd;generalize wj.setCell ⟨Cb,6,none⟩ (.int .i64 (E:Int))=W2 at HGn c6' ⊢
     by_cases hE0:E=0
     ·rw [hE0] at c6'
      have HE0:=hid hE0;clear hE0;go_wp2_with fail;go_ret2;unfold Qoo;obtain ⟨r1,r2,r3,r4⟩:=Qfs (Qd7 h p f l S 0 a b t) R k (Qup h p f l S 0 a b t) hlt HEj.out.1 (by rw [HEB.out.1];exact HE0.out)
      rw [r1,r2,r3,r4,HEB.out.2];have hg:=HGn.out.f;rw [HE0.out] at hg;exact ⟨rfl,rv2,lv2,hg,HGn.out.t,HGn.out.o⟩
     ·have tz:((E:Int)==0)=false:=by rw [beq_eq_false_iff_ne];omega
      have tw2:IntKind.i64.wrap ((k:Int)+1)=(k:Int)+1:=by rw [IntKind.wrap_i64];omega
      have HE0:=hid hE0;clear hE0;go_wp2_with fail;go_roundw
      case rel=>
       refine ⟨k+1,by omega,by go_num,fun j hj=>?_,E,rv2,lv2,HGn,fun j hj=>?_⟩
       ·rcases Nat.lt_or_eq_of_le (Nat.le_of_lt_succ hj) with h1|h1
        ·exact HEj.out.1 j h1
        ·subst h1;rw [HEB.out.1];exact HE0.out
       ·obtain rfl:k=j:=by omega
        exact HEB.out.1.symm
      case measure=>simp [intOf];omega
    ·obtain rfl:k=R+1:=by omega
     have tk:decide (((R+1:Nat):Int)<(R:Int)+1)=false:=decide_eq_false (by omega)
     have tk2:decide ((R:Int)+1<(R:Int)+1)=false:=decide_eq_false (by omega)
     go_wp2_with fail;go_ret2;unfold Qoo;obtain ⟨r1,r2,r3,r4⟩:=Qhc (Qd7 h p f l S 0 a b t) R (Qup h p f l S 0 a b t) (fun j hj=>HEj.out.1 j (by omega))
     rw [r1,r2,r3,r4];have hl:=HEj.out.2 R rfl;rw [←hl];exact ⟨rfl,rv',lv',HGr.out.f,HGr.out.t,HGr.out.o⟩
def QyC(w0 w:World)(Cb P:Nat)(hh hp f:ByteArray)(R:Nat)(l:List Flt)(lg:List Evt)(n0 a0:Nat)(a b:Int)(lv:Value)(e:Ending)(w':World):Prop:=
 ∃ (E:Nat) (B:ByteArray),e = .returned (.tuple #[.string B,.int .i64 (E:Nat)])∧
 ∃ k lg' n' last' rv' lv',FC w0 w' Cb P hh hp (f.size:Int) (R:Int) hh hp f (l.drop k) lg' n' (a0+k) last' rv' lv'∧lg'.length=lg.length+k∧n0≤n'∧n'≤n0+k∧1≤k∧k≤R+1∧
 ((E=0∧B.data.toList=(f.data.toList.take (b+1).toNat).drop a.toNat∧last'=0∧n0+k≤n'+1)∨(E=23∧B=⟨#[]⟩∧k=R+1∧n'=n0+(R+1)))∧
 (l = []→E=0∧k=1∧n'=n0)∧Touch (FS P Cb lv) w w'∧∀ g,lv'.ownBlock=some g→lv.ownBlock=some g∨w.heap.size≤g
theorem Qu7(h p f S:ByteArray)(a b:Int)(he:QgE p.data.toList h.data.toList a b=0)(hb:b<(f.size:Int))(hf:f.size≤1000000)(hS:S.data.toList=Qlo p.data.toList h.data.toList a b)(j:Nat):Qd7 h p f [] S 0 a b (f.size:Int) j=0:=by
 unfold Qd7 QvO;rw [List.drop_nil];refine Classical.byContradiction fun hn=>?_
 have:=(Qlx h p f noF S a b he hb hf hS).2 hn;rw [QlX] at this;cases this
theorem Qkx(h p f S:ByteArray)(m:Nat):QbU (lgN h p f [] [] S m)=0:=by
 induction m with
 |zero=>rw [QkE];rfl
 |succ m ih=>
  rw [Qhh,ih,List.drop_nil];show 0+QwE (Qgq h p f noF S)=0;rw [Qsw]
theorem Qxz(w0 w:World)(Cb P:Nat)(hh hp f:ByteArray)(R:Nat)(l:List Flt)(lg:List Evt)(n0 a0:Nat)(a b:Int)(last:Nat)(rv lv:Value)(hE:EnvT w0)
  (k:FC w0 w Cb P hh hp (f.size:Int) (R:Int) hh hp f l lg n0 a0 last rv lv)
  (hR:R≤8) (hf:f.size≤20000) (hx:∀ x∈l,FltOk x) (hl:l.length≤1000) (hq:lg.length≤900000∧n0≤900000∧a0≤900000) (hb:QjC a b (f.size:Int)=0) (hO:Qg0 hh.data.toList hp.data.toList=0) :
  Calls Tryz.prog 93 #[.pointer (some ⟨Cb,0,none⟩),.agg #[.int .i64 a,.int .i64 b]] w (QyC w0 w Cb P hh hp f R l lg n0 a0 a b lv):=by
 obtain ⟨g1,g2,g3⟩:=Ql4 a b _ hb;have haE:QgE hp.data.toList hh.data.toList a b=0:=by
  unfold Qg0 at hO;unfold QgE;split at hO
  ·exact absurd hO (by decide)
  ·rename_i hq;rw [if_neg hq];exact g1
 obtain ⟨S,hS⟩:∃ S,bs (QiH hp.data.toList hh.data.toList a b)=S:=⟨_,rfl⟩;have hSe:S.data.toList=Qlo hp.data.toList hh.data.toList a b:=by
  rw [←hS,Qaj];unfold QiH;rw [if_pos haE]
 refine (Qx5 w0 w Cb P hh hp (f.size:Int) R hh hp f l lg n0 a0 S a b last rv lv hE k hR hf hx hl hq hb hO hS).mono ?_;rintro e w' ⟨rfl,rv',lv',hF,hT,hB⟩;have hrr:=QrN hh hp f l [] S a b R haE g2 (by omega) hSe
 have hA:=Qxg (Qd7 hh hp f l S 0 a b (f.size:Int)) R;have hlen:=QnJ hh hp f l [] S (Qkf (Qd7 hh hp f l S 0 a b (f.size:Int)) R);have hle:=QwI hh hp f l [] S (Qkf (Qd7 hh hp f l S 0 a b (f.size:Int)) R);rw [List.length_nil,Nat.zero_add] at hlen hle;have h0:QbU (QoM hh hp f l [])=0:=rfl;rw [h0,List.length_nil] at hrr;have hrn:l = []→Quo (Qd7 hh hp f l S 0 a b (f.size:Int)) R=0∧Qkf (Qd7 hh hp f l S 0 a b (f.size:Int)) R=1∧QbU (lgN hh hp f l [] S (Qkf (Qd7 hh hp f l S 0 a b (f.size:Int)) R))=0:=by
  intro e0;subst e0;obtain ⟨r1,r2,r3,r4⟩:=Qfs (Qd7 hh hp f [] S 0 a b (f.size:Int)) R 0 (Qup hh hp f [] S 0 a b (f.size:Int)) (Nat.zero_le _) (fun j hj=>absurd hj (Nat.not_lt_zero _)) (Qu7 hh hp f S a b haE g2 (by omega) hSe 0)
  exact ⟨r3,r1,Qkx _ _ _ _ _⟩
 have hlst:Quo (Qd7 hh hp f l S 0 a b (f.size:Int)) R=0→Qxe (Qd7 hh hp f l S 0 a b (f.size:Int)) R=0:=by
  intro hz;rcases QhK (Qd7 hh hp f l S 0 a b (f.size:Int)) R with ⟨i,hi,h1,h2⟩|h1
  ·exact (Qfs _ R i (fun _=>[]) hi h1 h2).2.1
  ·rw [(Qhc _ R (fun _=>[]) h1).2.2.1] at hz
   cases hz
 generalize Quo (Qd7 hh hp f l S 0 a b (f.size:Int)) R=E at hrr hrn hlst ⊢;generalize Qxe (Qd7 hh hp f l S 0 a b (f.size:Int)) R=L at hF hlst;generalize Qkf (Qd7 hh hp f l S 0 a b (f.size:Int)) R=K at hrr hA hlen hle hrn hF;generalize QbU (lgN hh hp f l [] S K)=H at hrr hle hrn hF;refine ⟨E,_,rfl,K,_,n0+H,L,rv',lv',hF,by rw [List.length_append,hlen],by omega,by omega,hA.1,hA.2,?_,fun e0=>?_,hT,hB⟩
 ·rcases hrr with ⟨r1,r2,r3⟩|⟨r1,r2,r3,r4⟩
  ·exact .inl ⟨r1,by rw [Qaj];exact r2,hlst r1,by omega⟩
  ·exact .inr ⟨r1,by rw [r2];rfl,r3,by omega⟩
 ·obtain ⟨q1,q2,q3⟩:=hrn e0
  exact ⟨q1,q2,by omega⟩
end
section
open Go.RowKit
structure Adr where
 Rb:Nat
 Cb:Nat
 P:Nat
 Sb:Nat
 lb:Nat
 mb:Nat
 rb:Nat
structure Con where
 hh:ByteArray
 hp:ByteArray
 f:ByteArray
 R:Nat
 most:Nat
structure Net where
 l:List Flt
 lg:List Evt
 n:Nat
 a:Nat
 last:Nat
 rv:Value
 lv:Value
structure Con.Ok(C:Con):Prop where
 R:C.R≤8
 f:C.f.size≤20000
 org:Qg0 C.hh.data.toList C.hp.data.toList=0
structure Net.Ok(N:Net):Prop where
 x:∀ x∈N.l,FltOk x
 l:N.l.length≤1000
 lg:N.lg.length≤900000
 n:N.n≤900000
 a:N.a≤900000
def Con.F(C:Con):List UInt8:=C.f.data.toList
def Qkk(Cb Sb:Nat)(h:Hdr)(kn:Bool):Array Value:=#[.pointer (some ⟨Cb,0,none⟩),.pointer (some ⟨Sb,0,none⟩),.int .u64 (h.rf:Nat),.int .u64 (h.rl:Nat),.int .u64 (h.mf:Nat),.int .u64 (h.ml:Nat),.int .u64 (h.lf:Nat),.int .u64 (h.ll:Nat),.int .u64 (h.df:Nat),.int .u64 (h.dl:Nat),.int .u64 (h.ad:Nat),.int .u64 (h.en:Nat),.int .u64 (h.co:Nat),.bool h.cl,.int .u8 (h.inn:Nat),.int .u8 (h.out:Nat),.int .u8 (h.kd:Nat),.int .i64 h.z0,.int .i64 h.z1,.int .i64 h.x0,.int .i64 h.y0,.int .i64 h.x1,.int .i64 h.y1,.int .i64 h.zo,.int .i64 h.lo,.int .i64 h.la,.bool kn]
def Qk4(w:World)(Rb Cb Sb:Nat)(h:Hdr)(kn:Bool):Prop:=w.heap[Rb]?=some (.cells (Qkk Cb Sb h kn) 80 (0,0))
structure RdS(w0 w:World)(A:Adr)(C:Con)(N:Net)(nx:Nat)(kn:Bool)(Z:List (Key×Nat×List Ent)):Prop where
 fc:FC w0 w A.Cb A.P C.hh C.hp (C.f.size:Int) (C.R:Int) C.hh C.hp C.f N.l N.lg N.n N.a N.last N.rv N.lv
 rd:∃ h,Qk4 w A.Rb A.Cb A.Sb h kn∧HdrOk h∧(kn=true→h=Qb6 C.F∧Qcn C.F=0)
 sh:ShZ w0 w A.Sb A.lb A.mb A.rb C.most nx Z
 ok:∀ z∈Z,z.1.1+z.1.2≤C.f.size∧Qc4 (Qd8 C.F z.1.1 z.1.2)=(0,z.2.2)
 kz:kn=false→Z = []
 nxa:nx≤N.a
 lo:w0.heap.size≤A.Rb
def RdT(A:Adr)(lv:Value)(i:Nat):Prop:=FS A.P A.Cb lv i∨ShS A.Sb A.lb A.mb A.rb i∨i=A.Rb
structure RdTouch(A:Adr)(N N':Net)(w w':World):Prop where
 t:Touch (RdT A N.lv) w w'
 o:∀ g,N'.lv.ownBlock=some g→N.lv.ownBlock=some g∨w.heap.size≤g
theorem RdTouch.refl(A:Adr)(N:Net)(w:World):RdTouch A N N w w:=⟨Touch.refl _ _,fun _ h=>.inl h⟩
theorem RdTouch.of_below(A:Adr)(N:Net){w w':World}(h:Below w.heap.size w w'):RdTouch A N N w w':=⟨Touch.of_below h,fun _ h=>.inl h⟩
theorem RdTouch.trans{A:Adr}{N N' N'':Net}{w w1 w2:World}(h:RdTouch A N N' w w1)(k:RdTouch A N' N'' w1 w2):RdTouch A N N'' w w2:=
 ⟨h.t.trans k.t (fun g hg=>by
  rcases hg with ((rfl|hg)|rfl)|hg|rfl
  ·exact .inl (.inl (.inl (.inl rfl)))
  ·rcases h.o g hg with h1|h1
   ·exact .inl (.inl (.inl (.inr h1)))
   ·exact .inr h1
  ·exact .inl (.inl (.inr rfl))
  ·exact .inl (.inr (.inl hg))
  ·exact .inl (.inr (.inr rfl))),fun g hg=>by
  rcases k.o g hg with h1|h1
  ·exact h.o g h1
  ·exact .inr (Nat.le_trans h.t.size h1)⟩
theorem RdTouch.stays{A:Adr}{N N':Net}{w w':World}(h:RdTouch A N N' w w'){i:Nat}(hi:i<w.heap.size)(hn:¬RdT A N.lv i):w'.heap[i]?=w.heap[i]?:=h.t.block i hi hn
section
variable {w0 w w':World} {Cb P:Nat} {hh hp h p f:ByteArray} {t r:Int} {rest:List Flt} {log:List Evt} {n asks last:Nat} {rv lv:Value}
theorem FC.touch{S:Nat→Prop}(k:FC w0 w Cb P hh hp t r h p f rest log n asks last rv lv)(ht:Touch S w w')(hS:∀ i,S i→w0.heap.size≤i)(hn:∀ i,S i→i≠P∧i≠Cb∧lv.ownBlock≠some i∧QiG rv≠some i):FC w0 w' Cb P hh hp t r h p f rest log n asks last rv lv:=
 ⟨⟨k.k.a.touch ht (fun h=>(hn _ h).1 rfl) (fun b hb h=>(hn _ h).2.2.2 hb) (fun g hg h=>(hn _ h).2.2.1 hg),k.k.lo,k.k.bel.trans (ht.below hS k.k.bel.size)⟩,(ht.block _ (gsi k.c).1 (fun h=>(hn _ h).2.1 rfl)).trans k.c,k.lo⟩
theorem FC.other(k:FC w0 w Cb P hh hp t r h p f rest log n asks last rv lv){i:Nat}(hi:(∃ C T,w.heap[i]?=some (.cells C T (0,0))∧T≠64∧T≠71∧T≠97∧T≠294)∨(∃ es ck,w.heap[i]?=some (.map es ck))):i≠P∧i≠Cb∧lv.ownBlock≠some i∧QiG rv≠some i:=by
 have hP:=k.k.a.blk;have hC:=k.c;have hlv:=fun g hg=>QbJ k.k.a.own g hg
 have hrv:=k.k.a.tag;rcases hi with ⟨C,T,h1,t1,t2,t3,t4⟩|⟨es,ck,h1⟩
 ·refine ⟨fun e=>?_,fun e=>?_,fun e=>?_,fun e=>?_⟩
  ·rw [e,hP] at h1;simp only [Option.some.injEq,Obj.cells.injEq] at h1;exact t1 h1.2.1.symm
  ·rw [e,hC] at h1;simp only [Option.some.injEq,Obj.cells.injEq] at h1;exact t2 h1.2.1.symm
  ·obtain ⟨cur,h2⟩:=hlv i e
   rw [h2] at h1;simp only [Option.some.injEq,Obj.cells.injEq] at h1;exact t3 h1.2.1.symm
  ·obtain ⟨cur,h2⟩:=hrv i e
   rw [h2] at h1;simp only [Option.some.injEq,Obj.cells.injEq] at h1;exact t4 h1.2.1.symm
 ·refine ⟨fun e=>?_,fun e=>?_,fun e=>?_,fun e=>?_⟩
  ·rw [e,hP] at h1;cases h1
  ·rw [e,hC] at h1;cases h1
  ·obtain ⟨cur,h2⟩:=hlv i e
   rw [h2] at h1;cases h1
  ·obtain ⟨cur,h2⟩:=hrv i e
   rw [h2] at h1;cases h1
end
section
variable {w0 w w':World} {A:Adr} {C:Con} {N N':Net} {nx nx':Nat} {kn:Bool} {Z Z':List (Key×Nat×List Ent)}
theorem RdS.low(k:RdS w0 w A C N nx kn Z):∀ i,RdT A N.lv i→w0.heap.size≤i:=fun i hi=>by
 rcases hi with (h|rfl)|((rfl|(rfl|rfl)|rfl))|rfl
 ·exact k.fc.k.low i h
 ·exact k.fc.lo
 ·exact k.sh.lo.1
 ·exact k.sh.lo.2.1
 ·exact k.sh.lo.2.2.1
 ·exact k.sh.lo.2.2.2
 ·exact k.lo
theorem RdS.lts(k:RdS w0 w A C N nx kn Z):∀ i,RdT A N.lv i→i<w.heap.size:=fun i hi=>by
 obtain ⟨l1,l2,l3,l4⟩:=k.sh.lts;obtain ⟨h,hb,-⟩:=k.rd;rcases hi with ((rfl|h)|rfl)|((rfl|(rfl|rfl)|rfl))|rfl
 ·exact k.fc.k.a.lt
 ·exact (k.fc.k.a.own.lt i h).2
 ·exact (gsi k.fc.c).1
 ·exact l1
 ·exact l2
 ·exact l3
 ·exact l4
 ·exact (gsi hb).1
theorem RdS.below(k:RdS w0 w A C N nx kn Z)(hb:Below w.heap.size w w'):RdS w0 w' A C N nx kn Z:=
 ⟨k.fc.step hb,let ⟨h,h1,h2,h3⟩:=k.rd;⟨h,(hb.block _ (gsi h1).1).trans h1,h2,h3⟩,k.sh.below hb,k.ok,k.kz,k.nxa,k.lo⟩
theorem RdS.sep(k:RdS w0 w A C N nx kn Z):(∀ i,ShS A.Sb A.lb A.mb A.rb i∨i=A.Rb→i≠A.P∧i≠A.Cb∧N.lv.ownBlock≠some i∧QiG N.rv≠some i)∧(∀ (i:Nat) (D:Array Value),w.heap[i]?=some (.cells D 86 (0,0))→i≠A.P∧i≠A.Cb∧N.lv.ownBlock≠some i∧QiG N.rv≠some i):=by
 obtain ⟨hi,mi,hb⟩:=k.sh.blk;obtain ⟨gr,n,hm,-⟩:=k.sh.map;obtain ⟨g,old,new,hl,hmm,-⟩:=k.sh.lru;obtain ⟨h,hr,-⟩:=k.rd;refine ⟨fun i hi=>?_,fun i D hD=>k.fc.other (.inl ⟨_,_,hD,by decide,by decide,by decide,by decide⟩)⟩
 rcases hi with ((rfl|(rfl|rfl)|rfl))|rfl
 ·exact k.fc.other (.inl ⟨_,_,hb,by decide,by decide,by decide,by decide⟩)
 ·exact k.fc.other (.inl ⟨_,_,hl,by decide,by decide,by decide,by decide⟩)
 ·exact k.fc.other (.inr hmm.blk)
 ·exact k.fc.other (.inr hm.blk)
 ·exact k.fc.other (.inl ⟨_,_,hr,by decide,by decide,by decide,by decide⟩)
theorem RdS.own(k:RdS w0 w A C N nx kn Z):¬ShS A.Sb A.lb A.mb A.rb A.Rb∧(∀ (i:Nat) (D:Array Value),w.heap[i]?=some (.cells D 86 (0,0))→i≠A.Rb):=by
 obtain ⟨hi,mi,hb⟩:=k.sh.blk;obtain ⟨gr,n,hm,-⟩:=k.sh.map;obtain ⟨g,old,new,hl,hmm,-⟩:=k.sh.lru;obtain ⟨h,hr,-⟩:=k.rd;unfold Qk4 at hr;unfold ShB at hb;unfold LruB at hl;refine ⟨fun hs=>?_,fun i D hD e=>?_⟩
 ·rcases hs with e|(e|e)|e
  ·rw [←e,hr] at hb;simp only [Option.some.injEq,Obj.cells.injEq] at hb;exact absurd hb.2.1 (by decide)
  ·rw [←e,hr] at hl;simp only [Option.some.injEq,Obj.cells.injEq] at hl;exact absurd hl.2.1 (by decide)
  ·obtain ⟨es,ck,hx⟩:=hmm.blk
   rw [←e,hr] at hx;cases hx
  ·obtain ⟨es,ck,hx⟩:=hm.blk
   rw [←e,hr] at hx;cases hx
 ·rw [e,hr] at hD;simp only [Option.some.injEq,Obj.cells.injEq] at hD;exact absurd hD.2.1 (by decide)
theorem RdS.net(k:RdS w0 w A C N nx kn Z)(hf:FC w0 w' A.Cb A.P C.hh C.hp (C.f.size:Int) (C.R:Int) C.hh C.hp C.f N'.l N'.lg N'.n N'.a N'.last N'.rv N'.lv)(ht:Touch (FS A.P A.Cb N.lv) w w')(ha:N.a≤N'.a):RdS w0 w' A C N' nx kn Z:=by
 obtain ⟨s1,s2⟩:=k.sep;have hno:∀ i,(i≠A.P∧i≠A.Cb∧N.lv.ownBlock≠some i∧QiG N.rv≠some i)→¬FS A.P A.Cb N.lv i:=fun i hi hs=>by
  rcases hs with (e|e)|e
  ·exact hi.1 e
  ·exact hi.2.2.1 e
  ·exact hi.2.1 e
 obtain ⟨h,h1,h2,h3⟩:=k.rd;exact ⟨hf,⟨h,(ht.block _ (gsi h1).1 (hno _ (s1 _ (.inr rfl)))).trans h1,h2,h3⟩,k.sh.far ht (hno _ (s1 _ (.inl (.inl rfl)))) (hno _ (s1 _ (.inl (.inr (.inl (.inl rfl)))))) (hno _ (s1 _ (.inl (.inr (.inl (.inr rfl)))))) (hno _ (s1 _ (.inl (.inr (.inr rfl))))) (fun i D hD=>hno i (s2 i D hD)),k.ok,k.kz,Nat.le_trans k.nxa ha,k.lo⟩
theorem RdS.shelf(k:RdS w0 w A C N nx kn Z)(hs:ShZ w0 w' A.Sb A.lb A.mb A.rb C.most nx' Z')(ht:Touch (ShS A.Sb A.lb A.mb A.rb) w w')(hok:∀ z∈Z',z.1.1+z.1.2≤C.f.size∧Qc4 (Qd8 C.F z.1.1 z.1.2)=(0,z.2.2))(hkz:kn=false→Z' = [])(hn:nx'≤N.a):RdS w0 w' A C N nx' kn Z':=by
 obtain ⟨s1,s2⟩:=k.sep;obtain ⟨h,h1,h2,h3⟩:=k.rd;exact ⟨k.fc.touch ht (fun i hi=>k.low i (.inr (.inl hi))) (fun i hi=>s1 i (.inl hi)),⟨h,(ht.block _ (gsi h1).1 k.own.1).trans h1,h2,h3⟩,hs,hok,hkz,hn,k.lo⟩
end
end
section
open Go.RowKit
theorem QiS(most:Int)(w:World):Calls Tryz.prog 7 #[.pointer none,.int .i64 most] w fun e w'=>e = .returned (.tuple #[.pointer none,.int .i64 1])∧w'=w:=by
 go_enter Tryz.func7,Tryz.ntmps7;go_wp2_with fail;go_ret2;exact ⟨rfl,rfl⟩
theorem QiT(Cb:Nat)(most:Int)(hm:most<0∨64<most)(w:World):Calls Tryz.prog 7 #[.pointer (some ⟨Cb,0,none⟩),.int .i64 most] w fun e w'=>e = .returned (.tuple #[.pointer none,.int .i64 2])∧w'=w:=by
 have HC:=hid (Qj9 most hm w);clear hm;go_enter Tryz.func7,Tryz.ntmps7;go_wp2_with fail;refine HC.out.mono ?_;rintro e w1 ⟨rfl,hw⟩;obtain rfl:=hw.symm;clear hw;go_wp2_with fail;go_ret2;exact ⟨rfl,rfl⟩
theorem QwZ:HdrOk Qw0:=by
 constructor<;>(unfold Qw0;simp)
theorem QpX(w0 w:World)(Cb P:Nat)(C:Con)(N:Net)(QBk:C.most≤64)(k:FC w0 w Cb P C.hh C.hp (C.f.size:Int) (C.R:Int) C.hh C.hp C.f N.l N.lg N.n N.a N.last N.rv N.lv) :
  Calls Tryz.prog 7 #[.pointer (some ⟨Cb,0,none⟩),.int .i64 (C.most:Nat)] w fun e w'=>∃ A:Adr,A.Cb=Cb∧A.P=P∧e = .returned (.tuple #[.pointer (some ⟨A.Rb,0,none⟩),.int .i64 0])∧RdS w0 w' A C N 0 false []∧Below w.heap.size w w':=by
 have HC:=hid (QrG C.most QBk w);have HK:=hid k;have HM:=hid QBk;clear k QBk;obtain ⟨m,hm⟩:∃ m,C.most=m:=⟨_,rfl⟩;rw [hm] at HC ⊢;have HMe:=hid hm;clear hm;go_enter Tryz.func7,Tryz.ntmps7;go_wp2_with fail;refine HC.out.mono ?_;rintro e w1 ⟨b,lb,mb,rb,rfl,hb1,hlo,hsb,QA9,hrb,hne⟩;have HB1:=hid hb1;have HS:=hid (And.intro hlo (And.intro hsb (And.intro QA9 (And.intro hrb hne))));clear hb1 hlo hsb QA9 hrb hne;go_wp2_with fail;generalize hWn:w1.alloc _=Wn;replace hWn:w1.alloc (.cells (Qkk Cb b Qw0 false) 80)=Wn:=hWn;have HWn:=hid hWn;clear hWn;go_ret2;have hWn:=HWn.out;subst hWn;obtain ⟨⟨l1,l2,l3,l4⟩,hsb,QA9,hrb,hne⟩:=HS.out;have hn:=heap_alloc_new w1 (.cells (Qkk Cb b Qw0 false) 80);have hbn:Below w1.heap.size w1 (w1.alloc (.cells (Qkk Cb b Qw0 false) 80)):=(Below.refl _ _).alloc (Nat.le_refl _) _;have h0:=HK.out.k.bel.size;have hmp:MapF (QbZ .i64) (fun v:Value=>v) w1 rb (fun _=>none) 0:=⟨[],⟨#[],0,hrb,rfl⟩,List.nodup_nil,rfl,fun _=>rfl⟩
 have hs1:=HB1.out.size;exact ⟨⟨w1.heap.size,Cb,P,b,lb,mb,rb⟩,rfl,rfl,rfl,⟨(HK.out.step HB1.out).step hbn,⟨Qw0,hn,QwZ,fun e=>by cases e⟩,ShZ.below ⟨⟨0,0,hsb⟩,by rw [HMe.out];exact QA9,⟨_,_,hmp,fun z hz=>by cases hz⟩,List.nodup_nil,(fun z hz=>by cases hz),(fun z hz=>by cases hz),Nat.zero_le _,HM.out,hne,⟨Nat.le_trans h0 l1,Nat.le_trans h0 l2,Nat.le_trans h0 l3,Nat.le_trans h0 l4⟩⟩ hbn,(fun z hz=>by cases hz),fun _=>rfl,Nat.zero_le _,Nat.le_trans h0 hs1⟩,Qaa HB1.out hbn⟩
theorem Qdf{w:World}{Rb Cb Sb:Nat}{h:Hdr}{kn:Bool}(k:Qk4 w Rb Cb Sb h kn)(i:Nat)(v:Value)(hv:(Qkk Cb Sb h kn)[i]?=some v):w.cell? ⟨Rb,i,none⟩=some v:=by
 unfold Qk4 at k;unfold World.cell?;rw [k];exact hv
section
variable {w0 w:World} {A:Adr} {C:Con} {N:Net} {nx:Nat} {kn:Bool} {Z:List (Key×Nat×List Ent)}
theorem RdS.cellC(k:RdS w0 w A C N nx kn Z):w.cell? ⟨A.Rb,0,none⟩=some (.pointer (some ⟨A.Cb,0,none⟩)):=let ⟨h,h1,_⟩:=k.rd;Qdf h1 0 _ rfl
theorem RdS.cellS(k:RdS w0 w A C N nx kn Z):w.cell? ⟨A.Rb,1,none⟩=some (.pointer (some ⟨A.Sb,0,none⟩)):=let ⟨h,h1,_⟩:=k.rd;Qdf h1 1 _ rfl
theorem QdI(k:RdS w0 w A C N nx kn Z):Calls Tryz.prog 9 #[.pointer (some ⟨A.Rb,0,none⟩)] w fun e w'=>e = .returned (.int .i64 (N.a:Int))∧w'=w:=by
 have HC:=hid k.fc.asked;have c0:=k.cellC;clear k;go_enter Tryz.func9,Tryz.ntmps9;go_wp2_with fail;refine HC.out.mono ?_;rintro e w1 ⟨rfl,hw⟩;obtain rfl:=hw.symm;clear hw;go_wp2_with fail;go_ret;exact ⟨rfl,rfl⟩
structure NetRun(R:Nat)(N N':Net)(G E:Nat):Prop where
 le:N.a≤N'.a
 l:N'.l=N.l.drop (N'.a-N.a)
 lg:N'.lg.length=N.lg.length+(N'.a-N.a)
 n:N.n≤N'.n
 n':N'.n≤N.n+(N'.a-N.a)
 g:G≤N'.a-N.a
 g':N'.a-N.a≤G*(R+1)
 z:N.l = []→E=0∧N'.a=N.a+G∧N'.n=N.n
 e:E=0→N.last=0→N'.last=0
theorem NetRun.refl(R:Nat)(N:Net):NetRun R N N 0 0:=
 ⟨Nat.le_refl _,by simp,by simp,Nat.le_refl _,by omega,Nat.zero_le _,by omega,fun _=>⟨rfl,rfl,rfl⟩,fun _ h=>h⟩
theorem NetRun.trans{R G G' E:Nat}{N N' N'':Net}(h:NetRun R N N' G 0)(k:NetRun R N' N'' G' E):NetRun R N N'' (G+G') E:=by
 have h1:=h.le;have h2:=k.le;refine ⟨by omega,?_,?_,Nat.le_trans h.n k.n,?_,?_,?_,fun hz=>?_,fun he hl=>k.e he (h.e rfl hl)⟩
 ·rw [k.l,h.l,List.drop_drop]
  congr 1;omega
 ·rw [k.lg,h.lg];omega
 ·have:=h.n';have:=k.n';omega
 ·have:=h.g;have:=k.g;omega
 ·have:=h.g';have:=k.g'
  rw [Nat.add_mul];omega
 ·obtain ⟨-,a2,a3⟩:=h.z hz
  obtain ⟨b1,b2,b3⟩:=k.z (by rw [h.l,hz,List.drop_nil])
  exact ⟨b1,by omega,by omega⟩
theorem Net.Ok.run{R G E:Nat}{N N':Net}(h:N.Ok)(k:NetRun R N N' G E)(hb:N.lg.length+G*(R+1)≤900000∧N.n+G*(R+1)≤900000∧N.a+G*(R+1)≤900000):N'.Ok:=by
 have h1:=k.le;have h2:=k.lg;have h3:=k.n';have h4:=k.g';refine ⟨fun x hx=>h.x x (List.mem_of_mem_drop (by rw [←k.l];exact hx)),?_,by omega,by omega,by omega⟩
 rw [k.l,List.length_drop];have:=h.l;omega
theorem QqQ(f:List UInt8)(a n:Nat)(hn:0<n):(f.take ((a:Int)+(n:Int)-1+1).toNat).drop (a:Int).toNat=Qd8 f a n:=by
 rw [show ((a:Int)+(n:Int)-1+1).toNat=a+n by omega,Int.toNat_natCast]
 unfold Qd8;rw [List.drop_take,Nat.add_sub_cancel_left]
theorem QvP{W w2:World}{X:Nat}{a0 n0:Nat}(k:RdS w0 W A C N nx kn Z)(hX:W.heap[X]?=some (.cells #[.int .u64 (a0:Nat),.int .u64 (n0:Nat)] 93 (0,0)))(hT:Touch (FS A.P A.Cb N.lv) W w2) :
  w2.cell? ⟨A.Rb,0,none⟩=some (.pointer (some ⟨A.Cb,0,none⟩))∧w2.cell? ⟨X,0,none⟩=some (.int .u64 (a0:Nat))∧w2.cell? ⟨X,1,none⟩=some (.int .u64 (n0:Nat)):=by
 have hno:∀ i,(i≠A.P∧i≠A.Cb∧N.lv.ownBlock≠some i∧QiG N.rv≠some i)→¬FS A.P A.Cb N.lv i:=fun i hi hs=>by
  rcases hs with (e|e)|e
  ·exact hi.1 e
  ·exact hi.2.2.1 e
  ·exact hi.2.1 e
 obtain ⟨h,h1,h2⟩:=k.rd;have hX2:=(hT.block X (gsi hX).1 (hno X (k.fc.other (.inl ⟨_,_,hX,by decide,by decide,by decide,by decide⟩)))).trans hX
 have hR2:Qk4 w2 A.Rb A.Cb A.Sb h kn:=(hT.block A.Rb (gsi h1).1 (hno _ (k.sep.1 _ (.inr rfl)))).trans h1;exact ⟨Qdf hR2 0 _ rfl,(Qam hX2).1⟩
def Qpp(w0 w:World)(A:Adr)(C:Con)(N:Net)(nx:Nat)(kn:Bool)(Z:List (Key×Nat×List Ent))(a0 n0:Nat)(e:Ending)(w':World):Prop:=
 ∃ (E:Nat) (B:ByteArray) (N':Net),e = .returned (.tuple #[.string B,.int .i64 (E:Nat)])∧RdS w0 w' A C N' nx kn Z∧NetRun C.R N N' 1 E∧((E=0∧B.data.toList=Qd8 C.F a0 n0)∨(E=23∧B=⟨#[]⟩))∧RdTouch A N N' w w'
theorem Qgd(k:RdS w0 w A C N nx kn Z)(hE:EnvT w0)(hC:C.Ok)(hN:N.Ok)(a0 n0:Nat)(hn0:0<n0)(hin:a0+n0≤C.f.size)(hmx:n0≤65536) :
  Calls Tryz.prog 50 #[.pointer (some ⟨A.Rb,0,none⟩),.agg #[.int .u64 (a0:Nat),.int .u64 (n0:Nat)]] w (Qpp w0 w A C N nx kn Z a0 n0):=by
 have hf:=hC.f;have hr:Qc9 (a0:Int) ((a0:Int)+(n0:Int)-1)=0:=by unfold Qc9;rw [if_neg (by omega)]
 have hg:QjC (a0:Int) ((a0:Int)+(n0:Int)-1) (C.f.size:Int)=0:=by
  unfold QjC;rw [if_neg (by rintro (h|h);exact h hr;omega),if_neg (by unfold QaQ;split<;>omega)]
 have hB0:=Qai w (.int .u64 (a0:Nat)) (.int .u64 (n0:Nat)) 93;have k0:=k.below hB0;have kd:=k0.below (Below.refl _ _).drew;have HG:=hid (Qxz w0 _ A.Cb A.P C.hh C.hp C.f C.R N.l N.lg N.n N.a (a0:Int) ((a0:Int)+(n0:Int)-1) N.last N.rv N.lv hE kd.fc hC.R hC.f hN.x hN.l ⟨hN.lg,hN.n,hN.a⟩ hg hC.org);obtain ⟨c0,c1⟩:=QaA w (.int .u64 (a0:Nat)) (.int .u64 (n0:Nat)) 93;have r0:=k0.cellC;have HK:=hid kd;have HXb:=hid (heap_alloc_new w (.cells #[.int .u64 (a0:Nat),.int .u64 (n0:Nat)] 93));have HK0:=hid k;have HB0:=hid hB0;have HS:=hid (QqQ C.F a0 n0 hn0);have tw0:IntKind.i64.wrap (a0:Int)=(a0:Int):=by rw [IntKind.wrap_i64];omega
 have tw1:IntKind.u64.wrap ((a0:Int)+(n0:Int))=(a0:Int)+(n0:Int):=by rw [IntKind.wrap_u64];omega
 have tw2:IntKind.i64.wrap ((a0:Int)+(n0:Int))=(a0:Int)+(n0:Int):=by rw [IntKind.wrap_i64];omega
 have tw3:IntKind.i64.wrap ((a0:Int)+(n0:Int)-1)=(a0:Int)+(n0:Int)-1:=by rw [IntKind.wrap_i64];omega
 have TW:=hid (And.intro tw0 (And.intro tw1 (And.intro tw2 tw3)));clear k k0 kd hB0 hE hC hN hn0 hin hmx hf hr hg tw0 tw1 tw2 tw3;go_enter Tryz.func50,Tryz.ntmps50;go_wp2_with fail;generalize w.alloc (.cells #[.int .u64 (a0:Nat),.int .u64 (n0:Nat)] 93)=W0 at HG HK HB0 HXb c0 c1 r0 ⊢;generalize hX:w.heap.size=X at c0 c1 HXb ⊢;clear hX;obtain ⟨tw0,tw1,tw2,tw3⟩:=TW.out;have HXb:Hid (W0.drew.heap[X]?=some (.cells #[.int .u64 (a0:Nat),.int .u64 (n0:Nat)] 93 (0,0))):=hid HXb.out;have HSD:Hid (W0.drew.cell? ⟨A.Rb,0,none⟩=some (.pointer (some ⟨A.Cb,0,none⟩))∧W0.drew.cell? ⟨X,0,none⟩=some (.int .u64 (a0:Nat))∧W0.drew.cell? ⟨X,1,none⟩=some (.int .u64 (n0:Nat))):=hid ⟨r0,c0,c1⟩;go_region_held3 (fun w'=>w'.cell? ⟨A.Rb,0,none⟩=some (.pointer (some ⟨A.Cb,0,none⟩))∧w'.cell? ⟨X,0,none⟩=some (.int .u64 (a0:Nat))∧w'.cell? ⟨X,1,none⟩=some (.int .u64 (n0:Nat))) (first|exact HSD.out|exact HSX.out)
  (first
   |(go_at_call 93;refine HG.out.mono ?_;rintro e w2 ⟨E,B,rfl,hp⟩;have HP:=hid hp;have HSX:Hid (w2.cell? ⟨A.Rb,0,none⟩=some (.pointer (some ⟨A.Cb,0,none⟩))∧w2.cell? ⟨X,0,none⟩=some (.int .u64 (a0:Nat))∧w2.cell? ⟨X,1,none⟩=some (.int .u64 (n0:Nat))):=hid (QvP HK.out HXb.out (by obtain ⟨m,lg',n',last',rv',lv',hF,-,-,-,-,-,-,-,hT,-⟩:=hp;exact hT));clear hp))
 all_goals
  go_wp2_with fail;go_ret2;obtain ⟨m,lg',n',last',rv',lv',hF,h1,h2,h3,h4,h5,h6,h7,hT,ho⟩:=HP.out;have hk:=HK.out.net (N':=⟨N.l.drop m,lg',n',N.a+m,last',rv',lv'⟩) hF hT (Nat.le_add_right _ _);refine ⟨E,B,⟨N.l.drop m,lg',n',N.a+m,last',rv',lv'⟩,rfl,hk,⟨Nat.le_add_right _ _,?_,?_,h2,?_,?_,?_,fun hz=>?_,fun he _=>?_⟩,?_,⟨(Touch.of_below (Qaa HB0.out (Below.refl _ _).drew)).trans hT (fun i hi=>.inl (.inl hi)),fun g hg=>?_⟩⟩
  ·show N.l.drop m=N.l.drop (N.a+m-N.a)
   rw [Nat.add_sub_cancel_left]
  ·show lg'.length=N.lg.length+(N.a+m-N.a)
   rw [Nat.add_sub_cancel_left];exact h1
  ·show n'≤N.n+(N.a+m-N.a)
   rw [Nat.add_sub_cancel_left];exact h3
  ·show 1≤N.a+m-N.a
   omega
  ·show N.a+m-N.a≤1*(C.R+1)
   omega
  ·obtain ⟨q1,q2,q3⟩:=h7 hz
   exact ⟨q1,by show N.a+m=N.a+1;omega,q3⟩
  ·rcases h6 with ⟨-,-,q,-⟩|⟨q,-⟩
   ·exact q
   ·rw [he] at q;cases q
  ·rcases h6 with ⟨q1,q2,-⟩|⟨q1,q2,-⟩
   ·exact .inl ⟨q1,by rw [q2];exact HS.out⟩
   ·exact .inr ⟨q1,q2⟩
  ·rcases ho g hg with q|q
   ·exact .inl q
   ·exact .inr (Nat.le_trans HB0.out.size q)
end
end
section
open Go.RowKit
def Qwz(w0 w:World)(A:Adr)(C:Con)(N:Net)(T:Nat×List Ent)(e:Ending)(w':World):Prop:=
 ∃ (lost E:Nat) (v:Value) (N':Net) (nx':Nat) (kn':Bool) (Z':List (Key×Nat×List Ent)) (G:Nat),e = .returned (.tuple #[v,.int .i64 (E:Nat)])∧RdS w0 w' A C N' nx' kn' Z'∧NetRun C.R N N' G lost∧G≤1∧
  ((lost=0∧E=T.1∧(E=0→kn'=true∧w'.ownsRow w.heap.size 86 4 v T.2.length (Qay T.2)))∨(lost=23∧E=23))∧RdTouch A N N' w w'
section
variable {w0 w:World} {A:Adr} {C:Con} {N:Net} {nx:Nat} {kn:Bool} {Z:List (Key×Nat×List Ent)}
theorem RdTouch.shelf(A:Adr)(N:Net){w w':World}(h:Touch (ShS A.Sb A.lb A.mb A.rb) w w'):RdTouch A N N w w':=⟨h.mono (fun i hi=>.inr (.inl hi)),fun g hg=>.inl hg⟩
theorem Qd3(k:RdS w0 w A C N nx true Z)(hE:EnvT w0)(hC:C.Ok)(hN:N.Ok)(a:Key)(hn0:0<a.2)(hin:a.1+a.2≤C.f.size)(hmx:a.2≤65536) :
  Calls Tryz.prog 26 #[.pointer (some ⟨A.Rb,0,none⟩),.agg #[.int .u64 (a.1:Nat),.int .u64 (a.2:Nat)]] w (Qwz w0 w A C N (Qc4 (Qd8 C.F a.1 a.2))):=by
 have hB0:=Qai w (.int .u64 (a.1:Nat)) (.int .u64 (a.2:Nat)) 93;have HB0:=hid hB0;have HX:=hid (heap_alloc_new w (.cells #[.int .u64 (a.1:Nat),.int .u64 (a.2:Nat)] 93));have HK0:=hid (k.below hB0);have HLT:=hid k.lts;have HW0:=hid k.fc.k.bel.size;have HH:=hid (And.intro hE (And.intro hC (And.intro hN (And.intro hn0 (And.intro hin hmx)))));obtain ⟨c0,c1⟩:=QaA w (.int .u64 (a.1:Nat)) (.int .u64 (a.2:Nat)) 93
 by_cases hm:a∈Z.map (·.1)
 ·obtain ⟨z,hz,hza⟩:=List.mem_map.1 hm
  obtain ⟨Y1,Y2,hY⟩:=List.append_of_mem hz;subst hY;obtain ⟨o1,o2⟩:=k.ok z (by simp)
  rw [hza] at o2;rw [o2];have HO:=hid k.ok;obtain ⟨za,zn,zl⟩:=z;obtain rfl:za=a:=hza;have HD0:=hid (HK0.out.below (Below.refl _ _).drew);have HL:=hid (QpJ HD0.out.sh (Nat.le_trans HW0.out HB0.out.size));have r0:=HK0.out.cellS;clear k hB0 hE hC hN hn0 hin hmx hm hz o1 o2;go_enter Tryz.func26,Tryz.ntmps26;go_wp2_with fail;generalize w.alloc (.cells #[.int .u64 (za.1:Nat),.int .u64 (za.2:Nat)] 93)=W0 at HB0 HX HK0 HD0 HL c0 c1 r0 ⊢;generalize hX:w.heap.size=X at HX HLT HW0 c0 c1 ⊢;have HXe:=hid hX;clear hX;have HSD:Hid (W0.drew.cell? ⟨A.Rb,1,none⟩=some (.pointer (some ⟨A.Sb,0,none⟩))∧W0.drew.cell? ⟨X,0,none⟩=some (.int .u64 (za.1:Nat))∧W0.drew.cell? ⟨X,1,none⟩=some (.int .u64 (za.2:Nat))):=hid ⟨r0,c0,c1⟩;go_region_held3 (fun w'=>w'.cell? ⟨A.Rb,1,none⟩=some (.pointer (some ⟨A.Sb,0,none⟩))∧w'.cell? ⟨X,0,none⟩=some (.int .u64 (za.1:Nat))∧w'.cell? ⟨X,1,none⟩=some (.int .u64 (za.2:Nat))) (first|exact HSD.out|exact HSX.out)
   (first
    |(go_at_call 51;refine HL.out.mono ?_;rintro e w2 ⟨b2,c2,rfl,ho,hs,ht⟩;have HS2:=hid (And.intro ho (And.intro hs ht));have HSX:Hid (w2.cell? ⟨A.Rb,1,none⟩=some (.pointer (some ⟨A.Sb,0,none⟩))∧w2.cell? ⟨X,0,none⟩=some (.int .u64 (za.1:Nat))∧w2.cell? ⟨X,1,none⟩=some (.int .u64 (za.2:Nat))):=hid (by
      have hXd:W0.drew.heap[X]?=some (.cells #[.int .u64 (za.1:Nat),.int .u64 (za.2:Nat)] 93 (0,0)):=HX.out;have h2:=(ht.block X (gsi hXd).1 (fun hs=>absurd (HLT.out X (.inr (.inl hs))) (by omega))).trans hXd
      obtain ⟨h,h1,-⟩:=HD0.out.rd;have h3:Qk4 w2 A.Rb A.Cb A.Sb h true:=(ht.block A.Rb (gsi h1).1 HD0.out.own.1).trans h1;exact ⟨Qdf h3 1 _ rfl,(Qam h2).1⟩);clear ho hs ht))
  all_goals
   go_wp2_with fail;go_ret2;obtain ⟨ho,hs,ht⟩:=HS2.out;have hk:=HD0.out.shelf hs ht (fun z hz=>HO.out z (by
    rcases List.mem_append.1 hz with h1|h1
    ·rcases List.mem_append.1 h1 with h2|h2
     ·exact List.mem_append_left _ h2
     ·exact List.mem_append_right _ (List.mem_cons_of_mem _ h2)
    ·exact List.mem_append_right _ (by rw [List.mem_singleton.1 h1];exact List.mem_cons_self))) (fun e=>by cases e) HD0.out.nxa
   exact ⟨0,0,_,N,nx,true,_,0,rfl,hk,NetRun.refl _ _,by omega,.inl ⟨rfl,rfl,fun _=>⟨rfl,Qbd ho HB0.out.size⟩⟩,(RdTouch.of_below A N (Qaa HB0.out (Below.refl _ _).drew)).trans (RdTouch.shelf A N ht)⟩
 ·have HD0:=hid (HK0.out.below (Below.refl _ _).drew)
  have HL:=hid (Qka HD0.out.sh a hm);have HM:=hid hm;have HOk:=hid k.ok;have HNX:=hid (And.intro k.nxa hN.a);obtain ⟨T,hT⟩:∃ T,Qc4 (Qd8 C.F a.1 a.2)=T:=⟨_,rfl⟩;rw [hT];have HT:=hid hT;have r0:=HK0.out.cellS;clear k hB0 hE hC hN hn0 hin hmx hm hT;go_enter Tryz.func26,Tryz.ntmps26;go_wp2_with fail;generalize w.alloc (.cells #[.int .u64 (a.1:Nat),.int .u64 (a.2:Nat)] 93)=W0 at HB0 HX HK0 HD0 HL c0 c1 r0 ⊢;generalize hX:w.heap.size=X at HX HLT HW0 c0 c1;have HXe:=hid hX;clear hX;have HSD:Hid (W0.drew.cell? ⟨A.Rb,1,none⟩=some (.pointer (some ⟨A.Sb,0,none⟩))∧W0.drew.cell? ⟨X,0,none⟩=some (.int .u64 (a.1:Nat))∧W0.drew.cell? ⟨X,1,none⟩=some (.int .u64 (a.2:Nat))):=hid ⟨r0,c0,c1⟩;go_upto_region 1 with fail
  go_cut [6,7] (fun s6 s7 wx=>s6 = .slice none 0 0∧s7 = .bool false∧ShZ w0 wx A.Sb A.lb A.mb A.rb C.most nx Z∧Touch (ShS A.Sb A.lb A.mb A.rb) W0.drew wx)
  case first=>
   go_region_held3 (fun w'=>w'.cell? ⟨A.Rb,1,none⟩=some (.pointer (some ⟨A.Sb,0,none⟩))∧w'.cell? ⟨X,0,none⟩=some (.int .u64 (a.1:Nat))∧w'.cell? ⟨X,1,none⟩=some (.int .u64 (a.2:Nat))) (first|exact HSD.out|exact HSX.out)
    (first
     |(go_at_call 51;refine HL.out.mono ?_;rintro e w2 ⟨rfl,hs,ht⟩;have HS2:=hid (And.intro hs ht);have HSX:Hid (w2.cell? ⟨A.Rb,1,none⟩=some (.pointer (some ⟨A.Sb,0,none⟩))∧w2.cell? ⟨X,0,none⟩=some (.int .u64 (a.1:Nat))∧w2.cell? ⟨X,1,none⟩=some (.int .u64 (a.2:Nat))):=hid (by
       have hXd:W0.drew.heap[X]?=some (.cells #[.int .u64 (a.1:Nat),.int .u64 (a.2:Nat)] 93 (0,0)):=HX.out;have h2:=(ht.block X (gsi hXd).1 (fun hs=>absurd (HLT.out X (.inr (.inl hs))) (by omega))).trans hXd
       obtain ⟨h,h1,-⟩:=HD0.out.rd;have h3:Qk4 w2 A.Rb A.Cb A.Sb h true:=(ht.block A.Rb (gsi h1).1 HD0.out.own.1).trans h1;exact ⟨Qdf h3 1 _ rfl,(Qam h2).1⟩);clear hs ht))
   all_goals
    go_wp2_with fail;go_meet;exact ⟨rfl,rfl,HS2.out.1,HS2.out.2⟩
  obtain ⟨rfl,rfl,hs,ht⟩:=hcut;have HK1:=hid (HD0.out.shelf hs ht HOk.out (fun e=>by cases e) HD0.out.nxa)
  have HT1:=hid ((RdTouch.of_below A N (Qaa HB0.out (Below.refl _ _).drew)).trans (RdTouch.shelf A N ht));have HX1:Hid (wc.heap[X]?=some (.cells #[.int .u64 (a.1:Nat),.int .u64 (a.2:Nat)] 93 (0,0))):=hid (by
   have hXd:W0.drew.heap[X]?=some (.cells #[.int .u64 (a.1:Nat),.int .u64 (a.2:Nat)] 93 (0,0)):=HX.out;exact (ht.block X (gsi hXd).1 (fun hs=>absurd (HLT.out X (.inr (.inl hs))) (by omega))).trans hXd)
  clear hs ht HSD HL HD0 HK0 HX HB0 c0 c1 r0;obtain ⟨⟨c0,c1⟩,-⟩:=Qam HX1.out;go_wp2_with fail;obtain ⟨hE,hC,hN,hn0,hin,hmx⟩:=HH.out;have HG:=hid (Qgd HK1.out hE hC hN a.1 a.2 hn0 hin hmx);clear hE hC hN hn0 hin hmx;refine HG.out.mono ?_;rintro e w3 ⟨E,B,N',rfl,hk3,QAw,hcs,ht3⟩;have HK3:=hid hk3;have HR3:=hid QAw;have HT3:=hid (HT1.out.trans ht3);have HX3:Hid (w3.heap[X]?=some (.cells #[.int .u64 (a.1:Nat),.int .u64 (a.2:Nat)] 93 (0,0))):=hid ((ht3.stays (gsi HX1.out).1 (fun hs=>absurd (HLT.out X hs) (by omega))).trans HX1.out)
  clear hk3 QAw ht3 c0 c1 HG HK1 HT1 HX1;rcases hcs with ⟨hE0,hB⟩|⟨hE0,hB⟩
  ·subst hE0
   have HBd:=hid hB;have hBs:B.size≤1000000:=by
    have h1:B.data.toList.length=B.size:=Qab B;rw [hB] at h1;have h2:(Qd8 C.F a.1 a.2).length≤a.2:=by unfold Qd8;rw [List.length_take];exact Nat.min_le_left _ _
    have:=HH.out.2.2.2.2.2;omega
   have HKp:=Qjf (HK3.out.below (Below.refl _ _).drew).sh (by have:=HT3.out.t.size;rw [←HXe.out] at HW0;exact Nat.le_trans HW0.out this) a HM.out B hBs (by have:=HNX.out;omega)
   rw [hB,HT.out] at HKp;have HKp:=hid HKp;have r0:=HK3.out.cellS;obtain ⟨⟨c0,c1⟩,-⟩:=Qam HX3.out;have HSD:Hid (w3.drew.cell? ⟨A.Rb,1,none⟩=some (.pointer (some ⟨A.Sb,0,none⟩))∧w3.drew.cell? ⟨X,0,none⟩=some (.int .u64 (a.1:Nat))∧w3.drew.cell? ⟨X,1,none⟩=some (.int .u64 (a.2:Nat))):=hid ⟨r0,c0,c1⟩;clear hB hBs;go_wp2_with fail;go_region_held3 (fun w'=>w'.cell? ⟨A.Rb,1,none⟩=some (.pointer (some ⟨A.Sb,0,none⟩))∧w'.cell? ⟨X,0,none⟩=some (.int .u64 (a.1:Nat))∧w'.cell? ⟨X,1,none⟩=some (.int .u64 (a.2:Nat))) (first|exact HSD.out|exact HSX.out)
    (first
     |(go_at_call 52;refine HKp.out.mono ?_;rintro e w4 ⟨v,Z',nx',rfl,q1,q2,q3,q4,q5,q6,q7⟩;have HP:=hid (And.intro q1 (And.intro q2 (And.intro q3 (And.intro q4 (And.intro q5 (And.intro q6 q7))))));have HSX:Hid (w4.cell? ⟨A.Rb,1,none⟩=some (.pointer (some ⟨A.Sb,0,none⟩))∧w4.cell? ⟨X,0,none⟩=some (.int .u64 (a.1:Nat))∧w4.cell? ⟨X,1,none⟩=some (.int .u64 (a.2:Nat))):=hid (by
       have hXd:w3.drew.heap[X]?=some (.cells #[.int .u64 (a.1:Nat),.int .u64 (a.2:Nat)] 93 (0,0)):=HX3.out;have h2:=(q7.block X (gsi hXd).1 (fun hs=>absurd (HLT.out X (.inr (.inl hs))) (by omega))).trans hXd
       obtain ⟨h,h1,-⟩:=(HK3.out.below (Below.refl _ _).drew).rd;have h3:Qk4 w4 A.Rb A.Cb A.Sb h true:=(q7.block A.Rb (gsi h1).1 (HK3.out.below (Below.refl _ _).drew).own.1).trans h1;exact ⟨Qdf h3 1 _ rfl,(Qam h2).1⟩);clear q1 q2 q3 q4 q5 q6 q7))
   all_goals
    go_wp2_with fail;go_ret2;obtain ⟨q1,q2,q3,q4,q5,q6,q7⟩:=HP.out;have hk:=(HK3.out.below (Below.refl _ _).drew).shelf q3 q7 (fun z hz=>by
     rcases q6 z hz with h1|⟨h1,h2,h3⟩
     ·exact HOk.out z h1
     ·rw [h1,h2,HT.out]
      exact ⟨HH.out.2.2.2.2.1,by rw [←h3]⟩) (fun e=>by cases e) (by have:=HR3.out.g;have:=HR3.out.le;have:=HNX.out;omega)
    exact ⟨0,T.1,v,N',nx',true,Z',1,rfl,hk,HR3.out,Nat.le_refl _,.inl ⟨rfl,rfl,fun h0=>⟨rfl,Qbd (q2 h0) HT3.out.t.size⟩⟩,(HT3.out.trans (RdTouch.of_below A N' (Below.refl _ _).drew)).trans (RdTouch.shelf A N' q7)⟩
  ·subst hE0 hB
   go_wp2_with fail;go_ret2;exact ⟨23,23,_,N',nx,true,Z,1,rfl,HK3.out,HR3.out,Nat.le_refl _,.inr ⟨rfl,rfl⟩,HT3.out⟩
end
end
section
open Go.RowKit
section
variable {w0 w:World} {A:Adr} {C:Con} {N:Net} {nx:Nat} {kn:Bool} {Z:List (Key×Nat×List Ent)}
theorem RdS.opened{w1 w2:World}{nx':Nat}{Z':List (Key×Nat×List Ent)}(k:RdS w0 w A C N nx kn Z)(hs:ShZ w0 w1 A.Sb A.lb A.mb A.rb C.most nx' Z')(ht:Touch (ShS A.Sb A.lb A.mb A.rb) w w1)(hok:∀ z∈Z',z.1.1+z.1.2≤C.f.size∧Qc4 (Qd8 C.F z.1.1 z.1.2)=(0,z.2.2))(hn:nx'≤N.a)(h:Hdr)(ho:HdrOk h)(hh:h=Qb6 C.F∧Qcn C.F=0)(hb:Qk4 w2 A.Rb A.Cb A.Sb h true)(ht2:Touch (fun i=>i=A.Rb) w1 w2):RdS w0 w2 A C N nx' true Z':=by
 obtain ⟨s1,s2⟩:=k.sep;obtain ⟨o1,o2⟩:=k.own;obtain ⟨h0,hb0,-⟩:=k.rd;have hb1:Qk4 w1 A.Rb A.Cb A.Sb h0 kn:=(ht.block A.Rb (gsi hb0).1 o1).trans hb0;unfold Qk4 at hb1;exact ⟨(k.fc.touch ht (fun i hi=>k.low i (.inr (.inl hi))) (fun i hi=>s1 i (.inl hi))).touch ht2 (fun i hi=>by rw [hi];exact k.lo) (fun i hi=>by rw [hi];exact s1 _ (.inr rfl)),⟨h,hb,ho,fun _=>hh⟩,hs.far ht2 (fun e=>o1 (.inl e.symm)) (fun e=>o1 (.inr (.inl (.inl e.symm)))) (fun e=>o1 (.inr (.inl (.inr e.symm)))) (fun e=>o1 (.inr (.inr e.symm))) (fun i D hD e=>by
  rw [e,hb1] at hD;simp only [Option.some.injEq,Obj.cells.injEq] at hD;exact absurd hD.2.1 (by decide)),hok,(fun e=>by cases e),hn,k.lo⟩
theorem Qp7(hs:C.f.size<127):Qcn C.F=3:=by
 have hl:C.F.length=C.f.size:=Qab C.f;have h:Qg1 C.F=3:=by unfold Qg1;exact if_pos (by omega)
 unfold Qcn;rw [h];rfl
theorem Qp8(hs:¬C.f.size<127):Qg1 C.F=if Qfj (Qep C.F)≠0 then Qfj (Qep C.F) else QnY (Qb6 C.F) C.f.size:=by
 have hl:C.F.length=C.f.size:=Qab C.f;unfold Qg1;rw [if_neg (by omega),hl]
theorem Qv8(C:Con):Qd8 C.F 0 (min C.f.size 16384)=Qep C.F:=by
 have hl:C.F.length=C.f.size:=Qab C.f;unfold Qd8 Qep;rw [List.drop_zero]
 by_cases h:C.f.size≤16384
 ·rw [Nat.min_eq_left h,←hl,List.take_length,List.take_of_length_le (by omega)]
 ·rw [Nat.min_eq_right (by omega)]
theorem Qtj(L:List UInt8)(h:Qfj L=0):Qd6 (QmO L)=true:=by
 unfold Qfj at h;split at h
 ·cases h
 ·split at h
  ·cases h
  ·split at h
   ·cases h
   ·split at h
    ·cases h
    ·exact Qiw _ h
theorem QlA(k:RdS w0 w A C N nx kn Z){H:Nat}{CS:Array Value}(hX:w.heap[H]?=some (.cells CS 78 (0,0))){v0 v1:Value}(h0:CS[0]?=some v0)(h1:CS[1]?=some v1):w.cell? ⟨A.Rb,1,none⟩=some (.pointer (some ⟨A.Sb,0,none⟩))∧w.cell? ⟨H,0,none⟩=some v0∧w.cell? ⟨H,1,none⟩=some v1:=
 ⟨k.cellS,(Qao hX 0 v0 h0).1,(Qao hX 1 v1 h1).1⟩
def QzE(w0 w:World)(b lb mb rb most nx:Nat)(Z:List (Key×Nat×List Ent))(a:Key)(R:Nat×List Ent)(v:Value)(Z':List (Key×Nat×List Ent))(nx':Nat)(w':World):Prop:=
 (R.1≠0→v = .slice none 0 0∧Z'=Z)∧(R.1=0→w'.ownsRow w.heap.size 86 4 v R.2.length (Qay R.2))∧ShZ w0 w' b lb mb rb most nx' Z'∧nx'≤nx+1∧nx≤nx'∧(∀ z∈Z',z∈Z∨(z.1=a∧z.2.2=R.2∧R.1=0))∧Touch (ShS b lb mb rb) w w'
def QzF(cs:Array Value):Nat→List Value→Array Value
 |_,[]=>cs
 |o,v :: r=>QzF (cs.set! o v) (o+1) r
theorem Qef{b:Nat}{T:TypeId}{fr:Nat×Nat}:∀ (vs:List Value) (o:Nat) {w:World} {cs:Array Value},w.heap[b]?=some (.cells cs T fr)→(w.setCells b o vs).heap[b]?=some (.cells (QzF cs o vs) T fr)
 |[],_,_,_,k=>k
 |v :: r,o,_,_,k=>Qef r (o+1) (Qat k o v)
theorem QeW{b:Nat}:∀ (vs:List Value) (o:Nat) (w w':World),Touch (fun i=>i=b) w w'→Touch (fun i=>i=b) w (w'.setCells b o vs)
 |[],_,_,_,k=>k
 |v :: r,o,w,w',k=>QeW r (o+1) w (w'.setCell ⟨b,o,none⟩ v) (Qaf (a:=⟨b,o,none⟩) v k (.inl rfl))
theorem QpV(Cb Sb:Nat)(h h':Hdr)(kn:Bool):(QzF (Qkk Cb Sb h kn) 2 (QbF h').toList).set! 26 (.bool true)=Qkk Cb Sb h' true:=by kernel_rfl
theorem QrY{w:World}{Rb Cb Sb:Nat}{h h':Hdr}{kn:Bool}(k:Qk4 w Rb Cb Sb h kn)(CS:Array Value)(hC:CS=QbF h'):Qk4 ((w.setCells Rb 2 CS.toList).setCell ⟨Rb,26,none⟩ (.bool true)) Rb Cb Sb h' true:=by
 subst hC;have h1:=Qat (Qef (QbF h').toList 2 k) 26 (.bool true);rw [QpV] at h1;exact h1
theorem QyU(Cb Sb:Nat)(h h':Hdr)(kn:Bool):(QzF (Qkk Cb Sb h kn) 2 (QbF h').toList)[26]?=some (.bool kn):=by kernel_rfl
theorem Qne{w:World}{Rb Cb Sb:Nat}{h h':Hdr}{kn:Bool}(k:Qk4 w Rb Cb Sb h kn)(CS:Array Value)(hC:CS=QbF h'):∃ v,(w.setCells Rb 2 CS.toList).cell? ⟨Rb,26,none⟩=some v∧(w.setCells Rb 2 CS.toList).frozen? ⟨Rb,26,none⟩=false:=by
 subst hC;exact ⟨_,Qao (Qef (QbF h').toList 2 k) 26 _ (QyU Cb Sb h h' kn)⟩
theorem QrX{w:World}{Rb Cb Sb:Nat}{h:Hdr}{kn:Bool}(k:Qk4 w Rb Cb Sb h kn):w.there Rb 2 24:=fun j hj=>by
 unfold Qk4 at k;have hs:2+j<(Qkk Cb Sb h kn).size:=by show 2+j<27;omega
 refine ⟨?_,?_⟩
 ·unfold World.cell?
  rw [k];simp [hs]
 ·unfold World.frozen?
  rw [k];rfl
theorem Qx0(C:Con):HdrOk (Qb6 C.F):=Qtk _
theorem Qnh(k:RdS w0 w A C N nx false Z)(hE:EnvT w0)(hC:C.Ok)(hN:N.Ok) :
  Calls Tryz.prog 47 #[.pointer (some ⟨A.Rb,0,none⟩)] w (Qwz w0 w A C N (Qcn C.F,(Qc4 (Qdw C.F)).2)):=by
 have HT:=hid k.fc.total;have c0:=k.cellC;have HH:=hid (And.intro hE (And.intro hC hN));have HK:=hid k;have HLT:=hid k.lts
 by_cases hs:C.f.size<127
 ·have t1:decide ((C.f.size:Int)<127)=true:=decide_eq_true (by omega)
  have t2:decide (C.f.size<127)=true:=decide_eq_true hs;have HR:=hid (Qp7 hs);clear k hE hC hN hs;go_enter Tryz.func47,Tryz.ntmps47;go_wp2_with fail;refine HT.out.mono ?_;rintro e w1 ⟨rfl,hw⟩;obtain rfl:=hw.symm;clear hw;go_wp2_with fail;go_ret2;exact ⟨0,3,_,N,nx,false,Z,0,rfl,HK.out,NetRun.refl _ _,by omega,.inl ⟨rfl,HR.out.symm,fun e=>by cases e⟩,RdTouch.refl _ _ _⟩
 have HO:=hid (Qp8 hs);have t1:decide ((C.f.size:Int)<127)=false:=decide_eq_false (by omega)
 have t2:decide (C.f.size<127)=false:=decide_eq_false hs;have hfb:C.f.size≤20000:=hC.f;have HS:=hid hs;obtain ⟨m,hm⟩:∃ m,min C.f.size 16384=m:=⟨_,rfl⟩;have hmi:min (C.f.size:Int) 16384=(m:Int):=by omega
 have HG:=Qgd k hE hC hN 0 m (by omega) (by omega) (by omega)
 unfold Qpp at HG;rw [←hm,Qv8,hm] at HG;have HG:=hid HG;clear k hE hC hN hs;go_enter Tryz.func47,Tryz.ntmps47;go_wp2_with fail;refine HT.out.mono ?_;rintro e w1 ⟨rfl,hw⟩;obtain rfl:=hw.symm;clear hw;go_wp2_with fail;refine HG.out.mono ?_;rintro e w3 ⟨E,B,N',rfl,hk3,QAw,hcs,ht3⟩;have HK3:=hid hk3;have HR3:=hid QAw;have HT3:=hid ht3;clear hk3 QAw ht3 HG;rcases hcs with ⟨hE0,hB⟩|⟨hE0,hB⟩
 ·subst hE0
  obtain ⟨L,hL⟩:∃ L,Qep C.F=L:=⟨_,rfl⟩;rw [hL] at hB;have hBl:B.size≤1000000:=by
   have h1:B.data.toList.length=B.size:=Qab B;rw [hB,←hL] at h1;have h2:(Qep C.F).length≤16384:=by unfold Qep;rw [List.length_take];exact Nat.min_le_left _ _
   omega
  have HDc:=QfI B hBl w3;rw [hB] at HDc;obtain ⟨CS,hCS⟩:∃ CS,QbF (QxZ L)=CS:=⟨_,rfl⟩;have hsz:CS.size=24:=by rw [←hCS];rfl
  have QAA:CS.all (·.oneCell')=true:=by rw [←hCS];simp [QbF,Value.oneCell']
  have hszi:(Tryz.prog.info? 78).map (·.size)=some CS.size:=by rw [hsz];kernel_rfl
  rw [hCS] at HDc;obtain ⟨Eh,hEh⟩:∃ Eh,Qfj L=Eh:=⟨_,rfl⟩;rw [hEh] at HDc;have HDc:=hid HDc;have HC:=hid (And.intro hsz (And.intro QAA hszi));have HL:=hid (And.intro hL (And.intro hB (And.intro hCS hEh)));clear hL hB hCS hEh hsz QAA hszi hBl;go_wp2_with fail;refine HDc.out.mono ?_;rintro e w4 ⟨rfl,hb4⟩;have HB4:=hid hb4;have HX4:=hid (heap_alloc_new w4 (.cells #[.int .u64 0,.int .u64 0,.int .u64 0,.int .u64 0,.int .u64 0,.int .u64 0,.int .u64 0,.int .u64 0,.int .u64 0,.int .u64 0,.int .u64 0,.bool false,.int .u8 0,.int .u8 0,.int .u8 0,.int .i64 0,.int .i64 0,.int .i64 0,.int .i64 0,.int .i64 0,.int .i64 0,.int .i64 0,.int .i64 0,.int .i64 0] 78));have HA4:Hid (Below w4.heap.size w4 (w4.alloc (.cells #[.int .u64 0,.int .u64 0,.int .u64 0,.int .u64 0,.int .u64 0,.int .u64 0,.int .u64 0,.int .u64 0,.int .u64 0,.int .u64 0,.int .u64 0,.bool false,.int .u8 0,.int .u8 0,.int .u8 0,.int .i64 0,.int .i64 0,.int .i64 0,.int .i64 0,.int .i64 0,.int .i64 0,.int .i64 0,.int .i64 0,.int .i64 0] 78))):=hid ((Below.refl _ _).alloc (Nat.le_refl _) _);clear hb4 HDc;go_upto_region 8 with (refine wpList_store_row rfl 78 (.tmp 7) (.tmp 32) rfl w4.heap.size CS rfl rfl 78 #[.int .u64 0,.int .u64 0,.int .u64 0,.int .u64 0,.int .u64 0,.int .u64 0,.int .u64 0,.int .u64 0,.int .u64 0,.int .u64 0,.int .u64 0,.bool false,.int .u8 0,.int .u8 0,.int .u8 0,.int .i64 0,.int .i64 0,.int .i64 0,.int .i64 0,.int .i64 0,.int .i64 0,.int .i64 0,.int .i64 0,.int .i64 0] HX4.out HC.out.2.2 (by rw [HC.out.1];rfl) HC.out.2.1 ?_)
  have HX5:=hid (setRow_heap _ _ _ CS _ _ HX4.out);have HB5:=hid (Qba (Qaa HB4.out HA4.out) HB4.out.size CS);generalize (w4.alloc _).setRow w4.heap.size CS=W5 at HX5 HB5 ⊢;have HHw:=hid (Nat.le_trans HT3.out.t.size HB4.out.size);clear HX4 HA4 HB4;generalize w4.heap.size=H at HX5 HHw ⊢;have HK5:=hid (HK3.out.below HB5.out);have HT5:=hid (HT3.out.trans (RdTouch.of_below A N' HB5.out));clear HK3 HT3 HB5
  by_cases hE1:Eh=0
  ·subst hE1
   have hF:Qb6 C.F=QmO L:=by unfold Qb6;rw [HL.out.1]
   have hsb:Qd6 (Qb6 C.F)=true:=by rw [hF];exact Qtj L HL.out.2.2.2
   have hCF:CS=QbF (Qb6 C.F):=by rw [←HL.out.2.2.1,hF];exact QkQ L HL.out.2.2.2
   have HFi:Hid (∀ W,Calls Tryz.prog 87 #[.agg CS,.int .i64 C.f.size] W fun e w'=>e = .returned (.int .i64 (QnY (Qb6 C.F) C.f.size:Nat))∧Below W.heap.size W w'):=hid (fun W=>by
    have:=Qni (Qb6 C.F) hsb C.f.size (by omega) W
    rw [hCF];exact this)
   obtain ⟨Ef,hEf⟩:∃ Ef,QnY (Qb6 C.F) C.f.size=Ef:=⟨_,rfl⟩;rw [hEf] at HFi;have HFe:=hid (And.intro hsb (And.intro hCF hEf));clear hsb hF hCF hEf;go_wp2_with (refine wpList_load_row rfl 78 (.tmp 7) rfl H rfl 78 CS (0,0) _ HX5.out Tryz.underlying78 rfl HC.out.2.2 ?_);refine (HFi.out _).mono ?_;rintro e w6 ⟨rfl,hb6⟩;have HK6:=hid (HK5.out.below hb6);have HT6:=hid (HT5.out.trans (RdTouch.of_below A N' hb6));have HX6:=hid (Qae HX5.out hb6);clear hb6 HK5 HT5 HX5 HFi
   by_cases hE2:Ef=0
   ·subst hE2
    obtain ⟨f1,f2,f3,f4,f5⟩:=QnX _ _ HFe.out.2.2;obtain ⟨⟨g1,g2,g3⟩,-⟩:=Qkc _ HFe.out.1;have QAK:Qdr=1099511627776:=rfl;have hope:Qg1 C.F=0:=by
     rw [HO.out,HL.out.1,HL.out.2.2.2,if_neg (fun x=>x rfl)]
     exact HFe.out.2.2
    have hrb:=QpQ C.F hope;obtain ⟨p,hp⟩:∃ p,(Qb6 C.F).rf=p:=⟨_,rfl⟩;obtain ⟨q,hq⟩:∃ q,(Qb6 C.F).rl=q:=⟨_,rfl⟩;rw [hp,hq] at hrb f1 f5 g3;rw [hp] at g1;rw [hq] at g2;have hc0:CS[0]?=some (.int .u64 (p:Nat)):=by rw [HFe.out.2.1,←hp];rfl
    have hc1:CS[1]?=some (.int .u64 (q:Nat)):=by rw [HFe.out.2.1,←hq];rfl
    have hBl:p+q≤B.size:=by
     have h1:B.data.toList.length=B.size:=Qab B;rw [HL.out.2.1,←HL.out.1] at h1;have h2:C.F.length=C.f.size:=Qab C.f;have h3:(Qep C.F).length=min 16384 C.F.length:=by unfold Qep;rw [List.length_take]
     omega
    have hex:(B.extract p (p+q)).data.toList=Qdw C.F:=by
     rw [Qfb,HL.out.2.1,hrb,HL.out.1];rfl
    have hesz:(B.extract p (p+q)).size≤1000000:=by
     have h1:(B.extract p (p+q)).data.toList.length=(B.extract p (p+q)).size:=Qab _;rw [hex,hrb] at h1;have h2:(Qd8 (Qep C.F) p q).length≤q:=by unfold Qd8;rw [List.length_take];exact Nat.min_le_left _ _
     omega
    have HCe:=hid (And.intro hc0 hc1);have HPQ:=hid (And.intro hp (And.intro hq (And.intro hope (And.intro hex hesz))));have HZ:=hid (HK6.out.kz rfl);have hZ:=HZ.out;subst hZ;have HSe:=hid (fun W=>Qb4 p q W (by omega) (by omega))
    have HB6:Hid (Below w6.heap.size w6 w6.drew):=hid (Below.refl _ _).drew;have hnxa:=HK6.out.nxa;have hNb:N'.a≤1000000:=by
     have h1:=HR3.out.g';have h2:=HH.out.2.2.a;have h3:=HH.out.2.1.R;omega
    have hw6:w0.heap.size≤w6.heap.size:=HK6.out.fc.k.bel.size;have HKe:Hid (∀ W,Below w6.heap.size w6 W→Calls Tryz.prog 52 #[.pointer (some ⟨A.Sb,0,none⟩),.agg #[.int .u64 (p:Nat),.int .u64 (q:Nat)],.string (B.extract p (p+q))] W (Qps w0 W A.Sb A.lb A.mb A.rb C.most nx [] (p,q) (Qc4 (Qdw C.F)))):=hid (fun W hW=>by
     have:=Qjf (HK6.out.below hW).sh (Nat.le_trans hw6 hW.size) (p,q) (fun hm=>by cases hm) (B.extract p (p+q)) hesz (by omega)
     rw [hex] at this;exact this)
    obtain ⟨T,hT⟩:∃ T,Qc4 (Qdw C.F)=T:=⟨_,rfl⟩;rw [hT] at HKe;have HTe:=hid hT;have HSD:Hid (w6.drew.cell? ⟨A.Rb,1,none⟩=some (.pointer (some ⟨A.Sb,0,none⟩))∧w6.drew.cell? ⟨H,0,none⟩=some (.int .u64 (p:Nat))∧w6.drew.cell? ⟨H,1,none⟩=some (.int .u64 (q:Nat))):=hid (QlA (HK6.out.below HB6.out) (Qae HX6.out HB6.out) hc0 hc1);have i0:(0:Int)≤(p:Int):=by omega
    have i1:(p:Int)≤((p+q:Nat):Int):=by omega
    have i2:((p+q:Nat):Int)≤(B.size:Int):=by omega
    have i3:(p:Int)≤(p:Int)+(q:Int):=by omega
    have i4:(p:Int)+(q:Int)≤(B.size:Int):=by omega
    have i5:((p:Int)+(q:Int)).toNat=p+q:=by omega
    have HI:=hid (And.intro f1 (And.intro f5 (And.intro hBl (And.intro hnxa hNb))));clear f1 f2 f3 f4 f5 g1 g2 g3 hope hrb hp hq hc0 hc1 hBl hex hesz hT hnxa hNb hw6 QAK;go_upto_region 13 with fail
    go_cut [9,6] (fun s9 s6 wx=>∃ v Z' nx' w7,s9=v∧s6 = .int .i64 (T.1:Nat)∧Below w6.heap.size w6 w7∧QzE w0 w7 A.Sb A.lb A.mb A.rb C.most nx [] (p,q) T v Z' nx' wx)
    case first=>
     go_region_held3 (fun w'=>w'.cell? ⟨A.Rb,1,none⟩=some (.pointer (some ⟨A.Sb,0,none⟩))∧w'.cell? ⟨H,0,none⟩=some (.int .u64 (p:Nat))∧w'.cell? ⟨H,1,none⟩=some (.int .u64 (q:Nat))) (first|exact HSD.out|exact HSX.out|exact HSY.out)
      (first
       |(go_at_call 88;refine (HSe.out _).mono ?_;rintro e w7 ⟨rfl,hb7⟩;have HB7:Hid (Below w6.heap.size w6 w7):=hid (Qaa HB6.out hb7);have HSX:Hid (w7.cell? ⟨A.Rb,1,none⟩=some (.pointer (some ⟨A.Sb,0,none⟩))∧w7.cell? ⟨H,0,none⟩=some (.int .u64 (p:Nat))∧w7.cell? ⟨H,1,none⟩=some (.int .u64 (q:Nat))):=hid (QlA (HK6.out.below HB7.out) (Qae HX6.out HB7.out) HCe.out.1 HCe.out.2);clear hb7)
       |(go_at_call 52;refine (HKe.out _ HB7.out).mono ?_;rintro e w8 ⟨v8,Z8,nx8,rfl,q8⟩;have HQ8:Hid (QzE w0 w7 A.Sb A.lb A.mb A.rb C.most nx [] (p,q) T v8 Z8 nx8 w8):=hid q8;have HSY:Hid (w8.cell? ⟨A.Rb,1,none⟩=some (.pointer (some ⟨A.Sb,0,none⟩))∧w8.cell? ⟨H,0,none⟩=some (.int .u64 (p:Nat))∧w8.cell? ⟨H,1,none⟩=some (.int .u64 (q:Nat))):=hid (by
         have ht:=HQ8.out.2.2.2.2.2.2;have hx7:=Qae HX6.out HB7.out;have hk7:=HK6.out.below HB7.out;obtain ⟨h,h1,-⟩:=hk7.rd;have h3:Qk4 w8 A.Rb A.Cb A.Sb h false:=(ht.block A.Rb (gsi h1).1 hk7.own.1).trans h1;have h4:=(ht.block H (gsi hx7).1 (fun hs=>by have:=HLT.out H (.inr (.inl hs));have:=HHw.out;omega)).trans hx7
         exact ⟨Qdf h3 1 _ rfl,(Qao h4 0 _ HCe.out.1).1,(Qao h4 1 _ HCe.out.2).1⟩);clear q8))
     all_goals
      go_wp2_with fail;go_meet;exact ⟨v8,Z8,nx8,w7,rfl,rfl,HB7.out,HQ8.out⟩
    obtain ⟨v,Z',nx',w7,hs9,rfl,hb7,q1,q2,q3,q4,q5,q6,q7⟩:=hcut;subst hs9;have HB7:=hid hb7;have HQ:=hid (And.intro q1 (And.intro q2 (And.intro q3 (And.intro q4 (And.intro q5 (And.intro q6 q7))))));have HX8:Hid (wc.heap[H]?=some (.cells CS 78 (0,0))):=hid (by
     have hx7:=Qae HX6.out hb7;exact (q7.block H (gsi hx7).1 (fun hs=>by have:=HLT.out H (.inr (.inl hs));have:=HHw.out;omega)).trans hx7)
    have HT8:=hid ((HT6.out.trans (RdTouch.of_below A N' hb7)).trans (RdTouch.shelf A N' q7));have hoks:∀ z∈Z',z.1.1+z.1.2≤C.f.size∧Qc4 (Qd8 C.F z.1.1 z.1.2)=(0,z.2.2):=fun z hz=>by
     rcases q6 z hz with h1|⟨h1,h2,h3⟩
     ·cases h1
     ·rw [h1,h2]
      refine ⟨HI.out.1,?_⟩;have hrb:Qdw C.F=Qd8 C.F p q:=by rw [←HPQ.out.1,←HPQ.out.2.1];rfl
      show Qc4 (Qd8 C.F p q)=_;rw [←hrb,HTe.out,←h3]
    have HOk:=hid hoks;have HN8:Hid (nx'≤N'.a):=hid (by have:=HR3.out.g;have:=HR3.out.le;have:=HK.out.nxa;omega)
    clear hb7 q1 q2 q3 q4 q5 q6 q7 hoks i0 i1 i2 i3 i4 i5;have hrt:Qcn C.F=T.1:=by
     unfold Qcn;rw [HPQ.out.2.2.1,if_neg (fun x=>x rfl),HTe.out]
    have HRt:=hid hrt;clear hrt
    by_cases hT1:T.1=0
    ·have tE:((T.1:Int) != 0)=false:=by rw [hT1];rfl
     have HT1:=hid hT1;clear hT1;obtain ⟨hr7,hb7,-⟩:=(HK6.out.below HB7.out).rd;have hb8:Qk4 wc A.Rb A.Cb A.Sb hr7 false:=(HQ.out.2.2.2.2.2.2.block A.Rb (gsi hb7).1 (HK6.out.below HB7.out).own.1).trans hb7;have HB8:=hid hb8;have HRs:=hid (QrY hb8 CS HFe.out.2.1);have HTs:Hid (Touch (fun i=>i=A.Rb) wc ((wc.setCells A.Rb 2 CS.toList).setCell ⟨A.Rb,26,none⟩ (.bool true))):=hid (Qaf (a:=⟨A.Rb,26,none⟩) _ (QeW CS.toList 2 wc wc (Touch.refl _ _)) (.inl rfl))
     have hc26:=Qne hb8 CS HFe.out.2.1;obtain ⟨v26,d26,f26⟩:=hc26;clear hb7 hb8;go_upto_region 17 with (first|(refine wpList_load_row rfl 78 (.tmp 7) rfl H rfl 78 CS (0,0) _ HX8.out Tryz.underlying78 rfl HC.out.2.2 ?_)|(refine wpList_store_mid rfl 78 (.tmp 68) (.tmp 66) rfl A.Rb 2 CS rfl rfl (by rw [HC.out.1];exact QrX HB8.out) HC.out.2.2 HC.out.2.1 ?_))
     generalize (wc.setCells A.Rb 2 CS.toList).setCell ⟨A.Rb,26,none⟩ (.bool true)=W9 at HRs HTs ⊢;clear d26 f26;go_wp2_with fail;go_ret2;have hk9:=(HK6.out.below HB7.out).opened HQ.out.2.2.1 HQ.out.2.2.2.2.2.2 HOk.out HN8.out (Qb6 C.F) (Qx0 C) ⟨rfl,by rw [HRt.out];exact HT1.out⟩ HRs.out HTs.out
     refine ⟨0,0,_,N',nx',true,Z',1,rfl,hk9,HR3.out,Nat.le_refl _,.inl ⟨rfl,?_,fun _=>⟨rfl,?_⟩⟩,HT8.out.trans ⟨HTs.out.mono (fun i hi=>.inr (.inr hi)),fun g hg=>.inl hg⟩⟩
     ·show 0=Qcn C.F
      rw [HRt.out,HT1.out]
     ·have ho:=HQ.out.2.1 HT1.out
      show W9.ownsRow w.heap.size 86 4 _ (Qc4 (Qdw C.F)).2.length (Qay (Qc4 (Qdw C.F)).2);rw [HTe.out];have ho2:=Qbd ho (Nat.le_trans HT6.out.t.size HB7.out.size);exact QoB ho2 HTs.out (fun g hg e=>by
       have h1:=(ho2.lt g hg).1;have h2:=HLT.out A.Rb (.inr (.inr rfl));omega)
    ·have tE:((T.1:Int) != 0)=true:=by rw [bne_iff_ne];omega
     have HT1:=hid hT1;clear hT1;go_wp2_with fail;go_ret2;have hk9:=(HK6.out.below HB7.out).shelf HQ.out.2.2.1 HQ.out.2.2.2.2.2.2 HOk.out (fun _=>(HQ.out.1 HT1.out).2) HN8.out
     refine ⟨0,T.1,_,N',nx',false,Z',1,rfl,hk9,HR3.out,Nat.le_refl _,.inl ⟨rfl,HRt.out.symm,fun e=>absurd e HT1.out⟩,HT8.out⟩
   ·have tE:((Ef:Int) != 0)=true:=by rw [bne_iff_ne];omega
    have HE2:=hid hE2;clear hE2;go_wp2_with fail;go_ret2;refine ⟨0,Ef,_,N',nx,false,Z,1,rfl,HK6.out,HR3.out,Nat.le_refl _,.inl ⟨rfl,?_,fun e=>absurd e HE2.out⟩,HT6.out⟩
    have ho:=HO.out;rw [HL.out.1,HL.out.2.2.2,if_neg (fun x=>x rfl),HFe.out.2.2] at ho
    show Ef=Qcn C.F;unfold Qcn;rw [ho,if_pos HE2.out]
  ·have tE:((Eh:Int) != 0)=true:=by rw [bne_iff_ne];omega
   have HE1:=hid hE1;clear hE1;go_wp2_with fail;go_ret2;refine ⟨0,Eh,_,N',nx,false,Z,1,rfl,HK5.out,HR3.out,Nat.le_refl _,.inl ⟨rfl,?_,fun e=>absurd e HE1.out⟩,HT5.out⟩
   have ho:=HO.out;rw [HL.out.1,HL.out.2.2.2,if_pos HE1.out] at ho;show Eh=Qcn C.F;unfold Qcn;rw [ho,if_pos HE1.out]
 ·subst hE0 hB
  go_wp2_with fail;go_ret2;exact ⟨23,23,_,N',nx,false,Z,1,rfl,HK3.out,HR3.out,Nat.le_refl _,.inr ⟨rfl,rfl⟩,HT3.out⟩
end
end
section
open Go.RowKit
section
variable {w0 w:World} {A:Adr} {C:Con} {N:Net} {nx:Nat} {kn:Bool} {Z:List (Key×Nat×List Ent)}
theorem Qyj:(Qc4 []).1=3:=by decide +kernel
theorem RdS.cellK(k:RdS w0 w A C N nx kn Z):w.cell? ⟨A.Rb,26,none⟩=some (.bool kn):=let ⟨h,h1,_⟩:=k.rd;Qdf h1 26 _ rfl
theorem RdS.cellH(k:RdS w0 w A C N nx true Z):w.cell? ⟨A.Rb,2,none⟩=some (.int .u64 ((Qb6 C.F).rf:Nat))∧w.cell? ⟨A.Rb,3,none⟩=some (.int .u64 ((Qb6 C.F).rl:Nat))∧w.cell? ⟨A.Rb,6,none⟩=some (.int .u64 ((Qb6 C.F).lf:Nat))∧w.cell? ⟨A.Rb,7,none⟩=some (.int .u64 ((Qb6 C.F).ll:Nat))∧w.cell? ⟨A.Rb,8,none⟩=some (.int .u64 ((Qb6 C.F).df:Nat))∧w.cell? ⟨A.Rb,9,none⟩=some (.int .u64 ((Qb6 C.F).dl:Nat)):=by
 obtain ⟨h,h1,-,h3⟩:=k.rd;obtain ⟨rfl,-⟩:=h3 rfl;exact ⟨Qdf h1 2 _ rfl,Qdf h1 3 _ rfl,Qdf h1 6 _ rfl,Qdf h1 7 _ rfl,Qdf h1 8 _ rfl,Qdf h1 9 _ rfl⟩
theorem Qkh(f:List UInt8)(h:Qcn f=0):Qg1 f=0∧(Qc4 (Qdw f)).1=0:=by
 unfold Qcn at h
 by_cases ho:Qg1 f=0
 ·rw [if_neg (fun x=>x ho)] at h;exact ⟨ho,h⟩
 ·rw [if_pos ho] at h;exact absurd h ho
theorem QyS(C:Con)(h:Qcn C.F=0):(Qb6 C.F).rf+(Qb6 C.F).rl≤C.f.size∧0<(Qb6 C.F).rl∧(Qb6 C.F).rl≤16384∧(Qb6 C.F).lf+(Qb6 C.F).ll≤C.f.size∧(Qb6 C.F).df+(Qb6 C.F).dl≤C.f.size:=by
 have hl:C.F.length=C.f.size:=Qab C.f;obtain ⟨h1,h2⟩:=Qkh _ h;obtain ⟨-,-,h3,-⟩:=QoE _ h1;obtain ⟨f1,-,f3,f4,f5⟩:=QnX _ _ h3;refine ⟨by omega,?_,by omega,by omega,by omega⟩
 refine Nat.pos_of_ne_zero (fun e=>?_)
 have:Qdw C.F = []:=by unfold Qdw Qd8;rw [e];rfl
 rw [this,Qyj] at h2;cases h2
theorem Qng(k:RdS w0 w A C N nx kn Z)(hE:EnvT w0)(hC:C.Ok)(hN:N.Ok) :
  Calls Tryz.prog 22 #[.pointer (some ⟨A.Rb,0,none⟩)] w (Qwz w0 w A C N (Qcn C.F,(Qc4 (Qdw C.F)).2)):=by
 have c26:=k.cellK;cases kn with
 |false=>
  have HO:=hid (Qnh k hE hC hN);clear k hE hC hN;go_enter Tryz.func22,Tryz.ntmps22;go_wp2_with fail;refine HO.out.mono ?_;rintro e w1 ⟨lost,E,v,N',nx',kn',Z',G,rfl,hp⟩;have HP:=hid hp;clear hp;go_wp2_with fail;go_ret2;exact ⟨lost,E,v,N',nx',kn',Z',G,rfl,HP.out⟩
 |true=>
  have hr:Qcn C.F=0:=by
   obtain ⟨h,-,-,h3⟩:=k.rd;exact (h3 rfl).2
  obtain ⟨s1,s2,s3,-⟩:=QyS C hr;obtain ⟨c2,c3,-⟩:=k.cellH;have hd:=Qd3 k hE hC hN ((Qb6 C.F).rf,(Qb6 C.F).rl) s2 s1 (by show _≤65536;omega)
  have hT:Qc4 (Qd8 C.F (Qb6 C.F).rf (Qb6 C.F).rl)=(Qcn C.F,(Qc4 (Qdw C.F)).2):=by
   have h2:=(Qkh _ hr).2;show Qc4 (Qdw C.F)=_;rw [hr,←h2]
  rw [hT] at hd;have HO:=hid hd;clear k hE hC hN hr s1 s2 s3 hd hT;go_enter Tryz.func22,Tryz.ntmps22;go_wp2_with fail;refine HO.out.mono ?_;rintro e w1 ⟨lost,E,v,N',nx',kn',Z',G,rfl,hp⟩;have HP:=hid hp;clear hp;go_wp2_with fail;go_ret2;exact ⟨lost,E,v,N',nx',kn',Z',G,rfl,HP.out⟩
def QAm(w0 w:World)(A:Adr)(C:Con)(N:Net)(V:Nat×List UInt8×Bool)(M:Nat)(e:Ending)(w':World):Prop:=
 ∃ (lost E:Nat) (S:ByteArray) (b:Bool) (N':Net) (nx':Nat) (kn':Bool) (Z':List (Key×Nat×List Ent)) (G:Nat),e = .returned (.tuple #[.string S,.bool b,.int .i64 (E:Nat)])∧RdS w0 w' A C N' nx' kn' Z'∧NetRun C.R N N' G lost∧G≤M+1∧(lost=0→b=false→G≤M)∧
  ((lost=0∧E=V.1∧S.data.toList=V.2.1∧b=V.2.2)∨(lost=23∧E=23∧S=⟨#[]⟩∧b=false))∧RdTouch A N N' w w'
def QwV(w0 w:World)(A:Adr)(C:Con)(N:Net)(nx:Nat)(kn:Bool)(Z:List (Key×Nat×List Ent))(V:Nat×List UInt8×Bool)(e:Ending)(w':World):Prop:=
 ∃ (lost E:Nat) (S:ByteArray) (b:Bool) (N':Net) (G:Nat),e = .returned (.tuple #[.string S,.bool b,.int .i64 (E:Nat)])∧RdS w0 w' A C N' nx kn Z∧NetRun C.R N N' G lost∧G≤1∧(lost=0→b=false→G=0)∧
  ((lost=0∧E=V.1∧S.data.toList=V.2.1∧b=V.2.2)∨(lost=23∧E=23∧S=⟨#[]⟩∧b=false))∧RdTouch A N N' w w'
def Qlt(C:Con)(f l:Nat)(x:Ent):Nat×List UInt8×Bool:=if Qda l 65536 x≠0 then (Qda l 65536 x,[],false) else (0,Qd8 C.F (f+x.2.1) x.2.2.1,true)
theorem Qge{w:World}{b:Nat}{x0 x1 x2 x3 x4 x5 x6:Value}{t:TypeId}(k:w.heap[b]?=some (.cells #[x0,x1,x2,x3,x4,x5,x6] t (0,0))):w.cell? ⟨b,0,none⟩=some x0∧w.cell? ⟨b,1,none⟩=some x1∧w.cell? ⟨b,2,none⟩=some x2∧w.cell? ⟨b,3,none⟩=some x3∧w.cell? ⟨b,4,none⟩=some x4∧w.cell? ⟨b,5,none⟩=some x5∧w.cell? ⟨b,6,none⟩=some x6:=by
 refine ⟨?_,?_,?_,?_,?_,?_,?_⟩<;>(unfold World.cell?;rw [k];rfl)
theorem Qnf(k:RdS w0 w A C N nx kn Z)(hE:EnvT w0)(hC:C.Ok)(hN:N.Ok)(id off len run f l:Nat)(hx:QcF (id,off,len,run)=0)(hfl:f+l≤C.f.size) :
  Calls Tryz.prog 24 #[.pointer (some ⟨A.Rb,0,none⟩),.agg #[.int .u64 id,.int .u64 off,.int .u32 len,.int .u32 run,.int .u64 f,.int .u64 l,.int .u32 65536]] w (QwV w0 w A C N nx kn Z (Qlt C f l (id,off,len,run))):=by
 obtain ⟨x1,x2,x3⟩:=Qix _ hx;have QAK:Qdr=1099511627776:=rfl;have x1:0<len:=x1;have x2:off+len≤Qdr:=x2;have hB0:=QgA w #[.int .u64 id,.int .u64 off,.int .u32 len,.int .u32 run,.int .u64 f,.int .u64 l,.int .u32 65536] 91;have HX:=hid (heap_alloc_new w (.cells #[.int .u64 id,.int .u64 off,.int .u32 len,.int .u32 run,.int .u64 f,.int .u64 l,.int .u32 65536] 91));have HLT:=hid k.lts;have HK0:=hid (k.below hB0);have HB0:=hid hB0;have hfb:=hC.f;have HWr:=hid (fun W=>Qjk id off len run f l 65536 (by omega) W)
 have HKy:=hid (fun W=>Qoy id off len run f l 65536 (by omega) (by omega) W)
 have HH:=hid (And.intro hE (And.intro hC (And.intro hN (And.intro x1 hfl))));obtain ⟨c0,c1,c2,c3,c4,c5,c6⟩:=Qko w (.int .u64 id) (.int .u64 off) (.int .u32 len) (.int .u32 run) (.int .u64 f) (.int .u64 l) (.int .u32 65536) 91;obtain ⟨P,hP⟩:∃ P,Qda l 65536 (id,off,len,run)=P:=⟨_,rfl⟩;rw [hP] at HWr;have HPe:=hid hP;clear k hE hC hN hx hfl hB0 x3 hP QAK;go_enter Tryz.func24,Tryz.ntmps24;go_wp2_with fail;refine (HWr.out _).mono ?_;rintro e w1 ⟨rfl,hb1⟩;have HK1:=hid (HK0.out.below hb1);have HT1:=hid (RdTouch.of_below A N (Qaa HB0.out hb1));have HX1:=hid (Qae HX.out hb1);clear hb1 c0 c1 c2 c3 c4 c5 c6 HX HK0 HB0 HWr
 by_cases hP:P=0
 ·subst hP
  obtain ⟨p1,p2⟩:=Qoz _ _ _ HPe.out;have p1:off+len≤l:=p1;have p2:len≤65536:=p2;obtain ⟨hE,hC,hN,x1,hfl⟩:=HH.out;obtain ⟨c0,c1,c2,c3,c4,c5,c6⟩:=Qge HX1.out;have HG:=hid (fun (W:World) (hW:Below w1.heap.size w1 W)=>Qgd (HK1.out.below hW) hE hC hN (f+off) len x1 (by omega) p2)
  clear hE hC hN x1 hfl p1 p2;go_wp2_with fail;refine (HKy.out _).mono ?_;rintro e w2 ⟨rfl,hb2⟩;have HB2:=hid hb2;have HG2:=hid (HG.out _ hb2);clear hb2 c0 c1 c2 c3 c4 c5 c6;go_wp2_with fail;refine HG2.out.mono ?_;rintro e w3 ⟨E,B,N',rfl,hk3,QAw,hcs,ht3⟩;have HK3:=hid hk3;have HR3:=hid QAw;have HT3:=hid ((HT1.out.trans (RdTouch.of_below A N HB2.out)).trans ht3);clear hk3 QAw ht3;rcases hcs with ⟨hE0,hB⟩|⟨hE0,hB⟩
  ·subst hE0
   have HBd:=hid hB;clear hB;go_wp2_with fail;go_ret3;refine ⟨0,0,B,true,N',1,rfl,HK3.out,HR3.out,by omega,(fun _ e=>by cases e),.inl ⟨rfl,?_,?_,?_⟩,HT3.out⟩
   ·unfold Qlt;rw [if_neg (fun x=>x HPe.out)]
   ·unfold Qlt;rw [if_neg (fun x=>x HPe.out)];exact HBd.out
   ·unfold Qlt;rw [if_neg (fun x=>x HPe.out)]
  ·subst hE0 hB
   go_wp2_with fail;go_ret3;exact ⟨23,23,_,false,N',1,rfl,HK3.out,HR3.out,by omega,(fun e=>by cases e),.inr ⟨rfl,rfl,rfl,rfl⟩,HT3.out⟩
 ·have tP:((P:Int) != 0)=true:=by rw [bne_iff_ne];omega
  have HP0:=hid hP;clear hP;go_wp2_with fail;go_ret3;refine ⟨0,P,⟨#[]⟩,false,N,0,rfl,HK1.out,NetRun.refl _ _,by omega,fun _ _=>rfl,.inl ⟨rfl,?_,?_,?_⟩,HT1.out⟩
  ·unfold Qlt;rw [HPe.out,if_pos HP0.out]
  ·unfold Qlt;rw [HPe.out,if_pos HP0.out]
  ·unfold Qlt;rw [HPe.out,if_pos HP0.out]
end
end
section
open Go.RowKit
theorem Qt1(l:List Ent)(key n a b:Nat)(h:a<b)(hk:(l.getD ((a+b)/2) QaZ).1≤key):bsM l key (n+1) a b=bsM l key n ((a+b)/2+1) b:=by
 conv=>lhs;unfold bsM
 rw [if_pos h,if_pos hk]
theorem Qt0(l:List Ent)(key n a b:Nat)(h:a<b)(hk:¬(l.getD ((a+b)/2) QaZ).1≤key):bsM l key (n+1) a b=bsM l key n a ((a+b)/2):=by
 conv=>lhs;unfold bsM
 rw [if_pos h,if_neg hk]
theorem QrJ(v:Value)(l:List Ent)(key:Nat)(w:World)(hv:HoldsE w v l)(hlen:l.length≤4096) :
  Calls Tryz.prog 89 #[v,.int .u64 key,.func (.func 90) #[] #[]] w fun e w'=>e = .returned (.int .i64 ((Qcc l key:Int)-1))∧Below w.heap.size w w':=by
 obtain ⟨a,c,rfl,hc⟩:=HoldsR.len hv;have HX:=hid (fun hn=>HoldsE.at hv hn)
 obtain ⟨R,hR⟩:∃ R,Qcc l key=R:=⟨_,rfl⟩;have hRb:R≤4096:=by rw [←hR];exact Nat.le_trans (QhV l key) hlen
 unfold Qcc at hR;have HR:=hid hR;have HSI:=hid (fun i o n r W=>Qw9 i o n r W)
 rw [show Qcc l key=R from hR];clear hv hR;go_enter Tryz.func89,Tryz.ntmps89;go_wp2_with fail;go_loopw [7,8,9] (fun u i _ wr=>∃ (x y n:Nat),x≤y∧y≤l.length∧y≤x+n∧u = .int .i64 x∧i = .int .i64 y∧Hid (bsM l key n x y=R)∧Below w.heap.size w wr) (fun u i _ _=>((intOf i).toNat-(intOf u).toNat))
 case atStart=>exact ⟨0,l.length,l.length,by omega,by omega,by omega,rfl,rfl,HR,Below.refl _ _⟩
 case round=>
  obtain ⟨x,y,n,hxy,hyl,hyn,rfl,rfl,HRk,hbw⟩:=hrel
  by_cases hlt:x<y
  ·obtain ⟨n,rfl⟩:∃ m,n=m+1:=⟨n-1,by omega⟩
   have hm:(x+y)/2<l.length:=by omega
   obtain ⟨b,o,c',hvv,-,hbl,Qao⟩:=HX.out (fun e=>by rw [e] at hm;exact absurd hm (Nat.not_lt_zero _))
   injection hvv with e1 e2 e3
   subst e1 e3;obtain ⟨m,hmm⟩:∃ m,(x+y)/2=m:=⟨_,rfl⟩;rw [hmm] at hm;obtain ⟨y0,y1,y2,y3⟩:=Qao m hm;have c0:=(hbw.cell (p:=⟨b,o+m*4,none⟩) hbl).trans y0;have c1:=(hbw.cell (p:=⟨b,o+m*4+1,none⟩) hbl).trans y1;have c2:=(hbw.cell (p:=⟨b,o+m*4+2,none⟩) hbl).trans y2;have c3:=(hbw.cell (p:=⟨b,o+m*4+3,none⟩) hbl).trans y3;have hgd:l.getD m QaZ=l[m]:=by rw [List.getD_eq_getElem?_getD,List.getElem?_eq_getElem hm];rfl
   obtain ⟨X,hXe⟩:∃ X,l[m]=X:=⟨_,rfl⟩;rw [hXe] at c0 c1 c2 c3 hgd;obtain ⟨x1,x2,x3,x4⟩:=X;have hmi:((x:Int)+(y:Int))/2=(m:Int):=by omega
   have HB:=hid hbw;have HI:=hid (fun W=>HSI.out x1 x2 x3 x4 W)
   have hm2:m<y∧x≤m:=by omega
   by_cases hk:x1≤key
   ·have tk:decide (x1≤key)=true:=decide_eq_true hk
    have HRn:Hid (bsM l key n (m+1) y=R):=hid (by rw [←HRk.out,Qt1 l key n x y hlt (by rw [hmm,hgd];exact hk),hmm])
    clear Qao HX y0 y1 y2 y3 hXe HRk hbw hgd hk hmm;go_wp2_with fail;refine (HI.out _).mono ?_;rintro e w1 ⟨rfl,hb1⟩;have HB1:=hid hb1;clear hb1;go_wp2_with fail;go_roundw
    case rel=>exact ⟨m+1,y,n,by omega,by omega,by omega,by go_num,by go_num,HRn,Qaa HB.out HB1.out⟩
    case measure=>simp [intOf];omega
   ·have tk:decide (x1≤key)=false:=decide_eq_false hk
    have HRn:Hid (bsM l key n x m=R):=hid (by rw [←HRk.out,Qt0 l key n x y hlt (by rw [hmm,hgd];exact hk),hmm])
    clear Qao HX y0 y1 y2 y3 hXe HRk hbw hgd hk hmm;go_wp2_with fail;refine (HI.out _).mono ?_;rintro e w1 ⟨rfl,hb1⟩;have HB1:=hid hb1;clear hb1;go_wp2_with fail;go_roundw
    case rel=>exact ⟨x,m,n,by omega,by omega,by omega,by go_num,by go_num,HRn,Qaa HB.out HB1.out⟩
    case measure=>simp [intOf];omega
  ·obtain rfl:x=y:=by omega
   have HR0:Hid (R=x):=hid (by rw [←HRk.out];exact Qwm l key n x x (Nat.le_refl _))
   clear HRk;go_wp2_with fail;go_ret;exact ⟨by rw [HR0.out]<;>rfl,hbw⟩
end
section
open Go.RowKit
theorem QpO(v:Value)(l:List Ent)(key:Nat)(w:World)(hv:HoldsE w v l)(hok:∀ e∈l,Qbl e)(hlen:l.length≤4096) :
  Calls Tryz.prog 48 #[v,.int .u64 key] w fun e w'=>e = .returned (.int .i64 (if QeC l=0 then (Qcc l key:Int)-1 else -1))∧Below w.heap.size w w':=by
 have HR:=hid (fun W (hW:Below w.heap.size w W)=>Qc3 v l W (hv.below hW) hok (by omega))
 have HL:=hid (fun W (hW:Below w.heap.size w W)=>QrJ v l key W (hv.below hW) hlen)
 obtain ⟨a,c,rfl,hc⟩:=HoldsR.len hv;clear hv hok
 by_cases h:QeC l=0
 ·rw [if_pos h]
  rw [h] at HR;clear h;go_enter Tryz.func48,Tryz.ntmps48;go_wp2_with fail;refine (HR.out _ (Below.refl _ _)).mono ?_;rintro e w1 ⟨rfl,hb1⟩;have HB1:=hid hb1;clear hb1;go_wp2_with fail;refine (HL.out _ HB1.out).mono ?_;rintro e w2 ⟨rfl,hb2⟩;have HB2:=hid hb2;clear hb2;go_wp2_with fail;go_ret;exact ⟨rfl,Qaa HB1.out HB2.out⟩
 ·rw [if_neg h]
  have t1:((QeC l:Int) != 0)=true:=by rw [bne_iff_ne];omega
  generalize QeC l=R at HR t1;clear h;go_enter Tryz.func48,Tryz.ntmps48;go_wp2_with fail;refine (HR.out _ (Below.refl _ _)).mono ?_;rintro e w1 ⟨rfl,hb1⟩;have HB1:=hid hb1;clear hb1;go_wp2_with fail;go_ret;exact ⟨rfl,HB1.out⟩
def Qx9:Option Ent→Value
 |some e=>.tuple #[.agg #[.int .u64 (e.1:Nat),.int .u64 (e.2.1:Nat),.int .u32 (e.2.2.1:Nat),.int .u32 (e.2.2.2:Nat)],.bool true]
 |none=>.tuple #[.agg #[.int .u64 0,.int .u64 0,.int .u32 0,.int .u32 0],.bool false]
theorem QrK(v:Value)(l:List Ent)(key:Nat)(w:World)(hv:HoldsE w v l)(hok:∀ e∈l,Qbl e)(hlen:l.length≤4096) :
  Calls Tryz.prog 23 #[v,.int .u64 key] w fun e w'=>e = .returned (Qx9 (QeU l key))∧Below w.heap.size w w':=by
 have hb0:=QaJ w (.int .u64 0) (.int .u64 0) (.int .u32 0) (.int .u32 0) 86;have HB0:=hid hb0;have HN:=hid (heap_alloc_new w (.cells #[.int .u64 0,.int .u64 0,.int .u32 0,.int .u32 0] 86));have HSz:Hid (w.heap.size<(w.alloc (.cells #[.int .u64 0,.int .u64 0,.int .u32 0,.int .u32 0] 86)).heap.size):=hid (by simp)
 have HP:=hid (QpO v l key _ (hv.below hb0) hok hlen);have HX:=hid (fun hn=>HoldsE.at (hv.below hb0) hn)
 obtain ⟨a,c,rfl,hc⟩:=HoldsR.len hv;clear hv hb0
 by_cases h1:QeC l≠0∨Qcc l key=0
 ·have hf:QeU l key=none:=by unfold QeU;exact if_pos h1
  have hp:(if QeC l=0 then (Qcc l key:Int)-1 else -1) = -1:=by
   by_cases hr:QeC l=0
   ·rw [if_pos hr]
    have:=h1.resolve_left (fun h=>h hr)
    omega
   ·rw [if_neg hr]
  rw [hp] at HP;rw [hf];clear hf hp h1;go_enter Tryz.func23,Tryz.ntmps23;go_wp2_with fail;refine HP.out.mono ?_;rintro e w1 ⟨rfl,hb1⟩;have HN1:=hid ((hb1.block _ HSz.out).trans HN.out);have HB1:=hid (Qaa HB0.out hb1);clear hb1;obtain ⟨⟨g0,g1,g2,g3⟩,f0,f1,f2,f3⟩:=QaF HN1.out;go_wp2_with fail;refine QaD (A:=⟨w.heap.size,0,none⟩) rfl (Qhf _ _ _ _ _ _ _ (QdB HN1.out _ _ _ _)) rfl rfl rfl ?_;exact ⟨rfl,Qc6 HB1.out (Nat.le_refl _) _ _ _ _⟩
 ·have hr:QeC l=0:=Classical.byContradiction fun e=>h1 (.inl e)
  have hp0:Qcc l key≠0:=fun e=>h1 (.inr e)
  obtain ⟨j,hj⟩:∃ j,Qcc l key=j+1:=⟨Qcc l key-1,by omega⟩
  have hjl:j<l.length:=by have:=QhV l key;omega
  have hp:(if QeC l=0 then (Qcc l key:Int)-1 else -1)=(j:Int):=by rw [if_pos hr,hj];omega
  rw [hp] at HP;have hgd:l.getD (Qcc l key-1) QaZ=l[j]:=by rw [hj,Nat.add_sub_cancel,List.getD_eq_getElem?_getD,List.getElem?_eq_getElem hjl];rfl
  have hfm:QeU l key=if 0<l[j].2.2.2∧Qy8 l[j] key=false then none else some l[j]:=by
   unfold QeU;rw [if_neg h1,hgd]
  have hX:=hok l[j] (List.getElem_mem hjl);have hck:=Qot l hr l[j] (List.getElem_mem hjl);obtain ⟨b,o,c',hvv,-,hbl,Qao⟩:=HX.out (fun e=>by rw [e] at hjl;exact absurd hjl (Nat.not_lt_zero _))
  injection hvv with e1 e2 e3
  subst e1 e3;obtain ⟨y0,y1,y2,y3⟩:=Qao j hjl;obtain ⟨X,hXe⟩:∃ X,l[j]=X:=⟨_,rfl⟩;rw [hXe] at y0 y1 y2 y3 hfm hX hck;obtain ⟨x1,x2,x3,x4⟩:=X;obtain ⟨o1,o2,o3,o4⟩:x1<18446744073709551616∧x2<18446744073709551616∧x3<4294967296∧x4<4294967296:=hX;have HY:=hid (And.intro y0 (And.intro y1 (And.intro y2 y3)));have HBl:=hid hbl;have hjn:(0:Int)≤(j:Int):=by omega
  have tj:decide ((j:Int)<0)=false:=decide_eq_false (by omega)
  by_cases hx4:0<x4
  ·have t0:decide (0<x4)=true:=decide_eq_true hx4
   cases hh:Qy8 (x1,x2,x3,x4) key with
   |true=>
    have HH:=hid (fun W=>Qmg x1 x2 x3 x4 key hck hx4 true hh W o1 o2 o3 o4)
    have hf:QeU l key=some (x1,x2,x3,x4):=by rw [hfm,if_neg (by rintro ⟨-,h⟩;rw [hh] at h;cases h)]
    rw [hf];clear h1 hr hp0 hj hp hgd hfm hck Qao HX y0 y1 y2 y3 hXe hh hx4 hf hbl hok;go_enter Tryz.func23,Tryz.ntmps23;go_wp2_with fail;refine HP.out.mono ?_;rintro e w1 ⟨rfl,hb1⟩;have HN1:=hid ((hb1.block _ HSz.out).trans HN.out);have HB1:=hid (Qaa HB0.out hb1);have y0:=(hb1.cell (p:=⟨b,o+j*4,none⟩) HBl.out).trans HY.out.1;have y1:=(hb1.cell (p:=⟨b,o+j*4+1,none⟩) HBl.out).trans HY.out.2.1;have y2:=(hb1.cell (p:=⟨b,o+j*4+2,none⟩) HBl.out).trans HY.out.2.2.1;have y3:=(hb1.cell (p:=⟨b,o+j*4+3,none⟩) HBl.out).trans HY.out.2.2.2;have HY1:=hid (And.intro y0 (And.intro y1 (And.intro y2 y3)));have HBl1:=hid (Nat.lt_of_lt_of_le HBl.out hb1.size);clear hb1;obtain ⟨⟨g0,g1,g2,g3⟩,f0,f1,f2,f3⟩:=QaF HN1.out;go_wp2_with fail;refine (HH.out _).mono ?_;rintro e w2 ⟨rfl,hb2⟩;have HN2:=hid ((hb2.block _ (gsi HN1.out).1).trans HN1.out);have HB2:=hid (Qaa HB1.out hb2);clear y0 y1 y2 y3 g0 g1 g2 g3 f0 f1 f2 f3;have y0:=(hb2.cell (p:=⟨b,o+j*4,none⟩) HBl1.out).trans HY1.out.1;have y1:=(hb2.cell (p:=⟨b,o+j*4+1,none⟩) HBl1.out).trans HY1.out.2.1;have y2:=(hb2.cell (p:=⟨b,o+j*4+2,none⟩) HBl1.out).trans HY1.out.2.2.1;have y3:=(hb2.cell (p:=⟨b,o+j*4+3,none⟩) HBl1.out).trans HY1.out.2.2.2;clear hb2;obtain ⟨⟨g0,g1,g2,g3⟩,f0,f1,f2,f3⟩:=QaF HN2.out;go_wp2_with fail;refine QaD (A:=⟨w.heap.size,0,none⟩) rfl (Qhf _ _ _ _ _ _ _ (QdB HN2.out _ _ _ _)) rfl rfl rfl ?_;exact ⟨rfl,Qc6 HB2.out (Nat.le_refl _) _ _ _ _⟩
   |false=>
    have HH:=hid (fun W=>Qmg x1 x2 x3 x4 key hck hx4 false hh W o1 o2 o3 o4)
    have hf:QeU l key=none:=by rw [hfm,if_pos ⟨hx4,hh⟩]
    rw [hf];clear h1 hr hp0 hj hp hgd hfm hck Qao HX y0 y1 y2 y3 hXe hh hx4 hf hbl hok;go_enter Tryz.func23,Tryz.ntmps23;go_wp2_with fail;refine HP.out.mono ?_;rintro e w1 ⟨rfl,hb1⟩;have HN1:=hid ((hb1.block _ HSz.out).trans HN.out);have HB1:=hid (Qaa HB0.out hb1);have y0:=(hb1.cell (p:=⟨b,o+j*4,none⟩) HBl.out).trans HY.out.1;have y1:=(hb1.cell (p:=⟨b,o+j*4+1,none⟩) HBl.out).trans HY.out.2.1;have y2:=(hb1.cell (p:=⟨b,o+j*4+2,none⟩) HBl.out).trans HY.out.2.2.1;have y3:=(hb1.cell (p:=⟨b,o+j*4+3,none⟩) HBl.out).trans HY.out.2.2.2;clear hb1;obtain ⟨⟨g0,g1,g2,g3⟩,f0,f1,f2,f3⟩:=QaF HN1.out;go_wp2_with fail;refine (HH.out _).mono ?_;rintro e w2 ⟨rfl,hb2⟩;have HN2:=hid ((hb2.block _ (gsi HN1.out).1).trans HN1.out);have HB2:=hid (Qaa HB1.out hb2);clear y0 y1 y2 y3 g0 g1 g2 g3 f0 f1 f2 f3 hb2;obtain ⟨⟨g0,g1,g2,g3⟩,f0,f1,f2,f3⟩:=QaF HN2.out;go_wp2_with fail;refine QaD (A:=⟨w.heap.size,0,none⟩) rfl (Qhf _ _ _ _ _ _ _ (QdB HN2.out _ _ _ _)) rfl rfl rfl ?_;exact ⟨rfl,Qc6 HB2.out (Nat.le_refl _) _ _ _ _⟩
  ·have t0:decide (0<x4)=false:=decide_eq_false hx4
   have hf:QeU l key=some (x1,x2,x3,x4):=by rw [hfm,if_neg (by rintro ⟨h,-⟩;exact hx4 h)]
   rw [hf];clear h1 hr hp0 hj hp hgd hfm hck Qao HX y0 y1 y2 y3 hXe hx4 hf hbl hok;go_enter Tryz.func23,Tryz.ntmps23;go_wp2_with fail;refine HP.out.mono ?_;rintro e w1 ⟨rfl,hb1⟩;have HN1:=hid ((hb1.block _ HSz.out).trans HN.out);have HB1:=hid (Qaa HB0.out hb1);have y0:=(hb1.cell (p:=⟨b,o+j*4,none⟩) HBl.out).trans HY.out.1;have y1:=(hb1.cell (p:=⟨b,o+j*4+1,none⟩) HBl.out).trans HY.out.2.1;have y2:=(hb1.cell (p:=⟨b,o+j*4+2,none⟩) HBl.out).trans HY.out.2.2.1;have y3:=(hb1.cell (p:=⟨b,o+j*4+3,none⟩) HBl.out).trans HY.out.2.2.2;clear hb1;obtain ⟨⟨g0,g1,g2,g3⟩,f0,f1,f2,f3⟩:=QaF HN1.out;go_wp2_with fail;refine QaD (A:=⟨w.heap.size,0,none⟩) rfl (Qhf _ _ _ _ _ _ _ (QdB HN1.out _ _ _ _)) rfl rfl rfl ?_;exact ⟨rfl,Qc6 HB1.out (Nat.le_refl _) _ _ _ _⟩
end
end Go.Proofs.YtilaebjndadkhaaGreatDoor
