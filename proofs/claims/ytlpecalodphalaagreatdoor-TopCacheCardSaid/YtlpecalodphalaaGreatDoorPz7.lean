/- What parts of the program compute: packed for TopCache. Conditions: none. -/
import Derived.Test.YtlpecalodphalaaGreatDoorPz4
import Derived.Test.YtlpecalodphalaaGreatDoorPz6
set_option linter.all false
set_option maxRecDepth 100000
set_option maxHeartbeats 16000000
open Go.Proofs.Tryz Go.RowKit
namespace Go.Proofs.YtlpecalodphalaaGreatDoor
section
structure GA(w0 w wr:World)(Cb P X:Nat)(hh hp:JA)(t r a b:Int)(h p f:JA)(l:List Flt)(lg:List Evt)(n0 a0:Nat)(S:JA)(lv:Value)(k last:Nat)(rv' lv':Value):Prop where
 f:FC w0 wr Cb P hh hp t r h p f (l.drop k) (lg++lgN h p f l [] S k) (n0+Qch (lgN h p f l [] S k)) (a0+k) last rv' lv'
 x:wr.heap[X]?=some (.cells #[Ji a,Ji b] 140 (0,0))
 t:Touch (FS P Cb lv) w wr
 o:∀g,lv'.ownBlock=some g->lv.ownBlock=some g\/w.heap.size<=g
def QqM(w0 w:World)(Cb P:Nat)(hh hp:JA)(t:Int)(R:Nat)(h p f:JA)(l:List Flt)(lg:List Evt)(n0 a0:Nat)(S:JA)(a b:Int)(lv:Value)(e:Ending)(w':World):Prop:=
 e=.returned (.tuple #[Jt (bs (QBu (QeS h p f l S 0 a b t) R (QxT h p f l S 0 a b t))),Ji (QxS (QeS h p f l S 0 a b t) R:Nat)])/\
 ∃rv' lv',FC w0 w' Cb P hh hp t (R:Int) h p f (l.drop (QlX (QeS h p f l S 0 a b t) R)) (lg++lgN h p f l [] S (QlX (QeS h p f l S 0 a b t) R)) (n0+Qch (lgN h p f l [] S (QlX (QeS h p f l S 0 a b t) R))) (a0+QlX (QeS h p f l S 0 a b t) R) (QBt (QeS h p f l S 0 a b t) R) rv' lv'/\Touch (FS P Cb lv) w w'/\∀g,lv'.ownBlock=some g->lv.ownBlock=some g\/w.heap.size<=g
theorem QCt(w0 w:World)(c P:Nat)(D K:JA)(t:Int)(R:Nat)(h p f:JA)(l:List Flt)(U:List Evt)(O a0:Nat)(S:JA)(a b:Int)(I:Nat)(rv lv:Value)(V:EnvT w0)
  (k:FC w0 w c P D K t (R:Int) h p f l U O a0 I rv lv)
  (hR:R<=8) (hf:f.size<=20000) (hx:∀x∈l,FltOk x) (hl:l.length<=1000) (hq:U.length<=900000/\O<=900000/\a0<=900000) (hb:Qli a b t=0) (hO:QhS D.data.toList K.data.toList=0) (hS:bs (Qkk K.data.toList D.data.toList a b)=S) :
  Calls prog 134 #[Jp c,.agg #[Ji a,Ji b]] w (QqM w0 w c P D K t R h p f l U O a0 S a b lv):=by
 obtain⟨g1,g2,g3⟩:=Qoc a b t hb;obtain⟨r1,r2,r3⟩:=QcP a b g1;have qd:Qg7 K.data.toList D.data.toList a b=0:=by
  unfold QhS at hO;unfold Qg7;split at hO
  ·exact JN hO (by decide)
  ·rename_i hq;rw[JJ hq];exact g1
 have zg:S.size<=1000:=by
  rw[<-hS,Qaq];unfold Qkk;rw[JK qd];exact QzG _ _ a b qd (by omega) (by omega)
 have HC:=Z (fun w=>Qb4 a b w)
 have HL:=Z (fun w=>Qgv a b w)
 have HP:=Z (fun w V=>QoH K D a b w V (by omega) (by omega) (by omega) (by omega))
 rw[hS,qd] at HP;rw[g1] at HC;have m:=Z (k.range a b);have qp:=Z (QbD w (Ji a) (Ji b) 140);have qr:=Z (k.step qp.o);have qb:=Z (JI w (.cells #[Ji a,Ji b] 140));have qu:=Z V;have zn:=Z hx;have HN:=Z (qE hf (qE hl (qE hq zg)));have t1:decide (b>=t)=false:=qB (by omega)
 have t2:decide (QaO a b>65536)=false:=qB (by omega)
 generalize QaO a b=M at HL t2;clear k V hx hf hl hq hb hO hS g1 g2 g3 r1 r2 r3 qd zg;have HD:Hi (Below (w.alloc (.cells #[Ji a,Ji b] 140)).heap.size (w.alloc (.cells #[Ji a,Ji b] 140)) (w.alloc (.cells #[Ji a,Ji b] 140)).drew):=Z (qF _ _).drew;obtain⟨⟨x0,x1⟩,c0,c1,c2,c3,c4⟩:=m.o _ (qF _ _);go_enter func134,ntmps134;go_wp2_with fail;generalize w.alloc (.cells #[Ji a,Ji b] 140)=W0 at m qp qr qb HD x0 x1 c0 c1 c2 c3 c4 ⊢;generalize w.heap.size=X at m qb x0 x1 ⊢;go_region_held3 (fun w'=>Jx w' X 0 (Ji a)/\Jx w' X 1 (Ji b)/\Jx w' c 3 (Ji t)) (first|exact⟨(m.o _ HD.o).1.1,(m.o _ HD.o).1.2,(m.o _ HD.o).2.2.2.2.1⟩|exact⟨(m.o _ d.o).1.1,(m.o _ d.o).1.2,(m.o _ d.o).2.2.2.2.1⟩)
  (first
   |(go_at_call 100;refine (HC.o _).mono ?_;rintro e wa ⟨rfl,zo⟩;have d:Hi (Jw W0 wa):=Z (Qaa HD.o zo);clear zo))
 all_goals
  clear x0 x1 c0 c1 c2 c3 c4;obtain⟨⟨x0,x1⟩,-⟩:=m.o _ d.o;go_wp2_with fail;refine (HL.o _).mono ?_;rintro e wb ⟨rfl,za⟩;have qs:=Z (Qaa d.o za);clear za x0 x1;obtain⟨⟨x0,x1⟩,c0,c1,c2,c3,c4⟩:=m.o _ qs.o;have r:Hi (Jw W0 wb.drew):=Z qs.o.drew;go_wp2_with fail;go_region_held3 (fun w'=>Jx w' X 0 (Ji a)/\Jx w' X 1 (Ji b)/\Jx w' c 1 (Jt D)/\Jx w' c 2 (Jt K)) (first|exact⟨(m.o _ r.o).1.1,(m.o _ r.o).1.2,(m.o _ r.o).2.2.1,(m.o _ r.o).2.2.2.1⟩|exact⟨(m.o _ n.o).1.1,(m.o _ n.o).1.2,(m.o _ n.o).2.2.1,(m.o _ n.o).2.2.2.1⟩)
   (first
    |(go_at_call 174;refine (HP.o _ (qu.o.below ((qr.o.step r.o).k.bel)).f).mono ?_;rintro e wc ⟨rfl,qx⟩;have n:Hi (Jw W0 wc):=Z (Qaa r.o qx);clear qx))
  all_goals
   clear x0 x1 c0 c1 c2 c3 c4;obtain⟨-,-,-,-,-,c4⟩:=m.o _ n.o;have zw:IntKind.i64.wrap ((R:Int)+1)=(R:Int)+1:=by rw[JR];omega
   have zb:Hi (GA w0 w wc c P X D K t (R:Int) a b h p f l U O a0 S lv 0 I rv lv):=Z ⟨by rw[Qmt];unfold Qrj Qch;rw[qT];exact qr.o.step n.o,(n.o.block X (gsi qb.o).1).trans qb.o,Touch.of_below (Qaa qp.o n.o),fun g hg=>.inl hg⟩
   go_wp2_with fail;clear d qs n HD r HC HL HP m;go_loopw [58] (fun i wr=>∃k:Nat,k<=R+1/\i = Ji k/\(∀j,j<k->QeS h p f l S 0 a b t j≠0)/\∃last' rv' lv',Hi (GA w0 w wr c P X D K t (R:Int) a b h p f l U O a0 S lv k last' rv' lv')/\(∀j,k=j+1->last'=QeS h p f l S 0 a b t j)) (fun i _=>R+1-(intOf i).toNat)
   case atStart=>exact⟨0,by omega,rfl,fun j hj=>JN hj (by omega),I,rv,lv,zb,fun j hj=>by omega⟩
   case round=>
    obtain⟨k,hk,rfl,hej,last',rv',lv',HGr,QFP⟩:=hrel;clear zb c4;have qh:=Z (qE hej QFP);clear hej QFP
    by_cases zq:k<=R
    ·obtain⟨N,hN⟩:∃N,a0+k=N:=⟨_,rfl⟩
     have hf:=HGr.o.f;rw[hN] at hf;have qo:=Qrm h p f l [] S k;have qt:=QiB h p f l [] S k;have zk:=QAO h p f l [] S k;have qz:=QpU h p f l [] S k;rw[List.length_nil,Nat.zero_add] at qo qt zk qz;have qv:QkD h p f ((l.drop k).headD noF) S=QzA h p f l S 0 k:=by unfold QzA;rw[Nat.zero_add]
     obtain⟨b1,b2,⟨b3,b5,b6⟩,b4⟩:=HN.o;have zt:N<=1000000:=by omega
     have HF:=Z hf;have zr:=Z hN;obtain⟨E,V⟩:∃E,QeS h p f l S 0 a b t k=E:=⟨_,rfl⟩;obtain⟨B,hB⟩:∃B,bs (QxT h p f l S 0 a b t k)=B:=⟨_,rfl⟩;have zl:(QzA h p f l S 0 k).size<=1000000:=by
      rw[<-qv];have y:=Qzx h p f ((l.drop k).headD noF) S (by omega)
      have h2:=(QAP zn.o k).t;omega
     have qw:Hi (∀W,EnvT W->Calls prog 175 #[Jt (QzA h p f l S 0 k),.agg #[Ji a,Ji b],Ji t] W (JB (.tuple #[Jt B,Ji (E:Int)]) W)):=Z (fun W hW=>by
      have:=Qqg (QzA h p f l S 0 k) a b t W zl hW;unfold QC4 at this;unfold QeS at V;unfold QxT at hB;rw[V,hB] at this;exact this)
     have s:=fun (W:World) (z v:Value) (hk:KL w0 W P h p f (l.drop k) (U++lgN h p f l [] S k) (O+Qch (lgN h p f l [] S k)) z v)=>hk.ask qu.o.f S (by omega) (by omega) (QAP zn.o k) (by rw[JC];omega) (by rw[qG];omega) (by omega)
     unfold KAsk at s;rw[drop_tail,qP U,<-qo,Nat.add_assoc O,<-qt,qv] at s;have ql:=Z s;generalize QzA h p f l S 0 k=G at qw ql;have Y:=Z (qE V hB);obtain⟨⟨c0,c1,c2,c3,c4,c5,c6⟩,f5,f6⟩:=Qdw HF.o.c;have tw:IntKind.i64.wrap ((N:Int)+1)=(N:Int)+1:=by rw[JR];omega
     have tk:decide ((k:Int)<(R:Int)+1)=true:=qA (by omega)
     have qn:Hi (FC w0 (wr.setCell (Ja c 5) (Ji ((N:Int)+1))) c P D K t (R:Int) h p f (l.drop k) (U++lgN h p f l [] S k) (O+Qch (lgN h p f l [] S k)) (N+1) last' rv' lv'):=Z (by
      have:=HF.o.set5 (N+1)
      rwa[show ((N+1:Nat):Int)=(N:Int)+1 by omega] at this)
     have d:Hi ((wr.setCell (Ja c 5) (Ji ((N:Int)+1))).heap[X]?=some (.cells #[Ji a,Ji b] 140 (0,0))):=Z ((JO _ _ _ _ (x_ne HGr.o.x HF.o.c)).trans HGr.o.x);have qf:Hi (Touch (FS P c lv) w (wr.setCell (Ja c 5) (Ji ((N:Int)+1)))):=Z (QqQ _ HGr.o.t);have qk:=Z HGr.o.o;clear hN hf qo qt zk qv qz b1 b2 b3 b4 b5 b6 V hB zl s HGr HF;go_wp2_with fail;generalize wr.setCell (Ja c 5) (Ji ((N:Int)+1))=W1 at qn d qf ⊢;clear c0 c1 c2 c3 c4 c5 c6 f5 f6;have C:=Z (qn.o.step (qF _ W1).drew);have qq:Hi (Jh W1.drew X #[Ji a,Ji b] 140):=Z d.o;have zc:=Z (QrA qq.o C.o.c);have zp:=Z (ql.o _ _ _ C.o.k);go_region_held3 (fun w'=>Jx w' X 0 (Ji a)/\Jx w' X 1 (Ji b)/\Jx w' c 0 (Jp P)/\Jx w' c 3 (Ji t)) (first|with_reducible exact zc.o|with_reducible exact qy.o|with_reducible exact zj.o|with_reducible exact zf.o)
      (first
       |(go_at_call 176;refine zp.o.mono ?_;rintro e zu ⟨rfl,z,v,ze,qe,zm⟩;have L:=Z (C.o.link ze qe);have qc:=Z (Qlu C.o.k qq.o (by decide) (by decide) qe);have qy:=Z (QrA qc.o L.o.c);have qj:=Z (qE qe zm);clear ze qe zm)
       |(go_at_call 175;refine (qw.o _ (qu.o.below L.o.k.bel)).mono ?_;rintro e wj ⟨rfl,qi⟩;have H:=Z (L.o.step qi);have qg:=Z ((qi.block X (gsi qc.o).1).trans qc.o);have zj:=Z (QrA qg.o H.o.c);obtain⟨⟨-,-,-,-,-,-,c6⟩,-,f6⟩:=Qdw H.o.c;have qa:=Z (H.o.set6 E);have qm:=Z ((JO wj (Ja c 6) (Ji (E:Int)) X (x_ne qg.o H.o.c)).trans qg.o);have zf:=Z (QrA qm.o qa.o.c);have zi:=Z qi;clear qi))
     have zd:Hi (Touch (FS P c lv) w (wj.setCell (Ja c 6) (Ji (E:Int)))):=Z (QqQ _ (qf.o.trans (((Touch.of_below (S:=LS P lv') (qF W1.heap.size W1).drew).trans qj.o.1 (fun g h=>.inl h)).trans (Touch.of_below (S:=LS P lv') zi.o) (fun g h=>.inl h)) (fun q hq=>by
      rcases hq with rfl|hq
      ·exact .inl (.inl (.inl rfl))
      ·rcases qk.o q hq with y|y
       ·exact .inl (.inl (.inr y))
       ·exact .inr y)))
     have zh:Hi (∀g,v.ownBlock=some g->lv.ownBlock=some g\/w.heap.size<=g):=Z (fun g hg=>by
      rcases qj.o.2 g hg with y|y
      ·exact qk.o g y
      ·exact .inr (qD qf.o.size y))
     have J:Hi (GA w0 w (wj.setCell (Ja c 6) (Ji (E:Int))) c P X D K t (R:Int) a b h p f l U O a0 S lv (k+1) E z v):=Z ⟨by have:=qa.o;rw[<-zr.o] at this;exact this,qm.o,zd.o,zh.o⟩
     obtain⟨⟨-,-,-,-,-,-,c6'⟩,-,-⟩:=Qdw qa.o.c;clear zc qy zj zf qj H qg c6 f6 qa qm zi qf qk zd zh C qq zp L qc qn d ql qw;generalize wj.setCell (Ja c 6) (Ji (E:Int))=W2 at J c6' ⊢
     by_cases A:E=0
     ·rw[A] at c6'
      have T:=Z A;clear A;go_wp2;go_ret2;unfold QqM;obtain⟨r1,r2,r3,r4⟩:=Qgo (QeS h p f l S 0 a b t) R k (QxT h p f l S 0 a b t) zq qh.o.1 (by rw[Y.o.1];exact T.o)
      rw[r1,r2,r3,r4,Y.o.2];have hg:=J.o.f;rw[T.o] at hg;exact⟨rfl,z,v,hg,J.o.t,J.o.o⟩
     ·have tz:((E:Int)==0)=false:=by rw[qI];omega
      have zs:IntKind.i64.wrap ((k:Int)+1)=(k:Int)+1:=by rw[JR];omega
      have T:=Z A;clear A;go_wp2_with fail;go_roundw
      case rel=>
       refine⟨k+1,by omega,by go_num,fun j hj=>?_,E,z,v,J,fun j hj=>?_⟩
       ·rcases Nat.lt_or_eq_of_le (Nat.le_of_lt_succ hj) with y|y
        ·exact qh.o.1 j y
        ·subst y;rw[Y.o.1];exact T.o
       ·obtain rfl:k=j:=by omega
        exact Y.o.1.symm
      case measure=>simp[intOf];omega
    ·obtain rfl:k=R+1:=by omega
     have tk:decide (((R+1:Nat):Int)<(R:Int)+1)=false:=qB (by omega)
     have zv:decide ((R:Int)+1<(R:Int)+1)=false:=qB (by omega)
     go_wp2;go_ret2;unfold QqM;obtain⟨r1,r2,r3,r4⟩:=Qir (QeS h p f l S 0 a b t) R (QxT h p f l S 0 a b t) (fun j hj=>qh.o.1 j (by omega))
     rw[r1,r2,r3,r4];have hl:=qh.o.2 R rfl;rw[<-hl];exact⟨rfl,rv',lv',HGr.o.f,HGr.o.t,HGr.o.o⟩
def QC3(w0 w:World)(Cb P:Nat)(hh hp f:JA)(R:Nat)(l:List Flt)(lg:List Evt)(n0 a0:Nat)(a b:Int)(lv:Value)(e:Ending)(w':World):Prop:=
 ∃(E:Nat) (B:JA),e=.returned (.tuple #[Jt B,Ji E])/\
 ∃k lg' n' last' rv' lv',FC w0 w' Cb P hh hp (f.size:Int) (R:Int) hh hp f (l.drop k) lg' n' (a0+k) last' rv' lv'/\lg'.length=lg.length+k/\n0<=n'/\n'<=n0+k/\1<=k/\k<=R+1/\
 ((E=0/\B.data.toList=(f.data.toList.take (b+1).toNat).drop a.toNat/\last'=0/\n0+k<=n'+1)\/(E=23/\B=⟨#[]⟩/\k=R+1/\n'=n0+(R+1)))/\
 (l = []->E=0/\k=1/\n'=n0)/\Touch (FS P Cb lv) w w'/\∀g,lv'.ownBlock=some g->lv.ownBlock=some g\/w.heap.size<=g
theorem QyN(h p f S:JA)(a b:Int)(c:Qg7 p.data.toList h.data.toList a b=0)(i:b<(f.size:Int))(d:f.size<=1000000)(g:S.data.toList=Qm2 p.data.toList h.data.toList a b)(j:Nat):QeS h p f [] S 0 a b (f.size:Int) j=0:=by
 unfold QeS QzA;rw[List.drop_nil];refine Classical.byContradiction fun hn=>?_
 have:=(QnC h p f noF S a b c i d g).2 hn;rw[Qn5] at this;cases this
theorem Qml(h p f S:JA)(m:Nat):Qch (lgN h p f [] [] S m)=0:=by
 induction m with
 |zero=>rw[Qmt];rfl
 |succ m ih=>
  rw[QiB,ih,List.drop_nil];show 0+QAK (QgF h p f noF S)=0;rw[QvN]
theorem QBV(w0 w:World)(y P:Nat)(d c f:JA)(R:Nat)(l:List Flt)(t:List Evt)(r z:Nat)(a b:Int)(n:Nat)(J lv:Value)(T:EnvT w0)
  (k:FC w0 w y P d c (f.size:Int) (R:Int) d c f l t r z n J lv)
  (W:R<=8) (U:f.size<=20000) (hx:∀x∈l,FltOk x) (V:l.length<=1000) (C:t.length<=900000/\r<=900000/\z<=900000) (I:Qli a b (f.size:Int)=0) (hO:QhS d.data.toList c.data.toList=0) :
  Calls prog 134 #[Jp y,.agg #[Ji a,Ji b]] w (QC3 w0 w y P d c f R l t r z a b lv):=by
 obtain⟨g1,g2,g3⟩:=Qoc a b _ I;have p:Qg7 c.data.toList d.data.toList a b=0:=by
  unfold QhS at hO;unfold Qg7;split at hO
  ·exact JN hO (by decide)
  ·rename_i C;rw[JJ C];exact g1
 obtain⟨S,hS⟩:∃S,bs (Qkk c.data.toList d.data.toList a b)=S:=⟨_,rfl⟩;have s:S.data.toList=Qm2 c.data.toList d.data.toList a b:=by
  rw[<-hS,Qai];unfold Qkk;rw[JK p]
 refine (QCt w0 w y P d c (f.size:Int) R d c f l t r z S a b n J lv T k W U hx V C I hO hS).mono ?_;rintro e w' ⟨rfl,D,B,v,O,X⟩;have h:=QuU d c f l [] S a b R p g2 (by omega) s
 have G:=QBv (QeS d c f l S 0 a b (f.size:Int)) R;have hlen:=QpU d c f l [] S (QlX (QeS d c f l S 0 a b (f.size:Int)) R);have q:=QAO d c f l [] S (QlX (QeS d c f l S 0 a b (f.size:Int)) R);rw[List.length_nil,Nat.zero_add] at hlen q;have N:Qch (Qrj d c f l [])=0:=rfl;rw[N,List.length_nil] at h;have m:l = []->QxS (QeS d c f l S 0 a b (f.size:Int)) R=0/\QlX (QeS d c f l S 0 a b (f.size:Int)) R=1/\Qch (lgN d c f l [] S (QlX (QeS d c f l S 0 a b (f.size:Int)) R))=0:=by
  intro A;subst A;obtain⟨r1,r2,r3,r4⟩:=Qgo (QeS d c f [] S 0 a b (f.size:Int)) R 0 (QxT d c f [] S 0 a b (f.size:Int)) (qL _) (fun j hj=>JN hj (JH _)) (QyN d c f S a b p g2 (by omega) s 0)
  exact⟨r3,r1,Qml _ _ _ _ _⟩
 have g:QxS (QeS d c f l S 0 a b (f.size:Int)) R=0->QBt (QeS d c f l S 0 a b (f.size:Int)) R=0:=by
  intro M;rcases Qjc (QeS d c f l S 0 a b (f.size:Int)) R with⟨i,hi,h1,h2⟩|h1
  ·exact (Qgo _ R i (fun _=>[]) hi h1 h2).2.1
  ·rw[(Qir _ R (fun _=>[]) h1).2.2.1] at M
   cases M
 generalize QxS (QeS d c f l S 0 a b (f.size:Int)) R=E at h m g ⊢;generalize QBt (QeS d c f l S 0 a b (f.size:Int)) R=L at v g;generalize QlX (QeS d c f l S 0 a b (f.size:Int)) R=K at h G hlen q m v;generalize Qch (lgN d c f l [] S K)=H at h q m v;refine⟨E,_,rfl,K,_,r+H,L,D,B,v,by rw[qG,hlen],by omega,by omega,G.1,G.2,?_,fun A=>?_,O,X⟩
 ·rcases h with⟨r1,r2,r3⟩|⟨r1,r2,r3,r4⟩
  ·exact .inl ⟨r1,by rw[Qai];exact r2,g r1,by omega⟩
  ·exact .inr ⟨r1,by rw[r2];rfl,r3,by omega⟩
 ·obtain⟨q1,q2,q3⟩:=m A
  exact⟨q1,q2,by omega⟩
end
section
structure Adr where
 Rb:Nat
 Cb:Nat
 P:Nat
 Sb:Nat
 lb:Nat
 mb:Nat
 rb:Nat
structure Con where
 hh:JA
 hp:JA
 f:JA
 R:Nat
 most:Nat
 G:Key->Prop
structure Net where
 l:List Flt
 lg:List Evt
 n:Nat
 a:Nat
 last:Nat
 rv:Value
 lv:Value
structure Con.Ok(C:Con):Prop where
 R:C.R<=8
 f:C.f.size<=20000
 org:QhS C.hh.data.toList C.hp.data.toList=0
 g0:QcD C.f.data.toList=0->C.G ((Qcf C.f.data.toList).rf,(Qcf C.f.data.toList).rl)
 g1:∀(k:Key) (l:List Ent) (e:Ent),C.G k->QcL (Qee C.f.data.toList k.1 k.2)=(0,l)->e∈l->e.2.2.2=0->Qdz (Qcf C.f.data.toList).ll 65536 e=0->C.G ((Qcf C.f.data.toList).lf+e.2.1,e.2.2.1)
structure Net.Ok(N:Net):Prop where
 x:∀x∈N.l,FltOk x
 l:N.l.length<=1000
 lg:N.lg.length<=900000
 n:N.n<=900000
 a:N.a<=900000
def Con.F(C:Con):JL:=C.f.data.toList
def Ql4(Cb Sb:Nat)(h:Hdr)(kn:Bool):JW:=#[Jp Cb,Jp Sb,Ju h.rf,Ju h.rl,Ju h.mf,Ju h.ml,Ju h.lf,Ju h.ll,Ju h.df,Ju h.dl,Ju h.ad,Ju h.en,Ju h.co,.bool h.cl,Jb h.inn,Jb h.out,Jb h.kd,Ji h.z0,Ji h.z1,Ji h.x0,Ji h.y0,Ji h.x1,Ji h.y1,Ji h.zo,Ji h.lo,Ji h.la,.bool kn]
def Qm4(w:World)(Rb Cb Sb:Nat)(h:Hdr)(kn:Bool):Prop:=w.heap[Rb]?=some (.cells (Ql4 Cb Sb h kn) 106 (0,0))
structure RdS(w0 w:World)(A:Adr)(C:Con)(N:Net)(nx:Nat)(kn:Bool)(Zq:List (Key×Nat×List Ent)):Prop where
 fc:FC w0 w A.Cb A.P C.hh C.hp (C.f.size:Int) (C.R:Int) C.hh C.hp C.f N.l N.lg N.n N.a N.last N.rv N.lv
 rd:∃h,Qm4 w A.Rb A.Cb A.Sb h kn/\HdrOk h/\(kn=true->h=Qcf C.F/\QcD C.F=0)
 sh:ShZ w0 w A.Sb A.lb A.mb A.rb C.most nx Zq
 ok:∀z∈Zq,z.1.1+z.1.2<=C.f.size/\QcL (Qee C.F z.1.1 z.1.2)=(0,z.2.2)/\C.G z.1
 kz:kn=false->Zq = []
 nxa:nx<=N.a
 lo:w0.heap.size<=A.Rb
def RdT(A:Adr)(lv:Value)(i:Nat):Prop:=FS A.P A.Cb lv i\/ShS A.Sb A.lb A.mb A.rb i\/i=A.Rb
structure RdTouch(A:Adr)(N N':Net)(w w':World):Prop where
 t:Touch (RdT A N.lv) w w'
 o:∀g,N'.lv.ownBlock=some g->N.lv.ownBlock=some g\/w.heap.size<=g
theorem RdTouch.refl(A:Adr)(N:Net)(w:World):RdTouch A N N w w:=⟨Touch.refl _ _,fun _ h=>.inl h⟩
theorem RdTouch.of_below(A:Adr)(N:Net){w w':World}(h:Jw w w'):RdTouch A N N w w':=⟨Touch.of_below h,fun _ h=>.inl h⟩
theorem RdTouch.trans{A:Adr}{N N' a:Net}{w b c:World}(h:RdTouch A N N' w b)(k:RdTouch A N' a b c):RdTouch A N a w c:=
 ⟨h.t.trans k.t (fun g hg=>by
  rcases hg with ((rfl|hg)|rfl)|hg|rfl
  ·exact .inl (.inl (.inl (.inl rfl)))
  ·rcases h.o g hg with h1|h1
   ·exact .inl (.inl (.inl (.inr h1)))
   ·exact .inr h1
  ·exact .inl (.inl (.inr rfl))
  ·exact .inl (.inr (.inl hg))
  ·exact .inl (.inr (.inr rfl))),fun g hg=>by
  rcases k.o g hg with h1|h1
  ·exact h.o g h1
  ·exact .inr (qD h.t.size h1)⟩
theorem RdTouch.stays{A:Adr}{N N':Net}{w w':World}(h:RdTouch A N N' w w'){i:Nat}(a:i<w.heap.size)(b:¬RdT A N.lv i):w'.heap[i]?=w.heap[i]?:=h.t.block i a b
section
variable {w0 w w':World} {Cb P:Nat} {hh hp h p f:JA} {t r:Int} {rest:List Flt} {log:List Evt} {n asks last:Nat} {rv lv:Value}
theorem FC.touch{S:Nat->Prop}(k:FC w0 w Cb P hh hp t r h p f rest log n asks last rv lv)(c:Touch S w w')(d:∀i,S i->w0.heap.size<=i)(a:∀i,S i->i≠P/\i≠Cb/\lv.ownBlock≠some i/\Qkj rv≠some i):FC w0 w' Cb P hh hp t r h p f rest log n asks last rv lv:=
 ⟨⟨k.k.a.touch c (fun h=>(a _ h).1 rfl) (fun b hb h=>(a _ h).2.2.2 hb) (fun g hg h=>(a _ h).2.2.1 hg),k.k.lo,k.k.bel.trans (c.below d k.k.bel.size)⟩,(c.block _ (gsi k.c).1 (fun h=>(a _ h).2.1 rfl)).trans k.c,k.lo⟩
theorem FC.other(k:FC w0 w Cb P hh hp t r h p f rest log n asks last rv lv){i:Nat}(j:(∃C T,w.heap[i]?=some (.cells C T (0,0))/\T≠136/\T≠144/\T≠337/\T≠137)\/(∃es ck,w.heap[i]?=some (.map es ck))):i≠P/\i≠Cb/\lv.ownBlock≠some i/\Qkj rv≠some i:=by
 have d:=k.k.a.blk;have c:=k.c;have b:=fun g hg=>Qa5 k.k.a.own g hg
 have a:=k.k.a.tag;rcases j with⟨C,T,h1,t1,t2,t3,t4⟩|⟨es,ck,h1⟩
 ·refine⟨fun e=>?_,fun e=>?_,fun e=>?_,fun e=>?_⟩
  ·rw[e,d] at h1;simp only[J8,Obj.cells.injEq] at h1;exact t1 h1.2.1.symm
  ·rw[e,c] at h1;simp only[J8,Obj.cells.injEq] at h1;exact t2 h1.2.1.symm
  ·obtain⟨cur,h2⟩:=b i e
   rw[h2] at h1;simp only[J8,Obj.cells.injEq] at h1;exact t3 h1.2.1.symm
  ·obtain⟨cur,h2⟩:=a i e
   rw[h2] at h1;simp only[J8,Obj.cells.injEq] at h1;exact t4 h1.2.1.symm
 ·refine⟨fun e=>?_,fun e=>?_,fun e=>?_,fun e=>?_⟩
  ·rw[e,d] at h1;cases h1
  ·rw[e,c] at h1;cases h1
  ·obtain⟨cur,h2⟩:=b i e
   rw[h2] at h1;cases h1
  ·obtain⟨cur,h2⟩:=a i e
   rw[h2] at h1;cases h1
end
section
variable {w0 w w':World} {A:Adr} {C:Con} {N N':Net} {nx nx':Nat} {kn:Bool} {Zq Z':List (Key×Nat×List Ent)}
theorem RdS.low(k:RdS w0 w A C N nx kn Zq):∀i,RdT A N.lv i->w0.heap.size<=i:=fun i hi=>by
 rcases hi with (h|rfl)|((rfl|(rfl|rfl)|rfl))|rfl
 ·exact k.fc.k.low i h
 ·exact k.fc.lo
 ·exact k.sh.lo.1
 ·exact k.sh.lo.2.1
 ·exact k.sh.lo.2.2.1
 ·exact k.sh.lo.2.2.2
 ·exact k.lo
theorem RdS.lts(k:RdS w0 w A C N nx kn Zq):∀i,RdT A N.lv i->i<w.heap.size:=fun i hi=>by
 obtain⟨l1,l2,l3,l4⟩:=k.sh.lts;obtain⟨h,hb,-⟩:=k.rd;rcases hi with ((rfl|h)|rfl)|((rfl|(rfl|rfl)|rfl))|rfl
 ·exact k.fc.k.a.lt
 ·exact (k.fc.k.a.own.lt i h).2
 ·exact (gsi k.fc.c).1
 ·exact l1
 ·exact l2
 ·exact l3
 ·exact l4
 ·exact (gsi hb).1
theorem RdS.below(k:RdS w0 w A C N nx kn Zq)(a:Jw w w'):RdS w0 w' A C N nx kn Zq:=
 ⟨k.fc.step a,let ⟨h,h1,h2,h3⟩:=k.rd;⟨h,(a.block _ (gsi h1).1).trans h1,h2,h3⟩,k.sh.below a,k.ok,k.kz,k.nxa,k.lo⟩
theorem RdS.sep(k:RdS w0 w A C N nx kn Zq):(∀i,ShS A.Sb A.lb A.mb A.rb i\/i=A.Rb->i≠A.P/\i≠A.Cb/\N.lv.ownBlock≠some i/\Qkj N.rv≠some i)/\(∀(i:Nat) (D:JW),w.heap[i]?=some (.cells D 61 (0,0))->i≠A.P/\i≠A.Cb/\N.lv.ownBlock≠some i/\Qkj N.rv≠some i):=by
 obtain⟨hi,mi,hb⟩:=k.sh.blk;obtain⟨gr,n,hm,-⟩:=k.sh.map;obtain⟨g,old,new,hl,hmm,-⟩:=k.sh.lru;obtain⟨h,hr,-⟩:=k.rd;refine⟨fun i hi=>?_,fun i D hD=>k.fc.other (.inl ⟨_,_,hD,by decide,by decide,by decide,by decide⟩)⟩
 rcases hi with ((rfl|(rfl|rfl)|rfl))|rfl
 ·exact k.fc.other (.inl ⟨_,_,hb,by decide,by decide,by decide,by decide⟩)
 ·exact k.fc.other (.inl ⟨_,_,hl,by decide,by decide,by decide,by decide⟩)
 ·exact k.fc.other (.inr hmm.blk)
 ·exact k.fc.other (.inr hm.blk)
 ·exact k.fc.other (.inl ⟨_,_,hr,by decide,by decide,by decide,by decide⟩)
theorem RdS.own(k:RdS w0 w A C N nx kn Zq):¬ShS A.Sb A.lb A.mb A.rb A.Rb/\(∀(i:Nat) (D:JW),w.heap[i]?=some (.cells D 61 (0,0))->i≠A.Rb):=by
 obtain⟨hi,mi,hb⟩:=k.sh.blk;obtain⟨gr,n,hm,-⟩:=k.sh.map;obtain⟨g,old,new,hl,hmm,-⟩:=k.sh.lru;obtain⟨h,hr,-⟩:=k.rd;unfold Qm4 at hr;unfold ShB at hb;unfold LruB at hl;refine⟨fun hs=>?_,fun i D hD e=>?_⟩
 ·rcases hs with e|(e|e)|e
  ·rw[<-e,hr] at hb;simp only[J8,Obj.cells.injEq] at hb;exact JN hb.2.1 (by decide)
  ·rw[<-e,hr] at hl;simp only[J8,Obj.cells.injEq] at hl;exact JN hl.2.1 (by decide)
  ·obtain⟨es,ck,hx⟩:=hmm.blk
   rw[<-e,hr] at hx;cases hx
  ·obtain⟨es,ck,hx⟩:=hm.blk
   rw[<-e,hr] at hx;cases hx
 ·rw[e,hr] at hD;simp only[J8,Obj.cells.injEq] at hD;exact JN hD.2.1 (by decide)
theorem RdS.net(k:RdS w0 w A C N nx kn Zq)(d:FC w0 w' A.Cb A.P C.hh C.hp (C.f.size:Int) (C.R:Int) C.hh C.hp C.f N'.l N'.lg N'.n N'.a N'.last N'.rv N'.lv)(b:Touch (FS A.P A.Cb N.lv) w w')(c:N.a<=N'.a):RdS w0 w' A C N' nx kn Zq:=by
 obtain⟨s1,s2⟩:=k.sep;have a:∀i,(i≠A.P/\i≠A.Cb/\N.lv.ownBlock≠some i/\Qkj N.rv≠some i)->¬FS A.P A.Cb N.lv i:=fun i hi hs=>by
  rcases hs with (e|e)|e
  ·exact hi.1 e
  ·exact hi.2.2.1 e
  ·exact hi.2.1 e
 obtain⟨h,h1,h2,h3⟩:=k.rd;exact⟨d,⟨h,(b.block _ (gsi h1).1 (a _ (s1 _ (.inr rfl)))).trans h1,h2,h3⟩,k.sh.far b (a _ (s1 _ (.inl (.inl rfl)))) (a _ (s1 _ (.inl (.inr (.inl (.inl rfl)))))) (a _ (s1 _ (.inl (.inr (.inl (.inr rfl)))))) (a _ (s1 _ (.inl (.inr (.inr rfl))))) (fun i D hD=>a i (s2 i D hD)),k.ok,k.kz,qD k.nxa c,k.lo⟩
theorem RdS.shelf(k:RdS w0 w A C N nx kn Zq)(d:ShZ w0 w' A.Sb A.lb A.mb A.rb C.most nx' Z')(c:Touch (ShS A.Sb A.lb A.mb A.rb) w w')(a:∀z∈Z',z.1.1+z.1.2<=C.f.size/\QcL (Qee C.F z.1.1 z.1.2)=(0,z.2.2)/\C.G z.1)(b:kn=false->Z' = [])(f:nx'<=N.a):RdS w0 w' A C N nx' kn Z':=by
 obtain⟨s1,s2⟩:=k.sep;obtain⟨h,h1,h2,h3⟩:=k.rd;exact⟨k.fc.touch c (fun i hi=>k.low i (.inr (.inl hi))) (fun i hi=>s1 i (.inl hi)),⟨h,(c.block _ (gsi h1).1 k.own.1).trans h1,h2,h3⟩,d,a,b,f,k.lo⟩
end
end
section
theorem Qk6(w:World)(A:Addr)(x:Value)(a:JT)(b:∀w,(isAgg a).run prog w=.ok false w)(h:w.cell? A=some x):(loadVar a A).run prog w=.ok x w:=by
 simp[go_sem,b,h]
theorem Qmp(w:World)(A:Addr)(x:Value)(h:w.cell? A=some x):(loadVar 9 A).run prog w=.ok x w:=Qk6 w A x _ (fun _=>by kernel_rfl) h
theorem Qhq(w:World)(A:Addr)(x:Value)(h:w.cell? A=some x):(loadVar 38 A).run prog w=.ok x w:=Qk6 w A x _ (fun _=>by kernel_rfl) h
theorem QcO{fn:Func}{a:JW}{w:World}{A B:Addr}{V E:Value}{p u:Tmp}{g b:JT}(d:fn.results=#[.cell p g,.cell u b])(j:(loadVar g A).run prog w=.ok V w)(i:(loadVar b B).run prog w=.ok E w)
  (h:a.getD p undef=.pointer (some A)) (k:a.getD u undef=.pointer (some B)):(results fn a).run prog w=.ok (.tuple #[V,E]) w:=by
 have c:a[p]?.getD undef=.pointer (some A):=by simpa using h
 have f:a[u]?.getD undef=.pointer (some B):=by simpa using k
 simp[results,d,c,f,asAddr,j,i,Result.andThen]
theorem Qek{fn:Func}{R:Ending->World->Prop}{a:Act}{w:World}{A B:Addr}{V E F:Value}{p u v:Tmp}{i b:JT}(g:fn.results=#[.cell p i,.cell u b,.tmp v])
  (n:(loadVar i A).run prog w=.ok V w) (l:(loadVar b B).run prog w=.ok E w)
  (j:a.tmps.getD p undef=.pointer (some A)) (k:a.tmps.getD u undef=.pointer (some B)) (q:a.tmps.getD v undef=F) (h:a.defers = [])
  (m:R (.returned (.tuple #[V,E,F])) w):bodyPost prog fn R .ret a w:=by
 refine bodyPost_ret_by (v:=.tuple #[V,E,F]) ?_ h m;have c:a.tmps[p]?.getD undef=.pointer (some A):=by simpa using j
 have d:a.tmps[u]?.getD undef=.pointer (some B):=by simpa using k
 have f:a.tmps[v]?.getD undef=F:=by simpa using q
 simp[results,g,c,d,f,asAddr,n,l,Result.andThen]
def QhL(h:Hdr):Nat->Nat×Nat
 |0=>(h.rf,h.rl)
 |1=>(h.mf,h.ml)
 |2=>(h.lf,h.ll)
 |_=>(h.df,h.dl)
def Qci(s:JA)(h:Hdr):Nat->JW
 |0=>#[Jt ⟨#[]⟩,Jt ⟨#[]⟩,Jt ⟨#[]⟩,Jt ⟨#[]⟩]
 |1=>#[Jt (s.extract h.rf (h.rf+h.rl)),Jt ⟨#[]⟩,Jt ⟨#[]⟩,Jt ⟨#[]⟩]
 |2=>#[Jt (s.extract h.rf (h.rf+h.rl)),Jt (s.extract h.mf (h.mf+h.ml)),Jt ⟨#[]⟩,Jt ⟨#[]⟩]
 |3=>#[Jt (s.extract h.rf (h.rf+h.rl)),Jt (s.extract h.mf (h.mf+h.ml)),Jt (s.extract h.lf (h.lf+h.ll)),Jt ⟨#[]⟩]
 |_=>#[Jt (s.extract h.rf (h.rf+h.rl)),Jt (s.extract h.mf (h.mf+h.ml)),Jt (s.extract h.lf (h.lf+h.ll)),Jt (s.extract h.df (h.df+h.dl))]
theorem Qw6(s:JA)(h:Hdr)(k:Nat)(a:k<4):(Qci s h k)[k]?=some (Jt ⟨#[]⟩)/\(Qci s h k).set! k (Jt (s.extract (QhL h k).1 ((QhL h k).1+(QhL h k).2)))=Qci s h (k+1):=by
 match k,a with
 |0,_=>exact⟨rfl,rfl⟩
 |1,_=>exact⟨rfl,rfl⟩
 |2,_=>exact⟨rfl,rfl⟩
 |3,_=>exact⟨rfl,rfl⟩
theorem QCJ(h:Hdr)(k:Nat)(a:k<4):∀w,(Instr.index 95 (.agg #[Ju h.rf,Ju h.rl,Ju h.mf,Ju h.ml,Ju h.lf,Ju h.ll,Ju h.df,Ju h.dl]) (Ji k)).run prog w=.ok (.agg #[Ju ((QhL h k).1:Nat),Ju ((QhL h k).2:Nat)]) w:=by
 match k,a with
 |0,_=>exact Qrx h
 |1,_=>exact Qrw h
 |2,_=>exact Qrv h
 |3,_=>exact Qru h
def CuSt(s:JA)(h:Hdr)(w:World)(B5 B7:Nat)(k:Nat)(wr:World):Prop:=wr.heap[w.heap.size]?=some (.cells qZ 47 (0,0))/\wr.heap[w.heap.size+1]?=some (.cells #[Jt ⟨#[]⟩,Jt ⟨#[]⟩,Jt ⟨#[]⟩,Jt ⟨#[]⟩] 48 (0,0))/\wr.heap[B5]?=some (.cells (Qby h) 47 (0,0))/\wr.heap[B7]?=some (.cells (Qci s h k) 48 (0,0))/\Jw w wr
theorem CuSt.below{s:JA}{h:Hdr}{w:World}{a c k:Nat}{W W':World}(d:CuSt s h w a c k W)(b:Jw W W'):CuSt s h w a c k W':=by
 obtain⟨h1,h2,h3,h4,h5⟩:=d;have f:=fun {i:Nat} {o:Obj} (x:W.heap[i]?=some o)=>(b.block i (gsi x).1).trans x
 exact⟨f h1,f h2,f h3,f h4,Qaa h5 b⟩
theorem CuSt.step{s:JA}{h:Hdr}{w:World}{b a k:Nat}{W:World}(d:CuSt s h w b a k W)(c:k<4)(f:w.heap.size+1<b)(g:b<a):CuSt s h w b a (k+1) (W.setCell (Ja a k) (Jt (s.extract (QhL h k).1 ((QhL h k).1+(QhL h k).2)))):=by
 obtain⟨h1,h2,h3,h4,h5⟩:=d;obtain⟨-,e⟩:=Qw6 s h k c;exact⟨(Qal (by omega) k _).trans h1,(Qal (by omega) k _).trans h2,(Qal (by omega) k _).trans h3,QeX (w:=w) h4 k _ e,h5.setCell (p:=(Ja a k)) (by show w.heap.size<=a;omega) _⟩
theorem Qer{w:World}{b:Nat}{s:JA}{h:Hdr}(k:w.heap[b]?=some (.cells (Qci s h 4) 48 (0,0))):(loadVar 48 (Ja b 0)).run prog w=.ok (.agg (Qci s h 4)) w:=
 run_loadVar_row w b 48 48 (Qci s h 4) (0,0) _ k underlying48 rfl (by kernel_rfl)
theorem Qa3{c:Prop}[Decidable c]{a b:Prop}(d:c)(h:a):if c then a else b:=by rw[JK d];exact h
theorem Qk9(s:JA)(h:Hdr)(w:World)(hs:s.size<=1000000)(hD:Qoa s.data.toList=h)(U:Qf3 s.data.toList=0)(I:∀k,k<4->(QhL h k).1+(QhL h k).2<=s.size) :
  Calls prog 9 #[Jt s] w (JB (.tuple #[.agg (Qby h),.agg (Qci s h 4),Ji 0]) w):=by
 have c:=Z (fun W=>QgH s hs W)
 rw[U,QmG _ U,hD] at c;replace c:Hi (∀W:World,Calls prog 30 #[Jt s] W (JB (.tuple #[.agg #[Ju h.rf,Ju h.rl,Ju h.mf,Ju h.ml,Ju h.lf,Ju h.ll,Ju h.df,Ju h.dl,Ju h.ad,Ju h.en,Ju h.co,.bool h.cl,Jb h.inn,Jb h.out,Jb h.kd,Ji h.z0,Ji h.z1,Ji h.x0,Ji h.y0,Ji h.x1,Ji h.y1,Ji h.zo,Ji h.lo,Ji h.la],Ji 0]) W)):=c
 obtain⟨W0,hW0⟩:∃W0,(w.alloc (.cells qZ 47)).alloc (.cells #[Jt ⟨#[]⟩,Jt ⟨#[]⟩,Jt ⟨#[]⟩,Jt ⟨#[]⟩] 48)=W0:=⟨_,rfl⟩;have J:Jw w W0:=by rw[<-hW0];exact ((qF _ _).alloc (qC _) _).alloc (by simp) _
 have k2:W0.heap[w.heap.size]?=some (.cells qZ 47 (0,0)):=by
  rw[<-hW0];exact (JQ _ _ _ (by rw[qJ];omega)).trans (JI w _)
 have k3:W0.heap[w.heap.size+1]?=some (.cells #[Jt ⟨#[]⟩,Jt ⟨#[]⟩,Jt ⟨#[]⟩,Jt ⟨#[]⟩] 48 (0,0)):=by
  have:=JI (w.alloc (.cells qZ 47)) (.cells #[Jt ⟨#[]⟩,Jt ⟨#[]⟩,Jt ⟨#[]⟩,Jt ⟨#[]⟩] 48);rw[qJ] at this;rw[<-hW0];exact this
 have z:=Z (qE k2 (qE k3 J));have S:=Z I;clear hD U k2 k3 J I;go_enter func9,ntmps9;go_wp2_with fail;refine (c.o _).mono ?_;rintro e C ⟨rfl,x⟩;obtain⟨V5,hV5⟩:∃V5,C.alloc (.cells qZ 47)=V5:=⟨_,rfl⟩;obtain⟨B5,hB5⟩:∃B5,C.heap.size=B5:=⟨_,rfl⟩;have G:Jw C V5:=by rw[<-hV5];exact (qF _ _).alloc (qC _) _
 have R:V5.heap[B5]?=some (.cells qZ 47 (0,0)):=by rw[<-hV5,<-hB5];exact JI C _
 have HZ:=Z R;obtain⟨V6,hV6⟩:∃V6,V5.setRow B5 #[Ju h.rf,Ju h.rl,Ju h.mf,Ju h.ml,Ju h.lf,Ju h.ll,Ju h.df,Ju h.dl,Ju h.ad,Ju h.en,Ju h.co,.bool h.cl,Jb h.inn,Jb h.out,Jb h.kd,Ji h.z0,Ji h.z1,Ji h.x0,Ji h.y0,Ji h.x1,Ji h.y1,Ji h.zo,Ji h.lo,Ji h.la]=V6:=⟨_,rfl⟩;have N:V6.heap[B5]?=some (.cells (Qby h) 47 (0,0)):=by rw[<-hV6];exact setRow_heap V5 B5 _ _ _ _ R
 have D:Jw C V6:=by rw[<-hV6];exact Qba G (by omega) _
 obtain⟨B7,hB7⟩:∃B7,V6.heap.size=B7:=⟨_,rfl⟩;obtain⟨V7,hV7⟩:∃V7,V6.alloc (.cells #[Jt ⟨#[]⟩,Jt ⟨#[]⟩,Jt ⟨#[]⟩,Jt ⟨#[]⟩] 48)=V7:=⟨_,rfl⟩;have v:Jw V6 V7:=by rw[<-hV7];exact (qF _ _).alloc (qC _) _
 have Y:V7.heap[B7]?=some (.cells #[Jt ⟨#[]⟩,Jt ⟨#[]⟩,Jt ⟨#[]⟩,Jt ⟨#[]⟩] 48 (0,0)):=by rw[<-hV7,<-hB7];exact JI V6 _
 have n:=(v.block _ (gsi N).1).trans N;have l2:w.heap.size+1<B5:=by rw[<-hB5];have:=x.size;have:=(gsi z.o.2.1).1;omega
 have l5:B5<B7:=by rw[<-hB7];exact (gsi N).1
 have a:=Qaa (Qaa x D) v;have HS:Hi (CuSt s h w B5 B7 0 V7):=Z ⟨(a.block _ (gsi z.o.1).1).trans z.o.1,(a.block _ (gsi z.o.2.1).1).trans z.o.2.1,n,Y,Qaa z.o.2.2 a⟩;obtain⟨c0,c1,c2,c3,c4,c5,c6,c7,-⟩:=Qdc n;have O:=Z (qE l2 l5);clear x G R N D v Y n l2 l5 a;go_wp2_with (refine wpList_store_row rfl 47 (.tmp 5) (.tmp 13) rfl B5 #[Ju h.rf,Ju h.rl,Ju h.mf,Ju h.ml,Ju h.lf,Ju h.ll,Ju h.df,Ju h.dl,Ju h.ad,Ju h.en,Ju h.co,.bool h.cl,Jb h.inn,Jb h.out,Jb h.kd,Ji h.z0,Ji h.z1,Ji h.x0,Ji h.y0,Ji h.x1,Ji h.y1,Ji h.zo,Ji h.lo,Ji h.la] rfl rfl 47 #[Ju 0,Ju 0,Ju 0,Ju 0,Ju 0,Ju 0,Ju 0,Ju 0,Ju 0,Ju 0,Ju 0,.bool false,Jb 0,Jb 0,Jb 0,Ji 0,Ji 0,Ji 0,Ji 0,Ji 0,Ji 0,Ji 0,Ji 0,Ji 0] HZ.o (by kernel_rfl) rfl (by simp[Value.oneCell']) ?_)
 clear c0 c1 c2 c3 c4 c5 c6 c7 hV5 hB5 hV6 hB7 hV7;have qa:=Z hs;go_loopw [29] (fun u29 wr=>Hi (∃k:Nat,k<=4/\u29 = Ji k/\CuSt s h w B5 B7 k wr)) (fun u29 _=>4-(intOf u29).toNat)
 case atStart=>exact Z ⟨0,by decide,rfl,HS.o⟩
 case round=>
  obtain⟨k,hk,rfl,hst⟩:=hrel.o;clear hrel
  by_cases i:k<4
  ·have hx:=QCJ h k i
   have j:=S.o k i;have p:=Z (fun W (d:CuSt s h w B5 B7 k W)=>d.step i O.o.1 O.o.2)
   have M:=Z (Qw6 s h k i).1;obtain⟨f,hf⟩:∃f,(QhL h k).1=f:=⟨_,rfl⟩;obtain⟨l,hl⟩:∃l,(QhL h k).2=l:=⟨_,rfl⟩;rw[hf,hl] at hx j p;obtain⟨q,hq⟩:∃q,f+l=q:=⟨_,rfl⟩;have m:=Z (fun W=>Qcs f l W (by omega) (by omega))
   rw[hq] at m j p;have qc:f<=q:=by omega
   have qd:IntKind.u64.wrap (s.size:Int)=(s.size:Int):=by rw[JU];omega
   have t1:decide ((s.size:Int)<(q:Int))=false:=qB (by omega)
   have qb:decide (s.size<q)=false:=qB (by omega)
   obtain⟨Wb,hWb⟩:∃Wb,wr.alloc (.cells #[Ju f,Ju l] 45)=Wb:=⟨_,rfl⟩;obtain⟨E,hEE⟩:∃E,wr.heap.size=E:=⟨_,rfl⟩;have V:Wb.heap[E]?=some (.cells #[Ju f,Ju l] 45 (0,0)):=by rw[<-hWb,<-hEE];exact JI wr _
   have L:Jw wr Wb:=by rw[<-hWb];exact (qF _ _).alloc (qC _) _
   have P:=Z (qE (hst.below L) V);obtain⟨⟨y0,y1⟩,-⟩:=Qax V;have qe:q<=s.size:=j;clear hst V L hf hl hq j;go_wp2_with fail;refine (m.o _).mono ?_;rintro e w2 ⟨rfl,t⟩;have T:=P.o.1.below t;have r:=(t.block _ (gsi P.o.2).1).trans P.o.2;have X:=Z (qE T r);obtain⟨⟨z0,z1⟩,-⟩:=Qax r;obtain⟨o0,o1⟩:=Qak T.2.2.2.1 k _ M.o;clear T r t y0 y1 hWb hEE;go_upto_region 10 with fail
   go_region_with (go_at_call 31;refine (m.o _).mono ?_;rintro e w3 ⟨rfl,y⟩;have H3:=Z ((X.o.1.below ((qF _ _).drew)).below y);have H:=(y.block E (gsi X.o.2).1).trans X.o.2;obtain⟨⟨x0,x1⟩,-⟩:=Qax H;obtain⟨p0,p1⟩:=Qak H3.o.2.2.2.1 k _ M.o;clear y H)
   all_goals
    go_wp2_with fail;refine⟨Z ⟨k+1,by omega,by go_num,p.o _ H3.o⟩,?_⟩
    simp[intOf];omega
  ·obtain rfl:k=4:=by omega
   have b:Hi (CuSt s h w B5 B7 4 wr.drew):=Z (hst.below ((qF _ _).drew));have g:((wr.drew.setRow w.heap.size (Qby h)).setRow (w.heap.size+1) (Qci s h 4)).heap[w.heap.size]?=some (.cells (Qby h) 47 (0,0))/\((wr.drew.setRow w.heap.size (Qby h)).setRow (w.heap.size+1) (Qci s h 4)).heap[w.heap.size+1]?=some (.cells (Qci s h 4) 48 (0,0))/\Jw w ((wr.drew.setRow w.heap.size (Qby h)).setRow (w.heap.size+1) (Qci s h 4)):=
    ⟨(setRow_other _ _ _ _ (by omega)).trans (setRow_heap _ _ _ _ _ _ b.o.1),setRow_heap _ _ _ _ _ _ ((setRow_other _ _ _ _ (by omega)).trans b.o.2.1),Qba (Qba b.o.2.2.2.2 (qC _) _) (by omega) _⟩
   clear hst;go_upto_region 12 with fail
   refine wp_region_any (by kernel_rfl) ?_
   change wpAny _ _ _ _ _ _ _ (World.drew _);refine wpAny_ready (rs:=[0,1]) (by kernel_rfl) (by simp) ?_
   refine AllReady.cons rfl (fun K hK=>?_) (AllReady.cons rfl (fun K hK=>?_) AllReady.nil)
   ·refine Qa3 rfl ?_
    refine wp_load_row 47 (.tmp 5) rfl B5 rfl 47 (Qby h) (0,0) _ (b.o.2.2.1) underlying47 rfl (by kernel_rfl) ?_
    refine hK _ _ ?_;clear hK K;refine wpAny_ready (rs:=[1,2]) (by kernel_rfl) (by simp) ?_
    refine AllReady.cons rfl (fun K hK=>?_) (AllReady.cons rfl (fun K hK=>?_) AllReady.nil)
    ·refine Qa3 rfl ?_
     refine wp_load_row 48 (.tmp 7) rfl B7 rfl 48 (Qci s h 4) (0,0) _ (b.o.2.2.2.1) underlying48 rfl (by kernel_rfl) ?_
     refine hK _ _ ?_;clear hK K;refine wpAny_ready (rs:=[2]) (by kernel_rfl) (by simp) ?_
     refine AllReady.cons rfl (fun K hK=>?_) AllReady.nil
     refine Qa3 rfl ?_;refine wp_store_row 47 (.tmp 2) (.tmp 50) rfl w.heap.size (Qby h) rfl rfl 47 #[Ju 0,Ju 0,Ju 0,Ju 0,Ju 0,Ju 0,Ju 0,Ju 0,Ju 0,Ju 0,Ju 0,.bool false,Jb 0,Jb 0,Jb 0,Ji 0,Ji 0,Ji 0,Ji 0,Ji 0,Ji 0,Ji 0,Ji 0,Ji 0] b.o.1 (by kernel_rfl) rfl (by simp[Qby,Value.oneCell']) ?_
     refine hK _ _ ?_;clear hK K;refine wpAny_ready (rs:=[3]) (by kernel_rfl) (by simp) ?_
     refine AllReady.cons rfl (fun K hK=>?_) AllReady.nil
     refine Qa3 rfl ?_;refine wp_store_row 48 (.tmp 3) (.tmp 51) rfl (w.heap.size+1) (Qci s h 4) rfl rfl 48 _ ((setRow_other _ _ _ _ (by omega)).trans b.o.2.1) (by kernel_rfl) rfl (by simp[Qci,Value.oneCell']) ?_
     refine hK _ _ ?_;clear hK K;refine wpAny_ready (rs:=[4]) (by kernel_rfl) (by simp) ?_
     refine AllReady.cons rfl (fun K hK=>?_) AllReady.nil
     refine Qa3 rfl ?_;go_simp;refine hK _ _ ?_;clear hK K;refine wpAny_done (by kernel_rfl) ?_ _
     go_wp2_with fail;refine Qek (A:=(Ja w.heap.size 0)) (B:=(Ja (w.heap.size+1) 0)) rfl (Qb6 g.1 rfl) (Qer g.2.1) rfl rfl rfl rfl ⟨rfl,g.2.2⟩
    ·refine Qa3 rfl ?_
     refine wp_store_row 47 (.tmp 2) (.tmp 50) rfl w.heap.size (Qby h) rfl rfl 47 #[Ju 0,Ju 0,Ju 0,Ju 0,Ju 0,Ju 0,Ju 0,Ju 0,Ju 0,Ju 0,Ju 0,.bool false,Jb 0,Jb 0,Jb 0,Ji 0,Ji 0,Ji 0,Ji 0,Ji 0,Ji 0,Ji 0,Ji 0,Ji 0] b.o.1 (by kernel_rfl) rfl (by simp[Qby,Value.oneCell']) ?_
     refine hK _ _ ?_;clear hK K;refine wpAny_ready (rs:=[1]) (by kernel_rfl) (by simp) ?_
     refine AllReady.cons rfl (fun K hK=>?_) AllReady.nil
     refine Qa3 rfl ?_;refine wp_load_row 48 (.tmp 7) rfl B7 rfl 48 (Qci s h 4) (0,0) _ ((setRow_other _ _ _ _ (by have:=O.o.1;have:=O.o.2;omega)).trans b.o.2.2.2.1) underlying48 rfl (by kernel_rfl) ?_
     refine hK _ _ ?_;clear hK K;refine wpAny_ready (rs:=[3]) (by kernel_rfl) (by simp) ?_
     refine AllReady.cons rfl (fun K hK=>?_) AllReady.nil
     refine Qa3 rfl ?_;refine wp_store_row 48 (.tmp 3) (.tmp 51) rfl (w.heap.size+1) (Qci s h 4) rfl rfl 48 _ ((setRow_other _ _ _ _ (by omega)).trans b.o.2.1) (by kernel_rfl) rfl (by simp[Qci,Value.oneCell']) ?_
     refine hK _ _ ?_;clear hK K;refine wpAny_ready (rs:=[4]) (by kernel_rfl) (by simp) ?_
     refine AllReady.cons rfl (fun K hK=>?_) AllReady.nil
     refine Qa3 rfl ?_;go_simp;refine hK _ _ ?_;clear hK K;refine wpAny_done (by kernel_rfl) ?_ _
     go_wp2_with fail;refine Qek (A:=(Ja w.heap.size 0)) (B:=(Ja (w.heap.size+1) 0)) rfl (Qb6 g.1 rfl) (Qer g.2.1) rfl rfl rfl rfl ⟨rfl,g.2.2⟩
   ·refine Qa3 rfl ?_
    refine wp_load_row 48 (.tmp 7) rfl B7 rfl 48 (Qci s h 4) (0,0) _ (b.o.2.2.2.1) underlying48 rfl (by kernel_rfl) ?_
    refine hK _ _ ?_;clear hK K;refine wpAny_ready (rs:=[0]) (by kernel_rfl) (by simp) ?_
    refine AllReady.cons rfl (fun K hK=>?_) AllReady.nil
    refine Qa3 rfl ?_;refine wp_load_row 47 (.tmp 5) rfl B5 rfl 47 (Qby h) (0,0) _ (b.o.2.2.1) underlying47 rfl (by kernel_rfl) ?_
    refine hK _ _ ?_;clear hK K;refine wpAny_ready (rs:=[2]) (by kernel_rfl) (by simp) ?_
    refine AllReady.cons rfl (fun K hK=>?_) AllReady.nil
    refine Qa3 rfl ?_;refine wp_store_row 47 (.tmp 2) (.tmp 50) rfl w.heap.size (Qby h) rfl rfl 47 #[Ju 0,Ju 0,Ju 0,Ju 0,Ju 0,Ju 0,Ju 0,Ju 0,Ju 0,Ju 0,Ju 0,.bool false,Jb 0,Jb 0,Jb 0,Ji 0,Ji 0,Ji 0,Ji 0,Ji 0,Ji 0,Ji 0,Ji 0,Ji 0] b.o.1 (by kernel_rfl) rfl (by simp[Qby,Value.oneCell']) ?_
    refine hK _ _ ?_;clear hK K;refine wpAny_ready (rs:=[3]) (by kernel_rfl) (by simp) ?_
    refine AllReady.cons rfl (fun K hK=>?_) AllReady.nil
    refine Qa3 rfl ?_;refine wp_store_row 48 (.tmp 3) (.tmp 51) rfl (w.heap.size+1) (Qci s h 4) rfl rfl 48 _ ((setRow_other _ _ _ _ (by omega)).trans b.o.2.1) (by kernel_rfl) rfl (by simp[Qci,Value.oneCell']) ?_
    refine hK _ _ ?_;clear hK K;refine wpAny_ready (rs:=[4]) (by kernel_rfl) (by simp) ?_
    refine AllReady.cons rfl (fun K hK=>?_) AllReady.nil
    refine Qa3 rfl ?_;go_simp;refine hK _ _ ?_;clear hK K;refine wpAny_done (by kernel_rfl) ?_ _
    go_wp2_with fail;refine Qek (A:=(Ja w.heap.size 0)) (B:=(Ja (w.heap.size+1) 0)) rfl (Qb6 g.1 rfl) (Qer g.2.1) rfl rfl rfl rfl ⟨rfl,g.2.2⟩
end
section
open PoolPlain
def Qg6(L:List Itm)(B:Nat):List Ent:=(QaS (rwM L).2 B).1
def QkJ(L:List Itm)(B:Nat)(k:Key):Prop:=k=((QfQ L B).rf,(QfQ L B).rl)\/∃e∈Qg6 L B,e.2.2.2=0/\k=((QfQ L B).lf+e.2.1,e.2.2.1)
theorem Qe3(L:List Itm)(B:Nat)(h:ItmsOk L)(a:64<=B):(Qgy L B).length<=12000:=by
 obtain⟨g1,g2,g3⟩:=Qhf L h;obtain⟨s1,s2,s3,-⟩:=Qd2 (rwM L).2 B g1 g2 a;have b:=s1.size.1;have c:=s1.len;unfold Qgy;simp only[qG,QdQ];have:([123,125]:JL).length=2:=rfl;omega
theorem Qq3(L:List Itm)(B:Nat)(h:ItmsOk L)(b:64<=B)(a:B<=16257):Qoa (Qgy L B)=QfQ L B/\Qf3 (Qgy L B)=0:=by
 obtain⟨h1,h2⟩:=Qvo L B h b a;exact Qrz (QfQ L B) h2 h1.ad h1.en h1.co _
theorem Qyt(L:List Itm)(B:Nat)(h:ItmsOk L)(b:64<=B)(a:B<=16257):Qcf (Qgy L B)=QfQ L B:=by
 unfold Qcf QeQ;rw[qX (by have:=Qe3 L B h b;omega)]
 exact (Qq3 L B h b a).1
theorem Qit(L:List Itm)(B:Nat):(QfQ L B).rf=127/\(QfQ L B).rl=(Qb3 (Qg6 L B)).length/\(QfQ L B).mf=127+(Qb3 (Qg6 L B)).length/\(QfQ L B).ml=2/\(QfQ L B).lf=127+(Qb3 (Qg6 L B)).length+2/\(QfQ L B).ll=(QaS (rwM L).2 B).2.1.length/\(QfQ L B).df=127+(Qb3 (Qg6 L B)).length+2+(QaS (rwM L).2 B).2.1.length/\(QfQ L B).dl=(rwM L).1.flatten.length:=⟨rfl,rfl,rfl,rfl,rfl,rfl,rfl,rfl⟩
theorem QDw(a b c:JL):((a++(b++c)).drop a.length).take b.length=b:=by
 rw[List.drop_left,List.take_left]
theorem Qq2(L:List Itm)(B:Nat):((Qgy L B).drop (QfQ L B).rf).take (QfQ L B).rl=Qb3 (Qg6 L B):=by
 obtain⟨h1,h2,-⟩:=Qit L B;rw[h1,h2,<-QdQ (QfQ L B)];exact QDw _ _ _
theorem Qys(L:List Itm)(B o n:Nat)(h:o+n<=(QaS (rwM L).2 B).2.1.length):((Qgy L B).drop ((QfQ L B).lf+o)).take n=((QaS (rwM L).2 B).2.1.drop o).take n:=by
 obtain⟨-,-,-,-,h5,-⟩:=Qit L B;rw[h5];have e:Qgy L B=(Qkq (QfQ L B)++Qb3 (Qg6 L B)++[123,125])++((QaS (rwM L).2 B).2.1++(rwM L).1.flatten):=by
  unfold Qgy Qg6;simp only[qP]
 have a:(Qkq (QfQ L B)++Qb3 (Qg6 L B)++[123,125]).length=127+(Qb3 (Qg6 L B)).length+2:=by
  rw[qG,qG,QdQ];rfl
 rw[e,<-a,<-List.drop_drop,List.drop_left,List.drop_append_of_le_length (by omega),List.take_append_of_le_length (by rw[JC];omega)]
theorem QBE(L:List Itm)(B R M:Nat)(g d:JA)(h:ItmsOk L)(c:64<=B)(b:B<=16257)(n:R<=8)(m:QhS g.data.toList d.data.toList=0):Con.Ok ⟨g,d,bs (Qgy L B),R,M,QkJ L B⟩:=by
 have i:=Qyt L B h c b;have r:=Qe3 L B h c;obtain⟨g1,g2,g3⟩:=Qhf L h;obtain⟨s1,s2,s3,s4⟩:=Qd2 (rwM L).2 B g1 g2 c;have p:QcL (Qb3 (Qg6 L B))=(0,Qg6 L B):=QmQ _ s1.row s1.entOk (by have:(Qb3 (Qg6 L B)).length<=B:=s2;omega)
 refine⟨n,by show (bs (Qgy L B)).size<=20000;rw[Qaq];omega,m,fun _=>?_,?_⟩
 ·show QkJ L B _
  rw[Qai,i];exact .inl rfl
 ·show ∀(k:Key) (l:List Ent) (e:Ent),QkJ L B k->_->_->_->_->QkJ L B _
  rw[Qai,i];intro k l e j a f q _;unfold Qee at a;rcases j with rfl|⟨x,hx,hx0,rfl⟩
  ·rw[Qq2,p] at a
   injection a with _ a
   subst a;exact .inr ⟨e,f,q,rfl⟩
  ·obtain⟨t1,ch,t2,t3,t4⟩:=s4 x hx hx0
   rw[Qys L B _ _ t1,t4,QmQ ch t2.row t2.entOk (by have:=t2.size.1;have:=t2.len;omega)] at a
   injection a with _ a
   subst a;exact JN (t3 e f) (by omega)
end
section
def NRd(b:Nat)(s:JA)(n:Nat)(w:World):Prop:=w.heap[b]?=some (.cells #[Jt s,Ji (n:Int),Ji 0] 220 (0,0))
theorem NRd.cells{b:Nat}{s:JA}{n:Nat}{w:World}(h:NRd b s n w):w.cell? (Ja b 0)=some (Jt s)/\w.cell? (Ja b 1)=some (Ji (n:Int))/\w.cell? (Ja b 2)=some (Ji 0)/\w.frozen? (Ja b 1)=false:=by
 unfold NRd at h;refine⟨?_,?_,?_,?_⟩
 ·unfold World.cell?;rw[h];rfl
 ·unfold World.cell?;rw[h];rfl
 ·unfold World.cell?;rw[h];rfl
 ·unfold World.frozen?;rw[h];rfl
theorem NRd.setAt{b:Nat}{s:JA}{n:Nat}{w:World}(h:NRd b s n w)(m:Nat):NRd b s m (w.setCell (Ja b 1) (Ji (m:Int))):=by
 unfold NRd at h ⊢;simp[World.setCell,J6,h]
theorem NRd.lt{b:Nat}{s:JA}{n:Nat}{w:World}(h:NRd b s n w):b<w.heap.size:=(gsi h).1
theorem NRd.drewN{b:Nat}{s:JA}{n:Nat}{w:World}(h:NRd b s n w)(m:Nat):NRd b s n (w.drewN m):=h
theorem QAM{b:Nat}{w:World}(m o:Nat)(v:Value):Touch (fun g=>g=b) w ((w.drewN m).setCell (Ja b o) v):=Qaj v (⟨rfl,rfl,rfl,qC _,fun _ _ _=>rfl⟩) (.inl rfl)
theorem QpH{b:Nat}{w:World}(m:Nat):Touch (fun g=>g=b) w (w.drewN m):=⟨rfl,rfl,rfl,qC _,fun _ _ _=>rfl⟩
theorem Qjt{b:Nat}{w a c:World}(h:Touch (fun g=>g=b) w a)(k:Touch (fun g=>g=b) a c):Touch (fun g=>g=b) w c:=h.trans k (fun _ h=>.inl h)
def QAz(b:Nat)(s:JA)(n:Nat)(v:Value)(w:World)(e:Ending)(w':World):Prop:=e=.returned v/\NRd b s n w'/\Touch (fun g=>g=b) w w'
theorem Qxl(c:UInt8)(a:c=123\/c=125)(w:World):Calls prog 156 #[Jt ⟨#[32,9,10,13]⟩,Jb (c.toNat:Int)] w (JS (Ji (-1)) w):=by
 have h:=Tryz.strings_IndexByte ⟨#[32,9,10,13]⟩ (c.toNat:Int) w;rcases a with rfl|rfl
 ·exact h
 ·exact h
theorem Qmm(b:Nat)(s:JA)(n:Nat)(w:World)(h:NRd b s n w)(d:s.size=2)(a:n=2\/∃a:n<s.size,s[n]=123\/s[n]=125) :
  Calls prog 102 #[Jp b] w (QAz b s n (.tuple #[]) w):=by
 have c:=Z h;obtain⟨c0,c1,c2,f1⟩:=h.cells;clear h;rcases a with rfl|⟨a,hc⟩
 ·have f:decide ((2:Int)<(s.size:Int))=false:=qB (by omega)
  have i:Jx w b 1 (Ji 2):=c1;clear c1 d;go_enter func102,ntmps102;go_wp2_with fail;go_loopg [] 0 (fun gk wx=>wx=w)
  case atStart=>rfl
  case round=>
   obtain rfl:=hrel;go_wp2_with fail;go_quiet (fail);go_wp2_with fail;go_end0;exact⟨rfl,c.o.drewN _,QpH _⟩
 ·have f:decide ((n:Int)<(s.size:Int))=true:=qA (by omega)
  have g:=Z (fun w=>Qxl s[n] hc w)
  clear hc d;go_enter func102,ntmps102;go_wp2_with fail;go_loopg [] 0 (fun gk wx=>wx=w)
  case atStart=>rfl
  case round=>
   obtain rfl:=hrel;go_wp2_with fail;go_quiet (first|(go_at_call 156;exact Calls.quiet_of_same (g.o _)))
   go_wp2_with fail;go_end0;exact⟨rfl,c.o.drewN _,QpH _⟩
theorem QDv(b:Nat)(s:JA)(n:Nat)(c:UInt8)(w:World)(h:NRd b s n w)(f:s.size=2)(k:n<s.size)(a:s[n]=c) :
  Calls prog 222 #[Jp b,Jb (c.toNat:Int)] w (QAz b s (n+1) (.bool true) w):=by
 have g:=Z (fun m=>(show NRd b s (n+1) ((w.drewN m).setCell (Ja b 1) (Ji ((n:Int)+1))) from (h.drewN m).setAt (n+1)))
 have d:s.size<=1000000:=by omega
 obtain⟨c0,c1,c2,f1⟩:=h.cells;have j:decide ((n:Int)<(s.size:Int))=true:=qA (by omega)
 have i:((s[n].toNat:Int)==(c.toNat:Int))=true:=by rw[a,beq_iff_eq]
 clear h a f;go_enter func222,ntmps222;go_wp2_with fail;go_quiet (fail);go_wp2;go_ret;exact⟨rfl,g.o _,QAM _ _ _⟩
theorem QBY(b:Nat)(s:JA)(n:Nat)(c:UInt8)(w:World)(h:NRd b s n w)(d:s.size=2)(l:n<s.size)(f:s[n]=c)(a:n+1=2\/∃l:n+1<s.size,s[n+1]=123\/s[n+1]=125) :
  Calls prog 196 #[Jp b,Jb (c.toNat:Int)] w (QAz b s (n+1) (.bool true) w):=by
 have p:=Z (fun m=>(show NRd b s (n+1) ((w.drewN m).setCell (Ja b 1) (Ji ((n:Int)+1))) from (h.drewN m).setAt (n+1)))
 have g:s.size<=1000000:=by omega
 have i:=Z (fun W (h:NRd b s (n+1) W)=>Qmm b s (n+1) W h d a)
 obtain⟨c0,c1,c2,f1⟩:=h.cells;have t:((n:Int)==(s.size:Int))=false:=by rw[qI];omega
 have q:((s[n].toNat:Int)==(c.toNat:Int))=true:=by rw[f,beq_iff_eq]
 clear h f a d;go_enter func196,ntmps196;go_wp2_with fail;go_quiet (fail);go_wp2_with fail;refine (i.o _ (p.o _)).mono ?_;rintro e r ⟨rfl,j,k⟩;go_wp2;go_ret;exact⟨rfl,j,Qjt (QAM _ _ _) k⟩
theorem QBZ(b:Nat)(s:JA)(v:Value)(w:World)(h:NRd b s 0 w)(d:s.size=2)(c:s[0]'(by omega)=123)(a:s[1]'(by omega)=125) :
  Calls prog 191 #[Jp b,Ji 1,Jb 123,Jb 125,v] w (QAz b s 2 (.tuple #[]) w):=by
 have k:=Z (QBY b s 0 123 w h d (by omega) c (.inr ⟨by omega,.inr a⟩))
 have j:=Z (fun W (h:NRd b s 1 W)=>QDv b s 1 125 W h d (by omega) a)
 clear h c a;go_enter func191,ntmps191;go_wp2_with fail;refine k.o.mono ?_;rintro e m ⟨rfl,g,i⟩;go_wp2_with fail;refine (j.o _ g).mono ?_;rintro e n ⟨rfl,f,l⟩;go_wp2_with fail
 first|go_end0|(simp only[Exit.inBlock,Exit.then];refine bodyPost_ret (results_none rfl _ _ _) rfl ?_)|refine bodyPost_ret (results_none rfl _ _ _) rfl ?_
 exact⟨rfl,f,Qjt i l⟩
def QEa(b:Nat)(s:JA)(w:World)(e:Ending)(w':World):Prop:=∃v,e=.returned (.iface 149 v)/\NRd b s 2 w'/\Touch (fun g=>g=b) w w'
theorem QvY(b:Nat)(s:JA)(w:World)(h:NRd b s 0 w)(t:s.size=2)(n:s[0]'(by omega)=123)(r:s[1]'(by omega)=125) :
  Calls prog 161 #[Jp b,Ji 1] w (QEa b s w):=by
 have c:=h.lt;have z:∀(fn:Fn) (first j:JW) (w:World),(Instr.makeFunc fn first j).run prog w=.ok (.func fn first j) w:=fun _ _ _ _=>rfl
 obtain⟨W,hW⟩:∃W,(((w.alloc (.cells #[Jp b] 218)).alloc (.cells #[Ji 1] 3)).alloc (.cells #[] 313)).alloc (.cells #[.slice (some (Ja (w.heap.size+1+1) 0)) 0 0] 149)=W:=⟨_,rfl⟩;have a:Jw w W:=by
  rw[<-hW];refine Below.alloc (Below.alloc (Below.alloc (Below.alloc (qF _ _) ?_ _) ?_ _) ?_ _) ?_ _<;>simp<;>omega
 have d:W.heap.size=w.heap.size+4:=by rw[<-hW];simp
 have q:W.heap[w.heap.size]?=some (.cells #[Jp b] 218 (0,0)):=by
  rw[<-hW];exact (J5 _ _ (by rw[qJ,qJ,qJ];omega)).trans ((J5 _ _ (by rw[qJ,qJ];omega)).trans ((J5 _ _ (by rw[qJ];omega)).trans (JI w _)))
 have l:W.heap[w.heap.size+1]?=some (.cells #[Ji 1] 3 (0,0)):=by
  rw[<-hW];have:=JI (w.alloc (.cells #[Jp b] 218)) (.cells #[Ji 1] 3);rw[qJ] at this;exact (J5 _ _ (by rw[qJ,qJ,qJ];omega)).trans ((J5 _ _ (by rw[qJ,qJ];omega)).trans this)
 have i:W.heap[w.heap.size+1+1+1]?=some (.cells #[.slice (some (Ja (w.heap.size+1+1) 0)) 0 0] 149 (0,0)):=by
  rw[<-hW];have:=JI (((w.alloc (.cells #[Jp b] 218)).alloc (.cells #[Ji 1] 3)).alloc (.cells #[] 313)) (.cells #[.slice (some (Ja (w.heap.size+1+1) 0)) 0 0] 149);rw[qJ,qJ,qJ] at this;exact this
 have f:=Z (fun v=>QBZ b s v W ((a.block b c).trans h) t n r)
 have B:W.cell? (Ja w.heap.size 0)=some (Jp b):=by unfold World.cell?;rw[q];rfl
 have A:W.cell? (Ja (w.heap.size+1) 0)=some (Ji 1):=by unfold World.cell?;rw[l];rfl
 have x:=Z (qE i (qE d (qE c a)));clear q l i d c a h n r t;go_enter func161,ntmps161;subst hW;go_wp2_with fail;refine (f.o _).mono ?_;rintro e y ⟨rfl,m,k⟩;obtain⟨i,d,c,a⟩:=x.o;have C:y.cell? (Ja (w.heap.size+1+1+1) 0)=some (.slice (some (Ja (w.heap.size+1+1) 0)) 0 0):=by unfold World.cell?;rw[k.block _ (show w.heap.size+1+1+1<_ by omega) (show ¬w.heap.size+1+1+1=b by omega),i];rfl
 have p:=Z (qE m (Touch.trans (Touch.of_below (S:=fun g=>g=b) a) k (fun _ h=>.inl h)))
 clear i d c a m k B A x;go_wp2;go_ret;exact⟨_,rfl,p.o.1,p.o.2⟩
theorem QyQ(b:Nat)(s:JA)(w:World)(h:NRd b s 0 w)(d:s.size=2)(a:s[0]'(by omega)=123)(c:s[1]'(by omega)=125) :
  Calls prog 103 #[Jp b,Ji 1] w (QEa b s w):=by
 have f:=Z (fun m=>QvY b s (w.drewN m) (h.drewN m) d a c)
 obtain⟨c0,c1,c2,f1⟩:=h.cells;have j:Jx w b 1 (Ji 0):=c1;have l:((0:Int)==(s.size:Int))=false:=by rw[qI];omega
 have n:0<s.size:=by omega
 have hx:(s[0].toNat:Int)=123:=by rw[a];rfl
 clear h d a c c1;go_enter func103,ntmps103;go_wp2_with fail;go_quiet (fail);go_wp2_with fail;go_quiet (fail);go_wp2_with fail;refine (f.o _).mono ?_;rintro e k ⟨v,rfl,g,i⟩;go_wp2;go_ret;exact⟨_,rfl,g,Qjt (QpH _) i⟩
theorem QBX(s:JA)(w:World)(a:s.size=2)(b:s[0]'(by omega)=123)(n:s[1]'(by omega)=125) :
  Calls prog 55 #[Jt s] w fun e w'=>∃v,e=.returned (.tuple #[.iface 149 v,Ji 2,Ji 0])/\Jw w w':=by
 obtain⟨W,hW⟩:∃W,w.alloc (.cells #[Jt s,Ji 0,Ji 0] 220)=W:=⟨_,rfl⟩;have q:Jw w W:=by rw[<-hW];exact (qF _ _).alloc (qC _) _
 have r:NRd w.heap.size s 0 W:=by rw[<-hW];exact JI w _
 have d:=Z (Qmm w.heap.size s 0 W r a (.inr ⟨by omega,.inl b⟩))
 have B:=Z (fun W h=>QyQ w.heap.size s W h a b n)
 have f:=Z (fun W h=>Qmm w.heap.size s 2 W h a (.inl rfl))
 have l:=Z q;have E:decide ((4096:Int)<(s.size:Int))=false:=qB (by omega)
 have C:decide ((2:Int)<(s.size:Int))=false:=qB (by omega)
 have A:=Z a;clear a b n q r;go_enter func55,ntmps55;go_wp2_with fail;refine d.o.mono ?_;rintro e D ⟨rfl,k,m⟩;go_wp2_with fail;refine (B.o _ k).mono ?_;rintro e G ⟨v,rfl,i,t⟩;obtain⟨c0,c1,c2,f1⟩:=i.cells;have c:=Z i;clear k i c0 c1 f1;go_wp2_with fail;refine (f.o _ c.o).mono ?_;rintro e y ⟨rfl,j,p⟩;obtain⟨d0,d1,d2,f1⟩:=j.cells;have x:Jx y w.heap.size 1 (Ji 2):=d1;have z:=Qjt (Qjt m t) p;clear j d1 c2 m t p;go_wp2;go_ret3;refine⟨v,by rw[A.o];rfl,?_⟩
 exact l.o.trans (z.below (fun g hg=>by omega) l.o.size)
theorem Qps(B:Nat)(s:JA)(w:World)(d:512<=B)(b:B<=16257)(i:s.size=2)(g:s[0]'(by omega)=123)(f:s[1]'(by omega)=125) :
  Calls prog 24 #[.agg #[Ji B,Jb 0,Jt s]] w (JB (Ji 0) w):=by
 have q:decide ((B:Int)<512)=false:=qB (by omega)
 have n:decide ((16257:Int)<(B:Int))=false:=qB (by omega)
 have l:=Z (fun W=>QBX s W i g f)
 have j:∀(v:Value) (w:World),(Instr.typeAssert (.iface 149 v) 20 149 true).run prog w=.ok (.tuple #[v,.bool true]) w:=fun v w=>by kernel_rfl
 obtain⟨W,hW⟩:∃W,w.alloc (.cells #[Ji B,Jb 0,Jt s] 42)=W:=⟨_,rfl⟩;have c:Hi (Jw w W):=Z (by rw[<-hW];exact (qF _ _).alloc (qC _) _)
 have a:W.heap[w.heap.size]?=some (.cells #[Ji B,Jb 0,Jt s] 42 (0,0)):=by rw[<-hW];exact JI w _
 have r:W.cell? (Ja w.heap.size 0)=some (Ji B):=by unfold World.cell?;rw[a];rfl
 have t:W.cell? (Ja w.heap.size 1)=some (Jb 0):=by unfold World.cell?;rw[a];rfl
 have m:W.cell? (Ja w.heap.size 2)=some (Jt s):=by unfold World.cell?;rw[a];rfl
 clear i g f d b a;go_enter func24,ntmps24;go_wp2_with fail;refine (l.o _).mono ?_;rintro e p ⟨v,rfl,h⟩;have k:=Z h;clear h;go_wp2;go_ret;exact⟨rfl,Qaa c.o k.o⟩
end
section
open Go.RowKit Go.Shelf PoolPlain
attribute [local go_sem] Oper.semAt_some
theorem QqT(L:List (Nat×JA))(k:Nat):((L.take k).map (fun x=>x.2.size)).sum<=(L.map (fun x=>x.2.size)).sum:=by
 have a:(L.map (fun x=>x.2.size)).sum=((L.take k).map (fun x=>x.2.size)).sum+((L.drop k).map (fun x=>x.2.size)).sum:=by
  rw[<-List.sum_append,<-qY,List.take_append_drop]
 omega
theorem Qyf(L:List Itm)(f:ItmsOk L)(a:List Itm)(x:Itm)(h:EaG L a x) :
  x.2.size<=65536/\0<x.2.size/\x.1<6004799503160661/\(rwM a).2.length<=80/\(∀e∈(rwM a).2,Qcj e=0/\Qbt e/\e.2.2.2<=80)/\(QmZ (rwM a).1 x.2.data.toList).1<=4000/\(QmZ (rwM a).1 x.2.data.toList).2=x.2.size/\rwM (a++[x])=rwS (rwM a) x:=by
 obtain⟨hk,hp,hx⟩:=h;obtain⟨x1,x2,x3⟩:=f.ok x (by rw[hx];exact JG hk)
 have d:=QBs L f a.length (Nat.le_of_lt hk);have k:=QBs L f (a.length+1) hk;rw[qV hk,<-hp,<-hx] at k;rw[<-hp] at d;have hlen:=f.len;have l:(a.map (fun x=>x.2.size)).sum<=4000:=by
  have i:=QqT L a.length;rw[<-hp] at i;exact qD i f.sz
 have b:x.2.data.toList.length=x.2.size:=by simp
 have hne:x.2.data.toList≠[]:=fun e=>by rw[e] at b;simp at b;omega
 obtain⟨a1,a2,-,-,-,a6⟩:=QAZ (rwM a).1 x.2.data.toList d.pool hne (by omega) (by have:=d.plen;omega)
 have j:=k.flat;have c:((a++[x]).map (fun x=>x.2.size)).sum<=4000:=by
  have i:=QqT L (a.length+1);rw[qV hk,<-hp,<-hx] at i;exact qD i f.sz
 have g:=QqV a x;have n:(Qly (rwM a).1 x.2.data.toList).flatten.length<=4000:=by
  rw[g] at j;exact qD j c
 have p:(rwM a).1.flatten.length<=4000:=qD d.flat l;refine⟨x3,x2,x1,by have:=d.len;omega,fun e he=>?_,by omega,by rw[a1];exact b,g⟩
 obtain⟨e1,e2,e3,e4,e5⟩:=d.ent e he;have m:QfV=6004799503160661:=rfl;exact⟨e1,⟨by omega,by omega,by omega,by omega⟩,by omega⟩
theorem Qla{W:World}{base g c j:Nat}{a:List Ent}{i f b d:Nat}(n:a.length=j)(h:W.ownsRow base 61 4 (Jl g (j+1) c) (a++[(i,f,b,d)]).length (Qan (a++[((i,f,b,d):Ent)]))) :
  g<W.heap.size/\(W.cell? (Ja g (j*4))=some (Ju i)/\W.cell? (Ja g (j*4+1))=some (Ju f)/\W.cell? (Ja g (j*4+2))=some (Jd b)/\W.cell? (Ja g (j*4+3))=some (Jd d))/\W.frozen? (Ja g (j*4+3))=false:=by
 subst n;obtain⟨x0,x1,x2,x3⟩:=Qed (a++[((i,f,b,d):Ent)]) a.length (by simp)
 have p:(a++[((i,f,b,d):Ent)])[a.length]'(by simp)=(i,f,b,d):=by simp
 rw[p] at x0 x1 x2 x3;have m:∀k,((Ja g 0):Addr).add k=(Ja g k):=fun k=>by unfold Addr.add;split<;>simp_all
 have l:∀k v,(Qan (a++[((i,f,b,d):Ent)]))[k]?=some v->W.cell? (Ja g k)=some v:=fun k v hv=>by
  have:=h.cells (g:=g) rfl k v hv
  rwa[m] at this
 obtain⟨cur,hc⟩:=Qa5 h g rfl;exact⟨(h.lt g rfl).2,⟨l _ _ x0,l _ _ x1,l _ _ x2,l _ _ x3⟩,by unfold World.frozen?;rw[hc];rfl⟩
theorem QmM(b:List Ent)(f d c a:Nat):(Qan (b++[((f,d,c,a):Ent)])).set (b.length*4+3) (Jd ((a+1:Nat):Int))=Qan (b++[((f,d,c,a+1):Ent)]):=by
 rw[QbQ,QbQ,List.set_append_right _ _ (by rw[Qbg];omega),Qbg,Nat.add_sub_cancel_left]
 rfl
theorem QuT{d P n p r:Nat}{w W a:World}{l q:JM}{R:List Ent}{u:Value}{k S':Nat->Prop}(h:RwM d P n p r w W l R u)(b:∀g,k g->PTag W g/\d<=g)(s:Touch k W a)(f:PoolAt a P q S')(j:∀g,S' g->k g\/W.heap.size<=g)(i o z:Nat)(m:d<=w.heap.size:=by exact qC _) :
  ∃W2,(a.alloc (.cells #[Ju o,Jd z] 161)).alloc (.cells #[Ju i,Ju o,Jd z,Jd 1] 61)=W2/\RwM d P n p r w W2 q R u/\KeptT TCh W W2/\W2.heap[a.heap.size+1]?=some (.cells #[Ju i,Ju o,Jd z,Jd 1] 61 (0,0)):=by
 have c:Jw a ((a.alloc (.cells #[Ju o,Jd z] 161)).alloc (.cells #[Ju i,Ju o,Jd z,Jd 1] 61)):=((qF _ _).alloc (qC _) _).alloc (by simp) _
 have t:=h.add b s f j m;refine⟨_,rfl,t.below m c,(Qte s (fun g hg=>(b g hg).1) QDo).trans (KeptT.of_below c),?_⟩
 have h:=JI (a.alloc (.cells #[Ju o,Jd z] 161)) (.cells #[Ju i,Ju o,Jd z,Jd 1] 61)
 rwa[qJ] at h
theorem QsX(L:List Itm)(hL:ItmsOk L)(a:Option Addr)(c:Nat)(w:World)(hI:ItmB w (.slice a L.length c) L) :
  Calls prog 25 #[.agg #[.slice a L.length c]] w fun e w'=>∃u,e=.returned (.tuple #[u,Jt (bs (rwM L).1.flatten)])/\w'.ownsRow w.heap.size 61 4 u (rwM L).2.length (Qan (rwM L).2)/\Jw w w':=by
 obtain⟨lF,hlF⟩:∃lF,(rwM L).1=lF:=⟨_,rfl⟩;obtain⟨RF,hRF⟩:∃RF,(rwM L).2=RF:=⟨_,rfl⟩;have qb:=Z (qE hlF hRF);rw[hlF,hRF];clear hlF hRF;have qf:=Z (fun W=>Qyw W)
 have qg:=Z (fun W=>QtR a L.length c W)
 obtain⟨n,hn⟩:∃n,L.length=n:=⟨_,rfl⟩;have qp:=Z hI;have qs:=Z hn;rw[hn] at qg ⊢;clear hn;refine (callsIn_wide (n:=4)).1 ?_;refine callsIn_of_wp_marks func25 rfl trivial ?_ rfl;simp only[ntmps25,List.size_toArray,qH,List.length_nil,Nat.reduceAdd,Nat.reduceSub,Array.replicate_succ,Array.replicate_zero,List.push_toArray,List.append_toArray,J3,J4];gi_wp2_with (refine⟨trivial,?_⟩;gi_at_call 57;refine (callsIn_wide.2 (qf.o _)).mono ?_;rintro e w1 ⟨rfl,rfl⟩);gi_wp2_with (refine⟨trivial,?_⟩;gi_at_call 58;refine (callsIn_wide.2 (qg.o _)).mono ?_;rintro e w2 ⟨rfl,rfl⟩);obtain⟨V,hV⟩:∃V,(w.alloc (.cells #[.slice a n c] 31)).alloc (.cells #[.func (.func 56) #[] #[]] 151)=V:=⟨_,rfl⟩;have qm:Jw w V:=by rw[<-hV];exact ((qF _ _).alloc (qC _) _).alloc (by simp) _
 have qk:V.heap.size=w.heap.size+1+1:=by rw[<-hV];simp
 have kG:V.heap[w.heap.size+1]?=some (.cells #[.func (.func 56) #[] #[]] 151 (0,0)):=by
  have h:=JI (w.alloc (.cells #[.slice a n c] 31)) (.cells #[.func (.func 56) #[] #[]] 151);rw[qJ] at h;rw[<-hV];exact h
 rw[hV,<-qk];obtain⟨P,hP⟩:∃P,V.heap.size=P:=⟨_,rfl⟩;obtain⟨W5,hW5⟩:∃W5,(((V.alloc (.cells #[.slice none 0 0,.slice none 0 0,.map none] 226)).alloc (.cells #[Jp P] 155)).alloc (.cells #[.slice none 0 0] 51)).alloc (.cells #[.slice a n c] 31)=W5:=⟨_,rfl⟩;have qh:Jw V W5:=by rw[<-hW5];exact ((((qF _ _).alloc (qC _) _).alloc (by simp) _).alloc (by simp;omega) _).alloc (by simp;omega) _
 have qi:=Qaa qm qh;have zi:W5.heap.size=P+4:=by rw[<-hW5];simp;omega
 have qz:=(qh.block _ (gsi kG).1).trans kG;have ze:W5.heap[P+1]?=some (.cells #[Jp P] 155 (0,0)):=by
  have h:=JI (V.alloc (.cells #[.slice none 0 0,.slice none 0 0,.map none] 226)) (.cells #[Jp P] 155);rw[qJ,hP] at h;rw[<-hW5];exact (JQ _ _ _ (by simp;omega)).trans ((JQ _ _ _ (by simp;omega)).trans h)
 have qw:Boxed W5 (P+1+1) 51 (.slice none 0 0):=by
  have h:=JI ((V.alloc (.cells #[.slice none 0 0,.slice none 0 0,.map none] 226)).alloc (.cells #[Jp P] 155)) (.cells #[.slice none 0 0] 51);rw[qJ,qJ,hP] at h;rw[<-hW5];exact (JQ _ _ _ (by simp;omega)).trans h
 have qt:W5.heap[P+1+1+1]?=some (.cells #[.slice a n c] 31 (0,0)):=by
  have h:=JI (((V.alloc (.cells #[.slice none 0 0,.slice none 0 0,.map none] 226)).alloc (.cells #[Jp P] 155)).alloc (.cells #[.slice none 0 0] 51)) (.cells #[.slice a n c] 31);rw[qJ,qJ,qJ,hP] at h;rw[<-hW5];exact h
 have qv:PoolT w.heap.size W5 P []:=by
  have h:=PoolAt.new V;rw[hP] at h;refine PoolT.of_at (h.below (w':=W5) ?_) (fun g hg=>by omega)
  rw[<-hW5];exact (((qF _ _).alloc (qC _) _).alloc (by simp) _).alloc (by simp) _
 rw[hP,hW5];have zj:w.heap.size<=P:=by omega
 have qd:Hi (w.heap.size<=P+1+1/\w.heap.size+1≠P+1+1):=Z (by omega)
 have qe:Hi (w.heap.size<=W5.heap.size):=Z qi.size;obtain⟨i0,hif,hz0,hz1,hz2⟩:=info_parts Qht;have qx:=QzW L (by have:=hL.len;omega) a c (P+1+1+1) (0,0) W5 (by rw[qs.o];exact qt) (qp.o.below qi)
 have zg:=Z hL;clear hV qm qk hP hW5 qh hI qf qg qp kG hL;refine Qu2 rfl (by omega) (gf:=105) (lb:=#[Jp (P+1+1+1)]) rfl trivial (enters_of func105 (by kernel_rfl) rfl) TCh qx (qF _ _) (fun _=>rfl)
  (fun f W=>∃u,RwM w.heap.size P (P+1) (w.heap.size+1) (P+1+1) w W (rwM f).1 (rwM f).2 u) (fun s X Y row ⟨u,A⟩ hg hr=>⟨u,A.rows hg hr qe.o (qC _) QCO QDX Qxi Qxj QDo⟩) ⟨.slice none 0 0,ze,qz,qw,qi,qv,JZ _ _ _ _⟩
  (fun x=>{ tmps:=#[.agg #[.slice a n c],Jp w.heap.size,.slice none 0 0,Jt ⟨#[]⟩,Jp (w.heap.size+1),Jp (P+1),Jp (P+1+1),Ju (x.1:Nat),Jt x.2,undef,undef,undef,undef,undef,Jp P,.agg #[.slice a n c],.func (.func 105) #[] #[Jp (P+1+1+1)],Ju (x.1:Nat),Jt x.2,undef,undef,undef,undef,undef,undef,undef,undef,undef,undef,undef,undef,undef,undef,undef,undef,undef,undef,undef,undef,undef,undef,undef,undef,undef,undef,undef,undef,undef,undef,undef,undef,undef,undef,undef,undef,undef,undef,undef,undef,undef,undef,undef,undef],defers:=[] }) ?assign ?Qa2 ?done
 case assign=>
  intro lp x W K E;gi_wp2;exact E
 case Qa2=>
  rintro lp f x W ⟨u,A⟩ hG;obtain⟨f1,f2,f3,f4,f5,f6,f7,f8⟩:=Qyf L zg.o f x hG;obtain⟨SP,hpa,htg⟩:=A.pool;have m:=Z (Qyx P (rwM f).1 SP x.2 W (by omega) hpa)
  unfold QC7 at m;rw[f7] at m;have HM:=Z (qE A htg);obtain⟨ua,uc,hu⟩:=Qat A.own;subst hu;have c0:=(QaF A.bp).1;have y:Hi (rwM (f++[x])=(Qly (rwM f).1 x.2.data.toList,QAJ (rwM f).2 (x.1,(QmZ (rwM f).1 x.2.data.toList).1,x.2.size,1))):=Z (by rw[f8];unfold rwS;rw[f7])
  obtain⟨R,hR⟩:∃R,(rwM f).2=R:=⟨_,rfl⟩;obtain⟨l,hl⟩:∃l,(rwM f).1=l:=⟨_,rfl⟩;rw[hR] at HM y f4 f5;rw[hl] at HM y m f6;obtain⟨o,ho⟩:∃o,(QmZ l x.2.data.toList).1=o:=⟨_,rfl⟩;rw[ho] at y m f6;obtain⟨l',hl'⟩:∃l',Qly l x.2.data.toList=l':=⟨_,rfl⟩;rw[hl'] at y m;obtain⟨i,t⟩:=x;obtain⟨z,hz⟩:∃z,t.size=z:=⟨_,rfl⟩;simp only[hz] at y m f1 f2 f3;generalize Qik l t.data.toList=bI at m;generalize Que l t.data.toList=eI at m;have HZ:=Z (qE f1 (qE f2 (qE f3 f6)));clear A hpa htg hG f1 f2 f3 f6 f7 f8 ho hl' hz hl;have qc:prog.follows .mixedOrders=true:=by kernel_rfl
  rcases List.eq_nil_or_concat R with rfl|⟨R',r,hRr⟩
  ·gi_wp2_with (refine⟨trivial,?_⟩;gi_at_call 59;refine (CallsIn.inRound lp (callsIn_wide.2 m.o)).mono ?_;rintro e w1 ⟨rfl,S',S,U,T⟩;obtain⟨W2,hW2,HN⟩:=QuT HM.o.1 HM.o.2 T S U i o z;have hc:=HN.1.bo.cell;obtain⟨⟨y0,y1,y2,y3⟩,-⟩:=QaC HN.2.2;have d:=Z HN;clear HN S U T)
   refine Qgs (F:=Fence.wide) rfl qc (by kernel_rfl) (by kernel_rfl) ?_
   repeat (gi_big_quiet_step (fail))
   refine BigFrame.wpQuietIn_skip (fun _ _ _ _=>trivial) rfl ?_
   refine wpQuietIn_step (fun _ _ _ _=>trivial) (fun K E=>?_)
   go_simp;refine E _ ?_;clear E K;refine wpQuietIn_nil ?_;rintro _ ⟨nq,rfl⟩;obtain⟨W3,hW3⟩:∃W3,W2.drewN nq=W3:=⟨_,rfl⟩;have q:Jw W2 W3:=by rw[<-hW3];exact⟨rfl,rfl,rfl,qC _,fun _ _=>rfl⟩
   have b:=Z (qE (d.o.1.below (qC _) q) (qE (d.o.2.1.trans (KeptT.of_below q)) (Qad d.o.2.2 q)));rw[hW3];clear hc y0 y1 y2 y3 hW2 d hW3 q c0;have hc:=b.o.1.bo.cell;obtain⟨⟨z0,z1,z2,z3⟩,-⟩:=QaC b.o.2.2;gi_wp2_with (gi_at_builtin;go_loud (refine wpListIn_append_own _ rfl _ _ 51 rfl w.heap.size 61 i0 (.agg #[Ju 0,Ju 0,Jd 0,Jd 0]) 4 24 underlying51 hif hz0 hz1 hz2 rfl (by decide) _ 0 (Qan []) rfl (b.o.1.own.alloc _) (Ja W3.heap.size 0) 1 1 [Ju i,Ju o,Jd z,Jd 1] rfl rfl (World.news_of_block (cs:=#[Ju i,Ju o,Jd z,Jd 1]) (JI _ _)) (by simp[Value.oneCell']) (by unfold maxLen;omega) (by omega) (by simp;have:=b.o.1.bel.size;omega) ?_);intro v' w4 C qa _;have J:w4.ownsRow w.heap.size 61 4 v' ([]++[((i,o,z,1):Ent)]).length (Qan ([]++[((i,o,z,1):Ent)])):=(by rw[QbQ,qG];exact C);obtain⟨g',cap',rfl⟩:=ownsRow_succ C;obtain⟨hv1,hM5,hk5⟩:=b.o.1.app (qC _) qd.o.1 (by omega) qd.o.2 qa J;have zf:=hv1.cell;have zd:=hv1.frozen;have M:=Z (qE hM5 hk5);clear C J hM5 hk5 hv1 qa)
   refine⟨b.o.2.1.trans M.o.2,Jl g' (0+1) cap',?_⟩;rw[y.o];exact M.o.1
  ·rw[List.concat_eq_append] at hRr
   subst hRr;obtain⟨g,cr,hu⟩:∃g cr,(Value.slice ua (R'++[r]).length uc) = Jl g (R'.length+1) cr:=by
    rcases HM.o.1.own.2 with⟨-,h0⟩|⟨g',cap,cur,hv,-⟩
    ·simp at h0
    ·exact⟨g',cap,by rw[hv,qG];rfl⟩
   rw[hu] at HM;obtain⟨q1,q2,q3⟩:=f5 r (by simp)
   have qu:R'.length+1<=80:=by rw[qG] at f4;exact f4
   have HQ:=Z (qE q1 (qE q2 q3));clear hu f4 f5 q1 q2 q3;obtain⟨G,H,r2,v⟩:=r;have qo:=Z (fun W=>Qyg G H r2 v i o z 1 HQ.o.1 HQ.o.2.1 W)
   obtain⟨B,hBg⟩:∃B,QmH (G,H,r2,v) (i,o,z,1)=B:=⟨_,rfl⟩;rw[hBg] at qo;have ql:=Z hBg;clear hBg;obtain⟨j,hj⟩:∃j,R'.length=j:=⟨_,rfl⟩;have HJ:=Z hj;rw[hj] at HM qu;clear hj;gi_wp2_with (refine⟨trivial,?_⟩;gi_at_call 59;refine (CallsIn.inRound lp (callsIn_wide.2 m.o)).mono ?_;rintro e w1 ⟨rfl,S',S,U,T⟩;obtain⟨W2,hW2,HN⟩:=QuT HM.o.1 HM.o.2 T S U i o z;have hc:=HN.1.bo.cell;obtain⟨⟨y0,y1,y2,y3⟩,-⟩:=QaC HN.2.2;have d:=Z HN;clear HN S U T);obtain⟨hgl,⟨lc0,lc1,lc2,lc3⟩,-⟩:=Qla HJ.o d.o.1.own;have za:=Z hgl;have k0:=fun p:BelowOf W2=>QaD p (gsi d.o.1.bg).1 (QaF d.o.1.bg).1
   have k1:=fun p:BelowOf W2=>QaD p (gsi d.o.1.bo).1 hc
   have k2:=fun p:BelowOf W2=>QaD p hgl lc0
   have k3:=fun p:BelowOf W2=>QaD p hgl lc1
   have k4:=fun p:BelowOf W2=>QaD p hgl lc2
   have k5:=fun p:BelowOf W2=>QaD p hgl lc3
   have O:=(gsi d.o.2.2).1;have k6:=fun p:BelowOf W2=>QaD p O y0
   have k7:=fun p:BelowOf W2=>QaD p O y1
   have k8:=fun p:BelowOf W2=>QaD p O y2
   have k9:=fun p:BelowOf W2=>QaD p O y3
   clear hc y0 y1 y2 y3 lc0 lc1 lc2 lc3 hgl O c0;refine Qgt (F:=Fence.wide) rfl qc (by kernel_rfl) (by kernel_rfl) ?_
   repeat (gi_big_quiet_step (fail))
   refine wpQuietIn_step (fun _ _ _ _=>trivial) (fun K E=>?_)
   go_simp;apply Exists.intro;refine⟨fun p=>callsIn_wide.2 (QaA (qo.o _)),E _ ?_⟩
   clear E K
   repeat (gi_big_quiet_step (fail))
   refine wpQuietIn_nil ?_;intro W3 N;have q:=QaQ N;have b:=Z (qE (d.o.1.below (qC _) q) (qE (d.o.2.1.trans (KeptT.of_below q)) (Qad d.o.2.2 q)));clear k0 k1 k2 k3 k4 k5 k6 k7 k8 k9 N q hW2 d za;have hc:=b.o.1.bo.cell;obtain⟨hgl,⟨lc0,lc1,lc2,lc3⟩,lf3⟩:=Qla HJ.o b.o.1.own;cases B with
   |true=>
    have tw:IntKind.u32.wrap ((v:Int)+1)=((v+1:Nat):Int):=by
     have:v<=80:=HQ.o.2.2;simp[IntKind.wrap,IntKind.bits,IntKind.signed];omega
    have zh:v<=80:=HQ.o.2.2;obtain⟨hi1,hi2⟩:=b.o.1.inc (g:=g) (n:=j+1) (by rw[qG,HJ.o];rfl) (qC _) (j*4+3) (Jd ((v+1:Nat):Int)) (R'++[((G,H,r2,v+1):Ent)]) (by simp) (by rw[<-HJ.o];exact QmM R' G H r2 v)
    have qq:=Z (qE hi1 hi2);clear hgl hi1 hi2;gi_wp2;rw[show ((v:Int)+1)=((v+1:Nat):Int) by omega]
    refine⟨b.o.2.1.trans qq.o.2,Jl g (j+1) cr,?_⟩;rw[y.o];show RwM _ _ _ _ _ _ _ _ (QAJ (R'++[(G,H,r2,v)]) (i,o,z,1)) _;rw[Qjk,ql.o];exact qq.o.1
   |false=>
    have zb:Hi (W3.ownsRow w.heap.size 61 4 (Jl g (j+1) cr) (j+1) (Qan (R'++[((G,H,r2,v):Ent)]))):=Z (by
     have:=b.o.1.own;rw[qG,HJ.o] at this;exact this)
    obtain⟨⟨z0,z1,z2,z3⟩,-⟩:=QaC b.o.2.2;clear hgl lc0 lc1 lc2 lc3 lf3;gi_wp2_with (gi_at_builtin;go_loud (refine wpListIn_append_own _ rfl _ _ 51 rfl w.heap.size 61 i0 (.agg #[Ju 0,Ju 0,Jd 0,Jd 0]) 4 24 underlying51 hif hz0 hz1 hz2 rfl (by decide) _ (j+1) (Qan (R'++[((G,H,r2,v):Ent)])) rfl (zb.o.alloc _) (Ja W3.heap.size 0) 1 1 [Ju i,Ju o,Jd z,Jd 1] rfl rfl (World.news_of_block (cs:=#[Ju i,Ju o,Jd z,Jd 1]) (JI _ _)) (by simp[Value.oneCell']) (by unfold maxLen;omega) (by omega) (by simp;have:=b.o.1.bel.size;omega) ?_);intro v' w4 C qa _;have J:w4.ownsRow w.heap.size 61 4 v' (R'++[((G,H,r2,v):Ent)]++[((i,o,z,1):Ent)]).length (Qan (R'++[((G,H,r2,v):Ent)]++[((i,o,z,1):Ent)])):=(by rw[QbQ,qG,qG,HJ.o];exact C);obtain⟨g',cap',rfl⟩:=ownsRow_succ C;obtain⟨hv1,hM5,hk5⟩:=b.o.1.app (qC _) qd.o.1 (by omega) qd.o.2 qa J;have zf:=hv1.cell;have zd:=hv1.frozen;have M:=Z (qE hM5 hk5);clear C J hM5 hk5 hv1 qa)
    refine⟨b.o.2.1.trans M.o.2,Jl g' (j+1+1) cap',?_⟩;rw[y.o];show RwM _ _ _ _ _ _ _ _ (QAJ (R'++[(G,H,r2,v)]) (i,o,z,1)) _;rw[Qjk,ql.o];exact M.o.1
 case done=>
  rintro D xs W hD qy ⟨u,A⟩ E;subst qy;obtain⟨SP,hpa,htg⟩:=A.pool;obtain⟨ua,uc,hu⟩:=Qat A.own;subst hu;rw[qb.o.1,qb.o.2] at A;rw[qb.o.1] at hpa;have zc:Hi (∀W',Jw W W'->Calls prog 60 #[Jp P] W' fun e w'=>e=.returned (Jt (bs lF.flatten))/\Jw W' w'):=Z (fun W' hb=>Qvt P lF SP W' (hpa.below hb))
  have c0:=(QaF A.bp).1;have c1:=A.bo.cell;have HS:=Z (qE A E);have HD:=Z hD;clear hpa htg A E hD;have qc:prog.follows .mixedOrders=true:=by kernel_rfl
  gi_wp2;have G:∀p:BelowOf W,Jx p.world (P+1) 0 (Jp P):=fun p=>QaD p (gsi HS.o.1.bp).1 c0
  have H:∀p:BelowOf W,Jx p.world (P+1+1) 0 (.slice ua RF.length uc):=fun p=>QaD p (gsi HS.o.1.bo).1 c1
  refine Qjg rfl qc (by kernel_rfl) ?_
  repeat (gi_big_quiet_step (fail))
  refine wpQuietIn_step (fun _ _ _ _=>trivial) (fun K E=>?_)
  go_simp;apply Exists.intro;refine⟨fun p=>?_,E _ ?_⟩
  ·exact callsIn_wide.2 (QaA (zc.o _ p.below))
  clear E K
  repeat (gi_big_quiet_step (fail))
  refine wpQuietIn_nil ?_;intro w4 N;have qj:=QaQ N;clear N G H;gi_wp2;have qn:w4.heap[D]?=some (.deferred (some [])):=(qj.block D (gsi HS.o.2).1).trans HS.o.2;refine⟨by simp,.inl ⟨_,_,rfl,run_takeDeferred qn,?_⟩⟩
  refine⟨_,results_tmp2 rfl _ _ _,.slice ua RF.length uc,rfl,?_,?_⟩
  ·have I:=HS.o.1.own
   refine Qac I (fun k hk=>?_)
   have qr:=(I.lt k hk).2;obtain⟨cur,hcu⟩:=Qa5 I k hk;have zk:k≠D:=fun e=>by rw[e,HS.o.2] at hcu;cases hcu
   exact (World.putObj_heap_other (by omega)).trans (qj.block k qr)
  ·exact (HS.o.1.bel.trans (qj.mono HS.o.1.bel.size)).trans (belowK_b (w:=w) (qC _) w4 D _ _ (by have:=HD.o;have:=qe.o;omega) qn rfl rfl)
end
section
def Qhk(Q:Exit->Act->World->Prop):Exit->Act->World->Prop
 | .normal,a,w=>Q .normal a w
 |_,_,_=>False
theorem Qjs{Q:Exit->Act->World->Prop}{e:Exit}{a:Act}{w:World}(h:Qhk Q e a w):Q e a w:=by
 cases e<;>first|exact h|exact h.elim
theorem Qvr(a b:Nat)(u:FrameMode)(w:World)(h:Jx w a 0 (Ji 0)) :
  CallsD prog 23 #[Jp a,Jp b] u w fun e u' w'=>u'=u/\(e=.returned (.tuple #[])/\w'=w):=by
 go_enter_d func23,ntmps23;go_wp2_with fail;go_end0;exact⟨rfl,rfl⟩
structure PrSt(w:World)(a:Option Addr)(n c:Nat)(B:Int)(note S:JA)(W:World):Prop where
 c:W.heap[w.heap.size]?=some (.cells #[.slice a n c] 31 (0,0))
 p:W.heap[w.heap.size+1]?=some (.cells #[Ji B,Jb 0,Jt note] 42 (0,0))
 s:W.heap[w.heap.size+1+1]?=some (.cells #[Jt S] 9 (0,0))
 e:W.heap[w.heap.size+1+1+1]?=some (.cells #[Ji 0] 38 (0,0))
 b:Jw w W
theorem PrSt.below{w:World}{a:Option Addr}{n c:Nat}{B:Int}{b S:JA}{W W':World}(d:PrSt w a n c B b S W)(g:Jw W W'):PrSt w a n c B b S W':=by
 obtain⟨h1,h2,h3,h4,h5⟩:=d;have f:=fun {i:Nat} {o:Obj} (x:W.heap[i]?=some o)=>(g.block i (gsi x).1).trans x
 exact⟨f h1,f h2,f h3,f h4,Qaa h5 g⟩
theorem PrSt.setE{w:World}{a:Option Addr}{n c:Nat}{B:Int}{b S:JA}{W:World}(d:PrSt w a n c B b S W):PrSt w a n c B b S (W.setCell (Ja (w.heap.size+1+1+1) 0) (Ji 0)):=by
 obtain⟨h1,h2,h3,h4,h5⟩:=d;exact⟨(Qal (by omega) 0 _).trans h1,(Qal (by omega) 0 _).trans h2,(Qal (by omega) 0 _).trans h3,Qcd h4 _,h5.setCell (p:=(Ja (w.heap.size+1+1+1) 0)) (by show w.heap.size<=w.heap.size+1+1+1;omega) _⟩
theorem PrSt.setS{w:World}{a:Option Addr}{n c:Nat}{B:Int}{b S:JA}{W:World}(d:PrSt w a n c B b S W)(S':JA):PrSt w a n c B b S' (W.setCell (Ja (w.heap.size+1+1) 0) (Jt S')):=by
 obtain⟨h1,h2,h3,h4,h5⟩:=d;exact⟨(Qal (by omega) 0 _).trans h1,(Qal (by omega) 0 _).trans h2,Qcd h3 _,(Qal (by omega) 0 _).trans h4,h5.setCell (p:=(Ja (w.heap.size+1+1) 0)) (by show w.heap.size<=w.heap.size+1+1;omega) _⟩
theorem PrSt.at{w:World}{a:Option Addr}{n c:Nat}{B:Int}{b S:JA}{W:World}(d:PrSt w a n c B b S W):W.cell? (Ja w.heap.size 0)=some (.slice a n c)/\(W.cell? (Ja (w.heap.size+1) 0)=some (Ji B)/\W.cell? (Ja (w.heap.size+1) 1)=some (Jb 0)/\W.cell? (Ja (w.heap.size+1) 2)=some (Jt b))/\(W.cell? (Ja (w.heap.size+1+1) 0)=some (Jt S)/\W.frozen? (Ja (w.heap.size+1+1) 0)=false)/\W.cell? (Ja (w.heap.size+1+1+1) 0)=some (Ji 0)/\W.frozen? (Ja (w.heap.size+1+1+1) 0)=false:=by
 obtain⟨h1,h2,h3,h4,-⟩:=d;exact⟨(QaF h1).1,⟨QaJ h2 0,QaJ h2 1,QaJ h2 2⟩,QaF h3,QaF h4⟩
theorem PrSt.new(w:World)(a:Option Addr)(n c:Nat)(B:Int)(b:JA):PrSt w a n c B b ⟨#[]⟩ ((((w.alloc (.cells #[.slice a n c] 31)).alloc (.cells #[Ji B,Jb 0,Jt b] 42)).alloc (.cells #[Jt ⟨#[]⟩] 9)).alloc (.cells #[Ji 0] 38)):=by
 have new:=fun (W:World) (o:Obj)=>World.alloc_heap_new W o
 refine⟨?_,?_,?_,?_,?_⟩
 ·exact (JQ _ _ _ (by simp<;>omega)).trans ((JQ _ _ _ (by simp<;>omega)).trans ((JQ _ _ _ (by simp<;>omega)).trans (new w _)))
 ·have h:=new (w.alloc (.cells #[.slice a n c] 31)) (.cells #[Ji B,Jb 0,Jt b] 42)
  simp only[qJ] at h;exact (JQ _ _ _ (by simp<;>omega)).trans ((JQ _ _ _ (by simp<;>omega)).trans h)
 ·have h:=new ((w.alloc (.cells #[.slice a n c] 31)).alloc (.cells #[Ji B,Jb 0,Jt b] 42)) (.cells #[Jt ⟨#[]⟩] 9)
  simp only[qJ] at h;exact (JQ _ _ _ (by simp<;>omega)).trans h
 ·have h:=new (((w.alloc (.cells #[.slice a n c] 31)).alloc (.cells #[Ji B,Jb 0,Jt b] 42)).alloc (.cells #[Jt ⟨#[]⟩] 9)) (.cells #[Ji 0] 38)
  simp only[qJ] at h;exact h
 ·exact ((((qF _ _).alloc (qC _) _).alloc (by simp<;>omega) _).alloc (by simp<;>omega) _).alloc (by simp<;>omega) _
theorem Qma(L:List Itm)(a:Option Addr)(c B:Nat)(b:JA)(w:World)(H:ItmsOk L)(hI:ItmB w (.slice a L.length c) L)(J:512<=B)(p:B<=16257)(d:b=⟨#[123,125]⟩) :
  Calls prog 8 #[.agg #[.slice a L.length c],.agg #[Ji B,Jb 0,Jt b]] w (JB (.tuple #[Jt (bs (Qgy L B)),Ji 0]) w):=by
 have qf:∀(fn:Fn) (first S:JW) (w:World),(Instr.makeFunc fn first S).run prog w=.ok (.func fn first S) w:=fun _ _ _ _=>rfl
 obtain⟨g1,g2,g3⟩:=Qhf L H;have i:=Qd2 (rwM L).2 B g1 g2 (by omega)
 obtain⟨hH1,hH2⟩:=Qvo L B H (by omega) p
 have K:∀x∈L,x.1<6004799503160661:=fun x hx=>(H.ok x hx).1
 have qa:=Z (fun W=>Qps B b W J p (by rw[d];rfl) (by subst d;rfl) (by subst d;rfl))
 have j:=Z (fun W (hb:Jw w W)=>QsX L H a c W (hI.below hb))
 have t:=Z (fun (v:Value) W (hb:Jw w W) (h:EntB W v (rwM L).2)=>QsG L (rwM L).2 a c v W K H.len (hI.below hb) h g1.len (fun e he=>⟨(g1.ok e he).1,(g1.ok e he).2,g2 e he⟩))
 have g:Hi (∀W,Calls prog 28 #[.agg (Qp7 L.length (rwM L).2.length (QfK (rwM L).2).length (zLo L) (zHi L)),.agg #[Jt (bs (Qb3 (QaS (rwM L).2 B).1)),Jt b,Jt (bs (QaS (rwM L).2 B).2.1),Jt (bs (rwM L).1.flatten)]] W (JB (.tuple #[Jt (bs (Qgy L B)),Ji 0]) W)):=
  Z (fun W=>by
   have qg:=i.enc;have qe:=i.txt;have V:b.size=2:=by rw[d];rfl
   have qd:b.data.toList = [123,125]:=by rw[d]
   have h:=QpW (hPr L.length (rwM L).2.length (QfK (rwM L).2).length (zLo L) (zHi L)) (QfQ L B) (bs (Qb3 (QaS (rwM L).2 B).1)) b (bs (QaS (rwM L).2 B).2.1) (bs (rwM L).1.flatten) W (by rw[Qaq,Qaq,Qaq,V];omega) (by rw[Qaq,Qaq,Qaq,V];rfl) hH1 hH2
   rw[Qai,Qai,Qai,qd] at h;exact h)
 have r:=Z (fun (b0:Nat) a' cp W h=>Qta (rwM L).2 b0 a' cp B W h g1 g2 (by omega) p)
 have A:=Z (fun (b0:Nat) a' cp W (h:W.ownsRow b0 61 4 (.slice a' (QaS (rwM L).2 B).1.length cp) (QaS (rwM L).2 B).1.length (Qan (QaS (rwM L).2 B).1))=>QjY (QaS (rwM L).2 B).1 a' cp W (EntB.own h) i.root.row i.root.entOk (by have:=i.enc;omega))
 unfold Qg3 at r;generalize Qp7 L.length (rwM L).2.length (QfK (rwM L).2).length (zLo L) (zHi L)=HC at t g;generalize bs (Qgy L B)=FS at g ⊢;generalize bs (rwM L).1.flatten=DT at j g;generalize Qb3 (QaS (rwM L).2 B).1=EN at A g;generalize QaS (rwM L).2 B=SM at r A g;obtain⟨R,TX,sz⟩:=SM;generalize (rwM L).2=RW at j t r;obtain⟨n,hn⟩:∃n,L.length=n:=⟨_,rfl⟩;rw[hn] at j t ⊢;obtain⟨W0,hW0⟩:∃W0,((((w.alloc (.cells #[.slice a n c] 31)).alloc (.cells #[Ji B,Jb 0,Jt b] 42)).alloc (.cells #[Jt ⟨#[]⟩] 9)).alloc (.cells #[Ji 0] 38))=W0:=⟨_,rfl⟩;have Y:=PrSt.new w a n c B b;rw[hW0] at Y;have H0:=Z Y;obtain⟨a0,⟨a1,a2,a3⟩,⟨a4,a5⟩,a6,a7⟩:=Y.at;clear Y hI J p d hn i g1 g2 g3 hH1 hH2 K H;go_enter_defers func8,ntmps8;go_wp2_with fail;refine (qa.o _).mono ?_;rintro e w1 ⟨rfl,X⟩;have S1:=H0.o.below X;obtain⟨b0,⟨b1,b2,b3⟩,⟨b4,b5⟩,b6,b7⟩:=S1.at;obtain⟨W1,hW1⟩:∃W1,w1.setCell (Ja (w.heap.size+1+1+1) 0) (Ji 0)=W1:=⟨_,rfl⟩;have s:=S1.setE;rw[hW1] at s;have H1:=Z s;clear a0 a1 a2 a3 a4 a5 a6 a7 X S1;obtain⟨a0,⟨a1,a2,a3⟩,⟨a4,a5⟩,a6,a7⟩:=s.at;clear s;go_wp2_with fail;refine (j.o _ H1.o.b).mono ?_;rintro e w2 ⟨u,rfl,D,U⟩;obtain⟨ua,cp2,hu⟩:=Qat D;subst hu;have S2:=H1.o.below U;have I:=Z (qE S2 D);clear b0 b1 b2 b3 b4 b5 b6 b7 a0 a1 a2 a3 a4 a5 a6 a7 U D hW1;obtain⟨a0,⟨a1,a2,a3⟩,⟨a4,a5⟩,a6,a7⟩:=S2.at;clear S2;go_wp2_with fail;refine (r.o _ _ _ _ I.o.2).mono ?_;rintro e w3 ⟨qb,c3,rfl,z,E⟩;have S3:=I.o.1.below E;obtain⟨b0,⟨b1,b2,b3⟩,⟨b4,b5⟩,b6,b7⟩:=S3.at;obtain⟨W3,hW3⟩:∃W3,w3.setCell (Ja (w.heap.size+1+1+1) 0) (Ji 0)=W3:=⟨_,rfl⟩;have l:=S3.setE;have qc:w.heap.size+1+1+1<w2.heap.size:=(gsi I.o.1.e).1;have y:W3.ownsRow w2.heap.size 61 4 (.slice qb R.length c3) R.length (Qan R):=by
  rw[<-hW3];exact Qac z (fun k hk=>Qal (by have:=(z.lt k hk).1;omega) 0 _)
 have N:w.heap.size+1+1+1<W1.heap.size:=(gsi H1.o.e).1;have M:W3.ownsRow W1.heap.size 61 4 (.slice ua RW.length cp2) RW.length (Qan RW):=by
  rw[<-hW3];exact Qac I.o.2 (fun k hk=>(Qal (by have:=(I.o.2.lt k hk).1;omega) 0 _).trans (E.block k (I.o.2.lt k hk).2))
 rw[hW3] at l;have G:=Z (qE l (qE y (qE M N)));clear a0 a1 a2 a3 a4 a5 a6 a7 E S3 z y M qc N;obtain⟨a0,⟨a1,a2,a3⟩,⟨a4,a5⟩,a6,a7⟩:=l.at;clear l;go_wp2_with fail;refine (A.o _ _ _ _ G.o.2.1).mono ?_;rintro e w4 ⟨rfl,C⟩;have S4:=G.o.1.below C;obtain⟨d0,⟨d1,d2,d3⟩,⟨d4,d5⟩,d6,d7⟩:=S4.at;obtain⟨W4,hW4⟩:∃W4,w4.setCell (Ja (w.heap.size+1+1+1) 0) (Ji 0)=W4:=⟨_,rfl⟩;have q:=S4.setE;have O:W4.ownsRow W1.heap.size 61 4 (.slice ua RW.length cp2) RW.length (Qan RW):=by
  rw[<-hW4];have:=G.o.2.2.2;exact Qac G.o.2.2.1 (fun k hk=>(Qal (by have:=(G.o.2.2.1.lt k hk).1;omega) 0 _).trans (C.block k (G.o.2.2.1.lt k hk).2))
 rw[hW4] at q;have H4:=Z (qE q (EntB.own O));clear b0 b1 b2 b3 b4 b5 b6 b7 a0 a1 a2 a3 a4 a5 a6 a7 C S4 O hW3;obtain⟨a0,⟨a1,a2,a3⟩,⟨a4,a5⟩,a6,a7⟩:=q.at;clear q;go_wp2_with fail;refine wp_mono (Q:=Qhk _) ?_ (fun e a' w' h=>Qjs h)
 go_region_with (first
  |(go_at_call 29;refine (t.o _ _ (H4.o.1.b.drew) (H4.o.2.below ((qF _ _).drew))).mono ?_;rintro e w5 ⟨rfl,T⟩;have S5:=Z ((H4.o.1.below ((qF _ _).drew)).below T);obtain⟨x0,⟨x1,x2,x3⟩,⟨x4,x5⟩,x6,x7⟩:=S5.o.at;clear T)
  |(go_at_call 28;refine (g.o _).mono ?_;rintro e w6 ⟨rfl,P⟩;have m:=Z (S5.o.below P);obtain⟨v0,⟨v1,v2,v3⟩,⟨v4,v5⟩,v6,v7⟩:=m.o.at;clear P))
 all_goals
  unfold Qhk;go_wp2_with fail;unfold bodyPostD;refine leaves_cons (f:=23) (args:=#[Jp (w.heap.size+1+1+1),Jp (w.heap.size+1+1)]) (by simp) (by simp[go_sem]) ?_
  refine (Qvr (w.heap.size+1+1+1) (w.heap.size+1+1) .returning _ (by first|exact ((m.o.setS FS).setE).at.2.2.2.1|exact ((m.o.setE).setS FS).at.2.2.2.1)).mono ?_
  rintro e u' qh ⟨rfl,rfl,rfl⟩
  first
   |exact⟨_,QcO rfl (Qmp _ _ _ ((m.o.setS FS).setE).at.2.2.1.1) (Qhq _ _ _ ((m.o.setS FS).setE).at.2.2.2.1) rfl rfl,rfl,((m.o.setS FS).setE).b⟩
   |exact⟨_,QcO rfl (Qmp _ _ _ ((m.o.setE).setS FS).at.2.2.1.1) (Qhq _ _ _ ((m.o.setE).setS FS).at.2.2.2.1) rfl rfl,rfl,((m.o.setE).setS FS).b⟩
theorem Qjn(x:Int)(s:JA)(w:World)(hx:x<512\/16257<x) :
  Calls prog 24 #[.agg #[Ji x,Jb 0,Jt s]] w (JB (Ji 15) w):=by
 obtain⟨W,hW⟩:∃W,w.alloc (.cells #[Ji x,Jb 0,Jt s] 42)=W:=⟨_,rfl⟩;have a:Hi (Jw w W):=Z (by rw[<-hW];exact (qF _ _).alloc (qC _) _)
 have b:W.heap[w.heap.size]?=some (.cells #[Ji x,Jb 0,Jt s] 42 (0,0)):=by rw[<-hW];exact JI w _
 have f:W.cell? (Ja w.heap.size 0)=some (Ji x):=by unfold World.cell?;rw[b];rfl
 clear b;rcases Classical.em (x<512) with h|h
 ·have c:decide (x<512)=true:=qA h
  go_enter func24,ntmps24;go_wp2;go_ret;exact⟨rfl,a.o⟩
 ·have c:decide (x<512)=false:=qB h
  have d:decide ((16257:Int)<x)=true:=qA (hx.resolve_left h);go_enter func24,ntmps24;go_wp2;go_ret;exact⟨rfl,a.o⟩
theorem Qmb(b a:Nat)(u:FrameMode)(w:World)(x:Int)(S:JA)(hx:((x==0):Bool)=false)(h:Jx w b 0 (Ji x))(c:Jx w a 0 (Jt S))(d:w.frozen? (Ja a 0)=false) :
  CallsD prog 23 #[Jp b,Jp a] u w fun e u' w'=>u'=u/\(e=.returned (.tuple #[])/\w'=w.setCell (Ja a 0) (Jt ⟨#[]⟩)):=by
 go_enter_d func23,ntmps23;go_wp2_with fail;go_end0;exact⟨rfl,rfl⟩
theorem Qvs(a:Option Addr)(n c:Nat)(x:Int)(b:JA)(w:World)(hx:x<512\/16257<x) :
  Calls prog 8 #[.agg #[.slice a n c],.agg #[Ji x,Jb 0,Jt b]] w (JB (.tuple #[Jt ⟨#[]⟩,Ji 15]) w):=by
 have v:∀(fn:Fn) (first i:JW) (w:World),(Instr.makeFunc fn first i).run prog w=.ok (.func fn first i) w:=fun _ _ _ _=>rfl
 have k:=Z (fun W=>Qjn x b W hx)
 obtain⟨W0,hW0⟩:∃W0,((((w.alloc (.cells #[.slice a n c] 31)).alloc (.cells #[Ji x,Jb 0,Jt b] 42)).alloc (.cells #[Jt ⟨#[]⟩] 9)).alloc (.cells #[Ji 0] 38))=W0:=⟨_,rfl⟩;have j:=PrSt.new w a n c x b;rw[hW0] at j;have s:=Z j;obtain⟨a0,⟨a1,a2,a3⟩,⟨a4,a5⟩,a6,a7⟩:=j.at;clear j hx;go_enter_defers func8,ntmps8;go_wp2_with fail;refine (k.o _).mono ?_;rintro e r ⟨rfl,h⟩;have g:=s.o.below h;obtain⟨b0,⟨b1,b2,b3⟩,⟨b4,b5⟩,b6,b7⟩:=g.at;obtain⟨W1,hW1⟩:∃W1,r.setCell (Ja (w.heap.size+1+1+1) 0) (Ji 15)=W1:=⟨_,rfl⟩;have l:W1.heap[w.heap.size+1+1+1]?=some (.cells #[Ji 15] 38 (0,0)):=by rw[<-hW1];exact Qcd g.e _
 have m:W1.heap[w.heap.size+1+1]?=some (.cells #[Jt ⟨#[]⟩] 9 (0,0)):=by rw[<-hW1];exact (Qal (by omega) 0 _).trans g.s
 have q:Jw w W1:=by rw[<-hW1];exact g.b.setCell (p:=(Ja (w.heap.size+1+1+1) 0)) (by show w.heap.size<=w.heap.size+1+1+1;omega) _
 obtain⟨d0,d1⟩:=QaF l;have d:=Z (qE m (qE l q));clear m l q g h;go_wp2_with fail;unfold bodyPostD;refine leaves_cons (f:=23) (args:=#[Jp (w.heap.size+1+1+1),Jp (w.heap.size+1+1)]) (by simp) (by simp[go_sem]) ?_
 refine (Qmb (w.heap.size+1+1+1) (w.heap.size+1+1) .returning _ 15 ⟨#[]⟩ rfl (QaF d.o.2.1).1 (QaF d.o.1).1 (QaF d.o.1).2).mono ?_;rintro e y t ⟨rfl,rfl,rfl⟩;exact⟨_,QcO rfl (Qmp _ _ _ (QaF (Qcd d.o.1 _)).1) (Qhq _ _ _ (QaF ((Qal (by omega) 0 _).trans d.o.2.1)).1) rfl rfl,rfl,d.o.2.2.setCell (p:=(Ja (w.heap.size+1+1) 0)) (by show w.heap.size<=w.heap.size+1+1;omega) _⟩
end
section
theorem Qku(d:Nat)(a:Int)(c:a<0\/64<a)(w:World):Calls prog 22 #[Jp d,Ji a] w (JS (.tuple #[.pointer none,Ji 2]) w):=by
 have f:=Z (QlR a c w);clear c;go_enter func22,ntmps22;go_wp2_with fail;refine f.o.mono ?_;rintro e g ⟨rfl,b⟩;obtain rfl:=b.symm;clear b;go_wp2;go_ret2;exact⟨rfl,rfl⟩
theorem QA7:HdrOk QA8:=by
 constructor<;>(unfold QA8;simp)
theorem QsE(w0 w:World)(h P:Nat)(C:Con)(N:Net)(l:C.most<=64)(k:FC w0 w h P C.hh C.hp (C.f.size:Int) (C.R:Int) C.hh C.hp C.f N.l N.lg N.n N.a N.last N.rv N.lv) :
  Calls prog 22 #[Jp h,Ji C.most] w fun e w'=>∃A:Adr,A.Cb=h/\A.P=P/\e=.returned (.tuple #[Jp A.Rb,Ji 0])/\RdS w0 w' A C N 0 false []/\Jw w w':=by
 have y:=Z (QuL C.most l w);have D:=Z k;have E:=Z l;clear k l;obtain⟨m,hm⟩:∃m,C.most=m:=⟨_,rfl⟩;rw[hm] at y ⊢;have t:=Z hm;clear hm;go_enter func22,ntmps22;go_wp2_with fail;refine y.o.mono ?_;rintro e g ⟨b,lb,G,B,rfl,q,p,c,f,d,hne⟩;have i:=Z q;have H:=Z (qE p (qE c (qE f (qE d hne))));clear q p c f d hne;go_wp2_with fail;generalize a:g.alloc _=Wn;replace a:g.alloc (.cells (Ql4 h b QA8 false) 106)=Wn:=a;have r:=Z a;clear a;go_ret2;have a:=r.o;subst a;obtain⟨⟨l1,l2,l3,l4⟩,c,f,d,hne⟩:=H.o;have I:=JI g (.cells (Ql4 h b QA8 false) 106);have j:Jw g (g.alloc (.cells (Ql4 h b QA8 false) 106)):=(qF _ _).alloc (qC _) _;have n:=D.o.k.bel.size;have x:MapF (QcE .i64) (fun v:Value=>v) g B (fun _=>none) 0:=⟨[],⟨#[],0,d,rfl⟩,List.nodup_nil,rfl,fun _=>rfl⟩
 have s:=i.o.size;exact⟨⟨g.heap.size,h,P,b,lb,G,B⟩,rfl,rfl,rfl,⟨(D.o.step i.o).step j,⟨QA8,I,QA7,fun e=>by cases e⟩,ShZ.below ⟨⟨0,0,c⟩,by rw[t.o];exact f,⟨_,_,x,fun z hz=>by cases hz⟩,List.nodup_nil,(fun z hz=>by cases hz),(fun z hz=>by cases hz),qL _,E.o,hne,⟨qD n l1,qD n l2,qD n l3,qD n l4⟩⟩ j,(fun z hz=>by cases hz),fun _=>rfl,qL _,qD n s⟩,Qaa i.o j⟩
theorem QdO{w:World}{b c d:Nat}{h:Hdr}{a:Bool}(k:Qm4 w b c d h a)(i:Nat)(v:Value)(f:(Ql4 c d h a)[i]?=some v):w.cell? (Ja b i)=some v:=by
 unfold Qm4 at k;unfold World.cell?;rw[k];exact f
section
variable {w0 w:World} {A:Adr} {C:Con} {N:Net} {nx:Nat} {kn:Bool} {Zq:List (Key×Nat×List Ent)}
theorem RdS.cellC(k:RdS w0 w A C N nx kn Zq):w.cell? (Ja A.Rb 0)=some (Jp A.Cb):=let ⟨h,h1,_⟩:=k.rd;QdO h1 0 _ rfl
theorem RdS.cellS(k:RdS w0 w A C N nx kn Zq):w.cell? (Ja A.Rb 1)=some (Jp A.Sb):=let ⟨h,h1,_⟩:=k.rd;QdO h1 1 _ rfl
structure NetRun(R:Nat)(N N':Net)(G E:Nat):Prop where
 le:N.a<=N'.a
 l:N'.l=N.l.drop (N'.a-N.a)
 lg:N'.lg.length=N.lg.length+(N'.a-N.a)
 n:N.n<=N'.n
 n':N'.n<=N.n+(N'.a-N.a)
 g:G<=N'.a-N.a
 g':N'.a-N.a<=G*(R+1)
 z:N.l = []->E=0/\N'.a=N.a+G/\N'.n=N.n
 e:E=0->N.last=0->N'.last=0
theorem NetRun.refl(R:Nat)(N:Net):NetRun R N N 0 0:=
 ⟨qC _,by simp,by simp,qC _,by omega,qL _,by omega,fun _=>⟨rfl,rfl,rfl⟩,fun _ h=>h⟩
theorem NetRun.trans{R G b E:Nat}{N N' a:Net}(h:NetRun R N N' G 0)(k:NetRun R N' a b E):NetRun R N a (G+b) E:=by
 have d:=h.le;have c:=k.le;refine⟨by omega,?_,?_,qD h.n k.n,?_,?_,?_,fun hz=>?_,fun he hl=>k.e he (h.e rfl hl)⟩
 ·rw[k.l,h.l,List.drop_drop]
  congr 1;omega
 ·rw[k.lg,h.lg];omega
 ·have:=h.n';have:=k.n';omega
 ·have:=h.g;have:=k.g;omega
 ·have:=h.g';have:=k.g'
  rw[Nat.add_mul];omega
 ·obtain⟨-,a2,a3⟩:=h.z hz
  obtain⟨b1,b2,b3⟩:=k.z (by rw[h.l,hz,List.drop_nil])
  exact⟨b1,by omega,by omega⟩
theorem Net.Ok.run{R G E:Nat}{N N':Net}(h:N.Ok)(k:NetRun R N N' G E)(f:N.lg.length+G*(R+1)<=900000/\N.n+G*(R+1)<=900000/\N.a+G*(R+1)<=900000):N'.Ok:=by
 have c:=k.le;have a:=k.lg;have d:=k.n';have b:=k.g';refine⟨fun x hx=>h.x x (List.mem_of_mem_drop (by rw[<-k.l];exact hx)),?_,by omega,by omega,by omega⟩
 rw[k.l,JC];have:=h.l;omega
theorem QtG(f:JL)(a n:Nat)(b:0<n):(f.take ((a:Int)+(n:Int)-1+1).toNat).drop (a:Int).toNat=Qee f a n:=by
 rw[show ((a:Int)+(n:Int)-1+1).toNat=a+n by omega,Int.toNat_natCast]
 unfold Qee;rw[List.drop_take,Nat.add_sub_cancel_left]
theorem QzC{W b:World}{X:Nat}{g l:Nat}(k:RdS w0 W A C N nx kn Zq)(f:W.heap[X]?=some (.cells #[Ju g,Ju l] 58 (0,0)))(j:Touch (FS A.P A.Cb N.lv) W b) :
  b.cell? (Ja A.Rb 0)=some (Jp A.Cb)/\b.cell? (Ja X 0)=some (Ju g)/\b.cell? (Ja X 1)=some (Ju l):=by
 have a:∀i,(i≠A.P/\i≠A.Cb/\N.lv.ownBlock≠some i/\Qkj N.rv≠some i)->¬FS A.P A.Cb N.lv i:=fun i hi hs=>by
  rcases hs with (e|e)|e
  ·exact hi.1 e
  ·exact hi.2.2.1 e
  ·exact hi.2.1 e
 obtain⟨h,h1,h2⟩:=k.rd;have c:=(j.block X (gsi f).1 (a X (k.fc.other (.inl ⟨_,_,f,by decide,by decide,by decide,by decide⟩)))).trans f
 have d:Qm4 b A.Rb A.Cb A.Sb h kn:=(j.block A.Rb (gsi h1).1 (a _ (k.sep.1 _ (.inr rfl)))).trans h1;exact⟨QdO d 0 _ rfl,(Qax c).1⟩
def Qr7(w0 w:World)(A:Adr)(C:Con)(N:Net)(nx:Nat)(kn:Bool)(Zq:List (Key×Nat×List Ent))(a0 n0:Nat)(e:Ending)(w':World):Prop:=
 ∃(E:Nat) (B:JA) (N':Net),e=.returned (.tuple #[Jt B,Ji E])/\RdS w0 w' A C N' nx kn Zq/\NetRun C.R N N' 1 E/\((E=0/\B.data.toList=Qee C.F a0 n0)\/(E=23/\B=⟨#[]⟩))/\RdTouch A N N' w w'
theorem Qhg(k:RdS w0 w A C N nx kn Zq)(O:EnvT w0)(s:C.Ok)(r:N.Ok)(a b:Nat)(t:0<b)(H:a+b<=C.f.size)(z:b<=65536) :
  Calls prog 87 #[Jp A.Rb,.agg #[Ju a,Ju b]] w (Qr7 w0 w A C N nx kn Zq a b):=by
 have T:=s.f;have P:QdK (a:Int) ((a:Int)+(b:Int)-1)=0:=by unfold QdK;rw[JJ (by omega)]
 have v:Qli (a:Int) ((a:Int)+(b:Int)-1) (C.f.size:Int)=0:=by
  unfold Qli;rw[JJ (by rintro (h|h);exact h P;omega),JJ (by unfold QaO;split<;>omega)]
 have n:=Qao w (Ju a) (Ju b) 58;have y:=k.below n;have x:=y.below (qF _ _).drew;have L:=Z (QBV w0 _ A.Cb A.P C.hh C.hp C.f C.R N.l N.lg N.n N.a (a:Int) ((a:Int)+(b:Int)-1) N.last N.rv N.lv O x.fc s.R s.f r.x r.l ⟨r.lg,r.n,r.a⟩ v s.org);obtain⟨c0,c1⟩:=QaK w (Ju a) (Ju b) 58;have M:=y.cellC;have I:=Z x;have c:=Z (JI w (.cells #[Ju a,Ju b] 58));have V:=Z k;have d:=Z n;have U:=Z (QtG C.F a b t);have j:IntKind.i64.wrap (a:Int)=(a:Int):=by rw[JR];omega
 have p:IntKind.u64.wrap ((a:Int)+(b:Int))=(a:Int)+(b:Int):=by rw[JU];omega
 have f:IntKind.i64.wrap ((a:Int)+(b:Int))=(a:Int)+(b:Int):=by rw[JR];omega
 have l:IntKind.i64.wrap ((a:Int)+(b:Int)-1)=(a:Int)+(b:Int)-1:=by rw[JR];omega
 have W:=Z (qE j (qE p (qE f l)));clear k y x n O s r t H z T P v j p f l;go_enter func87,ntmps87;go_wp2_with fail;generalize w.alloc (.cells #[Ju a,Ju b] 58)=W0 at L I d c c0 c1 M ⊢;generalize R:w.heap.size=X at c0 c1 c ⊢;clear R;obtain⟨j,p,f,l⟩:=W.out;have c:Hi (Jh W0.drew X #[Ju a,Ju b] 58):=Z c.o;have K:Hi (Jx W0.drew A.Rb 0 (Jp A.Cb)/\Jx W0.drew X 0 (Ju a)/\Jx W0.drew X 1 (Ju b)):=Z ⟨M,c0,c1⟩;go_region_held3 (fun w'=>Jx w' A.Rb 0 (Jp A.Cb)/\Jx w' X 0 (Ju a)/\Jx w' X 1 (Ju b)) (first|exact K.o|exact D.o)
  (first
   |(go_at_call 134;refine L.o.mono ?_;rintro e J ⟨E,B,rfl,G⟩;have Y:=Z G;have D:Hi (Jx J A.Rb 0 (Jp A.Cb)/\Jx J X 0 (Ju a)/\Jx J X 1 (Ju b)):=Z (QzC I.o c.o (by obtain⟨m,lg',n',last',rv',lv',hF,-,-,-,-,-,-,-,hT,-⟩:=G;exact hT));clear G))
 all_goals
  go_wp2;go_ret2;obtain⟨m,lg',n',last',rv',lv',hF,h1,h2,h3,h4,h5,h6,h7,hT,ho⟩:=Y.o;have S:=I.o.net (N':=⟨N.l.drop m,lg',n',N.a+m,last',rv',lv'⟩) hF hT (Nat.le_add_right _ _);refine⟨E,B,⟨N.l.drop m,lg',n',N.a+m,last',rv',lv'⟩,rfl,S,⟨Nat.le_add_right _ _,?_,?_,h2,?_,?_,?_,fun hz=>?_,fun he _=>?_⟩,?_,⟨(Touch.of_below (Qaa d.o (qF _ _).drew)).trans hT (fun i hi=>.inl (.inl hi)),fun g v=>?_⟩⟩
  ·show N.l.drop m=N.l.drop (N.a+m-N.a)
   rw[Nat.add_sub_cancel_left]
  ·show lg'.length=N.lg.length+(N.a+m-N.a)
   rw[Nat.add_sub_cancel_left];exact h1
  ·show n'<=N.n+(N.a+m-N.a)
   rw[Nat.add_sub_cancel_left];exact h3
  ·show 1<=N.a+m-N.a
   omega
  ·show N.a+m-N.a<=1*(C.R+1)
   omega
  ·obtain⟨q1,q2,q3⟩:=h7 hz
   exact⟨q1,by show N.a+m=N.a+1;omega,q3⟩
  ·rcases h6 with⟨-,-,q,-⟩|⟨q,-⟩
   ·exact q
   ·rw[he] at q;cases q
  ·rcases h6 with⟨q1,q2,-⟩|⟨q1,q2,-⟩
   ·exact .inl ⟨q1,by rw[q2];exact U.o⟩
   ·exact .inr ⟨q1,q2⟩
  ·rcases ho g v with q|q
   ·exact .inl q
   ·exact .inr (qD d.o.size q)
end
end
section
def QAB(w0 w:World)(A:Adr)(C:Con)(N:Net)(T:Nat×List Ent)(e:Ending)(w':World):Prop:=
 ∃(lost E:Nat) (v:Value) (N':Net) (nx':Nat) (kn':Bool) (Z':List (Key×Nat×List Ent)) (G:Nat),e=.returned (.tuple #[v,Ji E])/\RdS w0 w' A C N' nx' kn' Z'/\NetRun C.R N N' G lost/\G<=1/\
  ((lost=0/\E=T.1/\(E=0->kn'=true/\w'.ownsRow w.heap.size 61 4 v T.2.length (Qan T.2)))\/(lost=23/\E=23))/\RdTouch A N N' w w'
section
variable {w0 w:World} {A:Adr} {C:Con} {N:Net} {nx:Nat} {kn:Bool} {Zq:List (Key×Nat×List Ent)}
theorem RdTouch.shelf(A:Adr)(N:Net){w w':World}(h:Touch (ShS A.Sb A.lb A.mb A.rb) w w'):RdTouch A N N w w':=⟨h.mono (fun i hi=>.inr (.inl hi)),fun g hg=>.inl hg⟩
theorem QeK(k:RdS w0 w A C N nx true Zq)(V:EnvT w0)(U:C.Ok)(S:N.Ok)(a:Key)(q:0<a.2)(p:a.1+a.2<=C.f.size)(n:a.2<=65536)(hg:C.G a) :
  Calls prog 39 #[Jp A.Rb,.agg #[Ju a.1,Ju a.2]] w (QAB w0 w A C N (QcL (Qee C.F a.1 a.2))):=by
 have H:=Qao w (Ju a.1) (Ju a.2) 58;have j:=Z H;have M:=Z (JI w (.cells #[Ju a.1,Ju a.2] 58));have l:=Z (k.below H);have i:=Z k.lts;have t:=Z k.fc.k.bel.size;have HH:=Z (qE V (qE U (qE S (qE q (qE p n)))));have ql:=Z hg;clear hg;obtain⟨c0,c1⟩:=QaK w (Ju a.1) (Ju a.2) 58
 by_cases hm:a∈Zq.map (·.1)
 ·obtain⟨z,hz,hza⟩:=List.mem_map.1 hm
  obtain⟨Y1,Y2,hY⟩:=List.append_of_mem hz;subst hY;obtain⟨o1,o2,-⟩:=k.ok z (by simp)
  rw[hza] at o2;rw[o2];have HO:=Z k.ok;obtain⟨za,zn,zl⟩:=z;obtain rfl:za=a:=hza;have b:=Z (l.o.below (qF _ _).drew);have W:=Z (Qsq b.o.sh (qD t.o j.o.size));have L:=l.o.cellS;clear k H V U S q p n hm hz o1 o2;go_enter func39,ntmps39;go_wp2_with fail;generalize w.alloc (.cells #[Ju za.1,Ju za.2] 58)=W0 at j M l b W c0 c1 L ⊢;generalize hX:w.heap.size=X at M i t c0 c1 ⊢;have qc:=Z hX;clear hX;have m:Hi (Jx W0.drew A.Rb 1 (Jp A.Sb)/\Jx W0.drew X 0 (Ju za.1)/\Jx W0.drew X 1 (Ju za.2)):=Z ⟨L,c0,c1⟩;go_region_held3 (fun w'=>Jx w' A.Rb 1 (Jp A.Sb)/\Jx w' X 0 (Ju za.1)/\Jx w' X 1 (Ju za.2)) (first|exact m.o|exact x.o)
   (first
    |(go_at_call 88;refine W.o.mono ?_;rintro e J ⟨b2,c2,rfl,ho,d,g⟩;have D:=Z (qE ho (qE d g));have x:Hi (J.cell? (Ja A.Rb 1)=some (Jp A.Sb)/\J.cell? (Ja X 0)=some (Ju za.1)/\J.cell? (Ja X 1)=some (Ju za.2)):=Z (by
      have c:Jh W0.drew X #[Ju za.1,Ju za.2] 58:=M.o;have s:=(g.block X (gsi c).1 (fun d=>JN (i.o X (.inr (.inl d))) (by omega))).trans c
      obtain⟨h,f,-⟩:=b.o.rd;have P:Qm4 J A.Rb A.Cb A.Sb h true:=(g.block A.Rb (gsi f).1 b.o.own.1).trans f;exact⟨QdO P 1 _ rfl,(Qax s).1⟩);clear ho d g))
  all_goals
   go_wp2;go_ret2;obtain⟨ho,d,g⟩:=D.o;have hk:=b.o.shelf d g (fun z hz=>HO.o z (by
    rcases List.mem_append.1 hz with f|f
    ·rcases List.mem_append.1 f with s|s
     ·exact List.mem_append_left _ s
     ·exact List.mem_append_right _ (JY _ s)
    ·exact List.mem_append_right _ (by rw[List.mem_singleton.1 f];exact JF))) (fun e=>by cases e) b.o.nxa
   exact⟨0,0,_,N,nx,true,_,0,rfl,hk,NetRun.refl _ _,by omega,.inl ⟨rfl,rfl,fun _=>⟨rfl,QaM ho j.o.size⟩⟩,(RdTouch.of_below A N (Qaa j.o (qF _ _).drew)).trans (RdTouch.shelf A N g)⟩
 ·have b:=Z (l.o.below (qF _ _).drew)
  have W:=Z (QlS b.o.sh a hm);have HM:=Z hm;have qd:=Z k.ok;have qb:=Z (qE k.nxa S.a);obtain⟨T,hT⟩:∃T,QcL (Qee C.F a.1 a.2)=T:=⟨_,rfl⟩;rw[hT];have HT:=Z hT;have L:=l.o.cellS;clear k H V U S q p n hm hT;go_enter func39,ntmps39;go_wp2_with fail;generalize w.alloc (.cells #[Ju a.1,Ju a.2] 58)=W0 at j M l b W c0 c1 L ⊢;generalize hX:w.heap.size=X at M i t c0 c1;have qc:=Z hX;clear hX;have m:Hi (Jx W0.drew A.Rb 1 (Jp A.Sb)/\Jx W0.drew X 0 (Ju a.1)/\Jx W0.drew X 1 (Ju a.2)):=Z ⟨L,c0,c1⟩;go_upto_region 1 with fail
  go_cut [6,7] (fun s6 s7 wx=>s6=.slice none 0 0/\s7=.bool false/\ShZ w0 wx A.Sb A.lb A.mb A.rb C.most nx Zq/\Touch (ShS A.Sb A.lb A.mb A.rb) W0.drew wx)
  case first=>
   go_region_held3 (fun w'=>Jx w' A.Rb 1 (Jp A.Sb)/\Jx w' X 0 (Ju a.1)/\Jx w' X 1 (Ju a.2)) (first|exact m.o|exact x.o)
    (first
     |(go_at_call 88;refine W.o.mono ?_;rintro e J ⟨rfl,d,g⟩;have D:=Z (qE d g);have x:Hi (J.cell? (Ja A.Rb 1)=some (Jp A.Sb)/\J.cell? (Ja X 0)=some (Ju a.1)/\J.cell? (Ja X 1)=some (Ju a.2)):=Z (by
       have c:Jh W0.drew X #[Ju a.1,Ju a.2] 58:=M.o;have s:=(g.block X (gsi c).1 (fun d=>JN (i.o X (.inr (.inl d))) (by omega))).trans c
       obtain⟨h,f,-⟩:=b.o.rd;have P:Qm4 J A.Rb A.Cb A.Sb h true:=(g.block A.Rb (gsi f).1 b.o.own.1).trans f;exact⟨QdO P 1 _ rfl,(Qax s).1⟩);clear d g))
   all_goals
    go_wp2_with fail;go_meet;exact⟨rfl,rfl,D.o.1,D.o.2⟩
  obtain⟨rfl,rfl,d,g⟩:=hcut;have qe:=Z (b.o.shelf d g qd.o (fun e=>by cases e) b.o.nxa)
  have qh:=Z ((RdTouch.of_below A N (Qaa j.o (qF _ _).drew)).trans (RdTouch.shelf A N g));have I:Hi (wc.heap[X]?=some (.cells #[Ju a.1,Ju a.2] 58 (0,0))):=Z (by
   have c:Jh W0.drew X #[Ju a.1,Ju a.2] 58:=M.o;exact (g.block X (gsi c).1 (fun d=>JN (i.o X (.inr (.inl d))) (by omega))).trans c)
  clear d g m W b l M j c0 c1 L;obtain⟨⟨c0,c1⟩,-⟩:=Qax I.o;go_wp2_with fail;obtain⟨V,U,S,q,p,n⟩:=HH.o;have HG:=Z (Qhg qe.o V U S a.1 a.2 q p n);clear V U S q p n;refine HG.o.mono ?_;rintro e Y ⟨E,B,N',rfl,qi,qf,qj,R⟩;have r:=Z qi;have G:=Z qf;have K:=Z (qh.o.trans R);have qa:Hi (Jh Y X #[Ju a.1,Ju a.2] 58):=Z ((R.stays (gsi I.o).1 (fun d=>JN (i.o X d) (by omega))).trans I.o)
  clear qi qf R c0 c1 HG qe qh I;rcases qj with⟨hE0,hB⟩|⟨hE0,hB⟩
  ·subst hE0
   have qm:=Z hB;have qg:B.size<=1000000:=by
    have f:B.data.toList.length=B.size:=Qab B;rw[hB] at f;have s:(Qee C.F a.1 a.2).length<=a.2:=by unfold Qee;rw[qW];exact Nat.min_le_left _ _
    have:=HH.o.2.2.2.2.2;omega
   have y:=QkT (r.o.below (qF _ _).drew).sh (by have:=K.o.t.size;rw[<-qc.o] at t;exact qD t.o this) a HM.o B qg (by have:=qb.o;omega)
   rw[hB,HT.o] at y;have y:=Z y;have L:=r.o.cellS;obtain⟨⟨c0,c1⟩,-⟩:=Qax qa.o;have m:Hi (Jx Y.drew A.Rb 1 (Jp A.Sb)/\Jx Y.drew X 0 (Ju a.1)/\Jx Y.drew X 1 (Ju a.2)):=Z ⟨L,c0,c1⟩;clear hB qg;go_wp2_with fail;go_region_held3 (fun w'=>Jx w' A.Rb 1 (Jp A.Sb)/\Jx w' X 0 (Ju a.1)/\Jx w' X 1 (Ju a.2)) (first|exact m.o|exact x.o)
    (first
     |(go_at_call 89;refine y.o.mono ?_;rintro e w4 ⟨v,Z',qk,rfl,q1,q2,q3,q4,q5,q6,O⟩;have HP:=Z (qE q1 (qE q2 (qE q3 (qE q4 (qE q5 (qE q6 O))))));have x:Hi (w4.cell? (Ja A.Rb 1)=some (Jp A.Sb)/\w4.cell? (Ja X 0)=some (Ju a.1)/\w4.cell? (Ja X 1)=some (Ju a.2)):=Z (by
       have c:Jh Y.drew X #[Ju a.1,Ju a.2] 58:=qa.o;have s:=(O.block X (gsi c).1 (fun d=>JN (i.o X (.inr (.inl d))) (by omega))).trans c
       obtain⟨h,f,-⟩:=(r.o.below (qF _ _).drew).rd;have P:Qm4 w4 A.Rb A.Cb A.Sb h true:=(O.block A.Rb (gsi f).1 (r.o.below (qF _ _).drew).own.1).trans f;exact⟨QdO P 1 _ rfl,(Qax s).1⟩);clear q1 q2 q3 q4 q5 q6 O))
   all_goals
    go_wp2;go_ret2;obtain⟨q1,q2,q3,q4,q5,q6,O⟩:=HP.o;have hk:=(r.o.below (qF _ _).drew).shelf q3 O (fun z hz=>by
     rcases q6 z hz with f|⟨f,s,P⟩
     ·exact qd.o z f
     ·rw[f,s,HT.o]
      exact⟨HH.o.2.2.2.2.1,by rw[<-P],ql.o⟩) (fun e=>by cases e) (by have:=G.o.g;have:=G.o.le;have:=qb.o;omega)
    exact⟨0,T.1,v,N',qk,true,Z',1,rfl,hk,G.o,qC _,.inl ⟨rfl,rfl,fun h0=>⟨rfl,QaM (q2 h0) K.o.t.size⟩⟩,(K.o.trans (RdTouch.of_below A N' (qF _ _).drew)).trans (RdTouch.shelf A N' O)⟩
  ·subst hE0 hB
   go_wp2;go_ret2;exact⟨23,23,_,N',nx,true,Zq,1,rfl,r.o,G.o,qC _,.inr ⟨rfl,rfl⟩,K.o⟩
end
end
section
section
variable {w0 w:World} {A:Adr} {C:Con} {N:Net} {nx:Nat} {kn:Bool} {Zq:List (Key×Nat×List Ent)}
theorem RdS.opened{d j:World}{a:Nat}{g:List (Key×Nat×List Ent)}(k:RdS w0 w A C N nx kn Zq)(q:ShZ w0 d A.Sb A.lb A.mb A.rb C.most a g)(l:Touch (ShS A.Sb A.lb A.mb A.rb) w d)(f:∀z∈g,z.1.1+z.1.2<=C.f.size/\QcL (Qee C.F z.1.1 z.1.2)=(0,z.2.2)/\C.G z.1)(r:a<=N.a)(h:Hdr)(m:HdrOk h)(n:h=Qcf C.F/\QcD C.F=0)(p:Qm4 j A.Rb A.Cb A.Sb h true)(c:Touch (fun i=>i=A.Rb) d j):RdS w0 j A C N a true g:=by
 obtain⟨s1,s2⟩:=k.sep;obtain⟨o1,o2⟩:=k.own;obtain⟨h0,hb0,-⟩:=k.rd;have b:Qm4 d A.Rb A.Cb A.Sb h0 kn:=(l.block A.Rb (gsi hb0).1 o1).trans hb0;unfold Qm4 at b;exact⟨(k.fc.touch l (fun i hi=>k.low i (.inr (.inl hi))) (fun i hi=>s1 i (.inl hi))).touch c (fun i hi=>by rw[hi];exact k.lo) (fun i hi=>by rw[hi];exact s1 _ (.inr rfl)),⟨h,p,m,fun _=>n⟩,q.far c (fun e=>o1 (.inl e.symm)) (fun e=>o1 (.inr (.inl (.inl e.symm)))) (fun e=>o1 (.inr (.inl (.inr e.symm)))) (fun e=>o1 (.inr (.inr e.symm))) (fun i D hD e=>by
  rw[e,b] at hD;simp only[J8,Obj.cells.injEq] at hD;exact JN hD.2.1 (by decide)),f,(fun e=>by cases e),r,k.lo⟩
theorem QsR(a:C.f.size<127):QcD C.F=3:=by
 have b:C.F.length=C.f.size:=Qab C.f;have h:Qic C.F=3:=by unfold Qic;exact JK (by omega)
 unfold QcD;rw[h];rfl
theorem QsS(b:¬C.f.size<127):Qic C.F=if Qf3 (QeQ C.F)≠0 then Qf3 (QeQ C.F) else Qqe (Qcf C.F) C.f.size:=by
 have a:C.F.length=C.f.size:=Qab C.f;unfold Qic;rw[JJ (by omega),a]
theorem QzY(C:Con):Qee C.F 0 (min C.f.size 16384)=QeQ C.F:=by
 have a:C.F.length=C.f.size:=Qab C.f;unfold Qee QeQ;rw[List.drop_zero]
 by_cases h:C.f.size<=16384
 ·rw[Nat.min_eq_left h,<-a,List.take_length,qX (by omega)]
 ·rw[Nat.min_eq_right (by omega)]
theorem QwB(L:JL)(h:Qf3 L=0):Qd5 (Qoa L)=true:=by
 unfold Qf3 at h;split at h
 ·cases h
 ·split at h
  ·cases h
  ·split at h
   ·cases h
   ·split at h
    ·cases h
    ·exact Qj9 _ h
theorem QnH(k:RdS w0 w A C N nx kn Zq){H:Nat}{c:JW}(d:w.heap[H]?=some (.cells c 47 (0,0))){b a:Value}(g:c[0]?=some b)(f:c[1]?=some a):w.cell? (Ja A.Rb 1)=some (Jp A.Sb)/\w.cell? (Ja H 0)=some b/\w.cell? (Ja H 1)=some a:=
 ⟨k.cellS,(Qak d 0 b g).1,(Qak d 1 a f).1⟩
def QEe(w0 w:World)(b lb mb rb most nx:Nat)(Zq:List (Key×Nat×List Ent))(a:Key)(R:Nat×List Ent)(v:Value)(Z':List (Key×Nat×List Ent))(nx':Nat)(w':World):Prop:=
 (R.1≠0->v=.slice none 0 0/\Z'=Zq)/\(R.1=0->w'.ownsRow w.heap.size 61 4 v R.2.length (Qan R.2))/\ShZ w0 w' b lb mb rb most nx' Z'/\nx'<=nx+1/\nx<=nx'/\(∀z∈Z',z∈Zq\/(z.1=a/\z.2.2=R.2/\R.1=0))/\Touch (ShS b lb mb rb) w w'
def QEf(cs:JW):Nat->JV->JW
 |_,[]=>cs
 |o,v :: r=>QEf (cs.set! o v) (o+1) r
theorem QeY{b:Nat}{T:JT}{a:Nat×Nat}:∀(c:JV) (o:Nat) {w:World} {cs:JW},w.heap[b]?=some (.cells cs T a)->(w.setCells b o c).heap[b]?=some (.cells (QEf cs o c) T a)
 |[],_,_,_,k=>k
 |v :: r,o,_,_,k=>QeY r (o+1) (Qaz k o v)
theorem QfM{b:Nat}:∀(c:JV) (o:Nat) (w w':World),Touch (fun i=>i=b) w w'->Touch (fun i=>i=b) w (w'.setCells b o c)
 |[],_,_,_,k=>k
 |v :: r,o,w,w',k=>QfM r (o+1) w (w'.setCell (Ja b o) v) (Qaj (a:=(Ja b o)) v k (.inl rfl))
theorem QsC(a c:Nat)(h b:Hdr)(kn:Bool):(QEf (Ql4 a c h kn) 2 (Qby b).toList).set! 26 (.bool true)=Ql4 a c b true:=by kernel_rfl
theorem Qva{w:World}{a d f:Nat}{h b:Hdr}{kn:Bool}(k:Qm4 w a d f h kn)(g:JW)(i:g=Qby b):Qm4 ((w.setCells a 2 g.toList).setCell (Ja a 26) (.bool true)) a d f b true:=by
 subst i;have c:=Qaz (QeY (Qby b).toList 2 k) 26 (.bool true);rw[QsC] at c;exact c
theorem QDm(a c:Nat)(h b:Hdr)(kn:Bool):(QEf (Ql4 a c h kn) 2 (Qby b).toList)[26]?=some (.bool kn):=by kernel_rfl
theorem Qph{w:World}{a d f:Nat}{h b:Hdr}{kn:Bool}(k:Qm4 w a d f h kn)(c:JW)(g:c=Qby b):∃v,(w.setCells a 2 c.toList).cell? (Ja a 26)=some v/\(w.setCells a 2 c.toList).frozen? (Ja a 26)=false:=by
 subst g;exact⟨_,Qak (QeY (Qby b).toList 2 k) 26 _ (QDm d f h b kn)⟩
theorem Qu9{w:World}{b a c:Nat}{h:Hdr}{kn:Bool}(k:Qm4 w b a c h kn):w.there b 2 24:=fun j hj=>by
 unfold Qm4 at k;have d:2+j<(Ql4 a c h kn).size:=by show 2+j<27;omega
 refine⟨?_,?_⟩
 ·unfold World.cell?
  rw[k];simp[d]
 ·unfold World.frozen?
  rw[k];rfl
theorem QCo(C:Con):HdrOk (Qcf C.F):=QwC _
theorem Qpk(k:RdS w0 w A C N nx false Zq)(hE:EnvT w0)(hC:C.Ok)(hN:N.Ok) :
  Calls prog 84 #[Jp A.Rb] w (QAB w0 w A C N (QcD C.F,(QcL (QdW C.F)).2)):=by
 have HT:=Z k.fc.total;have c0:=k.cellC;have HH:=Z (qE hE (qE hC hN));have HK:=Z k;have ql:=Z k.lts
 by_cases I:C.f.size<127
 ·have t1:decide ((C.f.size:Int)<127)=true:=qA (by omega)
  have t2:decide (C.f.size<127)=true:=qA I;have HR:=Z (QsR I);clear k hE hC hN I;go_enter func84,ntmps84;go_wp2_with fail;refine HT.o.mono ?_;rintro e w1 ⟨rfl,hw⟩;obtain rfl:=hw.symm;clear hw;go_wp2;go_ret2;exact⟨0,3,_,N,nx,false,Zq,0,rfl,HK.o,NetRun.refl _ _,by omega,.inl ⟨rfl,HR.o.symm,fun e=>by cases e⟩,RdTouch.refl _ _ _⟩
 have HO:=Z (QsS I);have t1:decide ((C.f.size:Int)<127)=false:=qB (by omega)
 have t2:decide (C.f.size<127)=false:=qB I;have zG:C.f.size<=20000:=hC.f;have HS:=Z I;obtain⟨m,hm⟩:∃m,min C.f.size 16384=m:=⟨_,rfl⟩;have zF:min (C.f.size:Int) 16384=(m:Int):=by omega
 have HG:=Qhg k hE hC hN 0 m (by omega) (by omega) (by omega)
 unfold Qr7 at HG;rw[<-hm,QzY,hm] at HG;have HG:=Z HG;clear k hE hC hN I;go_enter func84,ntmps84;go_wp2_with fail;refine HT.o.mono ?_;rintro e w1 ⟨rfl,hw⟩;obtain rfl:=hw.symm;clear hw;go_wp2_with fail;refine HG.o.mono ?_;rintro e w3 ⟨E,B,N',rfl,zn,zu,zz,zp⟩;have qt:=Z zn;have j:=Z zu;have qe:=Z zp;clear zn zu zp HG;rcases zz with⟨hE0,hB⟩|⟨hE0,hB⟩
 ·subst hE0
  obtain⟨L,hL⟩:∃L,QeQ C.F=L:=⟨_,rfl⟩;rw[hL] at hB;have D:B.size<=1000000:=by
   have r:B.data.toList.length=B.size:=Qab B;rw[hB,<-hL] at r;have h2:(QeQ C.F).length<=16384:=by unfold QeQ;rw[qW];exact Nat.min_le_left _ _
   omega
  have l:=QgH B D w3;rw[hB] at l;obtain⟨CS,hCS⟩:∃CS,Qby (QCn L)=CS:=⟨_,rfl⟩;have qj:CS.size=24:=by rw[<-hCS];rfl
  have ze:CS.all (·.oneCell')=true:=by rw[<-hCS];simp[Qby,Value.oneCell']
  have qg:(prog.info? 47).map (·.size)=some CS.size:=by rw[qj];kernel_rfl
  rw[hCS] at l;obtain⟨Eh,hEh⟩:∃Eh,Qf3 L=Eh:=⟨_,rfl⟩;rw[hEh] at l;have l:=Z l;have HC:=Z (qE qj (qE ze qg));have n:=Z (qE hL (qE hB (qE hCS hEh)));clear hL hB hCS hEh qj ze qg D;go_wp2_with fail;refine l.o.mono ?_;rintro e w4 ⟨rfl,zv⟩;have qa:=Z zv;have qu:=Z (JI w4 (.cells qZ 47));have zf:Hi (Jw w4 (w4.alloc (.cells qZ 47))):=Z ((qF _ _).alloc (qC _) _);clear zv l;go_upto_region 8 with (refine wpList_store_row rfl 47 (.tmp 7) (.tmp 32) rfl w4.heap.size CS rfl rfl 47 #[Ju 0,Ju 0,Ju 0,Ju 0,Ju 0,Ju 0,Ju 0,Ju 0,Ju 0,Ju 0,Ju 0,.bool false,Jb 0,Jb 0,Jb 0,Ji 0,Ji 0,Ji 0,Ji 0,Ji 0,Ji 0,Ji 0,Ji 0,Ji 0] qu.o HC.o.2.2 (by rw[HC.o.1];rfl) HC.o.2.1 ?_)
  have J:=Z (setRow_heap _ _ _ CS _ _ qu.o);have qb:=Z (Qba (Qaa qa.o zf.o) qa.o.size CS);generalize (w4.alloc _).setRow w4.heap.size CS=W5 at J qb ⊢;have qp:=Z (qD qe.o.t.size qa.o.size);clear qu zf qa;generalize w4.heap.size=H at J qp ⊢;have qs:=Z (qt.o.below qb.o);have qn:=Z (qe.o.trans (RdTouch.of_below A N' qb.o));clear qt qe qb
  by_cases qm:Eh=0
  ·subst qm
   have hF:Qcf C.F=Qoa L:=by unfold Qcf;rw[n.o.1]
   have qr:Qd5 (Qcf C.F)=true:=by rw[hF];exact QwB L n.o.2.2.2
   have qi:CS=Qby (Qcf C.F):=by rw[<-n.o.2.2.1,hF];exact QmG L n.o.2.2.2
   have qw:Hi (∀W,Calls prog 131 #[.agg CS,Ji C.f.size] W (JB (Ji (Qqe (Qcf C.F) C.f.size:Nat)) W)):=Z (fun W=>by
    have:=Qpm (Qcf C.F) qr C.f.size (by omega) W
    rw[qi];exact this)
   obtain⟨Ef,hEf⟩:∃Ef,Qqe (Qcf C.F) C.f.size=Ef:=⟨_,rfl⟩;rw[hEf] at qw;have f:=Z (qE qr (qE qi hEf));clear qr hF qi hEf;go_wp2_with (refine wpList_load_row rfl 47 (.tmp 7) rfl H rfl 47 CS (0,0) _ J.o underlying47 rfl HC.o.2.2 ?_);refine (qw.o _).mono ?_;rintro e S ⟨rfl,Y⟩;have c:=Z (qs.o.below Y);have qz:=Z (qn.o.trans (RdTouch.of_below A N' Y));have X:=Z (Qad J.o Y);clear Y qs qn J qw
   by_cases qo:Ef=0
   ·subst qo
    obtain⟨f1,f2,f3,f4,f5⟩:=Qqd _ _ f.o.2.2;obtain⟨⟨g1,g2,g3⟩,-⟩:=QlU _ f.o.1;have zx:Qds=1099511627776:=rfl;have K:Qic C.F=0:=by
     rw[HO.o,n.o.1,n.o.2.2.2,JJ (fun x=>x rfl)]
     exact f.o.2.2
    have y:=Qsx C.F K;obtain⟨p,hp⟩:∃p,(Qcf C.F).rf=p:=⟨_,rfl⟩;obtain⟨q,hq⟩:∃q,(Qcf C.F).rl=q:=⟨_,rfl⟩;rw[hp,hq] at y f1 f5 g3;rw[hp] at g1;rw[hq] at g2;have qq:CS[0]?=some (Ju (p:Nat)):=by rw[f.o.2.1,<-hp];rfl
    have za:CS[1]?=some (Ju q):=by rw[f.o.2.1,<-hq];rfl
    have D:p+q<=B.size:=by
     have r:B.data.toList.length=B.size:=Qab B;rw[n.o.2.1,<-n.o.1] at r;have h2:C.F.length=C.f.size:=Qab C.f;have h3:(QeQ C.F).length=min 16384 C.F.length:=by unfold QeQ;rw[qW]
     omega
    have qd:(B.extract p (p+q)).data.toList=QdW C.F:=by
     rw[Qex,n.o.2.1,y,n.o.1];rfl
    have G:(B.extract p (p+q)).size<=1000000:=by
     have r:(B.extract p (p+q)).data.toList.length=(B.extract p (p+q)).size:=Qab _;rw[qd,y] at r;have h2:(Qee (QeQ C.F) p q).length<=q:=by unfold Qee;rw[qW];exact Nat.min_le_left _ _
     omega
    have qc:=Z (qE qq za);have s:=Z (qE hp (qE hq (qE K (qE qd G))));have HZ:=Z (c.o.kz rfl);have hZ:=HZ.o;subst hZ;have zy:=Z (fun W=>Qcs p q W (by omega) (by omega))
    have qk:Hi (Jw S S.drew):=Z (qF _ _).drew;have qf:=c.o.nxa;have zh:N'.a<=1000000:=by
     have r:=j.o.g';have h2:=HH.o.2.2.a;have h3:=HH.o.2.1.R;omega
    have zb:w0.heap.size<=S.heap.size:=c.o.fc.k.bel.size;have zi:Hi (∀W,Jw S W->Calls prog 89 #[Jp A.Sb,.agg #[Ju p,Ju q],Jt (B.extract p (p+q))] W (Qsa w0 W A.Sb A.lb A.mb A.rb C.most nx [] (p,q) (QcL (QdW C.F)))):=Z (fun W hW=>by
     have:=QkT (c.o.below hW).sh (qD zb hW.size) (p,q) (fun hm=>by cases hm) (B.extract p (p+q)) G (by omega)
     rw[qd] at this;exact this)
    obtain⟨T,hT⟩:∃T,QcL (QdW C.F)=T:=⟨_,rfl⟩;rw[hT] at zi;have U:=Z hT;have zD:Hi (Jx S.drew A.Rb 1 (Jp A.Sb)/\Jx S.drew H 0 (Ju p)/\Jx S.drew H 1 (Ju q)):=Z (QnH (c.o.below qk.o) (Qad X.o qk.o) qq za);have i0:(0:Int)<=(p:Int):=by omega
    have i1:(p:Int)<=((p+q:Nat):Int):=by omega
    have i2:((p+q:Nat):Int)<=(B.size:Int):=by omega
    have i3:(p:Int)<=(p:Int)+(q:Int):=by omega
    have i4:(p:Int)+(q:Int)<=(B.size:Int):=by omega
    have i5:((p:Int)+(q:Int)).toNat=p+q:=by omega
    have HI:=Z (qE f1 (qE f5 (qE D (qE qf zh))));clear f1 f2 f3 f4 f5 g1 g2 g3 K y hp hq qq za D qd G hT qf zh zb zx;go_upto_region 13 with fail
    go_cut [9,6] (fun s9 s6 wx=>∃v Z' nx' P,s9=v/\s6 = Ji T.1/\Jw S P/\QEe w0 P A.Sb A.lb A.mb A.rb C.most nx [] (p,q) T v Z' nx' wx)
    case first=>
     go_region_held3 (fun w'=>Jx w' A.Rb 1 (Jp A.Sb)/\Jx w' H 0 (Ju p)/\Jx w' H 1 (Ju q)) (first|exact zD.o|exact zw.o|exact zE.o)
      (first
       |(go_at_call 31;refine (zy.o _).mono ?_;rintro e P ⟨rfl,d⟩;have b:Hi (Jw S P):=Z (Qaa qk.o d);have zw:Hi (Jx P A.Rb 1 (Jp A.Sb)/\Jx P H 0 (Ju p)/\Jx P H 1 (Ju q)):=Z (QnH (c.o.below b.o) (Qad X.o b.o) qc.o.1 qc.o.2);clear d)
       |(go_at_call 89;refine (zi.o _ b.o).mono ?_;rintro e w8 ⟨v8,Z8,zq,rfl,q8⟩;have zk:Hi (QEe w0 P A.Sb A.lb A.mb A.rb C.most nx [] (p,q) T v8 Z8 zq w8):=Z q8;have zE:Hi (w8.cell? (Ja A.Rb 1)=some (Jp A.Sb)/\w8.cell? (Ja H 0)=some (Ju p)/\w8.cell? (Ja H 1)=some (Ju q)):=Z (by
         have ht:=zk.o.2.2.2.2.2.2;have M:=Qad X.o b.o;have zc:=c.o.below b.o;obtain⟨h,r,-⟩:=zc.rd;have h3:Qm4 w8 A.Rb A.Cb A.Sb h false:=(ht.block A.Rb (gsi r).1 zc.own.1).trans r;have h4:=(ht.block H (gsi M).1 (fun I=>by have:=ql.o H (.inr (.inl I));have:=qp.o;omega)).trans M
         exact⟨QdO h3 1 _ rfl,(Qak h4 0 _ qc.o.1).1,(Qak h4 1 _ qc.o.2).1⟩);clear q8))
     all_goals
      go_wp2_with fail;go_meet;exact⟨v8,Z8,zq,P,rfl,rfl,b.o,zk.o⟩
    obtain⟨v,Z',nx',P,hs9,rfl,d,q1,q2,q3,q4,q5,q6,q7⟩:=hcut;subst hs9;have b:=Z d;have HQ:=Z (qE q1 (qE q2 (qE q3 (qE q4 (qE q5 (qE q6 q7))))));have zA:Hi (wc.heap[H]?=some (.cells CS 47 (0,0))):=Z (by
     have M:=Qad X.o d;exact (q7.block H (gsi M).1 (fun I=>by have:=ql.o H (.inr (.inl I));have:=qp.o;omega)).trans M)
    have zj:=Z ((qz.o.trans (RdTouch.of_below A N' d)).trans (RdTouch.shelf A N' q7));have qh:∀z∈Z',z.1.1+z.1.2<=C.f.size/\QcL (Qee C.F z.1.1 z.1.2)=(0,z.2.2)/\C.G z.1:=fun z hz=>by
     rcases q6 z hz with r|⟨r,h2,h3⟩
     ·cases r
     ·rw[r,h2]
      have zr:QcD C.F=0:=by
       unfold QcD;rw[s.o.2.2.1,JJ (fun x=>x rfl),U.o,h3]
      have zC:=HH.o.2.1.g0 zr;refine⟨HI.o.1,?_,by rw[<-s.o.1,<-s.o.2.1];exact zC⟩
      have y:QdW C.F=Qee C.F p q:=by rw[<-s.o.1,<-s.o.2.1];rfl
      show QcL (Qee C.F p q)=_;rw[<-y,U.o,<-h3]
    have zd:=Z qh;have zl:Hi (nx'<=N'.a):=Z (by have:=j.o.g;have:=j.o.le;have:=HK.o.nxa;omega)
    clear d q1 q2 q3 q4 q5 q6 q7 qh i0 i1 i2 i3 i4 i5;have zg:QcD C.F=T.1:=by
     unfold QcD;rw[s.o.2.2.1,JJ (fun x=>x rfl),U.o]
    have qx:=Z zg;clear zg
    by_cases O:T.1=0
    ·have tE:((T.1:Int) != 0)=false:=by rw[O];rfl
     have t:=Z O;clear O;obtain⟨hr7,d,-⟩:=(c.o.below b.o).rd;have R:Qm4 wc A.Rb A.Cb A.Sb hr7 false:=(HQ.o.2.2.2.2.2.2.block A.Rb (gsi d).1 (c.o.below b.o).own.1).trans d;have zB:=Z R;have zo:=Z (Qva R CS f.o.2.1);have V:Hi (Touch (fun i=>i=A.Rb) wc ((wc.setCells A.Rb 2 CS.toList).setCell (Ja A.Rb 26) (.bool true))):=Z (Qaj (a:=(Ja A.Rb 26)) _ (QfM CS.toList 2 wc wc (Touch.refl _ _)) (.inl rfl))
     have zs:=Qph R CS f.o.2.1;obtain⟨v26,d26,f26⟩:=zs;clear d R;go_upto_region 17 with (first|(refine wpList_load_row rfl 47 (.tmp 7) rfl H rfl 47 CS (0,0) _ zA.o underlying47 rfl HC.o.2.2 ?_)|(refine wpList_store_mid rfl 47 (.tmp 68) (.tmp 66) rfl A.Rb 2 CS rfl rfl (by rw[HC.o.1];exact Qu9 zB.o) HC.o.2.2 HC.o.2.1 ?_))
     generalize (wc.setCells A.Rb 2 CS.toList).setCell (Ja A.Rb 26) (.bool true)=W9 at zo V ⊢;clear d26 f26;go_wp2;go_ret2;have qy:=(c.o.below b.o).opened HQ.o.2.2.1 HQ.o.2.2.2.2.2.2 zd.o zl.o (Qcf C.F) (QCo C) ⟨rfl,by rw[qx.o];exact t.o⟩ zo.o V.o
     refine⟨0,0,_,N',nx',true,Z',1,rfl,qy,j.o,qC _,.inl ⟨rfl,?_,fun _=>⟨rfl,?_⟩⟩,zj.o.trans ⟨V.o.mono (fun i hi=>.inr (.inr hi)),fun g hg=>.inl hg⟩⟩
     ·show 0=QcD C.F
      rw[qx.o,t.o]
     ·have ho:=HQ.o.2.1 t.o
      show W9.ownsRow w.heap.size 61 4 _ (QcL (QdW C.F)).2.length (Qan (QcL (QdW C.F)).2);rw[U.o];have zm:=QaM ho (qD qz.o.t.size b.o.size);exact Qq7 zm V.o (fun g hg e=>by
       have r:=(zm.lt g hg).1;have h2:=ql.o A.Rb (.inr (.inr rfl));omega)
    ·have tE:((T.1:Int) != 0)=true:=by rw[bne_iff_ne];omega
     have t:=Z O;clear O;go_wp2;go_ret2;have qy:=(c.o.below b.o).shelf HQ.o.2.2.1 HQ.o.2.2.2.2.2.2 zd.o (fun _=>(HQ.o.1 t.o).2) zl.o
     refine⟨0,T.1,_,N',nx',false,Z',1,rfl,qy,j.o,qC _,.inl ⟨rfl,qx.o.symm,fun e=>JN e t.o⟩,zj.o⟩
   ·have tE:((Ef:Int) != 0)=true:=by rw[bne_iff_ne];omega
    have zt:=Z qo;clear qo;go_wp2;go_ret2;refine⟨0,Ef,_,N',nx,false,Zq,1,rfl,c.o,j.o,qC _,.inl ⟨rfl,?_,fun e=>JN e zt.o⟩,qz.o⟩
    have ho:=HO.o;rw[n.o.1,n.o.2.2.2,JJ (fun x=>x rfl),f.o.2.2] at ho
    show Ef=QcD C.F;unfold QcD;rw[ho,JK zt.o]
  ·have tE:((Eh:Int) != 0)=true:=by rw[bne_iff_ne];omega
   have qv:=Z qm;clear qm;go_wp2;go_ret2;refine⟨0,Eh,_,N',nx,false,Zq,1,rfl,qs.o,j.o,qC _,.inl ⟨rfl,?_,fun e=>JN e qv.o⟩,qn.o⟩
   have ho:=HO.o;rw[n.o.1,n.o.2.2.2,JK qv.o] at ho;show Eh=QcD C.F;unfold QcD;rw[ho,JK qv.o]
 ·subst hE0 hB
  go_wp2;go_ret2;exact⟨23,23,_,N',nx,false,Zq,1,rfl,qt.o,j.o,qC _,.inr ⟨rfl,rfl⟩,qe.o⟩
end
end
section
section
variable {w0 w:World} {A:Adr} {C:Con} {N:Net} {nx:Nat} {kn:Bool} {Zq:List (Key×Nat×List Ent)}
theorem QCH:(QcL []).1=3:=by decide +kernel
theorem RdS.cellK(k:RdS w0 w A C N nx kn Zq):w.cell? (Ja A.Rb 26)=some (.bool kn):=let ⟨h,h1,_⟩:=k.rd;QdO h1 26 _ rfl
theorem RdS.cellH(k:RdS w0 w A C N nx true Zq):w.cell? (Ja A.Rb 2)=some (Ju ((Qcf C.F).rf:Nat))/\w.cell? (Ja A.Rb 3)=some (Ju ((Qcf C.F).rl:Nat))/\w.cell? (Ja A.Rb 6)=some (Ju ((Qcf C.F).lf:Nat))/\w.cell? (Ja A.Rb 7)=some (Ju ((Qcf C.F).ll:Nat))/\w.cell? (Ja A.Rb 8)=some (Ju ((Qcf C.F).df:Nat))/\w.cell? (Ja A.Rb 9)=some (Ju ((Qcf C.F).dl:Nat)):=by
 obtain⟨h,h1,-,h3⟩:=k.rd;obtain⟨rfl,-⟩:=h3 rfl;exact⟨QdO h1 2 _ rfl,QdO h1 3 _ rfl,QdO h1 6 _ rfl,QdO h1 7 _ rfl,QdO h1 8 _ rfl,QdO h1 9 _ rfl⟩
theorem Qis(f:JL)(h:QcD f=0):Qic f=0/\(QcL (QdW f)).1=0:=by
 unfold QcD at h
 by_cases a:Qic f=0
 ·rw[JJ (fun x=>x a)] at h;exact⟨a,h⟩
 ·rw[JK a] at h;exact JN h a
theorem QDj(C:Con)(h:QcD C.F=0):(Qcf C.F).rf+(Qcf C.F).rl<=C.f.size/\0<(Qcf C.F).rl/\(Qcf C.F).rl<=16384/\(Qcf C.F).lf+(Qcf C.F).ll<=C.f.size/\(Qcf C.F).df+(Qcf C.F).dl<=C.f.size:=by
 have a:C.F.length=C.f.size:=Qab C.f;obtain⟨h1,h2⟩:=Qis _ h;obtain⟨-,-,h3,-⟩:=Qq9 _ h1;obtain⟨f1,-,f3,f4,f5⟩:=Qqd _ _ h3;refine⟨by omega,?_,by omega,by omega,by omega⟩
 refine Nat.pos_of_ne_zero (fun e=>?_)
 have:QdW C.F = []:=by unfold QdW Qee;rw[e];rfl
 rw[this,QCH] at h2;cases h2
theorem Qpj(k:RdS w0 w A C N nx kn Zq)(i:EnvT w0)(f:C.Ok)(j:N.Ok) :
  Calls prog 35 #[Jp A.Rb] w (QAB w0 w A C N (QcD C.F,(QcL (QdW C.F)).2)):=by
 have t:=k.cellK;cases kn with
 |false=>
  have m:=Z (Qpk k i f j);clear k i f j;go_enter func35,ntmps35;go_wp2_with fail;refine m.o.mono ?_;rintro e r ⟨a,E,v,N',b,c,n,G,rfl,d⟩;have p:=Z d;clear d;go_wp2;go_ret2;exact⟨a,E,v,N',b,c,n,G,rfl,p.o⟩
 |true=>
  have g:QcD C.F=0:=by
   obtain⟨h,-,-,h3⟩:=k.rd;exact (h3 rfl).2
  obtain⟨s1,s2,s3,-⟩:=QDj C g;obtain⟨c2,c3,-⟩:=k.cellH;have l:=QeK k i f j ((Qcf C.F).rf,(Qcf C.F).rl) s2 s1 (by show _<=65536;omega) (f.g0 g)
  have q:QcL (Qee C.F (Qcf C.F).rf (Qcf C.F).rl)=(QcD C.F,(QcL (QdW C.F)).2):=by
   have s:=(Qis _ g).2;show QcL (QdW C.F)=_;rw[g,<-s]
  rw[q] at l;have m:=Z l;clear k i f j g s1 s2 s3 l q;go_enter func35,ntmps35;go_wp2_with fail;refine m.o.mono ?_;rintro e r ⟨a,E,v,N',b,c,n,G,rfl,d⟩;have p:=Z d;clear d;go_wp2;go_ret2;exact⟨a,E,v,N',b,c,n,G,rfl,p.o⟩
def QEY(w0 w:World)(A:Adr)(C:Con)(N:Net)(V:Nat×JL×Bool)(M:Nat)(e:Ending)(w':World):Prop:=
 ∃(lost E:Nat) (S:JA) (b:Bool) (N':Net) (nx':Nat) (kn':Bool) (Z':List (Key×Nat×List Ent)) (G:Nat),e=.returned (.tuple #[Jt S,.bool b,Ji E])/\RdS w0 w' A C N' nx' kn' Z'/\NetRun C.R N N' G lost/\G<=M+1/\(lost=0->b=false->G<=M)/\
  ((lost=0/\E=V.1/\S.data.toList=V.2.1/\b=V.2.2)\/(lost=23/\E=23/\S=⟨#[]⟩/\b=false))/\RdTouch A N N' w w'
def QA2(w0 w:World)(A:Adr)(C:Con)(N:Net)(nx:Nat)(kn:Bool)(Zq:List (Key×Nat×List Ent))(V:Nat×JL×Bool)(e:Ending)(w':World):Prop:=
 ∃(lost E:Nat) (S:JA) (b:Bool) (N':Net) (G:Nat),e=.returned (.tuple #[Jt S,.bool b,Ji E])/\RdS w0 w' A C N' nx kn Zq/\NetRun C.R N N' G lost/\G<=1/\(lost=0->b=false->G=0)/\
  ((lost=0/\E=V.1/\S.data.toList=V.2.1/\b=V.2.2)\/(lost=23/\E=23/\S=⟨#[]⟩/\b=false))/\RdTouch A N N' w w'
def Qny(C:Con)(f l:Nat)(x:Ent):Nat×JL×Bool:=if Qdz l 65536 x≠0 then (Qdz l 65536 x,[],false) else (0,Qee C.F (f+x.2.1) x.2.2.1,true)
theorem Qhh{w:World}{b:Nat}{a f h g c i d:Value}{t:JT}(k:w.heap[b]?=some (.cells #[a,f,h,g,c,i,d] t (0,0))):w.cell? (Ja b 0)=some a/\w.cell? (Ja b 1)=some f/\w.cell? (Ja b 2)=some h/\w.cell? (Ja b 3)=some g/\w.cell? (Ja b 4)=some c/\w.cell? (Ja b 5)=some i/\w.cell? (Ja b 6)=some d:=by
 refine⟨?_,?_,?_,?_,?_,?_,?_⟩<;>(unfold World.cell?;rw[k];rfl)
theorem Qpi(k:RdS w0 w A C N nx kn Zq)(s:EnvT w0)(m:C.Ok)(H:N.Ok)(id off len run f l:Nat)(hx:Qcj (id,off,len,run)=0)(b:f+l<=C.f.size) :
  Calls prog 37 #[Jp A.Rb,.agg #[Ju id,Ju off,Jd len,Jd run,Ju f,Ju l,Jd 65536]] w (QA2 w0 w A C N nx kn Zq (Qny C f l (id,off,len,run))):=by
 obtain⟨n,V,x3⟩:=Qf9 _ hx;have U:Qds=1099511627776:=rfl;have n:0<len:=n;have V:off+len<=Qds:=V;have g:=QhD w #[Ju id,Ju off,Jd len,Jd run,Ju f,Ju l,Jd 65536] 113;have X:=Z (JI w (.cells #[Ju id,Ju off,Jd len,Jd run,Ju f,Ju l,Jd 65536] 113));have qa:=Z k.lts;have y:=Z (k.below g);have p:=Z g;have qb:=m.f;have d:=Z (fun W=>QkZ id off len run f l 65536 (by omega) W)
 have S:=Z (fun W=>Qq4 id off len run f l 65536 (by omega) (by omega) W)
 have HH:=Z (qE s (qE m (qE H (qE n b))));obtain⟨c0,c1,c2,c3,c4,c5,c6⟩:=Qme w (Ju id) (Ju off) (Jd len) (Jd run) (Ju f) (Ju l) (Jd 65536) 113;obtain⟨P,j⟩:∃P,Qdz l 65536 (id,off,len,run)=P:=⟨_,rfl⟩;rw[j] at d;have a:=Z j;clear k s m H hx b g x3 j U;go_enter func37,ntmps37;go_wp2_with fail;refine (d.o _).mono ?_;rintro e Y ⟨rfl,c⟩;have r:=Z (y.o.below c);have v:=Z (RdTouch.of_below A N (Qaa p.o c));have T:=Z (Qad X.o c);clear c c0 c1 c2 c3 c4 c5 c6 X y p d
 by_cases j:P=0
 ·subst j
  obtain⟨L,J⟩:=Qq5 _ _ _ a.o;have L:off+len<=l:=L;have J:len<=65536:=J;obtain⟨s,m,H,n,b⟩:=HH.o;obtain⟨c0,c1,c2,c3,c4,c5,c6⟩:=Qhh T.o;have HG:=Z (fun (W:World) (hW:Jw Y W)=>Qhg (r.o.below hW) s m H (f+off) len n (by omega) J)
  clear s m H n b L J;go_wp2_with fail;refine (S.o _).mono ?_;rintro e w2 ⟨rfl,h⟩;have O:=Z h;have K:=Z (HG.o _ h);clear h c0 c1 c2 c3 c4 c5 c6;go_wp2_with fail;refine K.o.mono ?_;rintro e w3 ⟨E,B,N',rfl,z,t,M,D⟩;have G:=Z z;have q:=Z t;have I:=Z ((v.o.trans (RdTouch.of_below A N O.o)).trans D);clear z t D;rcases M with⟨hE0,hB⟩|⟨hE0,hB⟩
  ·subst hE0
   have R:=Z hB;clear hB;go_wp2;go_ret3;refine⟨0,0,B,true,N',1,rfl,G.o,q.o,by omega,(fun _ e=>by cases e),.inl ⟨rfl,?_,?_,?_⟩,I.o⟩
   ·unfold Qny;rw[JJ (fun x=>x a.o)]
   ·unfold Qny;rw[JJ (fun x=>x a.o)];exact R.o
   ·unfold Qny;rw[JJ (fun x=>x a.o)]
  ·subst hE0 hB
   go_wp2;go_ret3;exact⟨23,23,_,false,N',1,rfl,G.o,q.o,by omega,(fun e=>by cases e),.inr ⟨rfl,rfl,rfl,rfl⟩,I.o⟩
 ·have tP:((P:Int) != 0)=true:=by rw[bne_iff_ne];omega
  have i:=Z j;clear j;go_wp2;go_ret3;refine⟨0,P,⟨#[]⟩,false,N,0,rfl,r.o,NetRun.refl _ _,by omega,fun _ _=>rfl,.inl ⟨rfl,?_,?_,?_⟩,v.o⟩
  ·unfold Qny;rw[a.o,JK i.o]
  ·unfold Qny;rw[a.o,JK i.o]
  ·unfold Qny;rw[a.o,JK i.o]
end
end
section
theorem Qxo(l:List Ent)(key n a b:Nat)(h:a<b)(c:(l.getD ((a+b)/2) Qa7).1<=key):bsM l key (n+1) a b=bsM l key n ((a+b)/2+1) b:=by
 conv=>lhs;unfold bsM
 rw[JK h,JK c]
theorem Qxn(l:List Ent)(key n a b:Nat)(h:a<b)(c:¬(l.getD ((a+b)/2) Qa7).1<=key):bsM l key (n+1) a b=bsM l key n a ((a+b)/2):=by
 conv=>lhs;unfold bsM
 rw[JK h,JJ c]
theorem QuO(v:Value)(l:List Ent)(key:Nat)(w:World)(z:HoldsE w v l)(hlen:l.length<=4096) :
  Calls prog 132 #[v,Ju key,.func (.func 133) #[] #[]] w (JB (Ji ((Qcz l key:Int)-1)) w):=by
 obtain⟨a,c,rfl,hc⟩:=HoldsR.len z;have A:=Z (fun hn=>HoldsE.at z hn)
 obtain⟨R,hR⟩:∃R,Qcz l key=R:=⟨_,rfl⟩;have G:R<=4096:=by rw[<-hR];exact qD (Qjo l key) hlen
 unfold Qcz at hR;have I:=Z hR;have t:=Z (fun i o n r W=>QBl i o n r W)
 rw[show Qcz l key=R from hR];clear z hR;go_enter func132,ntmps132;go_wp2_with fail;go_loopw [7,8,9] (fun u i _ wr=>∃(x y n:Nat),x<=y/\y<=l.length/\y<=x+n/\u = Ji x/\i = Ji y/\Hi (bsM l key n x y=R)/\Jw w wr) (fun u i _ _=>((intOf i).toNat-(intOf u).toNat))
 case atStart=>exact⟨0,l.length,l.length,by omega,by omega,by omega,rfl,rfl,I,qF _ _⟩
 case round=>
  obtain⟨x,y,n,hxy,hyl,hyn,rfl,rfl,HRk,hbw⟩:=hrel
  by_cases k:x<y
  ·obtain⟨n,rfl⟩:∃m,n=m+1:=⟨n-1,by omega⟩
   have q:(x+y)/2<l.length:=by omega
   obtain⟨b,o,c',hvv,-,hbl,Qak⟩:=A.o (fun e=>by rw[e] at q;exact JN q (JH _))
   injection hvv with e1 e2 e3
   subst e1 e3;obtain⟨m,hmm⟩:∃m,(x+y)/2=m:=⟨_,rfl⟩;rw[hmm] at q;obtain⟨y0,y1,y2,y3⟩:=Qak m q;have N:=(hbw.cell (p:=(Ja b (o+m*4))) hbl).trans y0;have J:=(hbw.cell (p:=(Ja b (o+m*4+1))) hbl).trans y1;have K:=(hbw.cell (p:=(Ja b (o+m*4+2))) hbl).trans y2;have M:=(hbw.cell (p:=(Ja b (o+m*4+3))) hbl).trans y3;have d:l.getD m Qa7=l[m]:=by rw[J9,qU q];rfl
   obtain⟨X,hXe⟩:∃X,l[m]=X:=⟨_,rfl⟩;rw[hXe] at N J K M d;obtain⟨x1,x2,x3,x4⟩:=X;have L:((x:Int)+(y:Int))/2=(m:Int):=by omega
   have C:=Z hbw;have B:=Z (fun W=>t.o x1 x2 x3 x4 W)
   have H:m<y/\x<=m:=by omega
   by_cases j:x1<=key
   ·have E:decide (x1<=key)=true:=qA j
    have g:Hi (bsM l key n (m+1) y=R):=Z (by rw[<-HRk.o,Qxo l key n x y k (by rw[hmm,d];exact j),hmm])
    clear Qak A y0 y1 y2 y3 hXe HRk hbw d j hmm;go_wp2_with fail;refine (B.o _).mono ?_;rintro e D ⟨rfl,f⟩;have h:=Z f;clear f;go_wp2_with fail;go_roundw
    case rel=>exact⟨m+1,y,n,by omega,by omega,by omega,by go_num,by go_num,g,Qaa C.o h.o⟩
    case measure=>simp[intOf];omega
   ·have E:decide (x1<=key)=false:=qB j
    have g:Hi (bsM l key n x m=R):=Z (by rw[<-HRk.o,Qxn l key n x y k (by rw[hmm,d];exact j),hmm])
    clear Qak A y0 y1 y2 y3 hXe HRk hbw d j hmm;go_wp2_with fail;refine (B.o _).mono ?_;rintro e D ⟨rfl,f⟩;have h:=Z f;clear f;go_wp2_with fail;go_roundw
    case rel=>exact⟨x,m,n,by omega,by omega,by omega,by go_num,by go_num,g,Qaa C.o h.o⟩
    case measure=>simp[intOf];omega
  ·obtain rfl:x=y:=by omega
   have s:Hi (R=x):=Z (by rw[<-HRk.o];exact QAh l key n x x (qC _))
   clear HRk;go_wp2;go_ret;exact⟨by rw[s.o]<;>rfl,hbw⟩
theorem Qsu(v:Value)(l:List Ent)(key:Nat)(w:World)(i:HoldsE w v l)(f:∀e∈l,Qbt e)(hlen:l.length<=4096) :
  Calls prog 85 #[v,Ju key] w (JB (Ji (if QeZ l=0 then (Qcz l key:Int)-1 else -1)) w):=by
 have j:=Z (fun W (k:Jw w W)=>QdE v l W (i.below k) f (by omega))
 have q:=Z (fun W (k:Jw w W)=>QuO v l key W (i.below k) hlen)
 obtain⟨a,c,rfl,hc⟩:=HoldsR.len i;clear i f
 by_cases h:QeZ l=0
 ·rw[JK h]
  rw[h] at j;clear h;go_enter func85,ntmps85;go_wp2_with fail;refine (j.o _ (qF _ _)).mono ?_;rintro e n ⟨rfl,b⟩;have d:=Z b;clear b;go_wp2_with fail;refine (q.o _ d.o).mono ?_;rintro e r ⟨rfl,g⟩;have m:=Z g;clear g;go_wp2;go_ret;exact⟨rfl,Qaa d.o m.o⟩
 ·rw[JJ h]
  have p:((QeZ l:Int) != 0)=true:=by rw[bne_iff_ne];omega
  generalize QeZ l=R at j p;clear h;go_enter func85,ntmps85;go_wp2_with fail;refine (j.o _ (qF _ _)).mono ?_;rintro e n ⟨rfl,b⟩;have d:=Z b;clear b;go_wp2;go_ret;exact⟨rfl,d.o⟩
def QCy:Option Ent->Value
 |some e=>.tuple #[.agg #[Ju e.1,Ju e.2.1,Jd e.2.2.1,Jd e.2.2.2],.bool true]
 |none=>.tuple #[.agg #[Ju 0,Ju 0,Jd 0,Jd 0],.bool false]
theorem QuP(v:Value)(l:List Ent)(key:Nat)(w:World)(U:HoldsE w v l)(E:∀e∈l,Qbt e)(hlen:l.length<=4096) :
  Calls prog 36 #[v,Ju key] w (JB (QCy (QfJ l key)) w):=by
 have J:=QaV w (Ju 0) (Ju 0) (Jd 0) (Jd 0) 61;have H:=Z J;have T:=Z (JI w (.cells #[Ju 0,Ju 0,Jd 0,Jd 0] 61));have L:Hi (w.heap.size<(w.alloc (.cells #[Ju 0,Ju 0,Jd 0,Jd 0] 61)).heap.size):=Z (by simp)
 have S:=Z (Qsu v l key _ (U.below J) E hlen);have V:=Z (fun hn=>HoldsE.at (U.below J) hn)
 obtain⟨a,c,rfl,hc⟩:=HoldsR.len U;clear U J
 by_cases I:QeZ l≠0\/Qcz l key=0
 ·have D:QfJ l key=none:=by unfold QfJ;exact JK I
  have N:(if QeZ l=0 then (Qcz l key:Int)-1 else -1) = -1:=by
   by_cases K:QeZ l=0
   ·rw[JK K]
    have:=I.resolve_left (fun h=>h K)
    omega
   ·rw[JJ K]
  rw[N] at S;rw[D];clear D N I;go_enter func36,ntmps36;go_wp2_with fail;refine S.o.mono ?_;rintro e Y ⟨rfl,d⟩;have g:=Z ((d.block _ L.o).trans T.o);have n:=Z (Qaa H.o d);clear d;obtain⟨⟨g0,g1,g2,g3⟩,f0,f1,f2,f3⟩:=QaC g.o;go_wp2_with fail;refine Qau (A:=(Ja w.heap.size 0)) rfl (Qix _ _ _ _ _ _ _ (Qec g.o _ _ _ _)) rfl rfl rfl ?_;exact⟨rfl,QdG n.o (qC _) _ _ _ _⟩
 ·have K:QeZ l=0:=Classical.byContradiction fun e=>I (.inl e)
  have O:Qcz l key≠0:=fun e=>I (.inr e)
  obtain⟨j,hj⟩:∃j,Qcz l key=j+1:=⟨Qcz l key-1,by omega⟩
  have r:j<l.length:=by have:=Qjo l key;omega
  have N:(if QeZ l=0 then (Qcz l key:Int)-1 else -1)=(j:Int):=by rw[JK K,hj];omega
  rw[N] at S;have G:l.getD (Qcz l key-1) Qa7=l[j]:=by rw[hj,Nat.add_sub_cancel,J9,qU r];rfl
  have m:QfJ l key=if 0<l[j].2.2.2/\QDH l[j] key=false then none else some l[j]:=by
   unfold QfJ;rw[JJ I,G]
  have hX:=E l[j] (JG r);have s:=Ql0 l K l[j] (JG r);obtain⟨b,o,c',hvv,-,hbl,Qak⟩:=V.o (fun e=>by rw[e] at r;exact JN r (JH _))
  injection hvv with e1 e2 e3
  subst e1 e3;obtain⟨z,t,B,x⟩:=Qak j r;obtain⟨X,hXe⟩:∃X,l[j]=X:=⟨_,rfl⟩;rw[hXe] at z t B x m hX s;obtain⟨x1,x2,x3,x4⟩:=X;obtain⟨o1,o2,o3,o4⟩:x1<18446744073709551616/\x2<18446744073709551616/\x3<4294967296/\x4<4294967296:=hX;have y:=Z (qE z (qE t (qE B x)));have f:=Z hbl;have qa:(0:Int)<=(j:Int):=by omega
  have tj:decide ((j:Int)<0)=false:=qB (by omega)
  by_cases k:0<x4
  ·have t0:decide (0<x4)=true:=qA k
   cases R:QDH (x1,x2,x3,x4) key with
   |true=>
    have HH:=Z (fun W=>Qoo x1 x2 x3 x4 key s k true R W o1 o2 o3 o4)
    have D:QfJ l key=some (x1,x2,x3,x4):=by rw[m,JJ (by rintro⟨-,h⟩;rw[R] at h;cases h)]
    rw[D];clear I K O hj N G m s Qak V z t B x hXe R k D hbl E;go_enter func36,ntmps36;go_wp2_with fail;refine S.o.mono ?_;rintro e Y ⟨rfl,d⟩;have g:=Z ((d.block _ L.o).trans T.o);have n:=Z (Qaa H.o d);have z:=(d.cell (p:=(Ja b (o+j*4))) f.o).trans y.o.1;have t:=(d.cell (p:=(Ja b (o+j*4+1))) f.o).trans y.o.2.1;have B:=(d.cell (p:=(Ja b (o+j*4+2))) f.o).trans y.o.2.2.1;have x:=(d.cell (p:=(Ja b (o+j*4+3))) f.o).trans y.o.2.2.2;have M:=Z (qE z (qE t (qE B x)));have q:=Z (qK f.o d.size);clear d;obtain⟨⟨g0,g1,g2,g3⟩,f0,f1,f2,f3⟩:=QaC g.o;go_wp2_with fail;refine (HH.o _).mono ?_;rintro e w2 ⟨rfl,i⟩;have C:=Z ((i.block _ (gsi g.o).1).trans g.o);have P:=Z (Qaa n.o i);clear z t B x g0 g1 g2 g3 f0 f1 f2 f3;have z:=(i.cell (p:=(Ja b (o+j*4))) q.o).trans M.o.1;have t:=(i.cell (p:=(Ja b (o+j*4+1))) q.o).trans M.o.2.1;have B:=(i.cell (p:=(Ja b (o+j*4+2))) q.o).trans M.o.2.2.1;have x:=(i.cell (p:=(Ja b (o+j*4+3))) q.o).trans M.o.2.2.2;clear i;obtain⟨⟨g0,g1,g2,g3⟩,f0,f1,f2,f3⟩:=QaC C.o;go_wp2_with fail;refine Qau (A:=(Ja w.heap.size 0)) rfl (Qix _ _ _ _ _ _ _ (Qec C.o _ _ _ _)) rfl rfl rfl ?_;exact⟨rfl,QdG P.o (qC _) _ _ _ _⟩
   |false=>
    have HH:=Z (fun W=>Qoo x1 x2 x3 x4 key s k false R W o1 o2 o3 o4)
    have D:QfJ l key=none:=by rw[m,JK ⟨k,R⟩]
    rw[D];clear I K O hj N G m s Qak V z t B x hXe R k D hbl E;go_enter func36,ntmps36;go_wp2_with fail;refine S.o.mono ?_;rintro e Y ⟨rfl,d⟩;have g:=Z ((d.block _ L.o).trans T.o);have n:=Z (Qaa H.o d);have z:=(d.cell (p:=(Ja b (o+j*4))) f.o).trans y.o.1;have t:=(d.cell (p:=(Ja b (o+j*4+1))) f.o).trans y.o.2.1;have B:=(d.cell (p:=(Ja b (o+j*4+2))) f.o).trans y.o.2.2.1;have x:=(d.cell (p:=(Ja b (o+j*4+3))) f.o).trans y.o.2.2.2;clear d;obtain⟨⟨g0,g1,g2,g3⟩,f0,f1,f2,f3⟩:=QaC g.o;go_wp2_with fail;refine (HH.o _).mono ?_;rintro e w2 ⟨rfl,i⟩;have C:=Z ((i.block _ (gsi g.o).1).trans g.o);have P:=Z (Qaa n.o i);clear z t B x g0 g1 g2 g3 f0 f1 f2 f3 i;obtain⟨⟨g0,g1,g2,g3⟩,f0,f1,f2,f3⟩:=QaC C.o;go_wp2_with fail;refine Qau (A:=(Ja w.heap.size 0)) rfl (Qix _ _ _ _ _ _ _ (Qec C.o _ _ _ _)) rfl rfl rfl ?_;exact⟨rfl,QdG P.o (qC _) _ _ _ _⟩
  ·have t0:decide (0<x4)=false:=qB k
   have D:QfJ l key=some (x1,x2,x3,x4):=by rw[m,JJ (by rintro⟨h,-⟩;exact k h)]
   rw[D];clear I K O hj N G m s Qak V z t B x hXe k D hbl E;go_enter func36,ntmps36;go_wp2_with fail;refine S.o.mono ?_;rintro e Y ⟨rfl,d⟩;have g:=Z ((d.block _ L.o).trans T.o);have n:=Z (Qaa H.o d);have z:=(d.cell (p:=(Ja b (o+j*4))) f.o).trans y.o.1;have t:=(d.cell (p:=(Ja b (o+j*4+1))) f.o).trans y.o.2.1;have B:=(d.cell (p:=(Ja b (o+j*4+2))) f.o).trans y.o.2.2.1;have x:=(d.cell (p:=(Ja b (o+j*4+3))) f.o).trans y.o.2.2.2;clear d;obtain⟨⟨g0,g1,g2,g3⟩,f0,f1,f2,f3⟩:=QaC g.o;go_wp2_with fail;refine Qau (A:=(Ja w.heap.size 0)) rfl (Qix _ _ _ _ _ _ _ (Qec g.o _ _ _ _)) rfl rfl rfl ?_;exact⟨rfl,QdG n.o (qC _) _ _ _ _⟩
def QA1(w0 w wr:World)(A:Adr)(C:Con)(N:Net)(id d:Nat)(v:Value)(E:Nat):Prop:=
 ∃(lost:Nat) (N1:Net) (nx1:Nat) (kn1:Bool) (Z1:List (Key×Nat×List Ent)) (G:Nat),RdS w0 wr A C N1 nx1 kn1 Z1/\NetRun C.R N N1 G lost/\G<=d+1/\RdTouch A N N1 w wr/\
  ((lost=0/\E=0/\kn1=true/\QcD C.F=0/\∃l,HoldsE wr v l/\(∀e∈l,Qbt e)/\l.length<=4096/\Qsl C.F id=QqN C.F id (2-d) l/\∃key,C.G key/\QcL (Qee C.F key.1 key.2)=(0,l))\/(lost=0/\E≠0/\Qsl C.F id=(E,[],false))\/(lost=23/\E=23))
theorem QlB{w0 w:World}{A:Adr}{C:Con}{N:Net}{a:Nat}{b:List (Key×Nat×List Ent)}(k:RdS w0 w A C N a true b){K i o n r:Nat}(hx:w.heap[K]?=some (.cells #[Ju i,Ju o,Jd n,Jd r] 61 (0,0))) :
  (w.cell? (Ja K 0)=some (Ju i)/\w.cell? (Ja K 1)=some (Ju o)/\w.cell? (Ja K 2)=some (Jd n)/\w.cell? (Ja K 3)=some (Jd r)/\w.cell? (Ja A.Rb 8)=some (Ju ((Qcf C.F).df:Nat))/\w.cell? (Ja A.Rb 9)=some (Ju ((Qcf C.F).dl:Nat)))/\
  (w.cell? (Ja K 0)=some (Ju i)/\w.cell? (Ja K 1)=some (Ju o)/\w.cell? (Ja K 2)=some (Jd n)/\w.cell? (Ja K 3)=some (Jd r)/\w.cell? (Ja A.Rb 6)=some (Ju ((Qcf C.F).lf:Nat))/\w.cell? (Ja A.Rb 7)=some (Ju ((Qcf C.F).ll:Nat))):=by
 obtain⟨⟨a0,a1,a2,a3⟩,-⟩:=QaC hx;obtain⟨-,-,b6,b7,b8,b9⟩:=k.cellH;exact⟨⟨a0,a1,a2,a3,b8,b9⟩,⟨a0,a1,a2,a3,b6,b7⟩⟩
theorem Qo3{w0 w i:World}{A:Adr}{C:Con}(n:C.Ok){N j:Net}{id a E g G:Nat}{c:Bool}{k:List (Key×Nat×List Ent)}{v:Value}(m:RdS w0 i A C j g c k)(p:NetRun C.R N j G a)(s:G<=1)(q:RdTouch A N j w i)(r:(a=0/\E=(QcD C.F,(QcL (QdW C.F)).2).1/\(E=0->c=true/\i.ownsRow w.heap.size 61 4 v (QcD C.F,(QcL (QdW C.F)).2).2.length (Qan (QcD C.F,(QcL (QdW C.F)).2).2)))\/(a=23/\E=23)):QA1 w0 w i A C N id 0 v E:=by
 refine⟨a,j,g,c,k,G,m,p,by omega,q,?_⟩
 rcases r with⟨h1,f,h3⟩|h
 ·have f:E=QcD C.F:=f
  by_cases d:E=0
  ·obtain⟨h4,h5⟩:=h3 d
   have b:QcD C.F=0:=by rw[<-f];exact d
   obtain⟨q1,q2,-⟩:=Qqp _ (Qis _ b).2;refine .inl ⟨h1,d,h4,b,_,HoldsR.of_own h5,q1,q2,?_,_,n.g0 b,?_⟩
   ·unfold Qsl
    rw[JJ (fun x=>x b)]
   ·have l:=(Qis _ b).2
    show QcL (QdW C.F)=_;rw[<-l]
  ·refine .inr (.inl ⟨h1,d,?_⟩)
   unfold Qsl;rw[JK (by rw[<-f];exact d),f]
 ·exact .inr (.inr h)
theorem Qpn{w0 w:World}{A:Adr}{C:Con}{N:Net}{nx:Nat}{kn:Bool}{Zq:List (Key×Nat×List Ent)}(k:RdS w0 w A C N nx kn Zq)(hE:EnvT w0)(hC:C.Ok)(hN:N.Ok)(qq:N.lg.length<=800000/\N.n<=800000/\N.a<=800000)(id:Nat) :
  Calls prog 11 #[Jp A.Rb,Ju id] w (QEY w0 w A C N (Qsl C.F id) 3):=by
 have qw:=Z (Qpj k hE hC hN);have c0:=k.cellC;have zq:=Z k.lts;have HH:=Z (qE hE (qE hC (qE hN qq)));clear k hE hC hN qq;go_enter func11,ntmps11;go_wp2_with fail;refine qw.o.mono ?_;rintro e w1 ⟨g,E,v,t,s,qb,Z1,G,rfl,hk,hr,hg,hc,ht⟩;have HS:=Z (Qo3 (id:=id) HH.o.2.1 hk hr hg ht hc);have HW:=Z ht.t.size;clear hk hr hg hc ht qw c0;go_wp2_with fail;go_loopw [7,8,9] (fun u7 u8 u9 wr=>∃d E:Nat,d<=2/\u8 = Ji E/\u9 = Ji ((d:Int)+1)/\Hi (QA1 w0 w wr A C N id d u7 E)/\Hi (w.heap.size<=wr.heap.size)) (fun _ _ u9 _=>4-(intOf u9).toNat)
 case atStart=>exact⟨0,E,by omega,rfl,rfl,HS,HW⟩
 case round=>
  clear HS HW;obtain⟨d,E,hd,rfl,rfl,HS,HW⟩:=hrel
  by_cases qh:E=0
  ·subst qh
   obtain⟨g,t,s,qb,Z1,G,hk,hr,hg,ht,hcs⟩:=HS.o;obtain⟨rfl,rfl,hro,l,hl1,hl2,hl3,hl4,key,hgk,hdk⟩:g=0/\qb=true/\QcD C.F=0/\∃l,HoldsE wr u7 l/\(∀e∈l,Qbt e)/\l.length<=4096/\Qsl C.F id=QqN C.F id (2-d) l/\∃key,C.G key/\QcL (Qee C.F key.1 key.2)=(0,l):=by
    rcases hcs with⟨a,-,c,d,e⟩|⟨-,h,-⟩|⟨-,h⟩
    ·exact⟨a,c,d,e⟩
    ·exact JN rfl h
    ·cases h
   have HK:=Z hk;have HR:=Z hr;have HG:=Z hg;have HT:=Z ht;have j:=QuP u7 l id wr hl1 hl2 hl3;have H:=Z (qE hro (qE hl2 hl4));have qx:=Z (qE hgk hdk);obtain⟨a7,c7,hu7,hle7⟩:=HoldsR.len hl1;subst hu7;clear hcs HS hk hr hg ht hro hl1 hl2 hl3 hl4 hle7 hgk hdk;cases hf:QfJ l id with
   |none=>
    rw[hf] at j;have j:=Z j;have HF:=Z hf;unfold QCy at j;clear hf;go_wp2_with fail;refine j.o.mono ?_;rintro e w2 ⟨rfl,B⟩;have y:=Z B;clear B;go_wp2;go_ret3;have qr:Jw w2 (w2.alloc (.cells #[Ju 0,Ju 0,Jd 0,Jd 0] 61)):=(qF _ _).alloc (qC _) _;have hw:QqN C.F id (2-d) l=(0,[],false):=QxV _ _ _ _ HF.o;refine⟨0,0,⟨#[]⟩,false,t,s,true,Z1,G,rfl,(HK.o.below y.o).below qr,HR.o,by have:=HG.o;omega,fun _ _=>by have:=HG.o;omega,.inl ⟨rfl,?_,?_,?_⟩,(HT.o.trans (RdTouch.of_below A t y.o)).trans (RdTouch.of_below A t qr)⟩
    ·rw[H.o.2.2,hw]
    ·rw[H.o.2.2,hw]
    ·rw[H.o.2.2,hw]
   |some x=>
    rw[hf] at j;obtain⟨i,o,n,r⟩:=x;have j:=Z j;unfold QCy at j;obtain⟨QFt,hck⟩:=QwN l id _ hf;have O:=H.o.2.1 _ QFt;obtain⟨x1,x2,-⟩:=Qf9 _ hck;have qo:Qds=1099511627776:=rfl;have x2:o+n<=1099511627776:=by rw[<-qo];exact x2
    obtain⟨s1,s2,s3,s4,s5⟩:=QDj C H.o.1;have HX:=Z (qE hck (qE O (qE x1 (qE x2 (qE s4 s5)))));have zk:=Z QFt;have HF:=Z hf;have qz:t.Ok:=by
     obtain⟨-,hC,hN,h1,V,h3⟩:=HH.o;have zt:G*(C.R+1)<=3*9:=Nat.mul_le_mul (by have:=HG.o;omega) (by have:=hC.R;omega)
     exact hN.run HR.o (by omega)
    have qs:=Z qz;have zu:r<4294967296:=O.2.2.2;have zs:=HH.o.2.1.f;clear hf QFt hck O x1 qo qz s1 s2 s3;go_wp2_with fail;refine j.o.mono ?_;rintro e w2 ⟨rfl,B⟩;have y:=Z (Qaa B (QaV w2 (Ju i) (Ju o) (Jd n) (Jd r) 61));have D:=Z (JI w2 (.cells #[Ju i,Ju o,Jd n,Jd r] 61));have qu:=Z B.size;clear B j;go_upto_region 8 with fail
    generalize w2.alloc (.cells #[Ju i,Ju o,Jd n,Jd r] 61)=W3 at y D ⊢;generalize w2.heap.size=K at D qu ⊢;have M:=Z (HK.o.below y.o);have ql:=Z (HT.o.trans (RdTouch.of_below A t y.o));obtain⟨⟨e0,e1,e2,e3⟩,-⟩:=QaC D.o
    by_cases qc:0<r
    ·have tr:decide ((r:Int)>0)=true:=qA (by omega)
     have zr:decide (0<r)=true:=qA qc;have HV:=Z (QxU C.F id (2-d) l _ HF.o qc);obtain⟨p,hp⟩:∃p,(Qcf C.F).df=p:=⟨_,rfl⟩;obtain⟨q,hq⟩:∃q,(Qcf C.F).dl=q:=⟨_,rfl⟩;have f:=Z (qE hp hq);have zi:Hi (∀W,Jw W3 W->Calls prog 37 #[Jp A.Rb,.agg #[Ju i,Ju o,Jd n,Jd r,Ju p,Ju q,Jd 65536]] W (QA2 w0 W A C t s true Z1 (Qny C p q (i,o,n,r)))):=Z (fun W hW=>Qpi (M.o.below hW) HH.o.1 HH.o.2.1 qs.o i o n r p q HX.o.1 (by rw[<-hp,<-hq];exact HX.o.2.2.2.2.2))
     have J:Hi (Jw W3 W3.drew):=Z (qF _ _).drew;have qe:Hi (Jx W3.drew K 0 (Ju i)/\Jx W3.drew K 1 (Ju o)/\Jx W3.drew K 2 (Jd n)/\Jx W3.drew K 3 (Jd r)/\Jx W3.drew A.Rb 8 (Ju p)/\Jx W3.drew A.Rb 9 (Ju q)):=Z (by have:=(QlB (M.o.below J.o) (Qad D.o J.o)).1;rw[hp,hq] at this;exact this)
     clear qc hp hq s4 s5;go_upto_region 11 with fail
     go_region_held3 (fun w'=>Jx w' K 0 (Ju i)/\Jx w' K 1 (Ju o)/\Jx w' K 2 (Jd n)/\Jx w' K 3 (Jd r)/\Jx w' A.Rb 8 (Ju p)/\Jx w' A.Rb 9 (Ju q)) (first|exact qe.o|exact zd.o)
      (first
       |(go_at_call 37;refine (zi.o _ J.o).mono ?_;rintro e w4 ⟨g,E,S,b,N',G',rfl,X,q2,q3,q4,q5,q6⟩;have HQ:=Z (qE X (qE q2 (qE q3 (qE q4 (qE q5 q6)))));have zd:Hi (w4.cell? (Ja K 0)=some (Ju i)/\w4.cell? (Ja K 1)=some (Ju o)/\w4.cell? (Ja K 2)=some (Jd n)/\w4.cell? (Ja K 3)=some (Jd r)/\w4.cell? (Ja A.Rb 8)=some (Ju p)/\w4.cell? (Ja A.Rb 9)=some (Ju q)):=Z (by
         have qp:Jh W3.drew K #[Ju i,Ju o,Jd n,Jd r] 61:=D.o;have zc:=(q6.stays (gsi qp).1 (fun hs=>by have:=HK.o.lts K hs;have:=qu.o;omega)).trans qp
         have:=(QlB X zc).1;rw[f.o.1,f.o.2] at this;exact this);clear X q2 q3 q4 q5 q6))
     all_goals
      go_wp2;go_ret3;obtain⟨X,q2,q3,q4,q5,q6⟩:=HQ.o;refine⟨g,E,S,b,N',s,true,Z1,G+G',rfl,X,HR.o.trans q2,by have:=HG.o;omega,fun h1 V=>by have:=HG.o;have:=q4 h1 V;omega,?_,(ql.o.trans (RdTouch.of_below A t J.o)).trans q6⟩
      rw[H.o.2.2,HV.o,f.o.1,f.o.2];exact q5
    ·obtain rfl:r=0:=by omega
     have tr:decide (((0:Nat):Int)>0)=false:=qB (by omega)
     clear qc
     by_cases qj:d=2
     ·subst qj
      have HV:=Z (QxW C.F id l _ HF.o rfl);clear s4 s5;go_wp2;go_ret3;refine⟨0,20,⟨#[]⟩,false,t,s,true,Z1,G,rfl,M.o,HR.o,by have:=HG.o;omega,fun _ _=>by have:=HG.o;omega,.inl ⟨rfl,?_,?_,?_⟩,ql.o⟩
      ·rw[H.o.2.2,HV.o]
      ·rw[H.o.2.2,HV.o]
      ·rw[H.o.2.2,HV.o]
     ·have td:((d:Int)+1==3)=false:=by rw[qI];omega
      obtain⟨c,hc⟩:∃c,2-d=c+1:=⟨1-d,by omega⟩
      have HV:=Z (QDa C.F id c l _ HF.o rfl);obtain⟨p,hp⟩:∃p,(Qcf C.F).lf=p:=⟨_,rfl⟩;obtain⟨q,hq⟩:∃q,(Qcf C.F).ll=q:=⟨_,rfl⟩;have f:=Z (qE hp (qE hq (qE hc qj)));rw[hp,hq] at s4;have qf:Hi (∀W,Jw W3 W->W.cell? (Ja K 0)=some (Ju i)/\W.cell? (Ja K 1)=some (Ju o)/\W.cell? (Ja K 2)=some (Jd n)/\W.cell? (Ja K 3)=some (Jd ((0:Nat):Int))/\W.cell? (Ja A.Rb 6)=some (Ju (p:Nat))/\W.cell? (Ja A.Rb 7)=some (Ju (q:Nat))):=Z (fun W hW=>by
       have:=(QlB (M.o.below hW) (Qad D.o hW)).2;rw[hp,hq] at this;exact this)
      have J:Hi (Jw W3 W3.drew):=Z (qF _ _).drew;have qe:=Z (qf.o _ J.o);have HA:Hi (Jw W3 ((W3.drew).alloc (.cells #[Ju i,Ju o,Jd n,Jd ((0:Nat):Int),Ju p,Ju q,Jd 65536] 113))):=Z (J.o.alloc J.o.size _);clear hp hq hc qj;go_upto_region 14 with fail
      clear e0 e1 e2 e3;go_region_held3 (fun w'=>Jx w' K 0 (Ju i)/\Jx w' K 1 (Ju o)/\Jx w' K 2 (Jd n)/\Jx w' K 3 (Jd ((0:Nat):Int))/\Jx w' A.Rb 6 (Ju p)/\Jx w' A.Rb 7 (Ju q)) (first|exact qe.o|exact qf.o _ ((qF _ _).alloc (qC _) _)|exact qf.o _ (J.o.alloc J.o.size _)) (fail)
      have U:Hi (((W3.alloc (.cells #[Ju i,Ju o,Jd n,Jd 0,Ju p,Ju q,Jd 65536] 113)).drew).heap[W3.heap.size]?=some (.cells #[Ju i,Ju o,Jd n,Jd 0,Ju p,Ju q,Jd 65536] 113 (0,0))):=Z (JI W3 _);have qd:Hi (Jw W3 ((W3.alloc (.cells #[Ju i,Ju o,Jd n,Jd 0,Ju p,Ju q,Jd 65536] 113)).drew)):=Z (((qF _ _).alloc (qC _) _).drew);generalize (W3.alloc (.cells #[Ju i,Ju o,Jd n,Jd 0,Ju p,Ju q,Jd 65536] 113)).drew=W4 at U qd ⊢;generalize W3.heap.size=Y at U ⊢;have qm:=Z (M.o.below qd.o);have za:=Z (ql.o.trans (RdTouch.of_below A t qd.o));clear qe HA qf J;obtain⟨c0,c1,c2,c3,c4,c5,c6⟩:=Qhh U.o;obtain⟨P,hP⟩:∃P,Qdz q 65536 (i,o,n,0)=P:=⟨_,rfl⟩;have ze:Hi (∀W,Calls prog 38 #[.agg #[Ju i,Ju o,Jd n,Jd 0,Ju p,Ju q,Jd 65536]] W (JB (Ji (P:Nat)) W)):=Z (fun W=>by
       have:=QkZ i o n 0 p q 65536 (by omega) W
       rw[hP] at this;exact this)
      have zo:Hi (∀W,Calls prog 40 #[.agg #[Ju i,Ju o,Jd n,Jd 0,Ju p,Ju q,Jd 65536]] W (JB (.agg #[Ju ((p+o:Nat):Int),Ju n]) W)):=Z (fun W=>Qq4 i o n 0 p q 65536 (by omega) (by omega) W)
      have R:=Z hP;clear hP;go_wp2_with fail;refine (ze.o _).mono ?_;rintro e w5 ⟨rfl,qg⟩;have qy:=Z (qm.o.below qg);have qi:=Z (za.o.trans (RdTouch.of_below A t qg));have zl:=Z (Qad U.o qg);have zm:Hi (w.heap.size<=w5.heap.size):=Z qi.o.t.size;clear qg c0 c1 c2 c3 c4 c5 c6 U qm za qd;have tw:IntKind.i64.wrap ((d:Int)+1+1)=(d:Int)+1+1:=by rw[JR];omega
      by_cases hP:P=0
      ·subst hP
       obtain⟨p1,p2⟩:=Qq5 _ _ _ R.o;have p1:o+n<=q:=p1;have p2:n<=65536:=p2;have qt:Hi (C.G (p+o,n)):=Z (by
        have qv:=R.o;have h1:=f.o.1;have V:=f.o.2.1;rw[<-V] at qv;have hg:=HH.o.2.1.g1 _ _ _ qx.o.1 qx.o.2 zk.o rfl qv;rw[<-h1];exact hg)
       obtain⟨T,hT⟩:∃T,QcL (Qee C.F (p+o) n)=T:=⟨_,rfl⟩;have zj:Hi (∀W,Jw w5 W->Calls prog 39 #[Jp A.Rb,.agg #[Ju ((p+o:Nat):Int),Ju n]] W (QAB w0 W A C t T)):=Z (fun W hW=>by
        have:=QeK (qy.o.below hW) HH.o.1 HH.o.2.1 qs.o (p+o,n) HX.o.2.2.1 (by show p+o+n<=C.f.size;omega) p2 qt.o
        rw[show QcL (Qee C.F (p+o,n).1 (p+o,n).2)=T from hT] at this;exact this)
       have qa:=Z hT;obtain⟨c0,c1,c2,c3,c4,c5,c6⟩:=Qhh zl.o;clear p1 p2 hT;go_wp2_with fail;refine (zo.o _).mono ?_;rintro e w6 ⟨rfl,qk⟩;have zf:=Z (zj.o _ qk);have zb:=Z (qi.o.trans (RdTouch.of_below A t qk));clear qk c0 c1 c2 c3 c4 c5 c6;go_wp2_with fail;refine zf.o.mono ?_;rintro e w7 ⟨g,E',v',N',zp,zg,Z',G',rfl,X,q2,q3,q4,q5⟩;have HQ:=Z (qE X (qE q2 (qE q3 (qE q4 q5))));clear X q2 q3 q4 q5;go_wp2_with fail;go_roundw
       case rel=>
        refine⟨d+1,E',by have:=f.o.2.2.2;omega,rfl,by go_num,?_,?_⟩
        ·obtain⟨X,q2,q3,q4,q5⟩:=HQ.o
         refine Z ⟨g,N',zp,zg,Z',G+G',X,HR.o.trans q2,by have:=HG.o;omega,zb.o.trans q5,?_⟩
         have zn:2-(d+1)=c:=by have:=f.o.2.2.1;omega
         have hv:=HV.o;rw[f.o.1,f.o.2.1,JJ (fun x=>x R.o)] at hv
         have m:=H.o.2.2;rw[f.o.2.2.1,hv] at m;rcases q4 with⟨z1,z2,z3⟩|z
         ·by_cases L:E'=0
          ·obtain⟨z4,z5⟩:=z3 L
           have I:(QcL (Qee C.F (p+o) n)).1=0:=by rw[qa.o,<-z2];exact L
           obtain⟨d1,d2,-⟩:=Qqp _ I;rw[JJ (fun x=>x I)] at m
           refine .inl ⟨z1,L,z4,H.o.1,(QcL (Qee C.F (p+o) n)).2,?_,d1,d2,by rw[zn];exact m,(p+o,n),qt.o,by show QcL (Qee C.F (p+o) n)=_;rw[<-I]⟩
           rw[qa.o];exact HoldsR.of_own z5
          ·have I:(QcL (Qee C.F (p+o) n)).1≠0:=by rw[qa.o,<-z2];exact L
           rw[JK I,qa.o,<-z2] at m;exact .inr (.inl ⟨z1,L,m⟩)
         ·exact .inr (.inr z)
        ·exact Z (qD zb.o.t.size HQ.o.2.2.2.2.t.size)
       case measure=>simp[intOf];omega
      ·have tP:((P:Int)==0)=false:=by rw[qI];omega
       have qn:=Z hP;clear hP;go_wp2_with fail;go_roundw
       case rel=>
        refine⟨d+1,P,by have:=f.o.2.2.2;omega,rfl,by go_num,?_,zm⟩
        refine Z ⟨0,t,s,true,Z1,G,qy.o,HR.o,by have:=HG.o;omega,qi.o,.inr (.inl ⟨rfl,qn.o,?_⟩)⟩
        have hv:=HV.o;rw[f.o.1,f.o.2.1,JK (by rw[R.o];exact qn.o),R.o] at hv
        have m:=H.o.2.2;rw[f.o.2.2.1,hv] at m;exact m
       case measure=>simp[intOf];omega
  ·have tE:((E:Int)==0)=false:=by rw[qI];omega
   have zh:=Z qh;clear qh;go_wp2;go_ret3;obtain⟨g,t,s,qb,Z1,G,hk,hr,hg,ht,hcs⟩:=HS.o;refine⟨g,E,⟨#[]⟩,false,t,s,qb,Z1,G,rfl,hk,hr,by omega,fun _ _=>by omega,?_,ht⟩
   rcases hcs with⟨-,h,-⟩|⟨h1,-,V⟩|⟨h1,V⟩
   ·exact JN h zh.o
   ·exact .inl ⟨h1,by rw[V],by rw[V],by rw[V]⟩
   ·exact .inr ⟨h1,V,rfl,rfl⟩
def QxK(W:World)(v:Value)(ids:List Nat):Prop:=HoldsR 1 W v ids.length (ids.map fun n=>Value.int .u64 (n:Nat))/\ids.length<=maxLen/\∀x∈ids,x<18446744073709551616
def QxP:Prop:=∀W,EnvT W->Calls prog 5 #[] W fun e w'=>e=.returned (.bool true)/\Jw W w'
def hO:JA:=⟨#[104]⟩
def pM:JA:=⟨#[47,109]⟩
theorem QEx:QhS hO.data.toList pM.data.toList=0:=by decide +kernel
theorem QCN(t r:Int)(c:0<=t)(a:t<=9007199254740991)(b:0<=r)(d:r<=8):QAb hO.data.toList pM.data.toList t r=0:=by
 unfold QAb;rw[JJ];rintro (h|h|h|h|h)
 ·exact h QEx
 all_goals omega
theorem QAa(t r:Int)(h:r<0\/8<r):QAb hO.data.toList pM.data.toList t r≠0:=by
 unfold QAb;rw[JK (by rcases h with h|h;exact .inr (.inr (.inr (.inl h)));exact .inr (.inr (.inr (.inr h))))]
 decide
def PlanB(w:World)(W:World)(v:Value)(B R M:Int)(fl:Value):Prop:=W.heap[w.heap.size]?=some (.cells #[v] 31 (0,0))/\W.heap[w.heap.size+1]?=some (.cells #[Ji B,Ji R,Ji M,fl] 25 (0,0))/\Jw w W
theorem PlanB.below{w W W':World}{v b:Value}{B R M:Int}(h:PlanB w W v B R M b)(a:Jw W W'):PlanB w W' v B R M b:=⟨Qad h.1 a,Qad h.2.1 a,Qaa h.2.2 a⟩
theorem PlanB.new(w:World)(v a:Value)(B R M:Int):PlanB w ((w.alloc (.cells #[v] 31)).alloc (.cells #[Ji B,Ji R,Ji M,a] 25)) v B R M a:=
 ⟨(J5 _ _ (by rw[qJ];exact Nat.lt_succ_self _)).trans (JI w _),by have:=JI (w.alloc (.cells #[v] 31)) (.cells #[Ji B,Ji R,Ji M,a] 25);rwa[qJ] at this,((qF _ _).alloc (qC _) _).alloc (by simp) _⟩
theorem PlanB.at{w W:World}{v a:Value}{B R M:Int}(h:PlanB w W v B R M a):W.cell? (Ja w.heap.size 0)=some v/\W.cell? (Ja (w.heap.size+1) 0)=some (Ji B)/\W.cell? (Ja (w.heap.size+1) 1)=some (Ji R)/\W.cell? (Ja (w.heap.size+1) 2)=some (Ji M)/\W.cell? (Ja (w.heap.size+1) 3)=some a:=
 ⟨(QaF h.1).1,(QaC h.2.1).1⟩
structure BegOk(L:List Itm)(B M:Int)(w w':World)(r:Value)(Bn Rn Mn:Nat)(A:Adr)(N:Net):Prop where
 b:B=Bn
 m:M=Mn
 b0:512<=Bn
 b1:Bn<=16257
 r8:Rn<=8
 r:r = Jp A.Rb
 s:RdS w w' A ⟨hO,pM,bs (Qgy L Bn),Rn,Mn,QkJ L Bn⟩ N 0 false []
 n:N.Ok
 lg:N.lg = []
 nn:N.n=0
 a:N.a=0
def QC6(L:List Itm)(B M:Int)(w:World)(e:Ending)(w':World):Prop:=
 ∃r n b,e=.returned (.tuple #[r,n,.bool b])/\Jw w w'/\((b=false/\r=.pointer none)\/(b=true/\∃Bn Rn Mn A N,BegOk L B M w w' r Bn Rn Mn A N))
theorem Qt0(L:List Itm)(a:Option Addr)(c:Nat)(B R M:Int)(v:Value)(h:List Flt)(w:World)(J:ItmsOk L)(hI:ItmB w (.slice a L.length c) L)(p:QdI w v h) :
  Calls prog 7 #[.agg #[.slice a L.length c],.agg #[Ji B,Ji R,Ji M,v]] w (QC6 L B M w):=by
 obtain⟨fa,fc,hve,-⟩:=p.1.len;subst hve;have d:=Z (PlanB.new w (.slice a L.length c) (.slice fa h.length fc) B R M);obtain⟨c0,d0,d1,d2,d3⟩:=d.o.at
 by_cases hB:B<512\/16257<B
 ·have i:=Z (fun W=>Qvs a L.length c B ⟨#[123,125]⟩ W hB)
  clear hB J hI p;go_enter func7,ntmps7;go_wp2_with fail;refine (i.o _).mono ?_;rintro e w1 ⟨rfl,g⟩;have b:=Z (d.o.below g);clear g c0 d0 d1 d2 d3;go_wp2;go_ret3;exact⟨_,_,false,rfl,b.o.2.2,.inl ⟨rfl,rfl⟩⟩
 have N:512<=B:=by omega
 have qe:B<=16257:=by omega
 obtain⟨l,rfl⟩:=Int.eq_ofNat_of_zero_le (a:=B) (by omega)
 have i:=Z (fun W (X:Jw w W)=>Qma L a c l ⟨#[123,125]⟩ W J (hI.below X) (by omega) (by omega) rfl)
 have G:=Z (fun W (X:Jw w W)=>QBO _ h 60 W (by decide) (p.1.below X) p.2.2)
 have n:Hi (512<=l/\l<=16257):=Z ⟨by omega,by omega⟩
 have Y:=Z J;have r:=Z p;clear hB N qe J hI p;go_enter func7,ntmps7;go_wp2_with fail;refine (i.o _ d.o.2.2).mono ?_;rintro e w1 ⟨rfl,g⟩;have b:=Z (d.o.below g);clear g c0 d0 d1 d2 d3 i d;obtain⟨c0,d0,d1,d2,d3⟩:=b.o.at;go_wp2_with fail;refine (G.o _ b.o.2.2).mono ?_;rintro e qi ⟨rfl,D⟩;obtain rfl:=D.symm;clear D G;cases T:Qmg h 60
 ·obtain⟨hn60,h300⟩:=QyE T
  have qf:=Z (QCw r.o.2.1 h300);have y:=Z (QnW _ h w1 (r.o.1.below b.o.2.2) (by omega))
  have HN:=Z hn60;obtain⟨F,hF⟩:∃F,bs (Qgy L l)=F:=⟨_,rfl⟩;have qj:F.size<=12000:=by rw[<-hF,Qaq];exact Qe3 L l Y.o (by have:=n.o.1;omega)
  have HF:=Z hF;rw[hF];clear hF h300 hn60;go_wp2_with fail;refine y.o.mono ?_;rintro e w2 ⟨a2,c2,rfl,I,H⟩;have k:=Z (b.o.below H);have s:=Z (Qy1 hO pM F _ h w2 QEx (HoldsC.of_own I) (by have:=HN.o;omega))
  clear H I c0 d0 d1 d2 d3 y b;obtain⟨c0,d0,d1,d2,d3⟩:=k.o.at;go_wp2_with fail;refine s.o.mono ?_;rintro e w3 C;obtain⟨P,rv,rfl,-,hk3,hb3⟩:=KL.new k.o.2.2 C;have j:=Z (k.o.below hb3);have qh:=Z hk3;clear C hk3 hb3 c0 d0 d1 d2 d3 k s;obtain⟨c0,d0,d1,d2,d3⟩:=j.o.at
  by_cases hR:R<0\/8<R
  ·have qc:=Z (QmK P hO pM (F.size:Int) R w3 (QAa _ _ hR))
   go_wp2_with fail;refine qc.o.mono ?_;rintro e K ⟨rfl,f⟩;have qg:=Z (Qaa j.o.2.2 f);clear f c0 d0 d1 d2 d3;go_wp2;go_ret3;exact⟨_,_,false,rfl,qg.o,.inl ⟨rfl,rfl⟩⟩
  ·obtain⟨q,rfl⟩:=Int.eq_ofNat_of_zero_le (a:=R) (by omega)
   have qb:q<=8:=by omega
   have x:=Z (QwO w P hO pM (F.size:Int) (q:Int) hO pM F h [] 0 rv (.slice none 0 0) w3 qh.o (QCN _ _ (by omega) (by omega) (by omega) (by omega)))
   clear hR;go_wp2_with fail;refine x.o.mono ?_;rintro e K ⟨Cb,rfl,E,f,-⟩;have z:=Z (j.o.below f);have U:=Z E;clear f E c0 d0 d1 d2 d3 j x;obtain⟨c0,d0,d1,d2,d3⟩:=z.o.at
   by_cases O:M<0\/64<M
   ·have S:=Z (Qku Cb M O K)
    clear O;go_wp2_with fail;refine S.o.mono ?_;rintro e w5 ⟨rfl,D⟩;obtain rfl:=D.symm;clear D c0 d0 d1 d2 d3;go_wp2;go_ret3;exact⟨_,_,false,rfl,z.o.2.2,.inl ⟨rfl,rfl⟩⟩
   ·obtain⟨t,rfl⟩:=Int.eq_ofNat_of_zero_le (a:=M) (by omega)
    have qd:=Z (QsE w K Cb P ⟨hO,pM,F,q,t,QkJ L l⟩ ⟨h,[],0,0,0,rv,.slice none 0 0⟩ (by show t<=64;omega) U.o)
    clear O;go_wp2_with fail;refine qd.o.mono ?_;rintro e w5 ⟨A,-,-,rfl,m,-⟩;have qa:=Z m.fc.k.bel;have V:Hi (BegOk L (l:Int) (t:Int) w w5 (Jp A.Rb) l q t A ⟨h,[],0,0,0,rv,.slice none 0 0⟩):=Z ⟨rfl,rfl,n.o.1,n.o.2,qb,rfl,by rw[HF.o];exact m,⟨qf.o,(by have:=HN.o;show h.length<=1000;omega),qL _,qL _,qL _⟩,rfl,rfl,rfl⟩
    clear m c0 d0 d1 d2 d3;go_wp2;go_ret3;exact⟨_,_,true,rfl,qa.o,.inr ⟨rfl,l,q,t,A,_,V.o⟩⟩
 ·go_wp2
  go_ret3;exact⟨_,_,false,rfl,b.o.2.2,.inl ⟨rfl,rfl⟩⟩
end
section
section
variable {w0 w w':World} {Xb Pb:Nat} {A:Adr} {C:Con} {N N':Net} {nx nx':Nat} {kn kn':Bool} {Zq Z':List (Key×Nat×List Ent)} {why:Nat}
theorem Qpl(k:RdS w0 w A C N nx kn Zq):Calls prog 12 #[Jp A.Rb] w fun e w'=>∃v,e=.returned v/\HoldsR 2 w' v Zq.length (QdB (Zq.map (·.1)))/\Jw w w':=by
 have c:=Z (QkS k.sh);have f:=k.cellS;clear k;go_enter func12,ntmps12;go_wp2_with fail;refine c.o.mono ?_;rintro e d ⟨v,rfl,a,b⟩;go_wp2;go_ret;exact⟨v,rfl,a,b⟩
end
end
section
theorem QqO{H:Type}{b:JT×Value->H}{W:World}{n:Nat}{cs:JV}{x:DataW H×List MemPlace}(h:DataW.trod b prog W 0 (fun _=>true) true n 43 cs=some x):∃k:Nat,cs = [Ju k]/\k<18446744073709551616:=by
 obtain⟨k,h1,-,h3⟩:=DataW.trod_int underlying43 h;have a:IntKind.u64.min<=k/\k<=IntKind.u64.max:=by simpa[Lit.wf] using h3
 simp[IntKind.min,IntKind.max,IntKind.signed,IntKind.bits] at a;refine⟨k.toNat,?_,by omega⟩
 rw[h1,Int.toNat_of_nonneg a.1]
theorem idsArg_of{H:Type}{y:JT×Value->H}{W:World}{b:Option Addr}{n c:Nat}{d:DataW H}{p:List MemPlace}
  (h:DataW.Trod y prog W 0 (fun _=>true) true 26 (.slice b n c) d p):∃ids,QxK W (.slice b n c) ids:=by
 obtain⟨fuel,l⟩:=h;rcases Go.Deep.open_slice underlying26 l with⟨hcs,_⟩|⟨a,len,cap,m,q,D,Pl,hcs,_,hl,hm,hmm,_,hi⟩
 ·simp[Value.cells] at hcs
  obtain⟨rfl,rfl,rfl⟩:=hcs;exact⟨[],HoldsR.empty 1 W none 0,by unfold maxLen;simp,fun f l=>by simp at l⟩
 ·simp[Value.cells] at hcs
  obtain⟨rfl,rfl,rfl⟩:=hcs;have A:prog.cellsOf 43=1:=by kernel_rfl
  have key:∀i,∃f:Nat,i<n->W.cell? (a.add (i*1))=some (Ju f)/\f<18446744073709551616:=by
   intro i
   by_cases t:i<n
   ·obtain⟨cs',hc',ht⟩:=hi i (by rw[hmm];simp;omega)
    rw[A] at hc';obtain⟨_,hcl,Qak⟩:=World.cells?_some hc';obtain⟨l0,e0,b0⟩:=QqO ht;have x:=Qak 0 (by omega)
    rw[Go.Deep.add_add] at x;subst e0;simp at x;exact⟨l0,fun _=>⟨by simpa using x,b0⟩⟩
   ·exact⟨0,fun h=>JN h t⟩
  obtain⟨g,hg⟩:=Classical.skolem.1 key;have hlen:((List.range n).map g).length=n:=by simp
  refine⟨(List.range n).map g,⟨by rw[qQ,hlen,Nat.mul_one],some a,c,by rw[hlen],by rw[hlen];exact hl,fun hne=>?_⟩,by rw[hlen];omega,?_⟩
  ·rw[hlen] at hne
   have z:=(hg 0 (by omega)).1
   obtain⟨b,o,sp⟩:=a;have v:sp=none:=by simpa[Addr.add] using World.cell?_spot z
   subst v;have B:∀k,((Ja b o):Addr).add k=(Ja b (o+k)):=fun k=>by unfold Addr.add;split<;>simp_all
   refine⟨b,o,rfl,by have:=World.block_lt_of_cell? _ _ z;simpa[Addr.add] using this,fun j u hj=>?_⟩
   have r:j<n:=by
    have:=(List.getElem?_eq_some_iff.1 hj).1;simpa using this
   have s:=(hg j r).1;rw[B,Nat.mul_one] at s;rw[s];simpa[List.getElem?_map,List.getElem?_range r] using hj
  ·intro f l
   obtain⟨i,hi',rfl⟩:=List.mem_map.1 l;exact (hg i (List.mem_range.1 hi')).2
end
section
theorem QDk(a b c d:Int)(w:World):(binOp .eql 45 (.agg #[Ju a,Ju b]) (.agg #[Ju c,Ju d])).run prog w=.ok (.bool (decide (a=c)&&decide (b=d))) w:=by
 have u4:=underlying43;have i:prog.underlying 45=some (.struct (prog.fieldsOf 45)):=by kernel_rfl
 have h:prog.stoodInHeld 45=false:=by kernel_rfl
 rw[run_eql_struct,show (10000:Nat)=9998+2 from rfl,run_equalIn_agg w (9998+1) 45 _ _ i h];simp only[Program.fieldsOf,underlying45];go_simp
 by_cases f:a=c
 ·by_cases g:b=d
  ·simp[f,g]
  ·simp[f,g]
 ·simp[f]
theorem QuQ(a:BinOp)(x y:Operand)(xs b:JW)(w:World):(eqGuard a 45 x y (.agg xs) (.agg b)).run prog w=.ok () w:=
 run_eqGuard_agg w a 45 x y xs b (by kernel_rfl)
theorem QCg(a b c d:Int)(h:¬(a=c/\b=d))(w:World):(binOp .neq 58 (.agg #[Ju a,Ju b]) (.agg #[Ju c,Ju d])).run prog w=.ok (.bool true) w:=by
 rw[run_neq_struct,show (10000:Nat)=9998+2 from rfl,QjF];have e:(decide (a=c)&&decide (b=d))=false:=by
  rw[Bool.eq_false_iff,ne_eq,JD,qO,qO];exact h
 rw[e];rfl
theorem Qwj(a:BinOp)(x y:Operand)(xs b:JW)(w:World):(eqGuard a 58 x y (.agg xs) (.agg b)).run prog w=.ok () w:=
 run_eqGuard_agg w a 58 x y xs b (by kernel_rfl)
theorem QBD(L:List Itm)(B:Nat)(h:ItmsOk L)(f:64<=B)(d:B<=16257):∃(H:Hdr) (c j l i:JA),H=QfQ L B/\c.size<=1000000/\QcL c.data.toList=(0,Qg6 L B)/\∀W,Calls prog 9 #[Jt (bs (Qgy L B))] W (JB (.tuple #[.agg (Qby H),.agg #[Jt c,Jt j,Jt l,Jt i],Ji 0]) W):=by
 have p:=Qe3 L B h f;obtain⟨b1,b2⟩:=Qq3 L B h f d;obtain⟨q1,q2,q3,q4,q5,q6,q7,q8⟩:=Qit L B;obtain⟨g1,g2,g3⟩:=Qhf L h;obtain⟨s1,s2,s3,s4⟩:=Qd2 (rwM L).2 B g1 g2 f;have m:QcL (Qb3 (Qg6 L B))=(0,Qg6 L B):=QmQ _ s1.row s1.entOk (by have:(Qb3 (Qg6 L B)).length<=B:=s2;omega)
 have n:(Qgy L B).length=127+(Qb3 (Qg6 L B)).length+2+(QaS (rwM L).2 B).2.1.length+(rwM L).1.flatten.length:=by
  unfold Qgy Qg6;simp only[qG,QdQ];have:([123,125]:JL).length=2:=rfl;omega
 obtain⟨H,hH⟩:∃H,H=QfQ L B:=⟨_,rfl⟩;rw[<-hH] at q1 q2 q3 q4 q5 q6 q7 q8 b1;obtain⟨S,hS⟩:∃S,bs (Qgy L B)=S:=⟨_,rfl⟩;have a:S.data.toList=Qgy L B:=by rw[<-hS,Qai]
 have g:S.size=(Qgy L B).length:=by rw[<-hS,Qaq]
 refine⟨H,S.extract (QhL H 0).1 ((QhL H 0).1+(QhL H 0).2),S.extract (QhL H 1).1 ((QhL H 1).1+(QhL H 1).2),S.extract (QhL H 2).1 ((QhL H 2).1+(QhL H 2).2),S.extract (QhL H 3).1 ((QhL H 3).1+(QhL H 3).2),hH,?_,?_,fun W=>?_⟩
 ·rw[ByteArray.size_extract,g]
  omega
 ·rw[Qex,a,hH]
  show QcL (((Qgy L B).drop (QfQ L B).rf).take (QfQ L B).rl)=_;rw[Qq2];exact m
 ·rw[hS]
  have q:=Qk9 S H W (by omega) (by rw[a];exact b1) (by rw[a];exact b2) (fun k hk=>by
   have b:k=0\/k=1\/k=2\/k=3:=by omega
   rw[g];rcases b with rfl|rfl|rfl|rfl
   ·show H.rf+H.rl<=_;omega
   ·show H.mf+H.ml<=_;omega
   ·show H.lf+H.ll<=_;omega
   ·show H.df+H.dl<=_;omega)
  exact q
def InK(H:Hdr)(R:List Ent)(k:Key):Prop:=k=(H.rf,H.rl)\/∃(q:Nat) (hq:q<R.length),R[q].2.2.2=0/\k=(H.lf+R[q].2.1,R[q].2.2.1)
theorem QzB{L:List Itm}{B:Nat}{H:Hdr}{k:Key}(a:H=QfQ L B)(h:QkJ L B k):InK H (Qg6 L B) k:=by
 subst a;rcases h with h|⟨e,he,h0,hk⟩
 ·exact .inl h
 ·obtain⟨q,hq,rfl⟩:=List.mem_iff_getElem.1 he
  exact .inr ⟨q,hq,h0,hk⟩
theorem Qyr(L:List Itm)(B:Nat)(h:ItmsOk L)(a:64<=B):(Qg6 L B).length<=1000000/\∀(q:Nat) (b:q<(Qg6 L B).length),(QfQ L B).lf+(Qg6 L B)[q].2.1<18446744073709551616/\(Qg6 L B)[q].2.2.1<18446744073709551616:=by
 obtain⟨q1,q2,q3,q4,q5,q6,q7,q8⟩:=Qit L B;obtain⟨g1,g2,g3⟩:=Qhf L h;obtain⟨s1,s2,s3,s4⟩:=Qd2 (rwM L).2 B g1 g2 a;have c:=Qe3 L B h a;have d:(Qgy L B).length=127+(Qb3 (Qg6 L B)).length+2+(QaS (rwM L).2 B).2.1.length+(rwM L).1.flatten.length:=by
  unfold Qgy Qg6;simp only[qG,QdQ];have:([123,125]:JL).length=2:=rfl;omega
 refine⟨by have:(Qg6 L B).length<=_:=s1.len;omega,fun q b=>?_⟩
 have:=(Qf9 _ (Ql0 _ s1.row _ (JG b))).2.1;unfold Qds at this;exact⟨by omega,by omega⟩
def RootAt(W:World)(g:Nat)(R:List Ent):Prop:=∃cs,W.heap[g]?=some (.cells cs 61 (0,0))/\∀(i:Nat) (u:Value),(Qan R)[i]?=some u->cs[i]?=some u
theorem RootAt.of_own{w:World}{b0 g n c:Nat}{R:List Ent}(h:w.ownsRow b0 61 4 (Jl g n c) n (Qan R)):RootAt w g R:=by
 have a:=fun g hg=>h.cells (g:=g) hg
 rcases h.2 with⟨h,-⟩|⟨g',cap,cur,he,-,hg,-⟩
 ·cases h
 ·injection he with e1 e2 e3
  injection e1 with e1
  injection e1 with e1
  subst e1;refine⟨cur,hg,fun i u hu=>?_⟩
  have:=a g rfl i u hu;rw[QeH] at this;exact (QaJ hg i).symm.trans this
theorem RootAt.at{W:World}{g:Nat}{R:List Ent}(h:RootAt W g R)(q:Nat)(a:q<R.length):W.cell? (Ja g (q*4))=some (Ju R[q].1)/\W.cell? (Ja g (q*4+1))=some (Ju R[q].2.1)/\W.cell? (Ja g (q*4+2))=some (Jd R[q].2.2.1)/\W.cell? (Ja g (q*4+3))=some (Jd R[q].2.2.2):=by
 obtain⟨cs,h1,h2⟩:=h;obtain⟨x,y,z,u⟩:=Qed R q a;exact⟨(QaJ h1 _).trans (h2 _ _ x),(QaJ h1 _).trans (h2 _ _ y),(QaJ h1 _).trans (h2 _ _ z),(QaJ h1 _).trans (h2 _ _ u)⟩
theorem RdS.far{w0 w:World}{A:Adr}{C:Con}{N:Net}{c:Nat}{b:Bool}{d:List (Key×Nat×List Ent)}(k:RdS w0 w A C N c b d){i:Nat}{D:JW}{T:JT}(h:w.heap[i]?=some (.cells D T (0,0)))(a:T=47\/T=61):¬RdT A N.lv i:=by
 obtain⟨n1,n2,n3,-⟩:=k.fc.other (.inl ⟨_,_,h,by rcases a with rfl|rfl<;>decide,by rcases a with rfl|rfl<;>decide,by rcases a with rfl|rfl<;>decide,by rcases a with rfl|rfl<;>decide⟩)
 obtain⟨hi,mi,hb⟩:=k.sh.blk;obtain⟨gr,n,hm,-⟩:=k.sh.map;obtain⟨g,old,new,hl,hmm,-⟩:=k.sh.lru;obtain⟨hd,hr,-⟩:=k.rd;obtain⟨es,ck,hm⟩:=hm.blk;obtain⟨es2,ck2,hmm⟩:=hmm.blk;rintro ((hx|hx)|(hx|(hx|hx)|hx)|hx)
 ·rcases hx with hx|hx
  ·exact n1 hx
  ·exact n3 hx
 ·exact n2 hx
 ·rw[hx,hb] at h
  simp only[J8,Obj.cells.injEq] at h;rcases a with rfl|rfl<;>exact JN h.2.1 (by decide)
 ·rw[hx,hl] at h
  simp only[J8,Obj.cells.injEq] at h;rcases a with rfl|rfl<;>exact JN h.2.1 (by decide)
 ·rw[hx,hmm] at h;cases h
 ·rw[hx,hm] at h;cases h
 ·rw[hx,hr] at h
  simp only[J8,Obj.cells.injEq] at h;rcases a with rfl|rfl<;>exact JN h.2.1 (by decide)
structure CaSt(W0:World)(A:Adr)(C:Con)(Hb g:Nat)(H:Hdr)(R:List Ent)(k:Nat)(N:Net)(nx:Nat)(kn:Bool)(Zq:List (Key×Nat×List Ent))(W:World):Prop where
 s:RdS W0 W A C N nx kn Zq
 n:N.Ok
 lg:N.lg.length<=40*k
 nn:N.n<=40*k
 a:N.a<=40*k
 h:W.heap[Hb]?=some (.cells (Qby H) 47 (0,0))
 r:RootAt W g R
section
variable {W0 W W':World} {A:Adr} {C:Con} {Hb g:Nat} {H:Hdr} {R:List Ent} {k:Nat} {N N':Net} {nx nx':Nat} {kn kn':Bool} {Zq Z':List (Key×Nat×List Ent)}
theorem CaSt.below(c:CaSt W0 A C Hb g H R k N nx kn Zq W)(a:Jw W W'):CaSt W0 A C Hb g H R k N nx kn Zq W':=
 ⟨c.s.below a,c.n,c.lg,c.nn,c.a,Qad c.h a,let ⟨cs,h1,h2⟩:=c.r;⟨cs,Qad h1 a,h2⟩⟩
theorem CaSt.tile(c:CaSt W0 A C Hb g H R k N nx kn Zq W)(j:k<=20)(m:C.R<=8){G E:Nat}(s:RdS W0 W' A C N' nx' kn' Z')(r:NetRun C.R N N' G E)(d:G<=4)(t:RdTouch A N N' W W'):CaSt W0 A C Hb g H R (k+1) N' nx' kn' Z' W':=by
 have l:=c.lg;have n:=c.nn;have a:=c.a;have h:G*(C.R+1)<=4*9:=Nat.mul_le_mul d (by omega)
 have p:=r.g';have b:=r.lg;have i:=r.n';have f:=r.le;refine⟨s,c.n.run r (by omega),by omega,by omega,by omega,?_,?_⟩
 ·exact (t.stays (gsi c.h).1 (c.s.far c.h (.inl rfl))).trans c.h
 ·obtain⟨cs,h1,h2⟩:=c.r
  exact⟨cs,(t.stays (gsi h1).1 (c.s.far h1 (.inr rfl))).trans h1,h2⟩
end
structure KeptK(H:Hdr)(R:List Ent)(M:Nat)(K:List Key):Prop where
 len:K.length<=M
 inn:∀k∈K,InK H R k
 nd:K.Nodup
 sm:K.length<=64
theorem CaSt.kept{d W:World}{A:Adr}{C:Con}{f g:Nat}{H:Hdr}{R:List Ent}{k:Nat}{N:Net}{h:Nat}{b:Bool}{a:List (Key×Nat×List Ent)}(c:CaSt d A C f g H R k N h b a W)(i:∀x,C.G x->InK H R x):KeptK H R C.most (a.map (·.1)):=by
 obtain⟨_,_,_,_,_,hl⟩:=c.s.sh.lru;refine⟨by rw[qQ];exact c.s.sh.len,fun x hx=>?_,?_,by rw[qQ];exact qD c.s.sh.len c.s.sh.mst⟩
 ·obtain⟨z,hz,rfl⟩:=List.mem_map.1 hx
  exact i _ (c.s.ok z hz).2.2
 ·have:=hl.nd
  rw[List.map_map] at this;exact this
end
section
def QxJ(W:World)(v:Value)(l:List Itm):Prop:=HoldsR 2 W v l.length (QaZ l)/\l.length<=maxLen/\∀x∈l,x.2.size<=maxLen
theorem Qmc{w W:World}{B R M:Int}{a:Value}(h:W.heap[w.heap.size]?=some (.cells #[Ji B,Ji R,Ji M,a] 25 (0,0))):W.cell? (Ja w.heap.size 0)=some (Ji B)/\W.cell? (Ja w.heap.size 1)=some (Ji R)/\W.cell? (Ja w.heap.size 2)=some (Ji M)/\W.cell? (Ja w.heap.size 3)=some a:=(QaC h).1
theorem QlG(v:Value)(l:List Itm)(B R M:Int)(fv:Value)(fl:List Flt)(iv:Value)(f:List Nat)(w:World)(hE:EnvT w)(hv:QxJ w v l)(hf:QdI w fv fl)(hi:QxK w iv f)(hA:QxP) :
  Calls prog 3 #[v,.agg #[Ji B,Ji R,Ji M,fv],iv] w (JB (.bool true) w):=by
 obtain⟨hv1,hv2,hv3⟩:=hv;obtain⟨hi1,hi2,hi3⟩:=hi;obtain⟨fa,fc,hfe,-⟩:=hf.1.len;subst hfe;obtain⟨ia,ic,hie,-⟩:=hi1.len;subst hie;unfold maxLen at hi2;obtain⟨W0,hW0⟩:∃W0,w.alloc (.cells #[Ji B,Ji R,Ji M,.slice fa fl.length fc] 25)=W0:=⟨_,rfl⟩;have qi:Jw w W0:=by rw[<-hW0];exact (qF _ _).alloc (qC _) _
 have zz:W0.heap[w.heap.size]?=some (.cells #[Ji B,Ji R,Ji M,.slice fa fl.length fc] 25 (0,0)):=by rw[<-hW0];exact JI w _
 have HO:=Z (QDq v l W0 (hv1.below qi) hv2 hv3);have qp:=Z (fun h1 h2=>QEw v l W0 (hv1.below qi) h1 h2)
 have HF:=Z (fun W (I:Jw w W)=>(⟨hf.1.below I,hf.2⟩:QdI W (.slice fa fl.length fc) fl))
 have HE:=Z (fun W (I:Jw w W)=>hE.below I)
 have HI:=Z (fun W (I:Jw w W)=>hi1.below I)
 have HA:=Z hA;have D:=Z (qE qi zz);have zO:=Z hW0;clear hE hv1 hv2 hv3 hf hi1 hi3 hA qi zz hW0;go_enter func3,ntmps3;go_wp2_with fail;rw[zO.o];refine HO.o.mono ?_;rintro e w1 ⟨b,rfl,I,hw⟩;obtain rfl:=hw.symm;clear hw HO;cases b
 ·have HL:=Z (I rfl)
  clear I
  by_cases zU:20<f.length
  ·have t1:decide ((f.length:Int)>20)=true:=qA (by omega)
   go_wp2_with fail;refine (HA.o _ (HE.o _ D.o.1)).mono ?_;rintro e w2 ⟨rfl,i⟩;have a:=Z (Qaa D.o.1 i);clear i;go_wp2;go_ret;exact⟨rfl,a.o⟩
  have t1:decide ((f.length:Int)>20)=false:=qB (by omega)
  go_wp2_with fail;refine (qp.o HL.o.1 HL.o.2).mono ?_;rintro e w2 ⟨cv,L,d,rfl,hL,qw,i⟩;obtain⟨ca,cc,hce,-⟩:=qw.2;subst hce;obtain⟨cn,hcn⟩:∃cn,L.length=cn:=⟨_,rfl⟩;have zo:=Z hcn;have Y:=Z hL;obtain⟨W3,hW3⟩:∃W3,w2.alloc (.cells #[.slice ca cn cc] 31)=W3:=⟨_,rfl⟩;have qn:Jw w2 W3:=by rw[<-hW3];exact (qF _ _).alloc (qC _) _
  have zH:W3.heap[w2.heap.size]?=some (.cells #[.slice ca cn cc] 31 (0,0)):=by rw[<-hW3];exact JI w2 _
  have qh:=Z (qw.1.below qn);have c:=Z (qE (Qaa D.o.1 (Qaa i qn)) (qE (Qad (Qad D.o.2 i) qn) zH));obtain⟨c0,c1,c2,c3⟩:=Qmc c.o.2.1;obtain⟨d0,-⟩:=QaF c.o.2.2;have zk:=Z (Qt0 L ca cc B R M _ fl W3 hL qh.o (HF.o _ c.o.1));rw[hcn] at zk ⊢;clear hL qw i qn zH hcn D qp HL;subst hW3;go_wp2_with fail;refine zk.o.mono ?_;rintro e w4 ⟨r,n,b,rfl,t,hr⟩;have s:=Z t;rcases hr with⟨rfl,rfl⟩|⟨rfl,Bn,Rn,Mn,A,N,hok⟩
  ·clear t c0 c1 c2 c3 d0
   go_wp2_with fail;refine (HA.o _ (HE.o _ (Qaa c.o.1 s.o))).mono ?_;rintro e w5 ⟨rfl,qb⟩;have qm:=Z (Qaa c.o.1 (Qaa s.o qb));clear qb;go_wp2;go_ret;exact⟨rfl,qm.o⟩
  ·have e1:=hok.b
   have e2:=hok.m;have e3:=hok.r;subst e1 e2 e3;have za:=Z (qE (Qaa c.o.1 t) (qE (Qad c.o.2.1 t) (Qad c.o.2.2 t)));have ze:=Z (qh.o.below t);generalize w2.alloc (.cells #[.slice ca cn cc] 31)=W3 at c t hok s qh;clear qh c0 c1 c2 c3 d0;have J:64<=Bn:=by have:=hok.b0;omega
   obtain⟨H,p0,p1,p2,p3,hH,hp0,QGW,hcut⟩:=QBD L Bn Y.o J hok.b1;have HC:=Z (QBE L Bn Rn Mn hO pM Y.o J hok.b1 hok.r8 QEx);have HG:=Z (fun x (hx:QkJ L Bn x)=>QzB hH hx)
   have qk:=Z (Qyr L Bn Y.o J);rw[<-hH] at qk;have qr:=Z (Qma L ca cc Bn ⟨#[123,125]⟩ w4 Y.o ze.o hok.b0 hok.b1 rfl);rw[zo.o] at qr;have zj:=Z hcut;have qd:=Z (fun W=>Qf7 p0 W hp0)
   rw[QGW] at qd;generalize Qg6 L Bn=RT at HG qk qd;have z:=Z (qE hok.s (qE hok.n (qE hok.lg (qE hok.nn (qE hok.a hok.r8)))));obtain⟨c0,c1,c2,c3⟩:=Qmc za.o.2.1;obtain⟨d0,-⟩:=QaF za.o.2.2;clear QGW hcut hp0 J t hH hok;go_wp2_with fail;refine qr.o.mono ?_;rintro e w5 ⟨rfl,qb⟩;have qm:=Z qb;clear qb c0 c1 c2 c3 d0 qr;go_wp2_with fail;refine (zj.o _).mono ?_;rintro e T ⟨rfl,qa⟩;obtain⟨V5,hV5⟩:∃V5,T.alloc (.cells qZ 47)=V5:=⟨_,rfl⟩;obtain⟨B5,hB5⟩:∃B5,T.heap.size=B5:=⟨_,rfl⟩;obtain⟨V6,hV6⟩:∃V6,V5.alloc (.cells #[Jt ⟨#[]⟩,Jt ⟨#[]⟩,Jt ⟨#[]⟩,Jt ⟨#[]⟩] 48)=V6:=⟨_,rfl⟩;obtain⟨B6,hB6⟩:∃B6,V5.heap.size=B6:=⟨_,rfl⟩;have zl:Jw T V6:=by rw[<-hV6,<-hV5];exact ((qF _ _).alloc (qC _) _).alloc (by simp) _
   have zm:B5<B6:=by rw[<-hB6,<-hV5,qJ,hB5];omega
   have k5:V6.heap[B5]?=some (.cells qZ 47 (0,0)):=by
    rw[<-hV6,<-hB5];refine (JQ _ _ _ (by rw[hB6,hB5];exact zm)).trans ?_
    rw[<-hV5];exact JI T _
   have k6:V6.heap[B6]?=some (.cells #[Jt ⟨#[]⟩,Jt ⟨#[]⟩,Jt ⟨#[]⟩,Jt ⟨#[]⟩] 48 (0,0)):=by rw[<-hV6,<-hB6];exact JI V5 _
   obtain⟨V7,hV7⟩:∃V7,V6.setRow B5 (Qby H)=V7:=⟨_,rfl⟩;have zf:V7.heap[B5]?=some (.cells (Qby H) 47 (0,0)):=by rw[<-hV7];exact setRow_heap _ _ _ _ _ _ k5
   have zD:V7.heap[B6]?=some (.cells #[Jt ⟨#[]⟩,Jt ⟨#[]⟩,Jt ⟨#[]⟩,Jt ⟨#[]⟩] 48 (0,0)):=by rw[<-hV7];exact (setRow_other _ _ _ _ (by omega)).trans k6
   obtain⟨V8,hV8⟩:∃V8,V7.setRow B6 #[Jt p0,Jt p1,Jt p2,Jt p3]=V8:=⟨_,rfl⟩;have zx:V8.heap[B6]?=some (.cells #[Jt p0,Jt p1,Jt p2,Jt p3] 48 (0,0)):=by rw[<-hV8];exact setRow_heap _ _ _ _ _ _ zD
   have zg:V8.heap[B5]?=some (.cells (Qby H) 47 (0,0)):=by rw[<-hV8];exact (setRow_other _ _ _ _ (by omega)).trans zf
   have zw:Jw T V8:=by rw[<-hV8,<-hV7];exact Qba (Qba zl (by omega) _) (by omega) _
   have HZ:=Z (qE k5 k6);have qy:Hi (B6≠B5):=Z (by omega)
   have H8:=Z (qE (Qaa qm.o (Qaa qa zw)) zg);obtain⟨⟨d0,d1,d2,d3⟩,-⟩:=QaC zx;clear qa zl zm k5 k6 zf zD zg zx zw;go_wp2_with (first
    |(refine wpList_store_row rfl 47 (.tmp 14) (.tmp 64) rfl B5 (Qby H) rfl rfl 47 #[Ju 0,Ju 0,Ju 0,Ju 0,Ju 0,Ju 0,Ju 0,Ju 0,Ju 0,Ju 0,Ju 0,.bool false,Jb 0,Jb 0,Jb 0,Ji 0,Ji 0,Ji 0,Ji 0,Ji 0,Ji 0,Ji 0,Ji 0,Ji 0] HZ.o.1 (by kernel_rfl) rfl (by simp[Qby,Value.oneCell']) ?_)
    |(refine wpList_store_row rfl 48 (.tmp 15) (.tmp 65) rfl B6 #[Jt p0,Jt p1,Jt p2,Jt p3] rfl rfl 48 #[Jt ⟨#[]⟩,Jt ⟨#[]⟩,Jt ⟨#[]⟩,Jt ⟨#[]⟩] (by first|exact (setRow_other _ _ _ _ qy.o).trans HZ.o.2|(rw[<-hV7];exact (setRow_other _ _ _ _ qy.o).trans HZ.o.2)) (by kernel_rfl) rfl (by simp[Value.oneCell']) ?_))
   refine (qd.o _).mono ?_;rintro e w9 ⟨a9,v9,rfl,qu,-,zB⟩;obtain⟨g,rfl,ho9⟩:=zB rfl;have zA:=Z (RootAt.of_own ho9);have zr:=Z (Qad H8.o.2 qu);have qo:=Z (Qaa H8.o.1 qu);have HK:=Z HG.o;have qz:Hi (∃N nx kn Zq,CaSt W3 A ⟨hO,pM,bs (Qgy L Bn),Rn,Mn,QkJ L Bn⟩ B5 g H RT 0 N nx kn Zq w9):=Z ⟨N,0,false,[],z.o.1.below qo.o,z.o.2.1,by rw[z.o.2.2.1];exact qL _,by rw[z.o.2.2.2.1];exact qL _,by rw[z.o.2.2.2.2.1];exact qL _,zr.o,zA.o⟩
   have qe:=Z (qE c.o.1 c.o.2.1);have zh:=z.o.2.2.2.2.2;clear qu zB ho9 d0 d1 d2 d3 hV5 hV6 hV7 hV8 hB5 hB6 z H8 HZ qy qm qd zj zr zA qo za ze c Y HK s;generalize hC:(⟨hO,pM,bs (Qgy L Bn),Rn,Mn,QkJ L Bn⟩:Con)=C at HC qz;have zK:C.most=Mn:=by rw[<-hC]
   have zM:C.R<=8:=by rw[<-hC];exact zh
   have zL:Hi (∀x,C.G x->InK H RT x):=Z (by rw[<-hC];exact HG.o)
   clear hC HG zo zh;go_wp2_with fail;go_loopw [20] (fun u wr=>∃k:Nat,k<=f.length/\u = Ji k/\Hi (∃N nx kn Zq,CaSt W3 A C B5 g H RT k N nx kn Zq wr)) (fun u _=>f.length-(intOf u).toNat)
   case atStart=>exact⟨0,qL _,rfl,qz⟩
   case round=>
    clear qz;obtain⟨k,hk,rfl,qc⟩:=hrel;obtain⟨N,nx,kn,Zq,hst⟩:=qc.o;clear qc
    by_cases qs:k<f.length
    ·have zu:=Qaa qe.o.1 hst.s.fc.k.bel
     obtain⟨bb,oo,cc',hvv,hle,hltb,Qak⟩:=(HI.o _ zu).at (by omega)
     have y0:Jx wr bb (oo+k) (Ju ((f[k]'qs:Nat):Int)):=Qak k _ (by rw[List.getElem?_map,qU qs];rfl)
     injection hvv with q1 q2 q3
     subst q1;obtain⟨x,hx⟩:∃x,f[k]'qs=x:=⟨_,rfl⟩;rw[hx] at y0;have zn:=Z (Qpn hst.s (HE.o _ qe.o.1) HC.o hst.n (by have:=hst.lg;have:=hst.nn;have:=hst.a;omega) x)
     have qc:=Z hst;clear hst zu Qak hle hltb q2 q3 hx;go_wp2_with fail;refine zn.o.mono ?_;rintro e w5 ⟨zQ,E,S,b,N',zZ,zR,Z',G,rfl,qx,zE,hg,-,-,ht⟩;have qv:=Z (qc.o.tile (by omega) zM qx zE (by omega) ht)
     have zG:=Z (Qpl qx);have X:=Z (qv.o.kept zL.o);clear qx zE hg ht zn qc y0;go_wp2_with fail;refine zG.o.mono ?_;rintro e T ⟨kv,rfl,qg,qa⟩;have qf:=Z (qv.o.below qa);obtain⟨K,hK⟩:∃K,Z'.map (·.1)=K:=⟨_,rfl⟩
     have zs:Z'.length=K.length:=by rw[<-hK,qQ]
     rw[hK,zs] at qg;rw[hK,zK] at X;obtain⟨ka,kc,hke,-⟩:=qg.len;subst hke;obtain⟨V,hnz⟩:∃V,K.length=V:=⟨_,rfl⟩;have zt:Hi (∀j (hj:j<K.length),∃b o c',Value.slice ka K.length kc=.slice (some (Ja b o)) K.length c'/\∀W,Jw T W->W.cell? (Ja b (o+j*2))=some (Ju K[j].1)/\W.cell? (Ja b (o+j*2+1))=some (Ju K[j].2)):=Z (fun j hj=>by
      obtain⟨b,o,c',h1,-,h3,h4⟩:=qg.at (by omega)
      obtain⟨x,y⟩:=QnX K j hj;exact⟨b,o,c',h1,fun W hW=>⟨(hW.cell (p:=(Ja b (o+j*2))) h3).trans (h4 _ _ x),(hW.cell (p:=(Ja b (o+j*2+1))) h3).trans (h4 _ _ y)⟩⟩)
     have zi:Hi (∀W,Jw T W->W.cell? (Ja B5 0)=some (Ju H.rf)/\W.cell? (Ja B5 1)=some (Ju H.rl)/\W.cell? (Ja B5 4)=some (Ju H.lf)):=Z (fun W hW=>by
      have h:=Qad qf.o.h hW;exact⟨QaJ h 0,QaJ h 1,QaJ h 4⟩)
     have zN:Hi (∀W,Jw T W->RootAt W g RT):=Z (fun W hW=>(qf.o.below hW).r)
     have qt:=Z hnz;obtain⟨c0,c1,c2,c3⟩:=Qmc (Qad qe.o.2 qf.o.s.fc.k.bel);have zP:V<=64:=by rw[<-hnz];exact X.o.sm
     have zX:V<=Mn:=by rw[<-hnz];exact X.o.len
     have tM:decide ((V:Int)>(Mn:Int))=false:=qB (by omega)
     have zS:¬Mn<V:=by omega
     rw[hnz];clear qg qa zG qv hK zs hnz;go_wp2_with fail;go_loopw [22] (fun u W=>∃j:Nat,j<=V/\u = Ji j/\Hi (Jw T W)) (fun u _=>V-(intOf u).toNat)
     case atStart=>exact⟨0,qL _,rfl,Z (qF _ _)⟩
     case round=>
      obtain⟨j,hj,rfl,HBj⟩:=hrel
      by_cases zd:j<V
      ·have ql:j<K.length:=by rw[qt.o];exact zd
       obtain⟨kb,ko,kc',hvv,QFD⟩:=zt.o j ql;rw[qt.o] at hvv;injection hvv with q1 q2 q3
       subst q1;have zC:=X.o.inn K[j] (JG ql);have zF:Hi (∀m (hm:m<K.length),m<j->¬(((K[m].1:Nat):Int)=((K[j].1:Nat):Int)/\((K[m].2:Nat):Int)=((K[j].2:Nat):Int))):=Z (fun m hm O h=>by
        exact JN (Prod.ext (by omega) (by omega)) (List.pairwise_iff_getElem.1 X.o.nd m j hm ql O))
       obtain⟨U,hf0⟩:∃U,K[j].1=U:=⟨_,rfl⟩;obtain⟨P,hl0⟩:∃P,K[j].2=P:=⟨_,rfl⟩;rw[hf0,hl0] at QFD;simp only[hf0,hl0] at zF;have zI:=Z QFD;have zb:Hi ((decide ((U:Int)=(H.rf:Int))&&decide ((P:Int)=(H.rl:Int)))=true\/∃(q:Nat) (hq:q<RT.length),0<=q/\RT[q].2.2.2=0/\U=H.lf+RT[q].2.1/\P=RT[q].2.2.1):=Z (by
        rcases zC with h|⟨q,hq,h0,h⟩
        ·have a1:U=H.rf:=by rw[<-hf0,h]
         have a2:P=H.rl:=by rw[<-hl0,h]
         exact .inl (by rw[a1,a2];simp)
        ·exact .inr ⟨q,hq,qL _,h0,by rw[<-hf0,h],by rw[<-hl0,h]⟩)
       obtain⟨k0,k1⟩:=QFD wr HBj.o;obtain⟨h0,h1,-⟩:=zi.o wr HBj.o;have he:=QDk;have zc:=QuQ;clear zC QFD q2 q3 hf0 hl0 c0 c1 c2 c3;go_wp2_with fail;go_quiet (fail);clear k0 k1 h0 h1 he zc;go_wp2_with fail;generalize (decide ((U:Int)=(H.rf:Int))&&decide ((P:Int)=(H.rl:Int)))=b0 at zb ⊢;have zV:=qk.o.1;go_loopw [23,24] (fun u23 u24 W2=>∃(m:Nat) (b:Bool),m<=RT.length/\u24 = Ji m/\u23=.bool b/\Hi (b=true\/∃(q:Nat) (hq:q<RT.length),m<=q/\RT[q].2.2.2=0/\U=H.lf+RT[q].2.1/\P=RT[q].2.2.1)/\Hi (Jw T W2)) (fun _ u24 _=>RT.length-(intOf u24).toNat)
       case atStart=>exact⟨0,b0,qL _,rfl,rfl,zb,Z (HBj.o.trans ⟨rfl,rfl,rfl,qC _,fun _ _=>rfl⟩)⟩
       case round=>
        clear zb;obtain⟨m,b,hm,rfl,rfl,I,a⟩:=hrel
        by_cases zq:m<RT.length
        ·obtain⟨r0,r1,r2,r3⟩:=(zN.o wr a.o).at m zq
         obtain⟨k0,k1⟩:=zI.o wr a.o;obtain⟨h0,h1,h4⟩:=zi.o wr a.o;obtain⟨hs1,hs2⟩:=qk.o.2 m zq;have zp:b=false->¬(RT[m].2.2.2=0/\U=H.lf+RT[m].2.1/\P=RT[m].2.2.1)->∃(q:Nat) (hq:q<RT.length),m+1<=q/\RT[q].2.2.2=0/\U=H.lf+RT[q].2.1/\P=RT[q].2.2.1:=fun hbf hn=>by
          rcases I.out with h|⟨q,hq,hmq,h⟩
          ·rw[hbf] at h;cases h
          ·refine⟨q,hq,?_,h⟩
           rcases Nat.lt_or_ge m q with g|g
           ·exact g
           ·obtain rfl:q=m:=by omega
            exact JN h hn
         have qj:=Z zp;obtain⟨e1,he1⟩:∃e1,RT[m].2.1=e1:=⟨_,rfl⟩;obtain⟨e2,he2⟩:∃e2,RT[m].2.2.1=e2:=⟨_,rfl⟩;obtain⟨e3,he3⟩:∃e3,RT[m].2.2.2=e3:=⟨_,rfl⟩;rw[he1] at r1 hs1;rw[he2] at r2 hs2;rw[he3] at r3;simp only[he1,he2,he3] at qj;have ja:IntKind.u64.wrap ((H.lf:Int)+(e1:Int))=(H.lf:Int)+(e1:Int):=by rw[JU];omega
         have zT:IntKind.u64.wrap (e2:Int)=(e2:Int):=by rw[JU];omega
         clear r0 zp I he1 he2 he3 h0 h1;cases b
         ·by_cases g3:e3=0
          ·have tz:((e3:Int)==0)=true:=by simp[g3]
           by_cases g1:U=H.lf+e1
           ·have tf:((U:Int)==(H.lf:Int)+(e1:Int))=true:=by rw[beq_iff_eq];omega
            clear g1
            by_cases g2:P=e2
            ·have tl:((P:Int)==(e2:Int))=true:=by rw[beq_iff_eq];omega
             clear g2;go_wp2_with fail;go_quiet (fail);go_wp2_with fail;go_roundw
             case rel=>exact⟨m+1,true,by omega,by go_num,rfl,Z (.inl rfl),Z (a.o.trans ⟨rfl,rfl,rfl,qC _,fun _ _=>rfl⟩)⟩
             case measure=>simp[intOf];omega
            ·have tl:((P:Int)==(e2:Int))=false:=QoF g2
             go_wp2_with fail;go_quiet (fail);go_wp2_with fail;go_roundw
             case rel=>exact⟨m+1,false,by omega,by go_num,rfl,Z (.inr (qj.o trivial (fun h=>g2 h.2.2))),Z (a.o.trans ⟨rfl,rfl,rfl,qC _,fun _ _=>rfl⟩)⟩
             case measure=>simp[intOf];omega
           ·have tf:((U:Int)==(H.lf:Int)+(e1:Int))=false:=by rw[qI];omega
            go_wp2_with fail;go_quiet (fail);go_wp2_with fail;go_roundw
            case rel=>exact⟨m+1,false,by omega,by go_num,rfl,Z (.inr (qj.o trivial (fun h=>g1 h.2.1))),Z (a.o.trans ⟨rfl,rfl,rfl,qC _,fun _ _=>rfl⟩)⟩
            case measure=>simp[intOf];omega
          ·have tz:((e3:Int)==0)=false:=QoF (b:=0) g3
           go_wp2_with fail;go_quiet (fail);go_wp2_with fail;go_roundw
           case rel=>exact⟨m+1,false,by omega,by go_num,rfl,Z (.inr (qj.o trivial (fun h=>g3 h.1))),Z (a.o.trans ⟨rfl,rfl,rfl,qC _,fun _ _=>rfl⟩)⟩
           case measure=>simp[intOf];omega
         ·go_wp2_with fail
          go_quiet (fail);go_wp2_with fail;go_roundw
          case rel=>exact⟨m+1,true,by omega,by go_num,rfl,Z (.inl rfl),Z (a.o.trans ⟨rfl,rfl,rfl,qC _,fun _ _=>rfl⟩)⟩
          case measure=>simp[intOf];omega
        ·obtain rfl:m=RT.length:=by omega
         have zJ:b=true:=by
          rcases I.out with h|⟨q,hq,hmq,-⟩
          ·exact h
          ·omega
         subst zJ;clear I;go_wp2_with fail;go_loopw [23,25] (fun u23 u25 W4=>∃m:Nat,m<=j/\u25 = Ji m/\u23=.bool true/\Hi (Jw T W4)) (fun _ u25 _=>j-(intOf u25).toNat)
         case atStart=>exact⟨0,qL _,rfl,rfl,a⟩
         case round=>
          clear a;obtain⟨m,hm,rfl,rfl,s⟩:=hrel
          by_cases O:m<j
          ·have zv:m<K.length:=Nat.lt_trans O ql
           obtain⟨kb',ko',kc'',hvv,QFD⟩:=zt.o m zv;rw[qt.o] at hvv;injection hvv with q1 q2 q3
           injection q1 with q1
           injection q1 with q1 q4
           subst q1 q4;obtain⟨k0,k1⟩:=zI.o wr s.o;obtain⟨n0,n1⟩:=QFD wr s.o;have hne:=QCg _ _ _ _ (zF.out m zv O);have zc:=Qwj;have zW:m<V:=by omega
           generalize K[m].1=f1 at n0 hne;generalize K[m].2=l1 at n1 hne;clear QFD q2 q3;go_wp2_with fail;go_quiet (fail);go_wp2_with fail;go_roundw
           case rel=>exact⟨m+1,by omega,by go_num,rfl,Z (s.o.trans ⟨rfl,rfl,rfl,qC _,fun _ _=>rfl⟩)⟩
           case measure=>simp[intOf];omega
          ·have O:m=j:=by omega
           subst O;go_wp2_with fail;go_roundw
           case rel=>exact⟨m+1,zd,by go_num,s⟩
           case measure=>simp[intOf];omega
      ·obtain rfl:j=V:=by omega
       clear c0 c1 c2 c3;go_wp2_with fail;go_roundw
       case rel=>exact⟨k+1,by omega,by go_num,Z ⟨_,_,_,_,qf.o.below HBj.o⟩⟩
       case measure=>simp[intOf];omega
    ·obtain rfl:k=f.length:=by omega
     have HB:=Z (Qaa qe.o.1 hst.s.fc.k.bel);clear hst;go_wp2_with fail;refine (HA.o _ (HE.o _ HB.o)).mono ?_;rintro e zY ⟨rfl,qq⟩;have zy:=Z (Qaa HB.o qq);clear qq;go_wp2;go_ret;exact⟨rfl,zy.o⟩
 ·clear I
  go_wp2_with fail;refine (HA.o _ (HE.o _ D.o.1)).mono ?_;rintro e w2 ⟨rfl,i⟩;have a:=Z (Qaa D.o.1 i);clear i;go_wp2;go_ret;exact⟨rfl,a.o⟩
theorem Qtf{l:List Itm}{i:Nat}{u:Value}(h:(QaZ l)[i]?=some u):∃(j:Nat) (a:j<l.length),(i=j*2/\u = Ju l[j].1)\/(i=j*2+1/\u = Jt l[j].2):=by
 have c:=(List.getElem?_eq_some_iff.1 h).1;rw[Qb8] at c;have a:i/2<l.length:=by omega
 obtain⟨x,y⟩:=Qe9 l (i/2) a;have b:i=i/2*2\/i=i/2*2+1:=by omega
 refine⟨i/2,a,?_⟩;rcases b with e|e
 ·rw[<-e,h] at x
  exact .inl ⟨e,qS x⟩
 ·rw[<-e,h] at y
  exact .inr ⟨e,qS y⟩
theorem QDA{α:Type}{l:List α}(h:l.length=2):∃a b,l = [a,b]:=by
 match l,h with
 |[a,b],_=>exact⟨a,b,rfl⟩
theorem QDy{α:Type}{l:List α}(h:l.length=4):∃a b c d,l = [a,b,c,d]:=by
 match l,h with
 |[a,b,c,d],_=>exact⟨a,b,c,d,rfl⟩
theorem Qtx{H:Type}{b:JT×Value->H}{W:World}{n:Nat}{c:Value}{x:DataW H×List MemPlace}(h:DataW.trod b prog W 0 (fun _=>true) true n 23 [c]=some x):∃l,QdI W c l:=by
 rcases Go.Deep.open_slice underlying23 h with⟨hcs,_⟩|⟨a,len,cap,m,q,D,Pl,hcs,_⟩
 ·injection hcs with h1 _
  subst h1;exact Qh2 (d:=x.1) (p:=x.2) ⟨n,h⟩
 ·injection hcs with h1 _
  subst h1;exact Qh2 (d:=x.1) (p:=x.2) ⟨n,h⟩
theorem itsArg_of{H:Type}{s:JT×Value->H}{W:World}{b:Option Addr}{n c:Nat}{d:DataW H}{p:List MemPlace}
  (h:DataW.Trod s prog W 0 (fun _=>true) true 22 (.slice b n c) d p):∃l,QxJ W (.slice b n c) l:=by
 obtain⟨fuel,t⟩:=h;rcases Go.Deep.open_slice underlying22 t with⟨hcs,_⟩|⟨a,len,cap,m,q,D,Pl,hcs,_,hl,hm,hmm,_,hi⟩
 ·simp[Value.cells] at hcs
  obtain⟨rfl,rfl,rfl⟩:=hcs;exact⟨[],HoldsR.empty 2 W none 0,by unfold maxLen;simp,fun f t=>by simp at t⟩
 ·simp[Value.cells] at hcs
  obtain⟨rfl,rfl,rfl⟩:=hcs;have K:prog.cellsOf 64=2:=by kernel_rfl
  have y:prog.cellsOf 43=1:=by kernel_rfl
  have C:prog.cellsOf 9=1:=by kernel_rfl
  have key:∀i,∃f:Itm,i<n->W.cell? (a.add (i*2))=some (Ju f.1)/\W.cell? (a.add (i*2+1))=some (Jt f.2)/\f.2.size<=maxLen:=by
   intro i
   by_cases v:i<n
   ·obtain⟨cs',hc',ht⟩:=hi i (by rw[hmm];simp;omega)
    rw[K] at hc';obtain⟨_,hcl,Qak⟩:=World.cells?_some hc';obtain⟨xs,k,_,_,hcl2,hxl,hg⟩:=DataW.trod_struct underlying64 ht;obtain⟨u0,u1,rfl⟩:=QDA hcl;have z:xs.length=2:=hxl;obtain⟨z0,z1,rfl⟩:=QDA z;have G:DataW.trod s prog W 0 (fun _=>true) true k 43 (([u0,u1].drop 0).take (prog.cellsOf 43))=some z0:=hg 0 _ rfl
    have E:DataW.trod s prog W 0 (fun _=>true) true k 9 (([u0,u1].drop 1).take (prog.cellsOf 9))=some z1:=hg 1 _ rfl
    rw[y] at G;rw[C] at E;obtain⟨l0,e0,-⟩:=QqO G;obtain⟨l1,e1,b1⟩:=QqU E;have A:=Qak 0 (by omega)
    have B:=Qak 1 (by omega)
    rw[Go.Deep.add_add] at A B;simp at e0 e1 A B;subst e0 e1;exact⟨(l0,l1),fun _=>⟨A,B,b1⟩⟩
   ·exact⟨(0,⟨#[]⟩),fun h=>JN h v⟩
  obtain⟨g,hg⟩:=Classical.skolem.1 key;have hlen:((List.range n).map g).length=n:=by simp
  refine⟨(List.range n).map g,⟨by rw[Qb8],some a,c,by rw[hlen],by rw[hlen];exact hl,fun hne=>?_⟩,by rw[hlen];omega,?_⟩
  ·rw[hlen] at hne
   have J:=(hg 0 (by omega)).1
   obtain⟨b,o,sp⟩:=a;have x:sp=none:=by simpa[Addr.add] using World.cell?_spot J
   subst x;have I:∀k,((Ja b o):Addr).add k=(Ja b (o+k)):=fun k=>by unfold Addr.add;split<;>simp_all
   refine⟨b,o,rfl,by have:=World.block_lt_of_cell? _ _ J;simpa[Addr.add] using this,fun i u hu=>?_⟩
   obtain⟨j,hj,hx⟩:=Qtf hu;rw[hlen] at hj;have r:=hg j hj;rw[I,I] at r;rw[List.getElem_map,List.getElem_range] at hx;rcases hx with⟨rfl,rfl⟩|⟨rfl,rfl⟩
   ·exact r.1
   ·exact r.2.1
  ·intro f t
   obtain⟨i,hi',rfl⟩:=List.mem_map.1 t;exact (hg i (List.mem_range.1 hi')).2.2
theorem plan_open{H:Type}{a:JT×Value->H}{W:World}{r:Reach}{b0:Nat}{v:Value}{d:DataW H}{p:List MemPlace}(y:Value.okWide prog W r b0 25 v)(h:DataW.Trod a prog W 0 (fun _=>true) true 25 v d p) :
  ∃(f i j:Int) (x:Value),v=.agg #[Ji f,Ji i,Ji j,x]/\∃l,QdI W x l:=by
 obtain⟨cs,rfl,hsz⟩:=Go.WideShapes.okWide_struct underlying25 y;have n:cs.toList.length=4:=by rw[Array.length_toList];exact hsz.trans (show prog.cellsOf 25=4 by kernel_rfl)
 obtain⟨c0,c1,c2,c3,hc⟩:=QDy n;obtain rfl:cs=#[c0,c1,c2,c3]:=by rw[<-Array.toList_inj,hc]
 obtain⟨fuel,hf⟩:=h;obtain⟨xs,k,_,_,_,hxl,hg⟩:=DataW.trod_struct underlying25 hf;have q:xs.length=4:=hxl;obtain⟨z0,z1,z2,z3,rfl⟩:=QDy q;have b:prog.cellsOf 3=1:=by kernel_rfl
 have s:prog.cellsOf 23=1:=by kernel_rfl
 have m:DataW.trod a prog W 0 (fun _=>true) true k 3 (([c0,c1,c2,c3].drop 0).take (prog.cellsOf 3))=some z0:=hg 0 _ rfl
 have g:DataW.trod a prog W 0 (fun _=>true) true k 3 (([c0,c1,c2,c3].drop 1).take (prog.cellsOf 3))=some z1:=hg 1 _ rfl
 have c:DataW.trod a prog W 0 (fun _=>true) true k 3 (([c0,c1,c2,c3].drop 2).take (prog.cellsOf 3))=some z2:=hg 2 _ rfl
 have t:DataW.trod a prog W 0 (fun _=>true) true k 23 (([c0,c1,c2,c3].drop 3).take (prog.cellsOf 23))=some z3:=hg 3 _ rfl
 rw[b] at m g c;rw[s] at t;simp at m g c t;obtain⟨f,e0,-⟩:=Qiz m;obtain⟨i,e1,-⟩:=Qiz g;obtain⟨j,e2,-⟩:=Qiz c;obtain⟨l,hl⟩:=Qtx t;simp at e0 e1 e2;subst e0 e1 e2;exact⟨f,i,j,c3,rfl,l,hl⟩
theorem QyP(a:Int)(t:JA)(w:World):(binOp .neq 67 (.agg #[Ju a,Jt t]) (.agg #[Ju a,Jt t])).run prog w=.ok (.bool false) w:=by
 have u1:=underlying43;have u2:=underlying9;have c:prog.underlying 67=some (.struct (prog.fieldsOf 67)):=by kernel_rfl
 have b:prog.stoodInHeld 67=false:=by kernel_rfl
 rw[run_neq_struct,show (10000:Nat)=9998+2 from rfl,run_equalIn_agg w (9998+1) 67 _ _ c b];simp only[Program.fieldsOf,underlying67];go_simp
theorem Qtm(a:BinOp)(x y:Operand)(xs b:JW)(w:World):(eqGuard a 67 x y (.agg xs) (.agg b)).run prog w=.ok () w:=
 run_eqGuard_agg w a 67 x y xs b (by kernel_rfl)
theorem QpY(i:Nat)(t:JA)(r s:Nat)(l b:Value)(w:World)(v:OneItem i t r l w)(q:OneItem i t s b w) :
  Calls prog 48 #[l,b] w (JB (.bool true) w):=by
 obtain⟨g,c,rfl,hoA⟩:=v;obtain⟨h,d,rfl,hoB⟩:=q;obtain⟨cs,hg,e0,e1⟩:=Qpw hoA;obtain⟨ds,hh,f0,f1⟩:=Qpw hoB;have m:=Z (qE ((QaJ hg 0).trans e0) ((QaJ hg 1).trans e1));have f:=Z (qE ((QaJ hh 0).trans f0) ((QaJ hh 1).trans f1));have a:=Z (qE (gsi hg).1 (gsi hh).1);have n:=Qtm;have hne:=QyP (i:Int) t;clear hoA hoB hg hh e0 e1 f0 f1;go_enter func48,ntmps48;go_wp2_with fail;go_loopw [13] (fun j wr=>∃k:Nat,k<=1/\j = Ji k/\Jw w wr) (fun j _=>1-(intOf j).toNat)
 case atStart=>exact⟨0,by omega,rfl,qF _ _⟩
 case round=>
  obtain⟨k,hk,rfl,hb⟩:=hrel;rcases (by omega:k=0\/k=1) with rfl|rfl
  ·have z:=(hb.cell (p:=(Ja g 0)) a.o.1).trans m.o.1
   have A:=(hb.cell (p:=(Ja g 1)) a.o.1).trans m.o.2;have x:=(hb.cell (p:=(Ja h 0)) a.o.2).trans f.o.1;have y:=(hb.cell (p:=(Ja h 1)) a.o.2).trans f.o.2;go_wp2_with fail;go_quiet (fail);go_wp2_with fail;go_roundw
   case rel=>exact⟨1,by omega,by go_num,(hb.trans ⟨rfl,rfl,rfl,qC _,fun _ _=>rfl⟩)⟩
   case measure=>simp[intOf]
  ·go_wp2
   go_ret;exact⟨rfl,hb⟩
theorem QkH(i:Nat)(t:JA)(n p:Nat)(f b:Value)(w:World)(q:OneItem i t n f w)(m:OneItem i t p b w) :
  Calls prog 15 #[.agg #[f],.agg #[b]] w (JB (.bool true) w):=by
 obtain⟨W,hW⟩:∃W,(w.alloc (.cells #[f] 31)).alloc (.cells #[b] 31)=W:=⟨_,rfl⟩;have a:Jw w W:=by rw[<-hW];exact ((qF _ _).alloc (qC _) _).alloc (by simp) _
 have k:W.heap[w.heap.size]?=some (.cells #[f] 31 (0,0)):=by rw[<-hW];exact (JQ _ _ _ (by simp)).trans (JI w _)
 have l:W.heap[w.heap.size+1]?=some (.cells #[b] 31 (0,0)):=by
  have:=JI (w.alloc (.cells #[f] 31)) (.cells #[b] 31);rw[qJ] at this;rw[<-hW];exact this
 obtain⟨r1,-⟩:=QaF k;obtain⟨r2,-⟩:=QaF l;have s:=Z (QpY i t n p f b W (q.below a) (m.below a));have r:=Z a;obtain⟨g,c,rfl,-⟩:=q;obtain⟨h,d,rfl,-⟩:=m;clear k l a;go_enter func15,ntmps15;go_wp2_with fail;refine s.o.mono ?_;rintro e x ⟨rfl,j⟩;have v:=Z j;clear j;go_wp2;go_ret;exact⟨rfl,Qaa r.o v.o⟩
structure OneArc(s:JA)(h:Hdr)(i n:Nat)(t p0 p1 p2:JA):Prop where
 hs:s.size<=1000000
 hD:Qoa s.data.toList=h
 hE:Qf3 s.data.toList=0
 hin:∀k,k<4->(QhL h k).1+(QhL h k).2<=s.size
 e0:s.extract h.rf (h.rf+h.rl)=p0
 e1:s.extract h.mf (h.mf+h.ml)=p1
 e2:s.extract h.lf (h.lf+h.ll)=p2
 e3:s.extract h.df (h.df+h.dl)=t
 hroot:QcL p0.data.toList=(0,[(i,0,n,1)])
 hp:p0.size<=1000000
theorem OneEnt.low{b c i d a f:Nat}{u:Value}{W:World}(h:OneEnt b c i d f u W)(j:a<=f):OneEnt b c i d a u W:=by
 obtain⟨g,cp,rfl,ho⟩:=h;exact⟨g,cp,rfl,QaM ho j⟩
theorem Qkx(s:JA)(h:Hdr)(i n:Nat)(t c k j:JA)(w:World)(a:OneArc s h i n t c k j)(V:Qcj (i,0,n,1)=0)(D:Qbt (i,0,n,1)) :
  Calls prog 46 #[Jt s] w fun e w'=>∃u,e=.returned (.tuple #[u,Jt t,Ji 0])/\OneEnt i 0 n 1 w.heap.size u w'/\Jw w w':=by
 obtain⟨p3,hp3⟩:∃p3,t=p3:=⟨_,rfl⟩;have M:Hi (∀W,Calls prog 9 #[Jt s] W (JB (.tuple #[.agg #[Ju h.rf,Ju h.rl,Ju h.mf,Ju h.ml,Ju h.lf,Ju h.ll,Ju h.df,Ju h.dl,Ju h.ad,Ju h.en,Ju h.co,.bool h.cl,Jb h.inn,Jb h.out,Jb h.kd,Ji h.z0,Ji h.z1,Ji h.x0,Ji h.y0,Ji h.x1,Ji h.y1,Ji h.zo,Ji h.lo,Ji h.la],.agg #[Jt c,Jt k,Jt j,Jt p3],Ji 0]) W)):=Z (fun W=>by
  have q:=Qk9 s h W a.hs a.hD a.hE a.hin;have e:Qci s h 4=#[Jt c,Jt k,Jt j,Jt p3]:=by rw[<-a.e0,<-a.e1,<-a.e2,<-hp3,<-a.e3];rfl
  rw[e] at q;exact q)
 have x:=Z (fun W=>Qf7 c W a.hp)
 rw[a.hroot] at x;have P:=Z (fun (v:Value) (p:JA) W (X:EntB W v [(i,0,n,1)])=>QjC i 0 n 1 v p W X V D (by omega))
 rw[hp3];clear V D a hp3;go_enter func46,ntmps46;go_wp2_with fail;refine (M.o _).mono ?_;rintro e r ⟨rfl,d⟩;have Y:=Z d;obtain⟨V5,hV5⟩:∃V5,r.alloc (.cells qZ 47)=V5:=⟨_,rfl⟩;obtain⟨B5,hB5⟩:∃B5,r.heap.size=B5:=⟨_,rfl⟩;obtain⟨V6,hV6⟩:∃V6,V5.alloc (.cells #[Jt ⟨#[]⟩,Jt ⟨#[]⟩,Jt ⟨#[]⟩,Jt ⟨#[]⟩] 48)=V6:=⟨_,rfl⟩;obtain⟨B6,hB6⟩:∃B6,V5.heap.size=B6:=⟨_,rfl⟩;have A:Jw r V6:=by rw[<-hV6,<-hV5];exact ((qF _ _).alloc (qC _) _).alloc (by simp) _
 have H:B5<B6:=by rw[<-hB6,<-hV5,qJ,hB5];omega
 have U:V6.heap[B5]?=some (.cells qZ 47 (0,0)):=by
  rw[<-hV6,<-hB5];refine (JQ _ _ _ (by rw[hB6,hB5];exact H)).trans ?_
  rw[<-hV5];exact JI r _
 have L:V6.heap[B6]?=some (.cells #[Jt ⟨#[]⟩,Jt ⟨#[]⟩,Jt ⟨#[]⟩,Jt ⟨#[]⟩] 48 (0,0)):=by rw[<-hV6,<-hB6];exact JI V5 _
 obtain⟨V7,hV7⟩:∃V7,V6.setRow B5 #[Ju h.rf,Ju h.rl,Ju h.mf,Ju h.ml,Ju h.lf,Ju h.ll,Ju h.df,Ju h.dl,Ju h.ad,Ju h.en,Ju h.co,.bool h.cl,Jb h.inn,Jb h.out,Jb h.kd,Ji h.z0,Ji h.z1,Ji h.x0,Ji h.y0,Ji h.x1,Ji h.y1,Ji h.zo,Ji h.lo,Ji h.la]=V7:=⟨_,rfl⟩;have C:V7.heap[B6]?=some (.cells #[Jt ⟨#[]⟩,Jt ⟨#[]⟩,Jt ⟨#[]⟩,Jt ⟨#[]⟩] 48 (0,0)):=by rw[<-hV7];exact (setRow_other _ _ _ _ (by omega)).trans L
 obtain⟨V8,hV8⟩:∃V8,V7.setRow B6 #[Jt c,Jt k,Jt j,Jt p3]=V8:=⟨_,rfl⟩;have f:V8.heap[B6]?=some (.cells #[Jt c,Jt k,Jt j,Jt p3] 48 (0,0)):=by rw[<-hV8];exact setRow_heap _ _ _ _ _ _ C
 have E:Jw r V8:=by rw[<-hV8,<-hV7];exact Qba (Qba A (by omega) _) (by omega) _
 have O:=Z (qE U L);have B:Hi (B6≠B5):=Z (by omega)
 have K:=Z (qE (Qaa d E) f);obtain⟨⟨d0,d1,d2,d3⟩,-⟩:=QaC f;clear d A H U L C f E;go_wp2_with (first
  |(refine wpList_store_row rfl 47 (.tmp 5) (.tmp 14) rfl B5 #[Ju h.rf,Ju h.rl,Ju h.mf,Ju h.ml,Ju h.lf,Ju h.ll,Ju h.df,Ju h.dl,Ju h.ad,Ju h.en,Ju h.co,.bool h.cl,Jb h.inn,Jb h.out,Jb h.kd,Ji h.z0,Ji h.z1,Ji h.x0,Ji h.y0,Ji h.x1,Ji h.y1,Ji h.zo,Ji h.lo,Ji h.la] rfl rfl 47 #[Ju 0,Ju 0,Ju 0,Ju 0,Ju 0,Ju 0,Ju 0,Ju 0,Ju 0,Ju 0,Ju 0,.bool false,Jb 0,Jb 0,Jb 0,Ji 0,Ji 0,Ji 0,Ji 0,Ji 0,Ji 0,Ji 0,Ji 0,Ji 0] O.o.1 (by kernel_rfl) rfl (by simp[Value.oneCell']) ?_)
  |(refine wpList_store_row rfl 48 (.tmp 6) (.tmp 15) rfl B6 #[Jt c,Jt k,Jt j,Jt p3] rfl rfl 48 #[Jt ⟨#[]⟩,Jt ⟨#[]⟩,Jt ⟨#[]⟩,Jt ⟨#[]⟩] (by first|exact (setRow_other _ _ _ _ B.o).trans O.o.2|(rw[<-hV7];exact (setRow_other _ _ _ _ B.o).trans O.o.2)) (by kernel_rfl) rfl (by simp[Value.oneCell']) ?_))
 refine (x.o _).mono ?_;rintro e w2 ⟨a2,v2,rfl,b,-,y⟩;obtain⟨g2,rfl,ho2⟩:=y rfl;have G:=EntB.of_own (l:=[(i,0,n,1)]) ho2 (by simp)
 have N:=(b.block _ (gsi K.o.2).1).trans K.o.2;have m:=Z (qE (Qaa K.o.1 b) (qE N G));obtain⟨⟨b0,b1,b2,b3⟩,-⟩:=QaC N;clear b y ho2 G N d0 d1 d2 d3 hV5 hV6 hV7 hV8 hB5 hB6;go_wp2_with fail;refine (P.o _ _ _ m.o.2.2).mono ?_;rintro e R ⟨u,rfl,z,g⟩;have T:=(g.block _ (gsi m.o.2.1).1).trans m.o.2.1;have I:=Z (qE (m.o.1.trans (g.mono m.o.1.size)) z);obtain⟨⟨c0,c1,c2,c3⟩,-⟩:=QaC T;have J:Hi (w.heap.size<=w2.heap.size):=Z m.o.1.size;clear g z T b0 b1 b2 b3;go_wp2_with fail;go_quiet (fail);go_wp2;go_ret3;have S:Jw R (R.drewN nq):=⟨rfl,rfl,rfl,qC _,fun _ _=>rfl⟩
 exact⟨u,rfl,(I.o.2.low J.o).below S,I.o.1.trans (S.mono I.o.1.size)⟩
theorem Qky(s:JA)(h:Hdr)(i n:Nat)(t L H C:JA)(w:World)(a:OneArc s h i n t L H C)(B:Qcj (i,0,n,1)=0)(J:i<6004799503160661)(K:t.size=n)(D:0<n)(G:n<=65536) :
  Calls prog 14 #[Jt s] w (Qkl i t w):=by
 have q:Qbt (i,0,n,1):=⟨show i<_ by omega,show 0<18446744073709551616 by omega,show n<_ by omega,show 1<4294967296 by omega⟩
 have M:=Z (fun W=>Qkx s h i n t L H C W a B q)
 have y:=Z (fun (v:Value) W (N:EntB W v [(i,0,n,1)])=>Qkz i n t K v W J D G N B)
 obtain⟨W0,hW0⟩:∃W0,w.alloc (.cells #[.slice none 0 0] 31)=W0:=⟨_,rfl⟩;have m:Jw w W0:=by rw[<-hW0];exact (qF _ _).alloc (qC _) _
 have E:W0.heap[w.heap.size]?=some (.cells #[.slice none 0 0] 31 (0,0)):=by rw[<-hW0];exact JI w _
 have x:=Z (qE m E);clear a B q J K D G m E;go_enter func14,ntmps14;go_wp2_with fail;refine (M.o _).mono ?_;rintro e O ⟨u,rfl,l,d⟩;have f:=Z (qE (Qaa x.o.1 d) (qE ((d.block _ (gsi x.o.2).1).trans x.o.2) l.entB));clear l d;go_wp2_with fail;refine (y.o _ _ f.o.2.2).mono ?_;rintro e P ⟨g,c,rfl,I,b⟩;have z:=(b.block _ (gsi f.o.2.1).1).trans f.o.2.1;have j:=(gsi f.o.2.1).1;have r:=Z (qE (Qaa f.o.1 b) (qE (Qcd z (Jl g 1 c)) (qE I j)));obtain⟨r0,rf⟩:=QaF z;clear z I b j;go_wp2_with fail;refine Qau (A:=(Ja w.heap.size 0)) rfl (QcS _ _ _ _ r.o.2.1) rfl rfl rfl ?_;refine⟨g,c,rfl,QaM (Qac r.o.2.2.1 (fun k hk=>JO _ _ _ _ ?_)) f.o.1.size,r.o.1.setCell (p:=(Ja w.heap.size 0)) (qC _) _⟩
 have:=(r.o.2.2.1.lt k hk).1;have:=r.o.2.2.2;show k≠w.heap.size;omega
def xB:JA:=⟨#[120]⟩
def nB:JA:=⟨#[123,125]⟩
def eA:Ent:=(0,0,1,1)
def HA:Hdr:=QiN (hPr 1 1 1 0 0) 127 5 132 2 134 0 134 1
def LA:JL:=Qkq HA++(Qb3 [eA]++(nB.data.toList++xB.data.toList))
def FA:JA:=bs LA
theorem chkA:Qcj eA=0:=by decide +kernel
theorem QEh:(Qb3 [eA]).length=5:=by decide +kernel
theorem QEW:QkG HA=0:=by decide +kernel
theorem QEz:HdrOk HA:=by
 constructor<;>(unfold HA QiN hPr)<;>simp
theorem lenA:LA.length=135:=by
 unfold LA;simp only[qG];rw[QdQ,QEh];rfl
theorem QBj:FA.size=135:=by unfold FA;rw[Qaq,lenA]
theorem QB8:FA.data.toList=LA:=Qai _
theorem QD3:Qoa LA=HA/\Qf3 LA=0:=Qrz HA QEW (QEz.ad) (QEz.en) (QEz.co) _
theorem QBL(a n:Nat):(FA.extract a (a+n)).data.toList=(LA.drop a).take n:=by rw[Qex,QB8]
theorem arcA:OneArc FA HA 0 1 xB (FA.extract 127 (127+5)) (FA.extract 132 (132+2)) (FA.extract 134 (134+0)) where
 hs:=by rw[QBj];omega
 hD:=by rw[QB8];exact QD3.1
 hE:=by rw[QB8];exact QD3.2
 hin:=fun k hk=>by
  rw[QBj]
  match k,hk with
  |0,_=>exact (by decide:127+5<=135)
  |1,_=>exact (by decide:132+2<=135)
  |2,_=>exact (by decide:134+0<=135)
  |3,_=>exact (by decide:134+1<=135)
 e0:=rfl
 e1:=rfl
 e2:=rfl
 e3:=by
  show FA.extract 134 (134+1)=xB;rw[<-Qb1 (FA.extract 134 (134+1)),QBL,show (LA.drop 134).take 1 = [120] by decide +kernel]
  rfl
 hroot:=by
  rw[QBL,show (LA.drop 127).take 5=Qb3 [eA] by decide +kernel]
  exact QmQ [eA] (QlZ _ chkA) (fun e he=>by rw[List.mem_singleton.1 he];exact⟨by decide,by decide,by decide,by decide⟩) (by rw[QEh];omega)
 hp:=by
  have h:(FA.extract 127 (127+5)).data.toList.length=(FA.extract 127 (127+5)).size:=Qab _;rw[QBL,qW] at h;omega
theorem QEu:rwM [(0,xB)]=([[120]],[eA]):=by decide +kernel
theorem QDi:QaS [eA] 512=([eA],[],0):=by
 unfold QaS;rw[JK (by rw[QEh];decide)]
theorem prsA:Qgy [(0,xB)] 512=LA:=by
 unfold Qgy QfQ;rw[QEu];dsimp only;rw[QDi];dsimp only;rw[QEh];rfl
theorem QEK:ItmsOk [(0,xB)]:=⟨fun x hx=>by rw[List.mem_singleton.1 hx];exact⟨by decide,by decide,by decide⟩,List.pairwise_singleton _ _,by decide,by decide⟩
theorem OneItem.itmB{i a:Nat}{t:JA}{v:Value}{w:World}(h:OneItem i t a v w):ItmB w v [(i,t)]:=by
 obtain⟨g,c,hv,ho⟩:=h;exact ItmB.of_own (b0:=a) (by rw[hv];exact ho)
theorem QAl:QxP:=by
 intro w _;have D:Hi (∀(b:Nat) W,b<W.heap.size->Jx W b 0 (Ju 0)->Jx W b 1 (Jt ⟨#[120]⟩)->Calls prog 13 #[Jl b 1 1] W (Qkl 0 ⟨#[120]⟩ W)):=Z (fun b W hb c0 c1=>Qh6 0 ⟨#[120]⟩ (by decide) (by decide) (by decide) b 0 1 W hb c0 c1)
 have v:Hi (∀(K g c:Nat) W,OneItem 0 ⟨#[120]⟩ K (Jl g 1 c) W->Calls prog 8 #[.agg #[Jl g 1 c],.agg #[Ji 512,Jb 0,Jt ⟨#[123,125]⟩]] W (JB (.tuple #[Jt FA,Ji 0]) W)):=
  Z (fun K g c W hI=>by
   have h:=Qma [(0,xB)] (some (Ja g 0)) c 512 ⟨#[123,125]⟩ W QEK hI.itmB (by decide) (by decide) rfl
   rw[prsA] at h;exact h)
 have r:Hi (∀W,Calls prog 14 #[Jt FA] W (Qkl 0 ⟨#[120]⟩ W)):=Z (fun W=>Qky FA HA 0 1 xB _ _ _ W arcA chkA (by decide) rfl (by decide) (by decide))
 have hlen:((FA.size:Int)==135)=true:=by rw[QBj];rfl
 generalize FA=F at v r hlen;have G:=Z (fun B1 B2 va vb W hA hB=>QkH 0 ⟨#[120]⟩ B1 B2 va vb W hA hB)
 obtain⟨W0,hW0⟩:∃W0,w.alloc (.cells #[Ju 0,Jt ⟨#[120]⟩] 67)=W0:=⟨_,rfl⟩;have m:Jw w W0:=by rw[<-hW0];exact (qF _ _).alloc (qC _) _
 have J:W0.heap[w.heap.size]?=some (.cells #[Ju 0,Jt ⟨#[120]⟩] 67 (0,0)):=by rw[<-hW0];exact JI w _
 have y:=Z (qE m J);clear m J;go_enter func5,ntmps5;go_wp2_with fail;refine (D.o _ _ (gsi y.o.2).1 (Qax y.o.2).1.1 (Qax y.o.2).1.2).mono ?_;rintro e x ⟨g,c,rfl,E,s⟩;obtain⟨V1,hV1⟩:∃V1,x.alloc (.cells #[Jl g 1 c] 31)=V1:=⟨_,rfl⟩;obtain⟨N1,hN1⟩:∃N1,x.heap.size=N1:=⟨_,rfl⟩;have a:Jw x V1:=by rw[<-hV1];exact (qF _ _).alloc (qC _) _
 have j:V1.heap[N1]?=some (.cells #[Jl g 1 c] 31 (0,0)):=by rw[<-hV1,<-hN1];exact JI x _
 have l:OneItem 0 ⟨#[120]⟩ W0.heap.size (Jl g 1 c) V1:=⟨g,c,rfl,Qac E (fun k hk=>a.block k (E.lt k hk).2)⟩
 have n:=Z (qE (Qaa (Qaa y.o.1 s) a) (qE j l));obtain⟨r1,-⟩:=QaF j;clear E s a j l hW0;go_wp2_with fail;refine (v.o _ _ _ _ n.o.2.2).mono ?_;rintro e M ⟨rfl,d⟩;have B:=Z (qE (Qaa n.o.1 d) (qE ((d.block _ (gsi n.o.2.1).1).trans n.o.2.1) (n.o.2.2.below d)));clear d hV1 hN1 r1;go_wp2_with fail;refine (r.o _).mono ?_;rintro e z ⟨C,A,rfl,i,t⟩;obtain⟨V3,hV3⟩:∃V3,z.alloc (.cells #[Jl C 1 A] 31)=V3:=⟨_,rfl⟩;obtain⟨N3,hN3⟩:∃N3,z.heap.size=N3:=⟨_,rfl⟩;have a:Jw z V3:=by rw[<-hV3];exact (qF _ _).alloc (qC _) _
 have j:V3.heap[N3]?=some (.cells #[Jl C 1 A] 31 (0,0)):=by rw[<-hV3,<-hN3];exact JI z _
 have p:OneItem 0 ⟨#[120]⟩ M.heap.size (Jl C 1 A) V3:=⟨C,A,rfl,Qac i (fun k hk=>a.block k (i.lt k hk).2)⟩
 have f:=Qaa t a;have H:=(f.block _ (gsi B.o.2.1).1).trans B.o.2.1;have I:=Z (qE (Qaa B.o.1 f) (G.o _ _ _ _ V3 (B.o.2.2.below f) p));obtain⟨r1,-⟩:=QaF H;obtain⟨r3,-⟩:=QaF j;clear i t a j p f H;go_wp2_with fail;refine (I.o.2).mono ?_;rintro e N ⟨rfl,q⟩;have L:=Z (Qaa I.o.1 q);clear q;go_wp2;go_ret;exact⟨rfl,L.o⟩
def renU:Go.Shelf.Ren:=⟨fun n=>n,fun|5=>5|119=>438|138=>440|139=>441|n=>n,fun|3=>2|4=>3|n=>n⟩
theorem u8t:U8Types prog renU:=⟨underlying5,underlying438,underlying440,underlying441⟩
theorem u8x:U8Extra prog renU:=⟨by kernel_rfl,by kernel_rfl,by kernel_rfl,by kernel_rfl,by kernel_rfl,by kernel_rfl,by kernel_rfl⟩
theorem QqI:(Rows.laid_unicode_utf8_acceptRanges:DataW Unit)=Go.Lib.acceptData:=by kernel_rfl
theorem QpM{W:World}(h:W.ShapedOpen prog):∃m,W.cell? (Ja 0 0)=some (Ji m):=Tryz.laysM145.s1_3 W h
theorem Qhp{W:World}{g:Nat}{v:Value}(h:Jx W g 0 v):g<W.heap.size:=World.block_lt_of_cell? _ _ h
theorem QrH : "*"++ "errors.errorString" = "*errors.errorString":=by decide
theorem QCE(u:JT)(h:prog.typeName? 3 u=some "*errors.errorString"):u=468:=
 typeName_ptr_named (nm:= "errors.errorString") (by rw[QrH];kernel_rfl) (by kernel_rfl) (by decide) u (by rw[QrH];exact h)
theorem QDQ{W:World}{a:List (String×DataW Unit)}(h:laidMet prog (("math/bits.deBruijn32tab",Rows.laid_math_bits_deBruijn32tab) :: ("math/bits.deBruijn64tab",Rows.laid_math_bits_deBruijn64tab) :: ("internal/strconv.uint64pow10",Rows.laid_internal_strconv_uint64pow10) :: ("unicode/utf8.acceptRanges",Rows.laid_unicode_utf8_acceptRanges) :: ("strconv.ErrRange",Rows.laid_strconv_ErrRange) :: a) W)
  (i:("unicode/utf8.first",Rows.laid_unicode_utf8_first)∈a) (c:W.ShapedOpen prog):EnvF W:=by
 have b:Go.Lib.TabIs prog W "internal/strconv.uint64pow10" .u64 Go.Lib.pow10Tab:=
  Go.Lib.tabIs_of_head (n:=20) (t:=513) (e:=43) QmI (by kernel_rfl) (by kernel_rfl) (by kernel_rfl) (by kernel_rfl) (by kernel_rfl) h.tail.tail
 have k:Go.Lib.VarReads prog W "unicode/utf8.first" Go.Lib.firstData:=by
  have:=Go.Lib.laidMet.reads h (n:= "unicode/utf8.first") (d:=Rows.laid_unicode_utf8_first) (by simp[i])
  rwa[show (Rows.laid_unicode_utf8_first:DataW Unit)=Go.Lib.firstData from Pinned.utf8First_eq] at this
 have j:Go.Lib.VarReads prog W "unicode/utf8.acceptRanges" Go.Lib.acceptData:=by
  have:=Go.Lib.laidMet.reads h (n:= "unicode/utf8.acceptRanges") (d:=Rows.laid_unicode_utf8_acceptRanges) (by simp)
  rwa[QqI] at this
 obtain⟨a0,s0,hv0,_,_,_⟩:=laid_sentinel h.tail.tail.tail.tail (g:=5) (ti:=247) (tp:=468) (te:=470) (ts:=9) (by kernel_rfl) (by kernel_rfl) underlying247 QCE underlying468 underlying470 rfl rfl underlying9 (by kernel_rfl) (by kernel_rfl)
 obtain⟨m,hm⟩:=QpM c;have f:Jx W 5 0 (.iface 468 (.pointer (some a0))):=World.var?_cell (show prog.globalNamed "strconv.ErrRange" = some 5 by kernel_rfl) hv0 0
 refine⟨⟨m,hm⟩,Qhp hm,utf8Tabs_of_readsT u8t u8x k j,b,?_,⟨_,_,f⟩,Qhp f⟩;rcases Nat.lt_or_ge 6 W.heap.size with hlt|hge
 ·exact hlt
 ·unfold Go.Lib.TabIs World.var? at b
  rw[QmI] at b;simp[Array.getElem?_eq_none hge] at b
def QyW:List (String×DataW Unit):=[("math/bits.deBruijn32tab",Rows.laid_math_bits_deBruijn32tab),("math/bits.deBruijn64tab",Rows.laid_math_bits_deBruijn64tab),("internal/strconv.uint64pow10",Rows.laid_internal_strconv_uint64pow10),("unicode/utf8.acceptRanges",Rows.laid_unicode_utf8_acceptRanges),("strconv.ErrRange",Rows.laid_strconv_ErrRange),("strconv.ErrSyntax",Rows.laid_strconv_ErrSyntax),("unicode/utf8.first",Rows.laid_unicode_utf8_first)]
def lh30:List (String×DataW Unit):=[("math/bits.deBruijn32tab",Rows.laid_math_bits_deBruijn32tab),("math/bits.deBruijn64tab",Rows.laid_math_bits_deBruijn64tab),("internal/strconv.uint64pow10",Rows.laid_internal_strconv_uint64pow10),("unicode/utf8.acceptRanges",Rows.laid_unicode_utf8_acceptRanges),("errors.errorType",Rows.laid_errors_errorType),("strconv.ErrRange",Rows.laid_strconv_ErrRange),("strconv.ErrSyntax",Rows.laid_strconv_ErrSyntax),("unicode/utf8.first",Rows.laid_unicode_utf8_first)]
theorem QDK:prog.globalNamed "errors.errorType" = some 1:=by kernel_rfl
theorem QDJ:(prog.cutTypes.find? (·.1 == "internal/reflectlite.rtype")).map (·.2)=some 411:=by kernel_rfl
theorem QCp:((List.range prog.types.size).filter fun t=>prog.rowNamed t [101,114,114,111,114]) = [247]:=by kernel_rfl
theorem Qtk:typeHandle prog 247=.pointer (some (Ja 9 247)):=by kernel_rfl
theorem QER{W:World}(h:laidMetH prog lh30 W)(a:W.ShapedOpen prog):EnvT W:=by
 have c:laidMet prog QyW W/\handlesMet prog [("errors.errorType",Rows.laid_errors_errorType)] W:=h;have f:EnvF W:=QDQ c.1 (by simp) a
 have d:W.cell? (Ja 1 0)=some (.iface 411 (.agg #[.pointer (some (Ja 9 247))])):=by
  obtain⟨name,u,ty,e1,e2,e3,e4,e5⟩:=c.2 _ (List.mem_singleton.2 rfl);have g:name = [101,114,114,111,114]:=(qS e1).symm;subst g;obtain rfl:=qS (QDJ.symm.trans e2);have b:ty∈(List.range prog.types.size).filter fun t=>prog.rowNamed t [101,114,114,111,114]:=List.mem_filter.2 ⟨List.mem_range.2 e3,e4⟩
  rw[QCp] at b;obtain rfl:=List.mem_singleton.1 b;rw[Qtk] at e5;simpa using World.var?_cell QDK e5 0
 exact⟨f,d,Qhp d⟩
noncomputable def QAX (os:Os):World:=
 let w0:=World.holding prog os ⟨#[],#[],[]⟩
 { w0 with heap:=w0.heap.modify 1 fun | .cells _ t frozen=>.cells #[.iface 411 (.agg #[.pointer (some (Ja 9 247))])] t frozen|o=>o }
noncomputable def wit30 (os:Os):World:=(QAX os).layVars prog QyW
theorem wit30_os(a:Os):(wit30 a).os=a:=by
 unfold wit30;rw[World.layVars_os];rfl
theorem wit30_met(a:Os)(args:JW):laidMetH prog lh30 ((wit30 a).forCall (fun _ _=>0) ⟨#[],args,[]⟩).memory:=by
 have b:(QyW.filter fun x=>(QyW.map (·.1)).contains x.1)=QyW:=List.filter_eq_self.2 fun x hx=>List.contains_iff_mem.2 (List.mem_map.2 ⟨x,hx,rfl⟩)
 have c:(QyW.filter fun x=>!(QyW.map (·.1)).contains x.1) = []:=List.filter_eq_nil_iff.2 fun x hx=>by rw[List.contains_iff_mem.2 (List.mem_map.2 ⟨x,hx,rfl⟩)];simp
 have h:laidMet prog QyW (wit30 a):=laidMet_layVars (w0:=QAX a) (QyW.map (·.1)) [] (by rw[b];rfl) (by rw[b];kernel_rfl) (by rw[b];kernel_rfl) (by rw[c];exact LaidIn.none)
 refine laidMetH_of_parts ?_ (by kernel_rfl)
 exact h.of_heap (by simp[World.memory,World.forCall,Input.heap])
theorem QwF{P:Program}(h:P.funcs.any Func.goes=false)(f:FuncId):P.goes f=false:=by
 have hx:∀fn∈P.funcs,fn.goes=false:=by
  intro fn a;cases c:fn.goes
  ·rfl
  ·exfalso
   have:P.funcs.any Func.goes=true:=Array.any_eq_true'.2 ⟨fn,a,c⟩;rw[h] at this;cases this
 have b:((P.closure f).any fun g=>(P.funcs[g]?).any Func.goes)=false:=by
  rw[List.any_eq_false];intro g _;cases d:P.funcs[g]? with
  |none=>simp
  |some fn=>
   have a:fn∈P.funcs:=Array.mem_of_getElem? d;simp[hx fn a]
 unfold Program.goes;rw[b,h];simp
theorem goesBy_none(c:OpenClaim)(P:Program)(a:c.start=.entering)(h:P.funcs.any Func.goes=false):false=c.goesBy P:=by
 unfold OpenClaim.goesBy Program.goesAt Program.goesFrom;rw[a];cases P.funcNamed c.func with
 |none=>rfl
 |some f=>
  show false=(P.goes f||false)
  rw[QwF h];rfl
theorem no_goes:Tryz.pinned.checked.prog.funcs.any Func.goes=false:=by kernel_rfl
theorem topCache_go(v:Value)(l:List Itm)(B R M:Int)(f d:Value)(a:List Nat)(W:World)(g:QxJ W v l)(b:∃fl,QdI W f fl)(i:QxK W d a)(h:laidMetH prog Rows.topCacheRow.laid W)(c:W.ShapedOpen prog) :
  Calls prog 3 #[v,.agg #[Ji B,Ji R,Ji M,f],d] W fun e W'=>e=.returned (.bool true)/\Jw W W':=by
 obtain⟨fl,b⟩:=b;exact QlG v l B R M f fl d a W (QER h c) g b i QAl
end
end Go.Proofs.YtlpecalodphalaaGreatDoor
