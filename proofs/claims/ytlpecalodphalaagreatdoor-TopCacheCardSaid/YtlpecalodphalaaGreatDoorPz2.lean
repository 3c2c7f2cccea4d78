/- What parts of the program compute: packed for TopCache. Conditions: none. -/
import Derived.Test.YtlpecalodphalaaGreatDoorPz1
set_option linter.all false
set_option maxRecDepth 100000
set_option maxHeartbeats 16000000
open Go.Proofs.Tryz Go.RowKit
namespace Go.Proofs.YtlpecalodphalaaGreatDoor
section
def Qe4(x:JL):Prop:=∀c∈x,QaE c.toNat=true
def Qa2:JM->JL
 |[]=>[]
 |x :: t=>x++13 :: 10 :: Qa2 t
theorem QcX(l m:JM):Qa2 (l++m)=Qa2 l++Qa2 m:=by
 induction l with
 |nil=>rfl
 |cons x t ih=>simp[Qa2,ih]
theorem QuS(x b:JL):∀n,Qe4 x->n+x.length<=256->scan (x++13 :: 10 :: b) n=(n+x.length,0):=by
 induction x with
 |nil=>intro n _ _;rw[J3,scan,JJ (by simp),JK (by simp)];rfl
 |cons c t ih=>
  intro n f g;have d:=f c (JF ..);have a:c≠13:=fun e=>by rw[e] at d;exact JN d (by decide)
  rw[J4,scan,JJ (by simp[a]),JJ (by simp[a]),JJ (by simp[d]),JJ (by simp at g;omega),ih (n+1) (fun c h=>f c (JY _ h)) (by simp at g;omega)]
  simp;omega
theorem Qye(x:JL):∀n k,Qe4 x->n+x.length<=256->k<x.length+2->(scan ((x++[13,10]).take k) n).2=3:=by
 induction x with
 |nil=>
  intro n k _ _ b
  match k,b with
  |0,_=>simp[scan]
  |1,_=>simp[scan]
 |cons c t ih=>
  intro n k f g b;cases k with
  |zero=>simp[scan]
  |succ k=>
   have d:=f c (JF ..);have a:c≠13:=fun e=>by rw[e] at d;exact JN d (by decide)
   rw[J4,List.take_succ_cons,scan,JJ (by simp[a]),JJ (by simp[a]),JJ (by simp[d]),JJ (by simp at g;omega)]
   exact ih (n+1) k (fun c h=>f c (JY _ h)) (by simp at g;omega) (by simp at b;omega)
theorem Qdt(s:JA)(a x b:JL)(f:s.data.toList=a++(x++13 :: 10 :: b))(h:Qe4 x)(i:x.length<=256) :
  Qbe s (a.length:Int)=0/\QaH s (a.length:Int)=bs x/\Qbd s (a.length:Int)=((a++(x++[13,10])).length:Int):=by
 have g:a.length<=s.size:=by rw[<-Qab,f];simp
 have c:QbT s.data.toList a.length 0=(x.length,0):=by
  unfold QbT;rw[f,List.drop_left,QuS x b 0 h (by omega)];simp
 have d:Qbe s (a.length:Int)=0:=by rw[QcN s _ g,c]
 refine⟨d,?_,?_⟩
 ·unfold QaH
  rw[JK d,Int.toNat_natCast,c,QcC,f]
  congr 1
  rw[<-qP,<-qG,List.take_left,List.drop_left]
 ·unfold Qbd
  rw[JK d,Int.toNat_natCast,c];simp;omega
theorem QqR(s:JA)(a x:JL)(k:Nat)(c:s.data.toList=a++(x++[13,10]).take k)(f:k<x.length+2)(d:Qe4 x)(g:x.length<=256):Qbe s (a.length:Int)=3:=by
 have b:a.length<=s.size:=by rw[<-Qab,c];simp
 rw[QcN s _ b];unfold QbT;rw[c,List.drop_left];exact Qye x 0 k d (by omega) f
theorem Qdn(x:JL):(bs x).toList.isEmpty=x.isEmpty:=by rw[J7,Qai]
def QcH(x:JL):Prop:=x≠[]/\Qe4 x/\x.length<=256
theorem Qp5(s:JA)(d:JL):∀(i:JM) (a:JL) (xs:JM) (f:Nat),(∀x∈i,QcH x)->xs.length+i.length<=17->f+xs.length=18->
  s.data.toList=a++(Qa2 i++13 :: 10 :: d)->Qc6 f s (a.length:Int) xs=(xs++i,((a++Qa2 i).length:Int)+2,0):=by
 intro i
 induction i with
 |nil=>
  intro a xs f _ b m k;obtain⟨f,rfl⟩:∃g,f=g+1:=⟨f-1,by simp at b;omega⟩
  obtain⟨h1,h2,h3⟩:=Qdt s a [] d (by simpa[Qa2] using k) (fun c h=>by simp at h) (by simp)
  rw[QgI f s _ xs h1 (by rw[h2,Qdn];rfl),h3]
  simp[Qa2]
 |cons x t ih=>
  intro a xs f l b m k;obtain⟨hx0,hxp,hxl⟩:=l x (JF ..);obtain⟨f,rfl⟩:∃g,f=g+1:=⟨f-1,by simp at b;omega⟩
  have j:s.data.toList=a++(x++13 :: 10 :: (Qa2 t++13 :: 10 :: d)):=by rw[k];simp[Qa2]
  obtain⟨h1,h2,h3⟩:=Qdt s a x _ j hxp hxl;rw[Qea f s _ xs h1 (by rw[h2,Qdn];cases x<;>simp_all) (by simp at b;omega),h3,h2,Qai]
  rw[ih (a++(x++[13,10])) (xs++[x]) f (fun y hy=>l y (JY _ hy)) (by simp at b ⊢;omega) (by simp;omega) (by rw[j];simp)]
  simp[Qa2]
theorem Qzq(s:JA):∀(i:JM) (a:JL) (xs:JM) (f k:Nat),(∀x∈i,QcH x)->xs.length+i.length<=17->f+xs.length=18->
  k<(Qa2 i).length+2->s.data.toList=a++(Qa2 i++[13,10]).take k->Qc6 f s (a.length:Int) xs=([],0,3):=by
 intro i
 induction i with
 |nil=>
  intro a xs f k _ b p j d;obtain⟨f,rfl⟩:∃g,f=g+1:=⟨f-1,by simp at b;omega⟩
  have h:=QqR s a [] k (by simpa[Qa2] using d) (by simpa[Qa2] using j) (fun c h=>by simp at h) (by simp)
  rw[Qfd f s _ xs (by rw[h];decide),h]
 |cons x t ih=>
  intro a xs f k n b p j d;obtain⟨hx0,hxp,hxl⟩:=n x (JF ..);obtain⟨f,rfl⟩:∃g,f=g+1:=⟨f-1,by simp at b;omega⟩
  have q:Qa2 (x :: t)++[13,10]=(x++[13,10])++(Qa2 t++[13,10]):=by simp[Qa2]
  rw[q] at d
  by_cases m:k<x.length+2
  ·rw[List.take_append_of_le_length (by simp;omega)] at d
   have h:=QqR s a x k d m hxp hxl;rw[Qfd f s _ xs (by rw[h];decide),h]
  ·have hlen:(x++[13,10]).length<=k:=by simp;omega
   rw[List.take_append,qX hlen] at d;have l:s.data.toList=a++(x++13 :: 10 :: (Qa2 t++[13,10]).take (k-(x++[13,10]).length)):=by rw[d];simp
   obtain⟨h1,h2,h3⟩:=Qdt s a x _ l hxp hxl;rw[Qea f s _ xs h1 (by rw[h2,Qdn];cases x<;>simp_all) (by simp at b;omega),h3,h2,Qai]
   exact ih (a++(x++[13,10])) (xs++[x]) f (k-(x++[13,10]).length) (fun y hy=>n y (JY _ hy)) (by simp at b ⊢;omega) (by simp;omega) (by simp[Qa2] at j ⊢;omega) (by rw[d];simp)
theorem Qdx(x:JL)(h:Qbh x=0):Qe4 x/\x.length<=256:=by
 unfold Qbh at h;split at h
 ·cases h
 ·rename_i a
  split at h
  ·cases h
  ·refine⟨fun c hc=>?_,by omega⟩
   have b:(x.all fun c=>QaE c.toNat)=true:=by simpa using a
   exact List.all_eq_true.1 b c hc
theorem Qcg(c:UInt8):QjN.contains c=QwI c:=by
 unfold QjN QwI;simp only[List.contains,List.elem];cases (c==32)<;>cases (c==9)<;>rfl
theorem QkO(g:UInt8)(X:JL)(h:QwI g=true):Go.Lib.trimS (g :: X) QjN=Go.Lib.trimS X QjN:=by
 have a:QjN.contains g=true:=(Qcg g).trans h;unfold Go.Lib.trimS Go.Lib.trimRightS Go.Lib.trimLeftS;rw[List.reverse_cons,List.dropWhile_append];split
 ·rename_i b
  rw[List.isEmpty_iff] at b;rw[b,List.dropWhile_cons_of_pos a];rfl
 ·rw[List.reverse_append]
  show List.dropWhile _ (g :: _)=_;rw[List.dropWhile_cons_of_pos a];rfl
theorem Qsh(X:JL)(g:UInt8)(h:QwI g=true):Go.Lib.trimS (X++[g]) QjN=Go.Lib.trimS X QjN:=by
 have a:QjN.contains g=true:=(Qcg g).trans h;unfold Go.Lib.trimS Go.Lib.trimRightS;rw[List.reverse_append];show Go.Lib.trimLeftS (List.dropWhile _ (g :: _)).reverse _=_;rw[List.dropWhile_cons_of_pos a];rfl
theorem QlE(X:JL):(Go.Lib.trimS X QjN).length<=X.length:=by
 unfold Go.Lib.trimS Go.Lib.trimRightS Go.Lib.trimLeftS;refine qD (List.dropWhile_suffix _).length_le ?_;rw[List.length_reverse];refine qD (List.dropWhile_suffix _).length_le ?_;rw[List.length_reverse];exact qC _
def QcV(X:JL):Bool:=match X with|[]=>false|c :: _=>QwI c
def Qhn(X:JL):Bool:=!QcV X && !QcV X.reverse
theorem Qsi(X:JL)(a:QcV X=false)(b:QcV X.reverse=false):Go.Lib.trimS X QjN=X:=by
 have key:∀Y:JL,QcV Y=false->Y.dropWhile (QjN.contains ·)=Y:=by
  intro Y h;cases Y with
  |nil=>rfl
  |cons c t=>exact List.dropWhile_cons_of_neg (by rw[Qcg];show ¬QwI c=true;rw[show QwI c=false from h];decide)
 unfold Go.Lib.trimS Go.Lib.trimRightS Go.Lib.trimLeftS;rw[key _ b,List.reverse_reverse,key _ a]
theorem QiQ(X:JL):Go.Lib.trimS X QjN=X↔Qhn X=true:=by
 unfold Qhn;constructor
 ·intro h
  have a:QcV X=false:=by
   cases X with
   |nil=>rfl
   |cons c t=>
    rw[Bool.eq_false_iff];intro d;have:=QlE t;rw[<-QkO c t d,h] at this;simp at this;omega
  have b:QcV X.reverse=false:=by
   cases f:X.reverse with
   |nil=>rfl
   |cons c t=>
    rw[Bool.eq_false_iff];intro d;have e:X=t.reverse++[c]:=by rw[<-List.reverse_reverse X,f,List.reverse_cons]
    have:=QlE t.reverse;rw[<-Qsh t.reverse c d,<-e,h,e] at this;simp at this;omega
  rw[a,b];rfl
 ·intro h
  simp only[JD,Bool.not_eq_true'] at h;exact Qsi X h.1 h.2
def QiW(v:JL):JL:=if v.isEmpty then [] else 32 :: v
def QaN(n v:JL):JL:=Qgf true n++58 :: QiW v
def QbL(n v:JL):Bool:=Qep n&&Qbi v&&Qhn v
def QaU(n v:JL):Nat:=if QbL n v=true then (if 256<(QaN n v).length then 5 else 0) else 4
def QgN(n v:JL):JL:=if QaU n v=0 then QaN n v else []
theorem QlH(b:Bool)(l:JL):(Qgf b l).length=l.length:=by
 induction l generalizing b with
 |nil=>rfl
 |cons c t ih=>simp[Qgf,ih]
theorem Qo1(t v:JL)(h:Qhn v=true):Go.Lib.trimRightS (t++[58,32]++v) QjN=t++58 :: QiW v:=by
 unfold Go.Lib.trimRightS QiW;cases b:v with
 |nil=>
  simp only[List.isEmpty_nil,if_true];have e:(t++[58,32]++[]).reverse=32 :: 58 :: t.reverse:=by simp
  rw[e,List.dropWhile_cons_of_pos (by decide),List.dropWhile_cons_of_neg (by decide)]
  simp
 |cons a r=>
  rw[<-b];have f:QcV v.reverse=false:=by
   unfold Qhn at h;simp only[JD,Bool.not_eq_true'] at h;exact h.2
  have e:(t++[58,32]++v).reverse=v.reverse++(32 :: 58 :: t.reverse):=by simp
  rw[e];cases d:v.reverse with
  |nil=>rw[List.reverse_eq_nil_iff.1 d] at b;exact JN b (by simp)
  |cons c u=>
   rw[d] at f;rw[J4,List.dropWhile_cons_of_neg (by rw[Qcg];rw[show QwI c=false from f];decide),<-J4,<-d,List.reverse_append]
   simp[b]
theorem QAr(m t:JL)(h:∀c∈m,c≠58):Qaw (m++58 :: t)=m:=by
 unfold Qaw;rw[List.takeWhile_append_of_pos (fun c hc=>by simpa using h c hc),List.takeWhile_cons_of_neg (by decide),qT]
theorem QyA(m n v t:JL)(h:∀c∈m,c≠58)(g:Qbi m=true)(i:Qbi t=true)(l:Qep n=true)(e:m.map QeJ=n)(k:Go.Lib.trimS t QjN=v) :
  QaX (m++58 :: t)=n/\Qbc (m++58 :: t)=v/\QaT (m++58 :: t)=0:=by
 have f:=QAr m t h;have a:QbV (m++58 :: t)=n:=by unfold QbV;rw[f,e]
 have b:Qem (m++58 :: t)=v:=by
  unfold Qem;rw[f];rw[show (m++58 :: t).drop (m.length+1)=t by
   rw[<-List.drop_drop,List.drop_left];rfl]
  exact k
 have d:QcQ (m++58 :: t)=true:=by
  unfold QcQ;rw[a,l,f];have j:Qbi (m++58 :: t)=true:=by
   unfold Qbi at g i ⊢;rw[List.all_append,g,List.all_cons,i];rfl
  rw[j,qA (by simp)];rfl
 unfold QaX Qbc QaT;rw[d];exact⟨a,b,rfl⟩
theorem QgB(n:Nat)(h:Qa9 n=true):(97<=n/\n<=122)\/(48<=n/\n<=57)\/n=45:=by
 rcases QpJ n with⟨a,b,_⟩|⟨a,b,_⟩|⟨a,_⟩|⟨_,_,c⟩|⟨_,_,c⟩|⟨_,c⟩
 ·exact .inl ⟨a,b⟩
 ·exact .inr (.inl ⟨a,b⟩)
 ·exact .inr (.inr a)
 ·rw[c] at h;exact JN h (by decide)
 ·rw[c] at h;exact JN h (by decide)
 ·rw[c] at h;exact JN h (by decide)
theorem Qy3(n:Nat):Qkp n=true↔97<=n/\n<=122:=by
 unfold Qkp;simp
theorem Qha(b:Bool)(n:Nat)(h:Qa9 n=true):Qia b n=n\/(97<=n/\n<=122/\Qia b n=n-32):=by
 unfold Qia;split
 ·rename_i a
  simp only[JD] at a;have:=(Qy3 n).1 a.2;exact .inr ⟨this.1,this.2,rfl⟩
 ·exact .inl rfl
theorem Qip(b:Bool)(c:UInt8)(h:Qa9 c.toNat=true):(UInt8.ofNat (Qia b c.toNat)).toNat=Qia b c.toNat:=by
 rw[UInt8.toNat_ofNat'];have:=QgB _ h;rcases Qha b _ h with e|⟨_,_,e⟩<;>rw[e]<;>omega
theorem Qut(b:Bool)(c:UInt8)(h:Qa9 c.toNat=true):QeJ (UInt8.ofNat (Qia b c.toNat))=c:=by
 unfold QeJ;rw[Qip b c h];have a:=QgB _ h;apply UInt8.toNat_inj.1;rw[UInt8.toNat_ofNat'];unfold QeI;rcases Qha b _ h with e|⟨a1,a2,e⟩
 ·rw[e,JJ (by omega)];omega
 ·rw[e,JK (by omega)];omega
theorem Qe5(n:Nat)(a:32<=n)(b:n<=126):QaE n=true:=by
 unfold QaE;rw[qA a,qA b];simp
theorem Quu(b:Bool)(c:UInt8)(h:Qa9 c.toNat=true):QaE (UInt8.ofNat (Qia b c.toNat)).toNat=true/\UInt8.ofNat (Qia b c.toNat)≠58:=by
 rw[Qip b c h];have a:=QgB _ h;rcases Qha b _ h with e|⟨a1,a2,e⟩
 ·refine⟨by rw[e];exact Qe5 _ (by omega) (by omega),fun he=>?_⟩
  have:=congrArg UInt8.toNat he;rw[Qip b c h,e] at this;have:(58:UInt8).toNat=58:=rfl;omega
 ·refine⟨by rw[e];exact Qe5 _ (by omega) (by omega),fun he=>?_⟩
  have:=congrArg UInt8.toNat he;rw[Qip b c h,e] at this;have:(58:UInt8).toNat=58:=rfl;omega
theorem Qsk(b:Bool)(l:JL)(h:∀c∈l,Qa9 c.toNat=true):(Qgf b l).map QeJ=l:=by
 induction l generalizing b with
 |nil=>rfl
 |cons c t ih=>
  show QeJ _ :: (Qgf _ t).map QeJ=c :: t;rw[Qut b c (h c (JF ..)),ih _ (fun d hd=>h d (JY _ hd))]
theorem QkQ(b:Bool)(l:JL)(h:∀c∈l,Qa9 c.toNat=true):Qbi (Qgf b l)=true/\∀c∈Qgf b l,c≠58:=by
 induction l generalizing b with
 |nil=>exact⟨rfl,fun c hc=>by simp[Qgf] at hc⟩
 |cons c t ih=>
  have g:=Quu b c (h c (JF ..));have f:=ih (stB c) (fun d a=>h d (JY _ a))
  constructor
  ·show Qbi (_ :: _)=true
   unfold Qbi at f ⊢;rw[List.all_cons,g.1,f.1];rfl
  ·intro d a
   change d∈UInt8.ofNat (Qia b c.toNat) :: Qgf (stB c) t at a;rcases List.mem_cons.1 a with rfl|a
   ·exact g.2
   ·exact f.2 d a
theorem Qjy(n:JL)(h:Qep n=true):(∀c∈n,Qa9 c.toNat=true)/\n≠[]/\n.length<=32:=by
 unfold Qep at h;simp only[JD,Bool.not_eq_true',qO,List.all_eq_true] at h;exact⟨h.2,fun e=>by rw[e] at h;exact JN h.1.1 (by decide),h.1.2⟩
theorem Qjm(n v:JL)(h:QbL n v=true):Qep n=true/\Qbi v=true/\Qhn v=true:=by
 unfold QbL at h;simp only[JD] at h;exact⟨h.1.1,h.1.2,h.2⟩
theorem QcW(n v:JL)(h:QaU n v=0):QbL n v=true/\(QaN n v).length<=256:=by
 unfold QaU at h;split at h
 ·split at h
  ·exact JN h (by decide)
  ·exact⟨by assumption,by omega⟩
 ·exact JN h (by decide)
theorem QiV(v:JL)(h:Qbi v=true):Qbi (QiW v)=true:=by
 unfold QiW;split
 ·rfl
 ·unfold Qbi at h ⊢;rw[List.all_cons,h];rfl
theorem Qsg(v:JL)(h:Qhn v=true):Go.Lib.trimS (QiW v) QjN=v:=by
 unfold QiW;split
 ·rename_i a;rw[List.isEmpty_iff] at a;rw[a];rfl
 ·rw[QkO 32 v (by decide)];exact (QiQ v).2 h
theorem Qct(n v:JL)(h:QbL n v=true):QaX (QaN n v)=n/\Qbc (QaN n v)=v/\QaT (QaN n v)=0:=by
 obtain⟨h1,h2,h3⟩:=Qjm n v h;obtain⟨ha,hne,hlen⟩:=Qjy n h1;obtain⟨p1,p2⟩:=QkQ true n ha;exact QyA _ n v _ p2 p1 (QiV v h2) h1 (Qsk true n ha) (Qsg v h3)
theorem Qvp(n v:JL)(h:QaU n v=0):Qbh (QaN n v)=0:=by
 obtain⟨hk,hl⟩:=QcW n v h;obtain⟨h1,h2,h3⟩:=Qjm n v hk;obtain⟨ha,hne,hlen⟩:=Qjy n h1;obtain⟨p1,p2⟩:=QkQ true n ha;have a:Qbi (QaN n v)=true:=by
  have b:=QiV v h2;unfold QaN;unfold Qbi at p1 b ⊢;rw[List.all_append,p1,List.all_cons,b];rfl
 unfold Qbh;unfold Qbi at a;rw[a,JJ (by decide),JJ (by omega)]
def QcU(p:JL):JL:=[71,69,84,32]++p++[32,72,84,84,80,47,49,46,49]
def QdL(h:JL):JL:=[72,111,115,116,58,32]++h
def QdX(a b:Int):JL:=[82,97,110,103,101,58,32]++QhF a b
def Qm2(p h:JL)(a b:Int):JL:=Qa2 [QcU p,QdL h,QdX a b]++[13,10]
def Qrl(p h:JL)(a b:Int):JM:=[QcU p,QdL h,QdX a b,[]]
def Qkk(p h:JL)(a b:Int):JL:=if Qg7 p h a b=0 then Qm2 p h a b else []
theorem Qfo(p h:JL)(a b:Int)(c:Qg7 p h a b=0):QfF p=true/\Qfb h=true/\QdK a b=0:=by
 unfold Qg7 at c;split at c
 ·exact JN c (by decide)
 ·rename_i d
  refine⟨?_,?_,c⟩
  ·cases e:QfF p with
   |false=>exact JN (.inl e) d
   |true=>rfl
  ·cases e:Qfb h with
   |false=>exact JN (.inr e) d
   |true=>rfl
theorem Qjp(p:JL)(h:QfF p=true):p.length<=64/\(∀c∈p,Qd7 c.toNat=true)/\p≠[]:=by
 unfold QfF at h;simp only[JD,qO,List.all_eq_true] at h;refine⟨h.1.2,h.2,?_⟩;intro e;rw[e] at h;exact JN h.1.1 (by decide)
theorem QgG(p:JL)(h:Qfb p=true):p.length<=32/\(∀c∈p,QfH c.toNat=true)/\p≠[]:=by
 unfold Qfb at h;simp only[JD,qO,List.all_eq_true,Bool.not_eq_true',List.isEmpty_eq_false_iff] at h;exact⟨h.1.2,h.2,h.1.1⟩
theorem Qpv(x:Nat)(h:Qd7 x=true):QaE x=true/\x≠32:=by
 unfold Qd7 at h;simp only[JD,qO] at h;exact⟨Qe5 x (by omega) (by omega),by omega⟩
theorem Qf2(x:Nat)(h:QfH x=true):QaE x=true/\x≠32:=by
 unfold QfH Qkp Qfg at h;simp only[Bool.or_eq_true,JD,qO,beq_iff_eq] at h;exact⟨Qe5 x (by omega) (by omega),by omega⟩
theorem Qq0(l:JL)(h:Qe4 l)(a:l.length<=256):Qbh l=0:=by
 unfold Qbh;rw[JJ (by rw[List.all_eq_true.2 h];decide),JJ (by omega)]
theorem Qhy(n:Int):Qe4 (QeB n):=by
 intro c a;unfold QeB at a;split at a
 ·simp at a
 ·have:=List.all_eq_true.1 (Qdk n.toNat) c a
  unfold Qfg at this;simp only[JD,qO] at this;exact Qe5 _ (by omega) (by omega)
theorem QnU(p:JL)(h:QfF p=true):Qbh (QcU p)=0:=by
 obtain⟨h1,h2,-⟩:=Qjp p h;refine Qq0 _ ?_ (by unfold QcU;simp;omega)
 intro c a;unfold QcU at a;rw[J1,J1] at a;rcases a with (a|a)|a
 ·exact (show ∀d∈([71,69,84,32]:JL),QaE d.toNat=true by decide) c a
 ·exact (Qpv _ (h2 c a)).1
 ·exact (show ∀d∈([32,72,84,84,80,47,49,46,49]:JL),QaE d.toNat=true by decide) c a
theorem QnT(p:JL)(h:Qfb p=true):Qbh (QdL p)=0:=by
 obtain⟨h1,h2,-⟩:=QgG p h;refine Qq0 _ ?_ (by unfold QdL;simp;omega)
 intro c a;unfold QdL at a;rw[J1] at a;rcases a with a|a
 ·exact (show ∀d∈([72,111,115,116,58,32]:JL),QaE d.toNat=true by decide) c a
 ·exact (Qf2 _ (h2 c a)).1
theorem Qr2(a b:Int)(c:a<=9223372036854775807)(d:b<=9223372036854775807):(QhF a b).length<=47:=by
 unfold QhF;split
 ·rw[qG];have:=QiS a b c d;have e:Qfn.length=6:=rfl;omega
 ·exact qL _
theorem Qlw(a b:Int):Qe4 (QhF a b):=by
 unfold QhF;split
 ·intro c f
  unfold QfX at f;rw[J1,J1,List.mem_cons] at f;rcases f with f|f|f|f
  ·exact (show ∀d∈Qfn,QaE d.toNat=true by decide) c f
  ·exact Qhy a c f
  ·subst f;decide
  ·exact Qhy b c f
 ·intro c f;simp at f
theorem QnS(a b:Int)(h:a<=9223372036854775807)(g:b<=9223372036854775807):Qbh (QdX a b)=0:=by
 refine Qq0 _ ?_ (by unfold QdX;have:=Qr2 a b h g;simp;omega)
 intro c f;unfold QdX at f;rw[J1] at f;rcases f with f|f
 ·exact (show ∀d∈([82,97,110,103,101,58,32]:JL),QaE d.toNat=true by decide) c f
 ·exact Qlw a b c f
theorem Qgx(s:JA)(w:World)(a:s.size<=256)(h:Qbh s.data.toList=0) :
  Calls prog 211 #[Jt s] w (JS (.tuple #[Jt (s++⟨#[13,10]⟩),Ji 0]) w):=by
 have:=QgC s w (by omega)
 unfold Qe2 at this;rw[JK h,h] at this;exact this
theorem QCQ(B:Nat)(x y z:JA)(W:World)(hx:x.size<=1000000)(g:y.size<=1000000)(h:z.size<=1000000)(f:Jx W B 0 (Jt x))(c:Jx W B 1 (Jt y))(b:Jx W B 2 (Jt z))(d:B<W.heap.size) :
  Calls prog 71 #[Jl B 3 3,Jt ⟨#[32]⟩] W (JB (Jt (bs (x.data.toList++32 :: (y.data.toList++32 :: z.data.toList)))) W):=by
 have a:Lib.join ([x,y,z].map (·.data.toList)) (ByteArray.mk #[32]).data.toList=x.data.toList++32 :: (y.data.toList++32 :: z.data.toList):=by
  simp[Lib.join]
 have:=Tryz.strings_Join B 0 3 [x,y,z] ⟨#[32]⟩ W (fun j u a=>by
  match j,a with
  |0,a=>simp at a;subst a;exact f
  |1,a=>simp at a;subst a;exact c
  |2,a=>simp at a;subst a;exact b) d (by simp) (by simp) (by
   rw[a];simp only[qG,qH,Qab];omega)
 rw[a] at this;exact this
theorem QAg(x y z:JA)(W:World)(hx:x.size<=1000000)(a:y.size<=1000000)(c:z.size<=1000000) :
  Calls prog 71 #[Jl W.heap.size 3 3,Jt ⟨#[32]⟩] (W.alloc (.cells #[Jt x,Jt y,Jt z] 9)).drew fun e w'=>e=.returned (Jt (bs (x.data.toList++32 :: (y.data.toList++32 :: z.data.toList))))/\Below (W.alloc (.cells #[Jt x,Jt y,Jt z] 9)).drew.heap.size (W.alloc (.cells #[Jt x,Jt y,Jt z] 9)).drew w':=by
 have b:(W.alloc (.cells #[Jt x,Jt y,Jt z] 9)).drew.heap[W.heap.size]?=some (.cells #[Jt x,Jt y,Jt z] 9 (0,0)):=JI W _;refine QCQ W.heap.size x y z _ hx a c ?_ ?_ ?_ (by simp)<;>((try unfold Jx);unfold World.cell?;rw[b];rfl)
theorem QoH(p h:JA)(a b:Int)(w:World)(s:EnvF w)(E : -9223372036854775808<=a)(L:a<=9223372036854775807)(C : -9223372036854775808<=b)(f:b<=9223372036854775807) :
  Calls prog 174 #[.agg #[Jt p,Jt h,Ji a,Ji b]] w (JB (.tuple #[Jt (bs (Qkk p.data.toList h.data.toList a b)),Ji (Qg7 p.data.toList h.data.toList a b:Nat)]) w):=by
 have r:=Z (fun w=>QdU p h a b w)
 have HA:=Z (fun w s=>QsF a b w s E L C f)
 have HE:=Z (s.below (QbC w (Jt p) (Jt h) (Ji a) (Ji b) 142));clear s
 by_cases n:Qg7 p.data.toList h.data.toList a b=0
 ·obtain⟨z1,z2,hr⟩:=Qfo _ _ _ _ n
  have hp:p.size<=64:=by have:=(Qjp _ z1).1;rwa[Qab] at this
  have hh:h.size<=32:=by have:=(QgG _ z2).1;rwa[Qab] at this
  have T:=QnU _ z1;have S:=QnT _ z2;have U:=QnS a b L f;have M:Hi (Qkk p.data.toList h.data.toList a b=Qm2 p.data.toList h.data.toList a b):=Z (JK n);rw[n] at r ⊢;rw[hr] at HA;obtain⟨Q,hQ⟩:∃Q,bs (QhF a b)=Q:=⟨_,rfl⟩;rw[hQ] at HA;have qa:Q.size<=47:=by rw[<-hQ,Qaq];exact Qr2 a b L f
  have p1:=fun w=>run_string_add_sum (P:=prog) w ⟨#[72,111,115,116,58,32]⟩ h (by show 6+_<=_;omega)
  have p2:=fun w=>run_string_add_sum (P:=prog) w ⟨#[82,97,110,103,101,58,32]⟩ Q (by show 7+_<=_;omega)
  obtain⟨L1,hL1⟩:∃L1,bs (QcU p.data.toList)=L1:=⟨_,rfl⟩;have y:(⟨#[72,111,115,116,58,32]⟩:JA)++h=bs (QdL h.data.toList):=by
   rw[show (⟨#[72,111,115,116,58,32]⟩:JA)=bs [72,111,115,116,58,32] from rfl]
   conv=>lhs;rw[<-Qb1 h]
   rw[Qeh];rfl
  have J:(⟨#[82,97,110,103,101,58,32]⟩:JA)++Q=bs (QdX a b):=by
   rw[show (⟨#[82,97,110,103,101,58,32]⟩:JA)=bs [82,97,110,103,101,58,32] from rfl,<-hQ,Qeh];rfl
  have s1:L1.size<=77:=by rw[<-hL1,Qaq];unfold QcU;have:=Qab p;simp only[qG,qH,List.length_nil];omega
  have HX:Hi (∀(W:World) (B:Nat),(W.cell? (Ja B 0)=some (Jt L1)/\W.cell? (Ja B 1)=some (Jt (⟨#[72,111,115,116,58,32]⟩++h))/\W.cell? (Ja B 2)=some (Jt (⟨#[82,97,110,103,101,58,32]⟩++Q))/\W.cell? (Ja B 3)=some (Jt ⟨#[]⟩))->∀k,k<4->∀O,O=bs (Qa2 ((Qrl p.data.toList h.data.toList a b).take k))->
    ∃X,W.cell? (Ja B k)=some (Jt X)/\X.size<=100/\(∀w,Calls prog 211 #[Jt X] w (JS (.tuple #[Jt (X++⟨#[13,10]⟩),Ji 0]) w))/\O++(X++⟨#[13,10]⟩)=bs (Qa2 ((Qrl p.data.toList h.data.toList a b).take (k+1)))):=Z (by
   intro W B hc k v O hO;obtain⟨c0,c1,c2,c3⟩:=hc;have f:∀(O:JA) (X:JA) (A:JM) (x:JL),O=bs (Qa2 A)->X=bs x->O++(X++⟨#[13,10]⟩)=bs (Qa2 (A++[x])):=by
    intro O X A x h1 h2;rw[h1,h2,show (⟨#[13,10]⟩:JA)=bs [13,10] from rfl,Qeh,Qeh,QcX];rfl
   match k,v with
   |0,_=>exact⟨L1,c0,by omega,fun w=>Qgx L1 w (by omega) (by rw[<-hL1,Qai];exact T),f _ _ [] _ hO hL1.symm⟩
   |1,_=>exact⟨_,c1,by rw[ByteArray.size_append];show 6+_<=_;omega,fun w=>Qgx _ w (by rw[ByteArray.size_append];show 6+_<=_;omega) (by rw[y,Qai];exact S),f _ _ [QcU p.data.toList] _ hO y⟩
   |2,_=>exact⟨_,c2,by rw[ByteArray.size_append];show 7+_<=_;omega,fun w=>Qgx _ w (by rw[ByteArray.size_append];show 7+_<=_;omega) (by rw[J,Qai];exact U),f _ _ [QcU p.data.toList,QdL h.data.toList] _ hO J⟩
   |3,_=>exact⟨_,c3,by decide,fun w=>Qgx _ w (by decide) (by decide),f _ _ [QcU p.data.toList,QdL h.data.toList,QdX a b] [] hO rfl⟩)
  clear y J T S U z1 z2;have q:(⟨#[71,69,84]⟩:JA).data.toList++32 :: (p.data.toList++32 :: (⟨#[72,84,84,80,47,49,46,49]⟩:JA).data.toList)=QcU p.data.toList:=by unfold QcU;simp
  have G:=fun W=>QAg ⟨#[71,69,84]⟩ p ⟨#[72,84,84,80,47,49,46,49]⟩ W (by decide) (by omega) (by decide)
  rw[q,hL1] at G;have HJ:=Z G;clear q G;go_enter func174,ntmps174;go_wp2_with fail;refine (r.o _).mono ?_;rintro e w1 ⟨rfl,c⟩;obtain⟨c0,c1,c2,c3⟩:=QgX c;have H:=Z c;have m:=Z (HE.o.below c);clear c;go_wp2_with fail;refine (HA.o _ m.o).mono ?_;rintro e Y ⟨rfl,j⟩;have i:=Z (Qaa H.o j);have qb:=Z (m.o.below j);obtain⟨c0,c1,c2,c3⟩:=QgX i.o;have t:w.heap.size<Y.heap.size:=by have:=i.o.size;simp at this;omega
  clear j;go_wp2_with fail;go_region_with (first
   |(go_at_call 71;go_loud (refine (HJ.o _).mono ?_;rintro e wx ⟨rfl,d⟩;obtain⟨hcx,hfx⟩:=QEB d;have K:=d.size)))
  all_goals
   have g:Jw Y wx:=Qaa (((qF _ _).alloc (qC _) _).drew) d;have l:=Z (Qaa i.o (Qaa g ((qF _ _).alloc (qC _) (.cells #[Jt L1,Jt (⟨#[72,111,115,116,58,32]⟩++h),Jt (⟨#[82,97,110,103,101,58,32]⟩++Q),Jt ⟨#[]⟩] 9))));have V:=Z (QAU wx (Jt L1) (Jt (⟨#[72,111,115,116,58,32]⟩++h)) (Jt (⟨#[82,97,110,103,101,58,32]⟩++Q)) (Jt ⟨#[]⟩) 9);clear d g hcx hfx K c0 c1 c2 c3 t p1 p2;generalize hN:wx.alloc (.cells #[Jt L1,Jt (⟨#[72,111,115,116,58,32]⟩++h),Jt (⟨#[82,97,110,103,101,58,32]⟩++Q),Jt ⟨#[]⟩] 9)=wn at l V ⊢;clear hN;go_wp2_with fail;go_simp;go_loopg [7,34] 4 (fun gk s7 s34 wy=>∃(k:Nat) (O:JA),s7 = Jt O/\s34 = Ji (k:Int)/\wy=wn/\k+gk=4/\O.size<=k*200/\Hi (O=bs (Qa2 ((Qrl p.data.toList h.data.toList a b).take k))))
   case atStart=>exact⟨0,⟨#[]⟩,rfl,by simp,rfl,by omega,by decide,Z rfl⟩
   case round=>
    obtain⟨k,O,rfl,rfl,rfl,hgk,hOs,HO⟩:=hrel
    by_cases v:k<4
    ·obtain⟨g',rfl⟩:∃g',gk=g'+1:=⟨gk-1,by omega⟩
     have tk:decide ((k:Int)<4)=true:=qA (by omega)
     obtain⟨X,hc,hXs,HP,HO2⟩:=HX.o wr wx.heap.size V.o k v O HO.o;have R:=fun w=>run_string_add_sum (P:=prog) w O (X++⟨#[13,10]⟩) (by rw[ByteArray.size_append];show _+(_+2)<=_;omega)
     have N:=Z HP;have I:=Z HO2;clear HP HO2;go_wp2_with fail;refine (N.o _).mono ?_;rintro e w' ⟨rfl,rfl⟩;go_wp2_with fail;go_roundg g'
     case measure=>omega
     case rel=>exact⟨k+1,_,rfl,by simp,rfl,by omega,by rw[ByteArray.size_append,ByteArray.size_append];show _+(_+2)<=_;omega,Z I.o⟩
    ·obtain rfl:k=4:=by omega
     have z:Hi (O=bs (Qm2 p.data.toList h.data.toList a b)):=Z (by rw[HO.o];congr 1;unfold Qm2 Qrl;simp[Qa2])
     go_wp2;go_ret2;exact⟨by rw[M.o,<-z.o];rfl,Qaa (QbC w _ _ _ _ _) l.o⟩
 ·have z:Hi (Qkk p.data.toList h.data.toList a b = []):=Z (JJ n)
  obtain⟨D,hZ⟩:∃D,Qg7 p.data.toList h.data.toList a b=D:=⟨_,rfl⟩;rw[hZ] at r n ⊢;have tz:((D:Int) != 0)=true:=by rw[bne_iff_ne];omega
  clear hZ;go_enter func174,ntmps174;go_wp2_with fail;refine (r.o _).mono ?_;rintro e w1 ⟨rfl,c⟩;go_wp2;go_ret2;exact⟨by rw[z.o];rfl,Qaa (QbC w _ _ _ _ _) c⟩
def Qr9(w:World)(m:Int):Prop:=w.cell? (Ja 0 0)=some (Ji m)
theorem QpR(s:JA)(m:Int)(w:World)(c:s.size<1073741824)(a:Qr9 w m) :
  Calls prog 328 #[Jt s] w fun e w'=>∃v,e=.returned v/\w'.ownsRow w.heap.size 9 1 v (Qc3 s.data.toList).length (QfY (Qc3 s.data.toList))/\Jw w w':=by
 have b:=Z a;clear a;go_enter func328,ntmps328;go_wp2_with (go_at_call 340;refine (Tryz.strings_Split s _ m _ (by omega) b.o (by decide)).mono ?_;rintro e w' ⟨rfl,rfl⟩)
 go_ret;refine⟨_,rfl,?_,(qF _ _).alloc (qC _) _⟩;rw[QhK,Qh4];exact QvH w _ _ rfl (by
  rw[<-Qh4];have:=Go.Lib.count_le s.data.toList [32];have d:Go.Lib.countB s ⟨#[32]⟩<=s.size+1:=by simpa using this
  unfold maxLen;omega)
def RdB(w:World)(R:Nat)(l f p h a b:Value):Prop:=w.heap[R]?=some (.cells #[l,f,p,h,a,b] 459 (0,0))
theorem RdB.below{w w':World}{R:Nat}{l f p h a b:Value}(k:RdB w R l f p h a b)(c:Jw w w'):RdB w' R l f p h a b:=
 (c.block R (gsi k).1).trans k
theorem RdB.lt{w:World}{R:Nat}{l f p h a b:Value}(k:RdB w R l f p h a b):R<w.heap.size:=(gsi k).1
theorem RdB.cells{w:World}{R:Nat}{l f p h a b:Value}(k:RdB w R l f p h a b) :
  w.cell? (Ja R 0)=some l/\w.cell? (Ja R 1)=some f/\w.cell? (Ja R 2)=some p/\w.cell? (Ja R 3)=some h/\w.cell? (Ja R 4)=some a/\w.cell? (Ja R 5)=some b:=by
 unfold RdB at k;refine⟨?_,?_,?_,?_,?_,?_⟩<;>(unfold World.cell?;rw[k];rfl)
theorem RdB.free{w:World}{R:Nat}{l f p h a b:Value}(k:RdB w R l f p h a b) :
  w.frozen? (Ja R 0)=false/\w.frozen? (Ja R 1)=false/\w.frozen? (Ja R 2)=false/\w.frozen? (Ja R 3)=false/\w.frozen? (Ja R 4)=false/\w.frozen? (Ja R 5)=false:=by
 unfold RdB at k;refine⟨?_,?_,?_,?_,?_,?_⟩<;>(unfold World.frozen?;rw[k];rfl)
theorem RdB.set1{w:World}{R:Nat}{l f p h a b:Value}(k:RdB w R l f p h a b)(v:Value):RdB (w.setCell (Ja R 1) v) R l v p h a b:=by
 unfold RdB at k ⊢;simp[World.setCell,J6,k]
theorem RdB.set2{w:World}{R:Nat}{l f p h a b:Value}(k:RdB w R l f p h a b)(v:Value):RdB (w.setCell (Ja R 2) v) R l f v h a b:=by
 unfold RdB at k ⊢;simp[World.setCell,J6,k]
theorem RdB.set3{w:World}{R:Nat}{l f p h a b:Value}(k:RdB w R l f p h a b)(v:Value):RdB (w.setCell (Ja R 3) v) R l f p v a b:=by
 unfold RdB at k ⊢;simp[World.setCell,J6,k]
theorem RdB.set45{w:World}{R:Nat}{l f p h a b:Value}(k:RdB w R l f p h a b)(u v:Value):RdB ((w.setCell (Ja R 4) u).setCell (Ja R 5) v) R l f p h u v:=by
 unfold RdB at k ⊢;simp[World.setCell,J6,k]
theorem QbE(w:World)(a:Addr)(v:Value):(w.setCell a v).heap.size=w.heap.size:=by simp
theorem GR.refl(R:Nat)(w:World):w.grownBy w (some R):=⟨rfl,rfl,rfl,qC _,fun _ _ _=>rfl⟩
theorem _root_.Go.World.grownBy.below{w b c:World}{r:Option Nat}(h:w.grownBy b r)(a:Jw b c):w.grownBy c r:=
 ⟨a.os.trans h.os,a.tape.trans h.tape,a.output.trans h.output,qD h.size a.size,fun k hk hne=>(a.block k (qK hk h.size)).trans (h.block k hk hne)⟩
theorem _root_.Go.World.grownBy.set{w b:World}{R:Nat}(h:w.grownBy b (some R))(j:Nat)(v:Value):w.grownBy (b.setCell (Ja R j) v) (some R):=by
 have a:Below R b (b.setCell (Ja R j) v):=(qF R b).setCell (p:=(Ja R j)) (qC _) v;refine⟨a.os.trans h.os,a.tape.trans h.tape,a.output.trans h.output,by rw[QbE];exact h.size,fun k a hne=>?_⟩
 refine Eq.trans ?_ (h.block k a hne);have c:R≠k:=fun e=>hne (by rw[e])
 simp[World.setCell,J6,c]
theorem _root_.Go.World.grownBy.toBelow{w w':World}{R:Nat}(h:w.grownBy w' (some R))(a:R<=w.heap.size):Below R w w':=
 (qF R w).grown h a (fun k hk=>by have:=qS hk;omega)
def QgK(ws:JM):Nat:=if ws.length≠3 then 4 else if ws.getD 0 []≠[71,69,84] then 14 else if ws.getD 2 []≠[72,84,84,80,47,49,46,49] then 13 else if QfF (ws.getD 1 [])=false then 2 else 0
def QcI(ls:JM):Nat:=if ls = [] then 4 else QgK (Qc3 (ls.getD 0 []))
def QiM(ls:JM):JL:=(Qc3 (ls.getD 0 [])).getD 1 []
theorem QrU(x l:JL):((bs x).toList==l)=decide (x=l):=by
 rw[J7,Qai]
 by_cases h:x=l
 ·subst h;simp
 ·simp[h]
theorem Qul(l:JL):∀x∈Qc3 l,x.length<=l.length:=by
 induction l with
 |nil=>intro x hx;simp[Qc3] at hx;subst hx;exact qC _
 |cons c t ih=>
  intro x hx;unfold Qc3 at hx;split at hx
  ·rcases List.mem_cons.1 hx with rfl|hx
   ·exact qL _
   ·have:=ih x hx;simp;omega
  ·cases a:Qc3 t with
   |nil=>rw[a] at hx;simp at hx;subst hx;simp
   |cons y ys=>
    rw[a] at hx ih;rcases List.mem_cons.1 hx with rfl|hx
    ·have:=ih y (JF ..);simp;omega
    ·have:=ih x (JY _ hx);simp;omega
def QxM(R:Nat)(w:World)(lv fv p h a b:Value)(ls:JM)(e:Ending)(w':World):Prop:=e=.returned (Ji (QcI ls:Nat))/\RdB w' R lv fv (if QcI ls=0 then Jt (bs (QiM ls)) else p) h a b/\w.grownBy w' (some R)
theorem Qxw(R:Nat)(w:World)(lv U p h a b:Value)(i:JM)(r:RdB w R lv U p h a b)(S:HoldsS w lv i)(hx:∀x∈i,x.length<=1000000)(J:EnvF w) :
  Calls prog 308 #[Jp R] w (QxM R w lv U p h a b i):=by
 obtain⟨k0,-,-,-,-,-⟩:=r.cells;obtain⟨-,-,f2,-,-,-⟩:=r.free;have W:=r.lt
 by_cases E:i = []
 ·subst E
  obtain⟨av,c,rfl,hc,hh⟩:=S;have Y:=Z r;clear r hh hx J;go_enter func308,ntmps308;go_wp2;go_ret;exact⟨rfl,Y.o,GR.refl _ _⟩
 ·obtain⟨av,c,rfl,hc,hh⟩:=S
  obtain⟨B,o,rfl,hBl,Qak⟩:=hh E;have n:0<i.length:=List.length_pos_iff.2 E;have M:=Qak 0 n;rw[qM] at M;obtain⟨x0,hx0⟩:∃x0,i[0]=x0:=⟨_,rfl⟩;have V:x0.length<=1000000:=hx x0 (hx0 ▸ JG n);have H:i.getD 0 []=x0:=by rw[J9,qU n,hx0];rfl
  rw[hx0] at M;have q:Hi (QcI i=QgK (Qc3 x0)/\QiM i=(Qc3 x0).getD 1 []):=Z ⟨by unfold QcI;rw[JJ E,H],by unfold QiM;rw[H]⟩
  obtain⟨m,hm⟩:=J.m;have T:=Z (QpR (bs x0) m w (by rw[Qaq];omega) hm)
  have tl:((i.length:Int)==0)=false:=by rw[qI];omega
  have L:=Z r;have z:=Qul x0;obtain⟨ws,hws⟩:∃ws,Qc3 x0=ws:=⟨_,rfl⟩;rw[Qai,hws] at T;rw[hws] at q z;clear Qak hh hx r H hx0 hm J;go_enter func308,ntmps308;go_wp2_with fail;refine T.o.mono ?_;rintro e G ⟨v,rfl,C,s⟩;have j:=Z s;have hS:=HoldsS.of_own C;obtain⟨av,cv,hv,hcv,hhv⟩:=hS;subst hv;have f:=Z (L.o.below s);obtain⟨-,-,g2,-,-,-⟩:=f.o.free;clear C M k0 f2 s
  by_cases y:ws.length=3
  ·obtain⟨B',o',rfl,hBl',QFB⟩:=hhv (by intro e;rw[e] at y;simp at y)
   have K:=QFB 0 (by omega)
   have I:=QFB 1 (by omega)
   have O:=QFB 2 (by omega)
   rw[qM] at K;obtain⟨y0,y1,y2,rfl⟩:∃y0 y1 y2,ws = [y0,y1,y2]:=by
    match ws,y with
    |[y0,y1,y2],_=>exact⟨y0,y1,y2,rfl⟩
   change G.cell? (Ja B' o')=some (Jt (bs y0)) at K;change G.cell? (Ja B' (o'+1))=some (Jt (bs y1)) at I;change G.cell? (Ja B' (o'+2))=some (Jt (bs y2)) at O;have D:=Z (fun w=>Qkd (bs y1) w)
   rw[Qai] at D;have N:=QrU y0 [71,69,84];have P:=QrU y2 [72,84,84,80,47,49,46,49];clear QFB hhv y z
   by_cases k:y0 = [71,69,84]
   ·rw[qA k] at N
    by_cases l:y2 = [72,84,84,80,47,49,46,49]
    ·rw[qA l] at P
     cases t:QfF y1 with
     |false=>
      rw[t] at D;have d:Hi (QcI i=2):=Z (by rw[q.o.1];unfold QgK;simp[k,l,t])
      clear t k l;go_wp2_with fail;refine (D.o _).mono ?_;rintro e w2 ⟨rfl,g⟩;go_wp2;go_ret;exact⟨by rw[d.o];rfl,by rw[d.o];exact f.o.below g,((GR.refl R w).below j.o).below g⟩
     |true=>
      rw[t] at D;have d:Hi (QcI i=0/\QiM i=y1):=Z ⟨by rw[q.o.1];unfold QgK;simp[k,l,t],q.o.2⟩
      clear t k l;go_wp2_with fail;refine (D.o _).mono ?_;rintro e w2 ⟨rfl,g⟩;obtain⟨-,-,g2',-,-,-⟩:=(f.o.below g).free;obtain⟨-,-,k2',-,-,-⟩:=(f.o.below g).cells;have X:=(g.cell (p:=(Ja B' (o'+1))) hBl').trans I;have A:=Z g;clear g K O I g2;go_wp2;go_ret;refine⟨by rw[d.o.1];rfl,?_,?_⟩
      ·rw[d.o.1,d.o.2];exact (f.o.below A.o).set2 _
      ·exact (((GR.refl R w).below j.o).below A.o).set 2 _
    ·rw[qB l] at P
     have d:Hi (QcI i=13):=Z (by rw[q.o.1];unfold QgK;simp[k,l])
     clear k l;go_wp2;go_ret;exact⟨by rw[d.o];rfl,by rw[d.o];exact f.o,(GR.refl R w).below j.o⟩
   ·rw[qB k] at N
    have d:Hi (QcI i=14):=Z (by rw[q.o.1];unfold QgK;simp[k])
    clear k;go_wp2;go_ret;exact⟨by rw[d.o];rfl,by rw[d.o];exact f.o,(GR.refl R w).below j.o⟩
  ·have d:Hi (QcI i=4):=Z (by rw[q.o.1];unfold QgK;rw[JK y])
   have t3:((ws.length:Int) != 3)=true:=by rw[bne_iff_ne];omega
   clear hhv y;go_wp2;go_ret;exact⟨by rw[d.o];rfl,by rw[d.o];exact f.o,(GR.refl R w).below j.o⟩
structure Touch(S:Nat->Prop)(w w':World):Prop where
 os:w'.os=w.os
 tape:w'.tape=w.tape
 output:w'.output=w.output
 size:w.heap.size<=w'.heap.size
 block:∀k,k<w.heap.size->¬S k->w'.heap[k]?=w.heap[k]?
theorem Touch.refl(S:Nat->Prop)(w:World):Touch S w w:=⟨rfl,rfl,rfl,qC _,fun _ _ _=>rfl⟩
theorem Touch.trans{S S':Nat->Prop}{a b c:World}(h:Touch S a b)(k:Touch S' b c)(d:∀g,S' g->S g\/a.heap.size<=g):Touch S a c:=
 ⟨k.os.trans h.os,k.tape.trans h.tape,k.output.trans h.output,qD h.size k.size,fun i hi hn=>
  (k.block i (qK hi h.size) (fun hs=>(d i hs).elim hn (fun h2=>by omega))).trans (h.block i hi hn)⟩
theorem Touch.of_below{S:Nat->Prop}{w w':World}(h:Jw w w'):Touch S w w':=⟨h.os,h.tape,h.output,h.size,fun k hk _=>h.block k hk⟩
theorem Touch.of_grown{S:Nat->Prop}{w w':World}{row:Option Nat}(h:w.grownBy w' row)(a:∀g,row=some g->S g\/w.heap.size<=g):Touch S w w':=
 ⟨h.os,h.tape,h.output,h.size,fun k hk hn=>h.block k hk (fun e=>(a k e.symm).elim hn (fun h2=>by omega))⟩
theorem Touch.mono{S S':Nat->Prop}{w w':World}(h:Touch S w w')(a:∀g,S g->S' g):Touch S' w w':=⟨h.os,h.tape,h.output,h.size,fun k hk hn=>h.block k hk (fun hs=>hn (a k hs))⟩
theorem Touch.below{S:Nat->Prop}{B:Nat}{w w':World}(h:Touch S w w')(a:∀g,S g->B<=g)(b:B<=w.heap.size):Below B w w':=
 ⟨h.os,h.tape,h.output,h.size,fun k hk=>h.block k (by omega) (fun hs=>by have:=a k hs;omega)⟩
theorem Qac{w w':World}{base:Nat}{e:JT}{size:Nat}{v:Value}{n:Nat}{xs:JV}(h:w.ownsRow base e size v n xs)(a:∀g,v.ownBlock=some g->w'.heap[g]?=w.heap[g]?):w'.ownsRow base e size v n xs:=by
 refine⟨h.1,?_⟩;rcases h.2 with hn|⟨g,cap,cur,rfl,hg,hgg,rest⟩
 ·exact .inl hn
 ·refine .inr ⟨g,cap,cur,rfl,hg,?_,rest⟩
  rw[a g rfl];exact hgg
theorem Qq7{w w':World}{S:Nat->Prop}{base:Nat}{e:JT}{size:Nat}{v:Value}{n:Nat}{xs:JV}(h:w.ownsRow base e size v n xs)(a:Touch S w w')(b:∀g,v.ownBlock=some g->¬S g):w'.ownsRow base e size v n xs:=
 Qac h (fun g hg=>a.block g (h.lt g hg).2 (b g hg))
theorem Qa5{w:World}{base:Nat}{e:JT}{size:Nat}{v:Value}{n:Nat}{xs:JV}(h:w.ownsRow base e size v n xs)(g:Nat)(a:v.ownBlock=some g):∃cur,w.heap[g]?=some (.cells cur e (0,0)):=by
 rcases h.2 with⟨rfl,_⟩|⟨g',cap,cur,rfl,_,hgg,_⟩
 ·cases a
 ·obtain rfl:g'=g:=by simpa[Value.ownBlock] using a
  exact⟨cur,hgg⟩
theorem Qd8{w:World}{f m:Nat}{b d:JT}{n i k q:Nat}{a c:Value}{p r:JV}(l:w.ownsRow f b n a k p)(j:w.ownsRow m d i c q r)(hne:b≠d):a.ownBlock=none\/a.ownBlock≠c.ownBlock:=by
 cases h:a.ownBlock with
 |none=>exact .inl rfl
 |some g=>
  refine .inr (fun e=>?_)
  obtain⟨c1,k1⟩:=Qa5 l g h;obtain⟨c2,k2⟩:=Qa5 j g e.symm;rw[k1] at k2;simp only[J8,Obj.cells.injEq] at k2;exact hne k2.2.1
theorem Qen{w:World}{f:Nat}{g:JT}{k h:Nat}{c:Value}{l:JV}(i:w.ownsRow f g k c h l){b:Nat}{j:Array MapEntry}{a:Nat}(d:w.heap[b]?=some (.map j a)):c.ownBlock≠some b:=fun hv=>by
 obtain⟨c1,k1⟩:=Qa5 i b hv;rw[k1] at d;cases d
theorem QaR{w:World}{f:Nat}{c:JT}{i g:Nat}{d:Value}{j:JV}(h:w.ownsRow f c i d g j){b:Nat}{cs:JW}{t:JT}{m:Nat×Nat}(a:w.heap[b]?=some (.cells cs t m))(hne:c≠t):d.ownBlock≠some b:=fun hv=>by
 obtain⟨c1,k1⟩:=Qa5 h b hv;rw[k1] at a;simp only[J8,Obj.cells.injEq] at a;exact hne a.2.1
def QaL(l:JL):JV:=l.map fun b=>Value.int .u8 (b.toNat:Int)
theorem QmW(l:JL):(QaL l).length=l.length:=by simp[QaL]
theorem QeF(a b:JL):QaL (a++b)=QaL a++QaL b:=by simp[QaL]
theorem Qls(s:JA):Lib.strCells s=QaL s.data.toList:=rfl
theorem QfE(w:World)(t u f e:JT)(i:TypeInfo)(q:prog.underlying t=some (.slice e))(p:prog.underlying u=some .string)(r:prog.info? e=some i)(y:i.zero=some (Jb 0))(d:i.size=1)(c:i.bytes=1)
  (v:Value) (n:Nat) (xs:JV) (a:w.ownsRow 0 e 1 v n xs) (s:JA) (z:0<s.size) (x:n+s.size<=maxLen) (j:n+s.size<=140737488355328) (l:Value) (w':World) (b:(Builtin.append_ #[t,u] f #[v,Jt s]).run prog w=.ok l w') :
  l.ownBlock=v.ownBlock\/l.ownBlock=some w.heap.size:=by
 unfold maxLen at x;have k:xs.length=n:=by simpa using a.1
 rcases a.2 with⟨rfl,rfl⟩|⟨g,cap,cur,rfl,hbg,hg,hnc,hcm,hcs,htake⟩
 ·have h:=run_append_nil_string (P:=prog) w t u f e i (Jb 0) q p r y s z (by omega) (by rw[c];omega)
  rw[h] at b;injection b with e1 _
  exact .inr (by rw[<-e1];rfl)
 ·by_cases m:n+s.size<=cap
  ·have h:=Lib.run_append_room_string (P:=prog) w t u f e i q p r d g n cap cur hg s m (by have:cur.size=cap:=(by simpa using hcs);omega)
   rw[h] at b;injection b with e1 _
   exact .inl (by rw[<-e1];rfl)
  ·have h:=Lib.run_append_grow_string (P:=prog) w t u f e i (Jb 0) q p r y (Ja g 0) n cap xs (by rw[d];simpa using k) (a.cells (g:=g) rfl) s (by omega) (by omega) (by rw[c];exact growslice_fits (by omega) (by omega))
   rw[h] at b;injection b with e1 _
   exact .inr (by rw[<-e1];rfl)
theorem Qaj{S:Nat->Prop}{w w':World}{a:Addr}(v:Value)(h:Touch S w w')(b:S a.block\/w.heap.size<=a.block):Touch S w (w'.setCell a v):=
 h.trans (S':=fun g=>g=a.block) ⟨rfl,rfl,rfl,by rw[QbE];exact qC _,fun k hk hn=>JO _ _ _ _ hn⟩ (fun g hg=>by rw[hg];exact b)
theorem Qom(e:Ent):Qan [e] = [Ju e.1,Ju e.2.1,Jd e.2.2.1,Jd e.2.2.2]:=rfl
theorem QjT(L:List Ent)(j:Nat)(a:j<L.length):Qan L=Qan (L.take j)++([Ju L[j].1,Ju L[j].2.1,Jd L[j].2.2.1,Jd L[j].2.2.2]++Qan (L.drop (j+1))):=by
 conv=>lhs;rw[show L=L.take j++([L[j]]++L.drop (j+1)) by
  rw[List.singleton_append,<-List.drop_eq_getElem_cons a,List.take_append_drop]]
 rw[QbQ,QbQ,Qom]
theorem QjS(L:List Ent)(j:Nat)(a:j<L.length)(e:Ent):Qan (L.set j e)=Qan (L.take j)++([Ju e.1,Ju e.2.1,Jd e.2.2.1,Jd e.2.2.2]++Qan (L.drop (j+1))):=by
 rw[QjT (L.set j e) j (by rw[List.length_set];exact a)]
 rw[List.take_set_of_le (qC _),List.drop_set_of_lt (Nat.lt_succ_self _),List.getElem_set_self]
theorem Qne(L:List Ent)(j:Nat)(a:j<L.length):(Qan (L.take j)).length=j*4:=by
 rw[Qbg,qW,Nat.min_eq_left (Nat.le_of_lt a)]
theorem Qjd{w:World}{B:Nat}{L:List Ent}{T:JT}(k:w.heap[B]?=some (.cells (Qan L).toArray T (0,0)))(j:Nat)(a:j<L.length)(f:Nat)(e:Ent)(v:Value)
  (h:([Ju L[j].1,Ju L[j].2.1,Jd L[j].2.2.1,Jd L[j].2.2.2]:JV).set f v = [Ju e.1,Ju e.2.1,Jd e.2.2.1,Jd e.2.2.2]) (b:f<4) :
  (w.setCell (Ja B (j*4+f)) v).heap[B]?=some (.cells (Qan (L.set j e)).toArray T (0,0)):=by
 have c:(Qan L).set (j*4+f) v=Qan (L.set j e):=by
  rw[QjT L j a,QjS L j a e,List.set_append_right _ _ (by rw[Qne L j a];omega),Qne L j a,Nat.add_sub_cancel_left,List.set_append_left _ _ (by simpa using b),h]
 rw[<-c];simp[World.setCell,J6,k]
theorem QhM{w:World}{B:Nat}{L:List Ent}{T:JT}(k:w.heap[B]?=some (.cells (Qan L).toArray T (0,0)))(j:Nat)(a:j<L.length) :
  (w.cell? (Ja B (j*4))=some (Ju L[j].1)/\w.cell? (Ja B (j*4+1))=some (Ju L[j].2.1)/\w.cell? (Ja B (j*4+2))=some (Jd L[j].2.2.1)/\w.cell? (Ja B (j*4+3))=some (Jd L[j].2.2.2))/\
  w.frozen? (Ja B (j*4))=false/\w.frozen? (Ja B (j*4+1))=false/\w.frozen? (Ja B (j*4+2))=false/\w.frozen? (Ja B (j*4+3))=false:=by
 obtain⟨h0,h1,h2,h3⟩:=Qed L j a;have key:∀i u,(Qan L)[i]?=some u->w.cell? (Ja B i)=some u:=by
  intro i u b;unfold World.cell?;rw[k];simpa using b
 refine⟨⟨key _ _ h0,key _ _ h1,key _ _ h2,key _ _ h3⟩,?_,?_,?_,?_⟩
 all_goals (unfold World.frozen?;rw[k];rfl)
theorem Qi9{w:World}{B:Nat}{L':List Ent}{T:JT}{a:Addr}{v:Value}(h:(w.setCell a v).heap[B]?=some (.cells (Qan L').toArray T (0,0)))(b:a.block=B)(o:Obj):((w.setCell a v).alloc o).heap[B]?=some (.cells (Qan L').toArray T (0,0))/\Touch (fun g=>g=B) w ((w.setCell a v).alloc o):=
 ⟨(J5 _ _ (gsi h).1).trans h,(Qaj _ (Touch.refl _ _) (.inl b)).trans (S':=fun g=>g=B) (Touch.of_below ((qF _ _).alloc (qC _) _)) (fun g hg=>.inl hg)⟩
def Qgc(c i:Nat)(a:Ent)(x:Nat)(w:World)(B:Nat)(L:List Ent)(j:Nat)(T:JT)(e:Ending)(w':World):Prop:=
 ∃L',e=.returned (Ji ((QeM c i a (L.getD j Qa7) x).1:Nat))/\w'.heap[B]?=some (.cells (Qan L').toArray T (0,0))/\L'.length=L.length/\((QeM c i a (L.getD j Qa7) x).1=0->L'=L.set j (QeM c i a (L.getD j Qa7) x).2)/\Touch (fun g=>g=B) w w'
theorem QbJ{c i:Nat}{a:Ent}{x:Nat}{w:World}{B:Nat}{L:List Ent}{j:Nat}{T:JT}{e:Ending}{w':World}(E:Nat)(b:Ent)(d:QeM c i a (L.getD j Qa7) x=(E,b))(h:e=.returned (Ji E))(L':List Ent)(f:w'.heap[B]?=some (.cells (Qan L').toArray T (0,0)))(k:L'.length=L.length)(l:E=0->L'=L.set j b)(m:Touch (fun g=>g=B) w w'):Qgc c i a x w B L j T e w':=by
 refine⟨L',?_,f,k,?_,m⟩
 ·rw[d];exact h
 ·rw[d];exact l
theorem Qcv{L:List Ent}{j:Nat}(a:j<L.length):L.getD j Qa7=L[j]:=by rw[J9,qU a];rfl
theorem QBk(i b f g m x:Nat)(w:World)(B:Nat)(L:List Ent)(j:Nat)(T:JT)(p:j<L.length)(k:w.heap[B]?=some (.cells (Qan L).toArray T (0,0)))(z:b<18446744073709551616)(hx:x<18446744073709551616) :
  Calls prog 33 #[Ji 0,Ji i,.agg #[Ju b,Ju f,Jd g,Jd m],.pointer (some (Ja B (j*4))),Ju x] w (Qgc 0 i (b,f,g,m) x w B L j T):=by
 have c:=QaV w (Ju b) (Ju f) (Jd g) (Jd m) 61;have s:=(gsi k).1;have q:=(c.block B s).trans k;obtain⟨⟨c0,c1,c2,c3⟩,f0,f1,f2,f3⟩:=QhM q j p;obtain⟨d0,d1,d2,d3⟩:=Qdh w (Ju b) (Ju f) (Jd g) (Jd m) 61;obtain⟨Y,hY⟩:∃Y,(b+x)%18446744073709551616=Y:=⟨_,rfl⟩;have y:IntKind.u64.wrap ((b:Int)+(x:Int))=(Y:Int):=by rw[JU];omega
 have d:(w.setCell (Ja B (j*4)) (Ju Y)).heap[B]?=some (.cells (Qan (L.set j (Y,L[j].2.1,L[j].2.2.1,L[j].2.2.2))).toArray T (0,0)):=Qjd k j p 0 (Y,L[j].2.1,L[j].2.2.1,L[j].2.2.2) (Ju Y) rfl (by decide)
 have n:=Z (Qi9 d rfl (.cells #[Ju b,Ju f,Jd g,Jd m] 61));have v:=(QhM n.o.1 j (by rw[List.length_set];exact p)).1.1
 rw[List.getElem_set_self] at v;have l:QeM 0 i (b,f,g,m) (L.getD j Qa7) x=((if Y<x then 11 else 0),(Y,L[j].2.1,L[j].2.2.1,L[j].2.2.2)):=by
  rw[Qcv p];unfold QeM;rw[JK rfl];simp only[hY]
 by_cases a:Y<x
 ·rw[JK a] at l
  have r:=Z l;have t:decide (Y<x)=true:=qA a;clear l d hY a q c;go_enter func33,ntmps33;go_wp2;go_ret;exact QbJ 11 _ r.o rfl _ n.o.1 (List.length_set ..) (fun h=>by cases h) n.o.2
 ·rw[JJ a] at l
  have r:=Z l;have t:decide (Y<x)=false:=qB a;clear l d hY a q c;go_enter func33,ntmps33;go_wp2;go_ret;exact QbJ 0 _ r.o rfl _ n.o.1 (List.length_set ..) (fun _=>rfl) n.o.2
theorem Qyd(i d f l m x:Nat)(w:World)(B:Nat)(L:List Ent)(j:Nat)(T:JT)(p:j<L.length)(k:w.heap[B]?=some (.cells (Qan L).toArray T (0,0)))(hx:x<18446744073709551616) :
  Calls prog 33 #[Ji 1,Ji i,.agg #[Ju d,Ju f,Jd l,Jd m],.pointer (some (Ja B (j*4))),Ju x] w (Qgc 1 i (d,f,l,m) x w B L j T):=by
 have b:=QaV w (Ju d) (Ju f) (Jd l) (Jd m) 61;have s:=(gsi k).1;have n:=(b.block B s).trans k;obtain⟨⟨c0,c1,c2,c3⟩,f0,f1,f2,f3⟩:=QhM n j p;have c:QeM 1 i (d,f,l,m) (L.getD j Qa7) x=((if 4294967296<=x then 11 else 0),(L[j].1,L[j].2.1,L[j].2.2.1,x)):=by
  rw[Qcv p];unfold QeM;rw[JJ (by decide),JK rfl]
 by_cases a:4294967296<=x
 ·rw[JK a] at c
  have r:=Z c;have q:=Z n;have A:=Z (Touch.of_below (S:=fun g=>g=B) b)
  have y:decide (4294967296<=x)=true:=qA a;have v:decide ((x:Int)>=4294967296)=true:=qA (by omega)
  clear c a n b;go_enter func33,ntmps33;go_wp2;go_ret;exact QbJ 11 _ r.o rfl _ q.o rfl (fun h=>by cases h) A.o
 ·rw[JJ a] at c
  have r:=Z c;have y:decide (4294967296<=x)=false:=qB a;have v:decide ((x:Int)>=4294967296)=false:=qB (by omega)
  have z:IntKind.u32.wrap (x:Int)=(x:Int):=by
   have:IntKind.u32.wrap (x:Int)=(x:Int)%4294967296:=by simp[IntKind.wrap,IntKind.bits,IntKind.signed]
   rw[this];omega
  have t:=Z (Qi9 (Qjd k j p 3 (L[j].1,L[j].2.1,L[j].2.2.1,x) (Jd x) rfl (by decide)) rfl (.cells #[Ju d,Ju f,Jd l,Jd m] 61))
  clear c a n b;go_enter func33,ntmps33;go_wp2;go_ret;exact QbJ 0 _ r.o rfl _ t.o.1 (List.length_set ..) (fun _=>rfl) t.o.2
theorem Qpb(i d f l m x:Nat)(w:World)(B:Nat)(L:List Ent)(j:Nat)(T:JT)(p:j<L.length)(k:w.heap[B]?=some (.cells (Qan L).toArray T (0,0)))(hx:x<18446744073709551616) :
  Calls prog 33 #[Ji 2,Ji i,.agg #[Ju d,Ju f,Jd l,Jd m],.pointer (some (Ja B (j*4))),Ju x] w (Qgc 2 i (d,f,l,m) x w B L j T):=by
 have b:=QaV w (Ju d) (Ju f) (Jd l) (Jd m) 61;have s:=(gsi k).1;have n:=(b.block B s).trans k;obtain⟨⟨c0,c1,c2,c3⟩,f0,f1,f2,f3⟩:=QhM n j p;have c:QeM 2 i (d,f,l,m) (L.getD j Qa7) x=((if 4294967296<=x then 11 else 0),(L[j].1,L[j].2.1,x,L[j].2.2.2)):=by
  rw[Qcv p];unfold QeM;rw[JJ (by decide),JJ (by decide),JK rfl]
 by_cases a:4294967296<=x
 ·rw[JK a] at c
  have r:=Z c;have q:=Z n;have A:=Z (Touch.of_below (S:=fun g=>g=B) b)
  have y:decide (4294967296<=x)=true:=qA a;have v:decide ((x:Int)>=4294967296)=true:=qA (by omega)
  clear c a n b;go_enter func33,ntmps33;go_wp2;go_ret;exact QbJ 11 _ r.o rfl _ q.o rfl (fun h=>by cases h) A.o
 ·rw[JJ a] at c
  have r:=Z c;have y:decide (4294967296<=x)=false:=qB a;have v:decide ((x:Int)>=4294967296)=false:=qB (by omega)
  have z:IntKind.u32.wrap (x:Int)=(x:Int):=by
   have:IntKind.u32.wrap (x:Int)=(x:Int)%4294967296:=by simp[IntKind.wrap,IntKind.bits,IntKind.signed]
   rw[this];omega
  have t:=Z (Qi9 (Qjd k j p 2 (L[j].1,L[j].2.1,x,L[j].2.2.2) (Jd x) rfl (by decide)) rfl (.cells #[Ju d,Ju f,Jd l,Jd m] 61))
  clear c a n b;go_enter func33,ntmps33;go_wp2;go_ret;exact QbJ 0 _ r.o rfl _ t.o.1 (List.length_set ..) (fun _=>rfl) t.o.2
theorem QEt(i:Nat)(a e:Ent)(x:Nat):QeM 3 i a e x=((if (i=0/\x=0)\/(0<i/\0<x/\x-1=Qeo a) then 4 else 0),(e.1,(if x=0 then Qeo a else x-1),e.2.2.1,e.2.2.2)):=by
 unfold QeM;rw[JJ (by decide),JJ (by decide),JJ (by decide)]
theorem Qad{W W':World}{B:Nat}{C:JW}{T:JT}(h:W.heap[B]?=some (.cells C T (0,0)))(a:Jw W W'):W'.heap[B]?=some (.cells C T (0,0)):=(a.block B (gsi h).1).trans h
theorem Qpa(i m n c l x:Nat)(w:World)(B:Nat)(L:List Ent)(j:Nat)(T:JT)(D:j<L.length)(k:w.heap[B]?=some (.cells (Qan L).toArray T (0,0)))(ha:c<4294967296)(hx:x<18446744073709551616) :
  Calls prog 33 #[Ji 3,Ji i,.agg #[Ju m,Ju n,Jd c,Jd l],.pointer (some (Ja B (j*4))),Ju x] w (Qgc 3 i (m,n,c,l) x w B L j T):=by
 have H:=QaV w (Ju m) (Ju n) (Jd c) (Jd l) 61;have v:=(gsi k).1;have G:=(H.block B v).trans k;obtain⟨⟨c0,c1,c2,c3⟩,f0,f1,f2,f3⟩:=QhM G j D;have q:=Z (fun W=>Qop m n c l W ha)
 obtain⟨Y,hY⟩:∃Y:Nat,Y=(if x=0 then 18446744073709551615 else x-1):=⟨_,rfl⟩
 have qa:IntKind.u64.wrap ((x:Int)-1)=(Y:Int):=by
  rw[JU,hY]
  by_cases h:x=0
  ·rw[JK h,h];rfl
  ·rw[JJ h];omega
 have t:Hi (((w.alloc (.cells #[Ju m,Ju n,Jd c,Jd l] 61)).setCell (Ja B (j*4+1)) (Ju Y)).heap[B]?=some (.cells (Qan (L.set j (L[j].1,Y,L[j].2.2.1,L[j].2.2.2))).toArray T (0,0))/\Touch (fun g=>g=B) w ((w.alloc (.cells #[Ju m,Ju n,Jd c,Jd l] 61)).setCell (Ja B (j*4+1)) (Ju Y))):=Z ⟨Qjd G j D 1 (L[j].1,Y,L[j].2.2.1,L[j].2.2.2) (Ju Y) rfl (by decide),Qaj _ (Touch.of_below H) (.inl rfl)⟩
 have A:Hi (E4 ((w.alloc (.cells #[Ju m,Ju n,Jd c,Jd l] 61)).setCell (Ja B (j*4+1)) (Ju Y)) w.heap.size m n c l):=Z (by
  have h:=JI w (.cells #[Ju m,Ju n,Jd c,Jd l] 61);have h2:=(JO (w.alloc (.cells #[Ju m,Ju n,Jd c,Jd l] 61)) (Ja B (j*4+1)) (Ju Y) w.heap.size (by show w.heap.size≠B;omega)).trans h
  exact (QaC h2).1)
 have C:Hi (w.heap.size<((w.alloc (.cells #[Ju m,Ju n,Jd c,Jd l] 61)).setCell (Ja B (j*4+1)) (Ju Y)).heap.size):=Z (by simp)
 have f:=QEt i (m,n,c,l) (L.getD j Qa7) x;rw[Qcv D] at f;have K:=Z (qE D k);clear G H k
 by_cases b:x=0
 ·by_cases d:i=0
  ·rw[JK (.inl ⟨d,b⟩)] at f
   rw[<-Qcv D] at f;have z:=Z f;have U:((i:Int)==0)=true:=by rw[d];rfl
   have s2:((x:Int)==0)=true:=by rw[b];rfl
   clear f b d hY v;go_enter func33,ntmps33;go_wp2_with fail;refine Qae (by kernel_rfl) (by kernel_rfl) ?_
   repeat (go_big_quiet_step ((go_at_call 81;exact QaA (q.o _))))
   refine wpQuiet_nil ?_;intro O a;have r:=Z (QaQ a);clear a;go_wp2;go_ret;exact QbJ 4 _ z.o rfl _ (Qad t.o.1 r.o) (List.length_set ..) (fun h=>by cases h) (t.o.2.trans (S':=fun g=>g=B) (Touch.of_below r.o) (fun g hg=>.inl hg))
  ·have E:¬((i=0/\x=0)\/(0<i/\0<x/\x-1=Qeo (m,n,c,l))):=by
    rintro (⟨h,-⟩|⟨-,h,-⟩)
    ·exact d h
    ·omega
   rw[JJ E,JK b] at f;rw[<-Qcv D] at f;have z:=Z f;have U:((i:Int)==0)=false:=by rw[qI];omega
   have s2:((x:Int)==0)=true:=by rw[b];rfl
   have s3:decide (0<i)=true:=qA (by omega)
   have s4:decide (0<x)=false:=qB (by omega)
   clear f b d hY E v;generalize Qeo (m,n,c,l)=y at q z;go_enter func33,ntmps33;go_wp2_with fail;refine Qae (by kernel_rfl) (by kernel_rfl) ?_
   repeat (go_big_quiet_step ((go_at_call 81;exact QaA (q.o _))))
   refine wpQuiet_nil ?_;intro O a;have r:=Z (QaQ a);clear a c0 c1 c2 c3 f0 f1 f2 f3;have S:=Z (Qad t.o.1 r.o);have h4:=QdT A.o C.o r.o;obtain⟨d0,d1,d2,d3⟩:=h4;go_wp2_with fail;refine (q.o _).mono ?_;rintro e W2 ⟨rfl,I⟩;have M:=Z (Qad S.o I);have X:Hi (Touch (fun g=>g=B) w W2):=Z (t.o.2.trans (S':=fun g=>g=B) (Touch.of_below (Qaa r.o I)) (fun g hg=>.inl hg))
   obtain⟨⟨c0,c1,c2,c3⟩,f0,f1,f2,f3⟩:=QhM M.o j (by rw[List.length_set];exact K.o.1)
   clear I d0 d1 d2 d3;go_wp2;go_ret;refine QbJ 0 _ z.o rfl _ (Qjd M.o j (by rw[List.length_set];exact K.o.1) 1 (L[j].1,y,L[j].2.2.1,L[j].2.2.2) (Ju y) (by rw[List.getElem_set_self];rfl) (by decide)) (by rw[List.length_set,List.length_set]) (fun _=>by rw[List.set_set,Qcv K.o.1]) (Qaj _ X.o (.inl rfl))
 ·have s:Y=x-1:=by rw[hY,JJ b]
  have s2:((x:Int)==0)=false:=by rw[qI];omega
  have s4:decide (0<x)=true:=qA (by omega)
  rw[JJ b] at f
  by_cases d:i=0
  ·have E:¬((i=0/\x=0)\/(0<i/\0<x/\x-1=Qeo (m,n,c,l))):=by
    rintro (⟨-,h⟩|⟨h,-⟩)
    ·exact b h
    ·omega
   rw[JJ E,<-s,<-Qcv D] at f;have z:=Z f;have U:((i:Int)==0)=true:=by rw[d];rfl
   have s3:decide (0<i)=false:=qB (by omega)
   clear f b d hY s E v;go_enter func33,ntmps33;go_wp2_with fail;refine Qae (by kernel_rfl) (by kernel_rfl) ?_
   repeat (go_big_quiet_step ((go_at_call 81;exact QaA (q.o _))))
   refine wpQuiet_nil ?_;intro O a;have r:=Z (QaQ a);clear a c0 c1 c2 c3 f0 f1 f2 f3;go_wp2;go_ret;exact QbJ 0 _ z.o rfl _ (Qad t.o.1 r.o) (List.length_set ..) (fun _=>by rw[Qcv K.o.1]) (t.o.2.trans (S':=fun g=>g=B) (Touch.of_below r.o) (fun g hg=>.inl hg))
  ·have U:((i:Int)==0)=false:=by rw[qI];omega
   have s3:decide (0<i)=true:=qA (by omega)
   have HA:=Z (fun (p:BelowOf ((w.alloc (.cells #[Ju m,Ju n,Jd c,Jd l] 61)).setCell (Ja B (j*4+1)) (Ju Y)))=>QdT A.o C.o p.below)
   have N:=Z (fun (p:BelowOf ((w.alloc (.cells #[Ju m,Ju n,Jd c,Jd l] 61)).setCell (Ja B (j*4+1)) (Ju Y)))=>(QhM (Qad t.o.1 p.below) j (by rw[List.length_set];exact K.o.1)).1.2.1)
   rw[List.getElem_set_self] at N;obtain⟨y,hZ⟩:∃y,Qeo (m,n,c,l)=y:=⟨_,rfl⟩;rw[hZ] at q f
   by_cases J:Y=y
   ·rw[JK (.inr ⟨by omega,by omega,by omega⟩),<-Qcv D] at f
    have z:=Z f;have s5:((Y:Int)==(y:Int))=true:=by rw[J];exact beq_self_eq_true _
    have s6:(Y==y)=true:=by rw[J];exact beq_self_eq_true _
    clear f b d hY s hZ J v;go_enter func33,ntmps33;go_wp2_with fail;generalize (w.alloc (.cells #[Ju m,Ju n,Jd c,Jd l] 61)).setCell (Ja B (j*4+1)) (Ju Y)=W0 at HA N t A C ⊢;have G:=fun p=>(HA.o p).1
    have P:=fun p=>(HA.o p).2.1
    have V:=fun p=>(HA.o p).2.2.1
    have R:=fun p=>(HA.o p).2.2.2
    have k4:=fun p=>N.o p
    refine Qae (by kernel_rfl) (by kernel_rfl) ?_
    repeat (go_big_quiet_step ((go_at_call 81;exact QaA (q.o _))))
    refine wpQuiet_nil ?_;intro O a;have r:=Z (QaQ a);clear a c0 c1 c2 c3 f0 f1 f2 f3 G P V R k4;go_wp2;go_ret;exact QbJ 4 _ z.o rfl _ (Qad t.o.1 r.o) (List.length_set ..) (fun h=>by cases h) (t.o.2.trans (S':=fun g=>g=B) (Touch.of_below r.o) (fun g hg=>.inl hg))
   ·have E:¬((i=0/\x=0)\/(0<i/\0<x/\x-1=y)):=by
     rintro (⟨-,h⟩|⟨-,-,h⟩)
     ·exact b h
     ·exact J (s.trans h)
    rw[JJ E,<-s,<-Qcv D] at f;have z:=Z f;have s5:((Y:Int)==(y:Int))=false:=by rw[qI];omega
    have s6:(Y==y)=false:=by rw[qI];exact J
    clear f b d hY s hZ J E v;go_enter func33,ntmps33;go_wp2_with fail;generalize (w.alloc (.cells #[Ju m,Ju n,Jd c,Jd l] 61)).setCell (Ja B (j*4+1)) (Ju Y)=W0 at HA N t A C ⊢;have G:=fun p=>(HA.o p).1
    have P:=fun p=>(HA.o p).2.1
    have V:=fun p=>(HA.o p).2.2.1
    have R:=fun p=>(HA.o p).2.2.2
    have k4:=fun p=>N.o p
    refine Qae (by kernel_rfl) (by kernel_rfl) ?_
    repeat (go_big_quiet_step ((go_at_call 81;exact QaA (q.o _))))
    refine wpQuiet_nil ?_;intro O a;have r:=Z (QaQ a);clear a c0 c1 c2 c3 f0 f1 f2 f3 G P V R k4;go_wp2;go_ret;exact QbJ 0 _ z.o rfl _ (Qad t.o.1 r.o) (List.length_set ..) (fun _=>by rw[Qcv K.o.1]) (t.o.2.trans (S':=fun g=>g=B) (Touch.of_below r.o) (fun g hg=>.inl hg))
def Odd(o:Obj):Prop:=o.isCells=false/\∀es c,o≠.map es c
def QAF(T:JT->Prop)(B:Nat)(W:World)(r:Nat):Prop:=B<=r/\∃cs t m,W.heap[r]?=some (.cells cs t m)/\T t
def QAw(T:JT->Prop)(B:Nat)(W:World)(r:Nat):Prop:=QAF T B W r\/(B<=r/\∃o,W.heap[r]?=some o/\Odd o)
def AbC{β:Type}(T:JT->Prop)(B:Nat)(J:β->World->Prop):Prop:=∀s W W' row,J s W->W.grownBy W' row->(∀r,row=some r->QAF T B W r)->J s W'
def AbT{β:Type}(T:JT->Prop)(B:Nat)(J:β->World->Prop):Prop:=∀s W W' row,J s W->W.grownBy W' row->(∀r,row=some r->QAw T B W r)->J s W'
structure KeptC(T:JT->Prop)(W W':World):Prop where
 sz:W.heap.size<=W'.heap.size
 cl:∀(k:Nat) (cs:JW) (t:JT) (m:Nat×Nat),W.heap[k]?=some (.cells cs t m)->T t->W'.heap[k]?=some (.cells cs t m)
structure KeptT(T:JT->Prop)(W W':World):Prop extends KeptC T W W' where
 od:∀(k:Nat) (o:Obj),W.heap[k]?=some o->Odd o->W'.heap[k]?=some o
theorem KeptC.refl(T:JT->Prop)(W:World):KeptC T W W:=⟨qC _,fun _ _ _ _ h _=>h⟩
theorem KeptC.trans{T:JT->Prop}{A B C:World}(h:KeptC T A B)(k:KeptC T B C):KeptC T A C:=⟨qD h.sz k.sz,fun i cs t m x y=>k.cl i cs t m (h.cl i cs t m x y) y⟩
theorem KeptT.trans{T:JT->Prop}{A B C:World}(h:KeptT T A B)(k:KeptT T B C):KeptT T A C:=⟨h.toKeptC.trans k.toKeptC,fun i o x y=>k.od i o (h.od i o x y) y⟩
theorem KeptT.of_grown{T:JT->Prop}{W W':World}{row:Option Nat}(h:W.grownBy W' row)(f:∀r,row=some r->W.heap.size<=r\/(∃cs t m,W.heap[r]?=some (.cells cs t m)/\¬T t)\/(∃es c,W.heap[r]?=some (.map es c))):KeptT T W W':=by
 have key:∀(k:Nat) (o:Obj),W.heap[k]?=some o->some k=row->(∃cs t m,o=.cells cs t m/\¬T t)\/∃es c,o=.map es c:=by
  intro k o a b;have d:=(gsi a).1;rcases f k b.symm with h1|⟨cs,t,m,h1,h2⟩|⟨es,c,h1⟩
  ·omega
  ·rw[a] at h1;exact .inl ⟨cs,t,m,qS h1,h2⟩
  ·rw[a] at h1;exact .inr ⟨es,c,qS h1⟩
 refine⟨⟨h.size,fun k cs t m a ht=>?_⟩,fun k o a ho=>?_⟩
 ·refine (h.block k (gsi a).1 (fun e=>?_)).trans a
  rcases key k _ a e with⟨cs',t',m',e1,h2⟩|⟨es,c,e1⟩
  ·injection e1 with _ e2 _;subst e2;exact h2 ht
  ·cases e1
 ·refine (h.block k (gsi a).1 (fun e=>?_)).trans a
  rcases key k _ a e with⟨cs',t',m',e1,h2⟩|⟨es,c,e1⟩
  ·subst e1;have:=ho.1;cases this
  ·exact ho.2 es c e1
theorem KeptT.alloc{T:JT->Prop}(W:World)(o:Obj):KeptT T W (W.alloc o):=KeptT.of_grown (World.grownBy_alloc W o none) (fun _ e=>by cases e)
theorem KeptT.drew{T:JT->Prop}(W:World):KeptT T W W.drew:=⟨⟨qC _,fun _ _ _ _ h _=>h⟩,fun _ _ h _=>h⟩
theorem KeptT.setCell{T:JT->Prop}(W:World){a:Addr}(v:Value){cs:JW}{t:JT}{m:Nat×Nat}(h:W.heap[a.block]?=some (.cells cs t m))(b:¬T t):KeptT T W (W.setCell a v):=
 KeptT.of_grown (row:=some a.block) ⟨rfl,rfl,rfl,by simp[World.setCell],fun k _ hk=>JO _ _ _ _ (fun e=>hk (by rw[e]))⟩ (fun r e=>by cases e;exact .inr (.inl ⟨cs,t,m,h,b⟩))
def QE0{α:Type}(F:Fence)(n:Nat)(P:Program)(g:Nat)(lb:JW)(encs:α->JW)(T:JT->Prop)(G:List α->α->Prop)(S:List α->Prop)(w:World):Prop:=
 ∀(l:Nat) (J:List α->World->Prop) (W:World),Jw w W->AbC T W.heap.size J->
  (∀pre x W1,J pre W1->G pre x->YieldAt F (n-1) P l (encs x) W1 fun e W'=>e=.returned (.bool true)/\J (pre++[x]) W'/\KeptC T W1 W')->
  J [] W->CallsIn F n P g (#[.func (.yield l) #[] #[]]++lb) W fun e W'=>(∃v,e=.returned v)/\∃xs,S xs/\J xs W'
theorem AbT.putObj{β:Type}{T:JT->Prop}{B:Nat}{I:β->World->Prop}(h:AbT T B I){s:β}{W:World}{l:Nat}{o:Obj}(a:Obj)(f:I s W)(d:B<=l)(c:W.heap[l]?=some o)(b:Odd o):I s (W.putObj l a):=
 h s W _ (some l) f (grownBy_putObj' W l a) (fun r e=>by cases e;exact .inr ⟨d,o,c,b⟩)
theorem AbT.alloc{β:Type}{T:JT->Prop}{B:Nat}{I:β->World->Prop}(h:AbT T B I){s:β}{W:World}(o:Obj)(a:I s W):I s (W.alloc o):=
 h s W _ none a (World.grownBy_alloc W o none) (fun r e=>by cases e)
theorem Qce(r:Loop):Odd (.loop r):=⟨rfl,fun _ _ h=>by cases h⟩
theorem QpE(d:Option (List Deferred)):Odd (.deferred d):=⟨rfl,fun _ _ h=>by cases h⟩
theorem QoD{T:JT->Prop}{B:Nat}{W W':World}{row:Option Nat}(b:W.grownBy W' row)(d:∀r,row=some r->QAF T B W r){k:Nat}{o:Obj}(a:W.heap[k]?=some o)(c:Odd o):W'.heap[k]?=some o:=by
 refine (b.block k (gsi a).1 (fun e=>?_)).trans a
 obtain⟨-,cs,t,m,h1,-⟩:=d k e.symm;rw[a] at h1;obtain rfl:=qS h1;have:=c.1;cases this
theorem Qu2{α:Type}{F:Fence}{n:Nat}{P:Program}{g:Operand}{E:Array Tmp}{assign Qa2:Code}{Q:Exit->Act->World->Prop}{a:Act}{w:World}
  (O:F.round=none) (h1:1<=n) {gf:Nat} {lb:JW} (hg:a.eval g=.func (.func gf) #[] lb) (qi:F.fn gf) (eg:∀args w,(callFunc gf args).run P w=.ok (.enter gf args) w)
  {c:α->JW} (T:JT->Prop) {G:List α->α->Prop} {S:List α->Prop} {w0:World} (R:QE0 F (n-1) P gf lb c T G S w0) (C:Jw w0 w) (qe:∀x,(c x).size=E.size)
  (I:List α->World->Prop) (y:AbT T w.heap.size I) (h0:I [] w) (a₁:α->Act)
  (qd:∀(l:Nat) (x:α) (W:World) (K:Act->World->Prop),K (a₁ x) W->
   assign.wpIn (F.inRound l) (n-1-1) P (Exit.then K (fun _ _ _=>False)) { tmps:=(E.zip (c x)).foldl (fun t (p,v)=>t.setIfInBounds p v) a.tmps,defers:=[] } W)
  (qj:∀(l:Nat) (b:List α) (x:α) (W:World),I b W->G b x->Qa2.wpIn (F.inRound l) (n-1-1) P (fun e _ W'=>e=.normal/\KeptT T W W'/\I (b++[x]) W') (a₁ x) W)
  (N:∀(D:Nat) (xs:List α) (W:World),w.heap.size<=D->S xs->I xs W->W.heap[D]?=some (.deferred (some []))->Q .normal { a with defers:={ target:=.collected D,args:=#[] } :: a.defers } W) :
  (Code.rangeFunc g E assign Qa2).wpIn F n P Q a w:=by
 refine wpIn_rangeFunc ?_;intro fn qf;rw[O];obtain⟨rc,hrc⟩:∃rc:LoopState->Loop,rc=fun st=>{ state:=st,pending:=none,fn,tmps:=a.tmps,params:=E,assign,body:=Qa2,defers:=w.heap.size }:=⟨_,rfl⟩
 obtain⟨W1,hW1⟩:∃W1,(w.alloc (.deferred (some []))).alloc (.loop (rc .ready))=W1:=⟨_,rfl⟩;have qb:W1.heap[w.heap.size+1]?=some (.loop (rc .ready)):=by
  rw[<-hW1];have:=World.alloc_heap_new (w.alloc (.deferred (some []))) (.loop (rc .ready))
  rwa[qJ] at this
 have qa:W1.heap[w.heap.size]?=some (.deferred (some [])):=by
  rw[<-hW1];exact (JQ _ _ _ (by simp)).trans (World.alloc_heap_new w _)
 have qk:W1.heap.size=w.heap.size+2:=by rw[<-hW1];simp
 have qc:I [] W1:=by rw[<-hW1];exact y.alloc _ (y.alloc _ h0)
 have qh:Jw w0 W1:=by
  rw[<-hW1];exact C.trans ((((qF _ w).alloc (qC _) _).alloc (by simp) _).mono C.size)
 refine⟨w.heap.size+1,[{ target:=.collected w.heap.size,args:=#[] }],W1,{ target:=.fn (.func gf) lb,args:=#[.func (.yield (w.heap.size+1)) #[] #[]] },W1,gf,#[.func (.yield (w.heap.size+1)) #[] #[]]++lb,W1,?_,?_,?_,?_,fun _=>h1,?_⟩
 ·rw[<-hW1,hrc];exact run_enterLoop_outer _ _ _ _ _
 ·simp only[resolve,hg]
  simp[go_sem]
 ·intro f' z;simp[Target.leads] at z;subst z;exact qi
 ·simp[invoke,go_sem,eg]
 ·have U:∀ {A:World} {row:Option Nat},(∀r,row=some r->QAF T W1.heap.size A r)->(∀r,row=some r->QAw T w.heap.size A r):=
   fun d r e=>.inl ⟨by have:=(d r e).1;omega,(d r e).2⟩
  refine (R (w.heap.size+1) (fun b W=>I b W/\W.heap[w.heap.size+1]?=some (.loop (rc .ready))/\W.heap[w.heap.size]?=some (.deferred (some []))) W1 qh
   (fun s A B row hs hg' d=>⟨y s A B row hs.1 hg' (U d),QoD hg' d hs.2.1 (Qce _),QoD hg' d hs.2.2 (QpE _)⟩) ?_ ⟨qc,qb,qa⟩).mono ?_
  ·rintro b x W ⟨hi,j,J⟩ hlen
   have L:w.heap.size+1<W.heap.size:=(gsi j).1;have hy:=run_yield (P:=P) (args:=c x) j (by rw[hrc];exact qe x)
   rw[hrc] at hy;refine⟨fn,_,assign,Qa2,hy,roundIn_of_wpIn qf (qd _ x W _ ?_)⟩;clear hy;obtain⟨i,hW2⟩:∃i,W.putObj (w.heap.size+1) (.loop { rc .ready with state:=.busy })=i:=⟨_,rfl⟩
   refine⟨i,by rw[<-hW2];exact run_beginRound j (by rw[hrc]),?_⟩
   have V:i.heap[w.heap.size+1]?=some (.loop { rc .ready with state:=.busy }):=by rw[<-hW2];exact World.putObj_heap_same L
   have H:i.heap[w.heap.size]?=some (.deferred (some [])):=by rw[<-hW2];exact (World.putObj_heap_other (by omega)).trans J
   have put:∀(A:World) (o o':Obj),A.heap[w.heap.size+1]?=some o->Odd o->KeptC T A (A.putObj (w.heap.size+1) o'):=fun A o o' h ho=>
    ⟨by simp,fun k cs t m hk _=>(World.putObj_heap_other (fun e=>by subst e;rw[h] at hk;obtain rfl:=qS hk;have:=ho.1;cases this)).trans hk⟩
   have Y:I b i:=by rw[<-hW2];exact y.putObj _ hi (by omega) j (Qce _)
   have M:KeptC T W i:=by rw[<-hW2];exact put W _ _ j (Qce _)
   refine wpIn_mono (qj _ b x i Y hlen) ?_;rintro e a3 W3 ⟨rfl,q,qg⟩;have f:=q.od _ _ V (Qce _);have X:=q.od _ _ H (QpE _);have d:=run_endRound (P:=P) none f;rw[hrc] at d;refine⟨_,_,d,rfl,⟨?_,?_,?_⟩,?_⟩
   ·exact y.putObj _ qg (by omega) f (Qce _)
   ·rw[hrc];exact World.putObj_heap_same (gsi f).1
   ·exact (World.putObj_heap_other (by omega)).trans X
   ·exact M.trans (q.toKeptC.trans (put W3 _ _ f (Qce _)))
  ·rintro e i ⟨⟨v,rfl⟩,xs,hS,hi,j,J⟩
   have d:=run_endLoop (P:=P) j (by rw[hrc];simp)
   refine⟨none,_,by rw[hrc] at d;exact d,N _ xs _ (qC _) hS (y.putObj _ hi (by omega) j (Qce _)) ((World.putObj_heap_other (by omega)).trans J)⟩
theorem KeptC.of_below{T:JT->Prop}{W W':World}(h:Jw W W'):KeptC T W W':=⟨h.size,fun k _ _ _ hk _=>(h.block k (gsi hk).1).trans hk⟩
theorem KeptT.of_below{T:JT->Prop}{W W':World}(h:Jw W W'):KeptT T W W':=⟨KeptC.of_below h,fun k _ hk _=>(h.block k (gsi hk).1).trans hk⟩
theorem QfS{W W':World}(h:Jw W W'):W.grownBy W' none:=⟨h.os,h.tape,h.output,h.size,fun k hk _=>h.block k hk⟩
theorem AbC.below{β:Type}{T:JT->Prop}{B:Nat}{J:β->World->Prop}(h:AbC T B J){s:β}{W W':World}(a:J s W)(b:Jw W W'):J s W':=h s W W' none a (QfS b) (fun r e=>by cases e)
theorem AbC.alloc{β:Type}{T:JT->Prop}{B:Nat}{J:β->World->Prop}(h:AbC T B J){s:β}{W:World}(o:Obj)(a:J s W):J s (W.alloc o):=h s W _ none a (World.grownBy_alloc W o none) (fun r e=>by cases e)
def Qkm(x:Nat)(w:World)(e:Ending)(w':World):Prop:=e=.returned (Ju x)/\Jw w w'
theorem Qqk(c i a k f j g d l m:Nat)(w:World)(hc:c<4)(hi:i<1000000)(E:f<4294967296)(T:Qbt (g,d,l,m))(r:a<=g\/c≠0)(Y:d<18446744073709551615) :
  Calls prog 113 #[Ji c,Ji i,.agg #[Ju a,Ju k,Jd f,Jd j],.agg #[Ju g,Ju d,Jd l,Jd m]] w (Qkm (QpG c i (a,k,f,j) (g,d,l,m)) w):=by
 obtain⟨W,hW⟩:∃W,(w.alloc (.cells #[Ju a,Ju k,Jd f,Jd j] 61)).alloc (.cells #[Ju g,Ju d,Jd l,Jd m] 61)=W:=⟨_,rfl⟩;have M:Jw w W:=by rw[<-hW];exact ((qF _ _).alloc (qC _) _).alloc (by simp) _
 have R:W.heap.size=w.heap.size+2:=by rw[<-hW];simp
 have I:W.heap[w.heap.size]?=some (.cells #[Ju a,Ju k,Jd f,Jd j] 61 (0,0)):=by
  rw[<-hW];exact (J5 _ _ (by rw[qJ];omega)).trans (JI w _)
 have v:W.heap[w.heap.size+1]?=some (.cells #[Ju g,Ju d,Jd l,Jd m] 61 (0,0)):=by
  have:=JI (w.alloc (.cells #[Ju a,Ju k,Jd f,Jd j] 61)) (.cells #[Ju g,Ju d,Jd l,Jd m] 61);rw[qJ] at this;rw[<-hW];exact this
 obtain⟨⟨x0,x1,x2,x3⟩,-⟩:=QaC I;obtain⟨⟨y0,y1,y2,y3⟩,-⟩:=QaC v;have t:=Z M;obtain⟨x,B,A,z⟩:=T;have x:g<18446744073709551616:=x;have B:d<18446744073709551616:=B;have A:l<4294967296:=A;have z:m<4294967296:=z;obtain⟨X,hX⟩:∃X,QpG c i (a,k,f,j) (g,d,l,m)=X:=⟨_,rfl⟩;rw[hX];unfold QpG at hX;simp only[] at hX;have s:=Z (fun W=>Qop a k f j W E)
 clear I v M;rcases (by omega:c=0\/c=1\/c=2\/c=3) with rfl|rfl|rfl|rfl
 ·rw[JK rfl] at hX
  have U:a<=g:=r.resolve_right (fun h=>h rfl)
  have V:IntKind.u64.wrap ((g:Int)-(a:Int))=(X:Int):=by rw[JU];omega
  refine (show Calls prog 113 #[Ji 0,Ji i,.agg #[Ju a,Ju k,Jd f,Jd j],.agg #[Ju g,Ju d,Jd l,Jd m]] w (Qkm X w) from ?_);clear hX r;go_enter func113,ntmps113;go_wp2;go_ret;exact⟨QbS (by omega),t.o⟩
 ·rw[JJ (by decide),JK rfl] at hX
  subst hX;refine (show Calls prog 113 #[Ji 1,Ji i,.agg #[Ju a,Ju k,Jd f,Jd j],.agg #[Ju g,Ju d,Jd l,Jd m]] w (Qkm m w) from ?_);clear r;go_enter func113,ntmps113;go_wp2;go_ret;exact⟨QbS (by omega),t.o⟩
 ·rw[JJ (by decide),JJ (by decide),JK rfl] at hX
  subst hX;refine (show Calls prog 113 #[Ji 2,Ji i,.agg #[Ju a,Ju k,Jd f,Jd j],.agg #[Ju g,Ju d,Jd l,Jd m]] w (Qkm l w) from ?_);clear r;go_enter func113,ntmps113;go_wp2;go_ret;exact⟨QbS (by omega),t.o⟩
 ·rw[JJ (by decide),JJ (by decide),JJ (by decide)] at hX
  refine (show Calls prog 113 #[Ji 3,Ji i,.agg #[Ju a,Ju k,Jd f,Jd j],.agg #[Ju g,Ju d,Jd l,Jd m]] w (Qkm X w) from ?_);have v:∀q:BelowOf W,Jx q.world (w.heap.size+1) 1 (Ju d):=fun q=>QaD q (by show w.heap.size+1<_;omega) y1
  have L:∀q:BelowOf W,Jx q.world w.heap.size 0 (Ju a):=fun q=>QaD q (by show w.heap.size<_;omega) x0
  have H:∀q:BelowOf W,Jx q.world w.heap.size 1 (Ju k):=fun q=>QaD q (by show w.heap.size<_;omega) x1
  have N:∀q:BelowOf W,Jx q.world w.heap.size 2 (Jd f):=fun q=>QaD q (by show w.heap.size<_;omega) x2
  have J:∀q:BelowOf W,Jx q.world w.heap.size 3 (Jd j):=fun q=>QaD q (by show w.heap.size<_;omega) x3
  have C:=Z (qE R y1)
  by_cases G:0<i
  ·have P:decide ((0:Int)<(i:Int))=true:=qA (by omega)
   by_cases D:d=Qeo (a,k,f,j)
   ·rw[JK ⟨G,D⟩] at hX
    subst hX;have S:((d:Int)==(Qeo (a,k,f,j):Int))=true:=by rw[beq_iff_eq];omega
    clear r D;go_enter func113,ntmps113;go_wp2_with fail;refine Qae (by kernel_rfl) (by kernel_rfl) ?_
    repeat (go_big_quiet_step ((go_at_call 81;exact QaA (s.o _))))
    refine wpQuiet_nil ?_;intro K b;have y:=Z (QaQ b);clear b;go_wp2;go_ret;exact⟨rfl,Qaa t.o y.o⟩
   ·rw[JJ (fun h=>D h.2)] at hX
    have S:((d:Int)==(Qeo (a,k,f,j):Int))=false:=by rw[qI];omega
    clear r D;go_enter func113,ntmps113;go_wp2_with fail;refine Qae (by kernel_rfl) (by kernel_rfl) ?_
    repeat (go_big_quiet_step ((go_at_call 81;exact QaA (s.o _))))
    refine wpQuiet_nil ?_;intro K b;have n:=QaQ b;have O:=(n.cell (p:=(Ja (w.heap.size+1) 1)) (by show w.heap.size+1<_;have:=C.o.1;omega)).trans C.o.2
    have y:=Z n;clear b n v L H N J;go_wp2;go_ret;exact⟨QbS (by omega),Qaa t.o y.o⟩
  ·rw[JJ (fun h=>G h.1)] at hX
   have P:decide ((0:Int)<(i:Int))=false:=qB (by omega)
   clear r;go_enter func113,ntmps113;go_wp2_with fail;refine Qae (by kernel_rfl) (by kernel_rfl) ?_
   repeat (go_big_quiet_step ((go_at_call 81;exact QaA (s.o _))))
   refine wpQuiet_nil ?_;intro K b;have n:=QaQ b;have O:=(n.cell (p:=(Ja (w.heap.size+1) 1)) (by show w.heap.size+1<_;have:=C.o.1;omega)).trans C.o.2
   have y:=Z n;clear b n v L H N J;go_wp2;go_ret;exact⟨QbS (by omega),Qaa t.o y.o⟩
end
section
open Go.RowKit Go.Shelf
attribute [local go_sem] Oper.semAt_some
def QoV(t:JT):Prop:=t=61\/t=51
def EntB(W:World)(v:Value)(l:List Ent):Prop:=∃a c,v=.slice a l.length c/\l.length<=c/\(l≠[]->∃b cs m,a=some (Ja b 0)/\W.heap[b]?=some (.cells cs 61 m)/\∀(i:Nat) (x:Value),(Qan l)[i]?=some x->cs[i]?=some x)
theorem EntB.kept{W W':World}{v:Value}{l:List Ent}(h:EntB W v l)(d:KeptC QoV W W'):EntB W' v l:=by
 obtain⟨a,c,h1,h2,h3⟩:=h;refine⟨a,c,h1,h2,fun hn=>?_⟩
 obtain⟨b,cs,m,h4,h5,h6⟩:=h3 hn;exact⟨b,cs,m,h4,d.cl b cs _ m h5 (.inl rfl),h6⟩
theorem EntB.len{W:World}{v:Value}{l:List Ent}(h:EntB W v l):∃a c,v=.slice a l.length c/\l.length<=c:=let ⟨a,c,h1,h2,_⟩:=h;⟨a,c,h1,h2⟩
theorem QaJ{W:World}{b:Nat}{cs:JW}{t:JT}{m:Nat×Nat}(h:W.heap[b]?=some (.cells cs t m))(i:Nat):W.cell? (Ja b i)=cs[i]?:=by
 unfold World.cell?;rw[h];rfl
theorem EntB.at{W:World}{v:Value}{l:List Ent}(h:EntB W v l)(f:l≠[]):∃b c,v = Jl b l.length c/\l.length<=c/\∀j (d:j<l.length),W.cell? (Ja b (j*4))=some (Ju l[j].1)/\W.cell? (Ja b (j*4+1))=some (Ju l[j].2.1)/\W.cell? (Ja b (j*4+2))=some (Jd l[j].2.2.1)/\W.cell? (Ja b (j*4+3))=some (Jd l[j].2.2.2):=by
 obtain⟨a,c,h1,h2,h3⟩:=h;obtain⟨b,cs,m,rfl,h3,h4⟩:=h3 f;refine⟨b,c,h1,h2,fun j d=>?_⟩
 obtain⟨x,y,z,u⟩:=Qed l j d;exact⟨(QaJ h3 _).trans (h4 _ _ x),(QaJ h3 _).trans (h4 _ _ y),(QaJ h3 _).trans (h4 _ _ z),(QaJ h3 _).trans (h4 _ _ u)⟩
def Qef(l:List Ent)(c:Nat):List Nat:=(List.range c).flatMap (fun k=>QdY k 0 Qa7 l)
theorem Qbk(l:List Ent)(c:Nat):Qef l (c+1)=Qef l c++QdY c 0 Qa7 l:=by
 unfold Qef;rw[List.range_succ,List.flatMap_append];simp
theorem Qhl(l:List Ent):QeO l=l.length :: Qef l 4:=by
 unfold QeO;rw[Qbk,Qbk,Qbk,Qbk];simp[Qef]
theorem Qz5(c:Nat)(l:List Ent):∀(a:Nat) (b:Ent) (i:Nat),i<l.length->(QdY c a b l)[i]?=some (QpG c (a+i) ((b :: l).getD i Qa7) (l.getD i Qa7)):=by
 induction l with
 |nil=>intro a b i h;exact JN h (JH _)
 |cons e r ih=>
  intro a b i h;cases i with
  |zero=>rfl
  |succ i=>
   have d:=ih (a+1) e i (by simpa using h)
   show (QdY c (a+1) e r)[i]?=_;rw[d,show a+1+i=a+(i+1) by omega]
   rfl
theorem Qnb{l:List Nat}{i x:Nat}(h:l[i]?=some x):l.take (i+1)=l.take i++[x]:=by
 obtain⟨hi,rfl⟩:=List.getElem?_eq_some_iff.1 h;rw[qV hi]
theorem Qyu(l:List Ent)(c i x:Nat)(b:c<4)(h:(QdY c 0 Qa7 l)[i]?=some x):(l.length :: (Qef l c++(QdY c 0 Qa7 l).take i))++[x] <+: QeO l:=by
 rw[Qhl];have a:Qef l (c+1) <+: Qef l 4:=by
  rcases (by omega:c=0\/c=1\/c=2\/c=3) with rfl|rfl|rfl|rfl
  ·exact⟨QdY 1 0 Qa7 l++(QdY 2 0 Qa7 l++QdY 3 0 Qa7 l),by rw[Qbk l 3,Qbk l 2,Qbk l 1];simp⟩
  ·exact⟨QdY 2 0 Qa7 l++QdY 3 0 Qa7 l,by rw[Qbk l 3,Qbk l 2];simp⟩
  ·exact⟨QdY 3 0 Qa7 l,by rw[Qbk l 3]⟩
  ·exact⟨[],by simp⟩
 obtain⟨t,ht⟩:=a;refine⟨(QdY c 0 Qa7 l).drop (i+1)++t,?_⟩;rw[<-ht,Qbk,J4,J4,qP (Qef l c),<-Qnb h]
 congr 1
 rw[qP,<-qP ((QdY c 0 Qa7 l).take (i+1)),List.take_append_drop,qP]
end
section
open Go.RowKit Go.MapKept
section
variable {A B:Type} [DecidableEq A]
def QjM:List (A×B)->A->Option B
 |[],_=>none
 |p :: r,a=>if p.1=a then some p.2 else QjM r a
def Qpc:List (A×B)->A->B->List (A×B)
 |[],a,v=>[(a,v)]
 |p :: r,a,v=>if p.1=a then (a,v) :: r else p :: Qpc r a v
def QtI:List (A×B)->A->List (A×B)
 |[],_=>[]
 |p :: r,a=>if p.1=a then r else p :: QtI r a
def Qcu(l:List (A×B)):List A:=l.map (·.1)
theorem Qeb(l:List (A×B))(a:A)(h:a∉Qcu l):QjM l a=none:=by
 induction l with
 |nil=>rfl
 |cons p r ih=>
  unfold Qcu at h ih;rw[J0,List.mem_cons,not_or] at h;unfold QjM;rw[JJ (fun e=>h.1 e.symm)]
  exact ih h.2
theorem QnY(l:List (A×B))(a:A)(v:B):Qcu (Qpc l a v)=if a∈Qcu l then Qcu l else Qcu l++[a]:=by
 induction l with
 |nil=>simp[Qpc,Qcu]
 |cons p r ih=>
  unfold Qpc
  by_cases e:p.1=a
  ·rw[JK e]
   simp[Qcu,e]
  ·rw[JJ e]
   unfold Qcu at ih ⊢;rw[J0,ih,J0]
   by_cases h:a∈r.map (·.1)
   ·rw[JK h,JK (JY _ h)]
   ·rw[JJ h,JJ (by rw[List.mem_cons];rintro (b|b);exact e b.symm;exact h b)]
    rfl
theorem length_set(l:List (A×B))(a:A)(v:B):(Qpc l a v).length=if a∈Qcu l then l.length else l.length+1:=by
 have h:=congrArg List.length (QnY l a v);unfold Qcu at h ⊢;rw[qQ] at h;rw[h];split
 ·rw[qQ]
 ·rw[qG,qQ];rfl
theorem QrD(l:List (A×B))(a c:A)(v:B):QjM (Qpc l a v) c=if c=a then some v else QjM l c:=by
 induction l with
 |nil=>
  unfold Qpc QjM QjM
  by_cases h:c=a
  ·rw[JK h.symm,JK h]
  ·rw[JJ (fun e=>h e.symm),JJ h]
 |cons p r ih=>
  unfold Qpc
  by_cases e:p.1=a
  ·rw[JK e]
   show (if a=c then some v else QjM r c)=_
   by_cases h:c=a
   ·rw[JK h.symm,JK h]
   ·rw[JJ (fun e=>h e.symm),JJ h]
    show _=(if p.1=c then some p.2 else QjM r c)
    rw[JJ (fun e2=>h (e2.symm.trans e))]
  ·rw[JJ e]
   show (if p.1=c then some p.2 else QjM (Qpc r a v) c)=if c=a then some v else (if p.1=c then some p.2 else QjM r c)
   by_cases h:p.1=c
   ·rw[JK h,JK h,JJ (fun e2=>e (h.trans e2))]
   ·rw[JJ h,JJ h,ih]
theorem Qwi(l:List (A×B))(a:A):(Qcu (QtI l a)).Sublist (Qcu l):=by
 induction l with
 |nil=>exact List.Sublist.refl _
 |cons p r ih=>
  unfold QtI;split
  ·exact List.sublist_cons_self _ _
  ·exact ih.cons_cons p.1
theorem Qs9(l:List (A×B))(a:A):(QtI l a).length=if a∈Qcu l then l.length-1 else l.length:=by
 induction l with
 |nil=>rfl
 |cons p r ih=>
  unfold QtI
  by_cases e:p.1=a
  ·rw[JK e,JK (by unfold Qcu;rw[J0,e];exact JF)];rfl
  ·rw[JJ e,qH,ih]
   have b:(a∈Qcu (p :: r))↔a∈Qcu r:=by
    unfold Qcu;rw[J0,List.mem_cons];exact⟨fun h=>h.resolve_left (fun e1=>e e1.symm),.inr⟩
   by_cases h:a∈Qcu r
   ·rw[JK h,JK (b.2 h),qH]
    have:0<r.length:=by
     cases r with
     |nil=>cases h
     |cons _ _=>simp
    omega
   ·rw[JJ h,JJ (fun h1=>h (b.1 h1)),qH]
theorem QzF(l:List (A×B))(d:(Qcu l).Nodup)(a c:A):QjM (QtI l a) c=if c=a then none else QjM l c:=by
 induction l with
 |nil=>unfold QtI QjM;split<;>rfl
 |cons p r ih=>
  have b:p.1∉Qcu r/\(Qcu r).Nodup:=by
   unfold Qcu at d ⊢;rw[J0,List.nodup_cons] at d;exact d
  unfold QtI
  by_cases e:p.1=a
  ·rw[JK e]
   by_cases h:c=a
   ·rw[JK h,h,<-e];exact Qeb r _ b.1
   ·rw[JJ h]
    show _=(if p.1=c then some p.2 else QjM r c)
    rw[JJ (fun e2=>h (e2.symm.trans e))]
  ·rw[JJ e]
   show (if p.1=c then some p.2 else QjM (QtI r a) c)=if c=a then none else (if p.1=c then some p.2 else QjM r c)
   by_cases h:p.1=c
   ·rw[JK h,JK h,JJ (fun e2=>e (h.trans e2))]
   ·rw[JJ h,JJ h,ih b.2]
end
structure KeyT(P:Program)(k:JT){A:Type}(ek:A->Value):Prop where
 check:∀(w:World) (em:Bool) (a:A),(Instr.checkKey em 10000 k (ek a)).run P w=.ok () w
 find:∀(w:World) (a:A) (es:List MapEntry),(∀e∈es,∃c,e.key=ek c)->((Instr.findKey k (ek a) es).run P w=.ok none w/\∀e∈es,e.key≠ek a)\/∃j e,(Instr.findKey k (ek a) es).run P w=.ok (some (j,e.val)) w/\es[j]?=some e/\e.key=ek a/\∀i e',i<j->es[i]?=some e'->e'.key≠ek a
 stays:∀(w:World) (a:A),(Instr.keyThatStays (ek a) (ek a)).run P w=.ok (ek a) w
 inj:∀a c,ek a=ek c->a=c
section
variable {A B:Type} [DecidableEq A] {P:Program} {k e t:JT} {ek:A->Value} {ev:B->Value} {w:World} {b:Nat}
def MapL(ek:A->Value)(ev:B->Value)(w:World)(b:Nat)(L:List (A×B)):Prop:=
 ∃es clock,w.heap[b]?=some (.map es clock)/\es.toList.map (fun x=>(x.key,x.val))=L.map (fun p=>(ek p.1,ev p.2))
theorem Qf6{a:Array MapEntry}{L:List (A×B)}(h:a.toList.map (fun x=>(x.key,x.val))=L.map (fun p=>(ek p.1,ev p.2))):∀x∈a.toList,∃c,x.key=ek c:=by
 intro x hx;have:(x.key,x.val)∈L.map (fun p=>(ek p.1,ev p.2)):=by rw[<-h];exact List.mem_map.2 ⟨x,hx,rfl⟩
 obtain⟨p,-,hp⟩:=List.mem_map.1 this;exact⟨p.1,(congrArg Prod.fst hp).symm⟩
theorem QdS(K:KeyT P k ek):∀(c:List MapEntry) (L:List (A×B)) (a:A),c.map (fun x=>(x.key,x.val))=L.map (fun p=>(ek p.1,ev p.2))->(∀x∈c,x.key≠ek a)->a∉Qcu L
 |[],[],_,_,_=>by simp[Qcu]
 |x :: c,p :: L,a,h,hn=>by
  rw[J0,J0,List.cons.injEq,Prod.mk.injEq] at h;unfold Qcu;rw[J0,List.mem_cons,not_or];exact⟨fun e=>hn x JF (by rw[h.1.1,e]),QdS K c L a h.2 (fun y hy=>hn y (JY _ hy))⟩
 |[],_ :: _,_,h,_=>by cases h
 |_ :: _,[],_,h,_=>by cases h
theorem Qey(K:KeyT P k ek):∀(c:List MapEntry) (L:List (A×B)) (a:A) (j:Nat) (e:MapEntry),c.map (fun x=>(x.key,x.val))=L.map (fun p=>(ek p.1,ev p.2))->c[j]?=some e->e.key=ek a->(∀i e',i<j->c[i]?=some e'->e'.key≠ek a)->
  ∃v,QjM L a=some v/\e.val=ev v/\∀v',(c.modify j (fun y=>{ y with key:=ek a,val:=ev v' })).map (fun x=>(x.key,x.val))=(Qpc L a v').map (fun p=>(ek p.1,ev p.2))/\(c.eraseIdx j).map (fun x=>(x.key,x.val))=(QtI L a).map (fun p=>(ek p.1,ev p.2))
 |[],_,_,_,_,_,h1,_,_=>by simp at h1
 |_ :: _,[],_,_,_,h,_,_,_=>by cases h
 |x :: c,p :: L,a,0,e,h,h1,h2,_=>by
  rw[J0,J0,List.cons.injEq,Prod.mk.injEq] at h;rw[List.getElem?_cons_zero,J8] at h1;subst h1;have d:p.1=a:=K.inj _ _ (h.1.1.symm.trans h2);refine⟨p.2,by unfold QjM;rw[JK d],h.1.2,fun v'=>⟨?_,?_⟩⟩
  ·unfold Qpc
   rw[JK d];simp only[List.modify_zero_cons,J0,h.2]
  ·unfold QtI
   rw[JK d,List.eraseIdx_zero,List.tail_cons];exact h.2
 |x :: c,p :: L,a,j+1,e,h,h1,h2,h3=>by
  rw[J0,J0,List.cons.injEq,Prod.mk.injEq] at h;rw[List.getElem?_cons_succ] at h1;obtain⟨v,g1,g2,g3⟩:=Qey K c L a j e h.2 h1 h2 (fun i e' hi he'=>h3 (i+1) e' (by omega) (by rw[List.getElem?_cons_succ];exact he'))
  have d:p.1≠a:=fun e1=>h3 0 x (by omega) (by rw[List.getElem?_cons_zero]) (by rw[h.1.1,e1])
  refine⟨v,by unfold QjM;rw[JJ d];exact g1,g2,fun v'=>⟨?_,?_⟩⟩
  ·unfold Qpc
   rw[JJ d];simp only[List.modify_succ_cons,J0,(g3 v').1];rw[h.1.1,h.1.2]
  ·unfold QtI
   rw[JJ d,List.eraseIdx_cons_succ,J0,J0,(g3 v').2,h.1.1,h.1.2]
def MapF(ek:A->Value)(ev:B->Value)(w:World)(b:Nat)(g:A->Option B)(n:Nat):Prop:=
 ∃L,MapL ek ev w b L/\(Qcu L).Nodup/\L.length=n/\∀a,QjM L a=g a
theorem MapF.blk{g:A->Option B}{n:Nat}(h:MapF ek ev w b g n):∃es clock,w.heap[b]?=some (.map es clock):=by
 obtain⟨L,⟨es,clock,hb,-⟩,-⟩:=h;exact⟨es,clock,hb⟩
theorem MapF.lt{g:A->Option B}{n:Nat}(h:MapF ek ev w b g n):b<w.heap.size:=by
 obtain⟨es,clock,hb⟩:=h.blk;exact (gsi hb).1
theorem MapF.keep{w':World}{g:A->Option B}{n:Nat}(h:MapF ek ev w b g n)(a:w'.heap[b]?=w.heap[b]?):MapF ek ev w' b g n:=by
 obtain⟨L,⟨es,clock,h1,h2⟩,h3⟩:=h;exact⟨L,⟨es,clock,a.trans h1,h2⟩,h3⟩
theorem Qre(ek:A->Value)(ev:B->Value)(w:World):MapF ek ev (w.alloc (.map #[] 0)) w.heap.size (fun _=>none) 0:=
 ⟨[],⟨#[],0,(MapKept.heap_alloc w _).1,rfl⟩,List.nodup_nil,rfl,fun _=>rfl⟩
def Qwb(z:Value)(ev:B->Value)(ok:Bool)(x:Option B):Value:=if ok then .tuple #[(x.map ev).getD z,.bool x.isSome] else (x.map ev).getD z
theorem MapF.look{g:A->Option B}{n:Nat}(h:MapF ek ev w b g n)(K:KeyT P k ek)(d:P.underlying t=some (.map k e)){z:Value}(i:∀w,(zeroValue e).run P w=.ok z w)(a:A)(c:Bool) :
  (Instr.lookup t (.map (some b)) (ek a) c).run P w=.ok (Qwb z ev c (g a)) w:=by
 obtain⟨L,⟨es,clock,hb,hL⟩,-,-,hg⟩:=h;rcases K.find w a es.toList (Qf6 hL) with⟨h1,h2⟩|⟨j,e0,h1,h2,h3,h4⟩
 ·have f:=Qeb L a (QdS K es.toList L a hL h2)
  rw[hg] at f;rw[f];simp[Instr.lookup,run_underlying d,MapKept.run_getObj_map hb,K.check w _ a,h1,i,Result.andThen,Qwb]
 ·obtain⟨v,g1,g2,-⟩:=Qey K es.toList L a j e0 hL h2 h3 h4
  rw[hg] at g1;rw[g1];simp[Instr.lookup,run_underlying d,MapKept.run_getObj_map hb,K.check w _ a,h1,Result.andThen,Qwb,g2]
def Qar(w:World)(b:Nat)(o:Obj):World:={ w with heap:=w.heap.setIfInBounds b o }
theorem MapF.put{g:A->Option B}{n:Nat}(h:MapF ek ev w b g n)(K:KeyT P k ek)(m:P.underlying t=some (.map k e))(a:A)(v:B) :
  ∃o,(Instr.mapUpdate t (.map (some b)) (ek a) (ev v)).run P w=.ok () (Qar w b o)/\MapF ek ev (Qar w b o) b (fun c=>if c=a then some v else g c) (if (g a).isSome then n else n+1):=by
 obtain⟨L,⟨es,clock,hb,hL⟩,hnd,hlen,hg⟩:=h;have l:∀o,(Qar w b o).heap[b]?=some o:=fun o=>(heap_set hb).1
 rcases K.find w a es.toList (Qf6 hL) with⟨h1,h2⟩|⟨j,e0,h1,h2,h3,h4⟩
 ·have d:=QdS K es.toList L a hL h2
  have q:=Qeb L a d;rw[hg] at q;refine⟨.map (es.push ⟨ek a,ev v,clock⟩) (clock+1),?_,L++[(a,v)],⟨_,_,l _,?_⟩,?_,?_,fun c=>?_⟩
  ·simp[Instr.mapUpdate,run_underlying m,MapKept.run_getObj_map hb,K.check w false a,h1,MapKept.run_setObj_map _ hb,Result.andThen,Qar]
  ·rw[Array.toList_push,qY,qY,hL];rfl
  ·unfold Qcu
   rw[qY,List.nodup_append];refine⟨hnd,by simp,fun x hx y hy=>?_⟩
   simp only[J0,List.map_nil,J2] at hy;rintro rfl;exact d (by rw[<-hy];exact hx)
  ·rw[q,qG,hlen];rfl
  ·have:L++[(a,v)]=Qpc L a v:=by
    clear hL hnd hlen hg
    induction L with
    |nil=>rfl
    |cons p r ih=>
     unfold Qcu at d ih;rw[J0,List.mem_cons,not_or] at d;unfold Qpc;rw[JJ (fun e=>d.1 e.symm),J4,ih d.2]
   rw[this,QrD];show (if c=a then some v else QjM L c)=if c=a then some v else g c
   rw[hg c]
 ·obtain⟨v0,g1,g2,g3⟩:=Qey K es.toList L a j e0 hL h2 h3 h4
  have i:a∈Qcu L:=by
   refine Classical.byContradiction fun hh=>?_
   rw[Qeb L a hh] at g1;cases g1
  have f:=g1;rw[hg] at f;have s:es[j]?=some e0:=by simpa using h2
  refine⟨.map (es.modify j fun y=>{ y with key:=ek a,val:=ev v }) clock,?_,Qpc L a v,⟨_,_,l _,?_⟩,?_,?_,fun c=>?_⟩
  ·simp[Instr.mapUpdate,run_underlying m,MapKept.run_getObj_map hb,K.check w false a,h1,s,h3,K.stays w a,MapKept.run_setObj_map _ hb,Result.andThen,Qar]
  ·rw[Array.toList_modify]
   exact (g3 v).1
  ·rw[QnY,JK i];exact hnd
  ·rw[length_set,JK i,f];exact hlen
  ·rw[QrD,hg]
theorem MapF.drop{g:A->Option B}{n:Nat}(h:MapF ek ev w b g n)(K:KeyT P k ek)(r:P.underlying t=some (.map k e))(a:A)(v:JT) :
  ∃o,(Builtin.delete_ #[t,k] v #[.map (some b),ek a]).run P w=.ok (.tuple #[]) (Qar w b o)/\MapF ek ev (Qar w b o) b (fun c=>if c=a then none else g c) (if (g a).isSome then n-1 else n):=by
 obtain⟨L,⟨es,clock,hb,hL⟩,hnd,hlen,hg⟩:=h;have f:∀o,(Qar w b o).heap[b]?=some o:=fun o=>(heap_set hb).1
 rcases K.find w a es.toList (Qf6 hL) with⟨h1,h2⟩|⟨j,e0,h1,h2,h3,h4⟩
 ·have s:=QdS K es.toList L a hL h2
  have q:=Qeb L a s;rw[hg] at q;refine⟨.map es clock,?_,L,⟨_,_,f _,hL⟩,hnd,by rw[q];exact hlen,fun c=>?_⟩
  ·simp[Builtin.delete_,run_underlying r,MapKept.run_getObj_map hb,K.check w _ a,h1,MapKept.run_setObj_map _ hb,Result.andThen,Qar]
  ·show QjM L c=if c=a then none else g c
   by_cases p:c=a
   ·rw[JK p,p,hg,q]
   ·rw[JJ p];exact hg c
 ·obtain⟨v0,g1,g2,g3⟩:=Qey K es.toList L a j e0 hL h2 h3 h4
  have l:a∈Qcu L:=by
   refine Classical.byContradiction fun hh=>?_
   rw[Qeb L a hh] at g1;cases g1
  have d:=g1;rw[hg] at d;have i:j<es.size:=by
   have:=(List.getElem?_eq_some_iff.1 h2).1;simpa using this
  refine⟨.map (es.eraseIdxIfInBounds j) clock,?_,QtI L a,⟨_,_,f _,?_⟩,hnd.sublist (Qwi L a),?_,fun c=>?_⟩
  ·simp[Builtin.delete_,run_underlying r,MapKept.run_getObj_map hb,K.check w _ a,h1,MapKept.run_setObj_map _ hb,Result.andThen,Qar]
  ·have m:(es.eraseIdxIfInBounds j).toList=es.toList.eraseIdx j:=by
    unfold Array.eraseIdxIfInBounds;rw[dif_pos i];simp
   rw[m];exact (g3 v0).2
  ·rw[Qs9,JK l,d,hlen];rfl
  ·rw[QzF L hnd,hg]
theorem MapF.len{g:A->Option B}{n:Nat}(h:MapF ek ev w b g n)(d t:JT)(c:P.underlying t=some (.map k e)):(Builtin.len_ #[t] d #[.map (some b)]).run P w=.ok (Ji (n:Int)) w:=by
 obtain⟨L,⟨es,clock,hb,hL⟩,-,hlen,-⟩:=h;have a:es.size=n:=by
  have:=congrArg List.length hL;rw[qQ,qQ,hlen] at this;simpa using this
 simp[Builtin.len_,Builtin.lenOf,run_underlying c,MapKept.run_getObj_map hb,a,Result.andThen,goInt]
end
theorem QdA(w:World)(b:Nat)(o:Obj):(Qar w b o).heap.size=w.heap.size:=by simp[Qar]
theorem Qam(w:World)(b:Nat)(o:Obj)(i:Nat)(h:i≠b):(Qar w b o).heap[i]?=w.heap[i]?:=by
 simp[Qar,Array.getElem?_setIfInBounds,Ne.symm h]
end
section
open Go.RowKit Go.MapKept
theorem Qkc{P:Program}{k:JT}{A:Type}[DecidableEq A]{b:A->Value}(g:∀a c,b a=b c->a=c)(l:∀(w:World) (a c:A),(Op.equal k (b a) (b c)).run P w=.ok (decide (a=c)) w)(w:World)(a:A) :
  ∀(d:List MapEntry) (i:Nat),(∀e∈d,∃c,e.key=b c)->((Instr.findAsking k (b a) d i).run P w=.ok none w/\∀e∈d,e.key≠b a)\/∃j e,(Instr.findAsking k (b a) d i).run P w=.ok (some (i+j,e.val)) w/\d[j]?=some e/\e.key=b a/\∀x e',x<j->d[x]?=some e'->e'.key≠b a
 |[],i,_=>.inl ⟨by simp[Instr.findAsking],fun e he=>by cases he⟩
 |x :: d,i,h=>by
  obtain⟨c,hc⟩:=h x JF;have m:=l w a c
  by_cases f:a=c
  ·right
   refine⟨0,x,?_,rfl,by rw[hc,f],fun _ _ h1=>JN h1 (JH _)⟩
   rw[qA f] at m;unfold Instr.findAsking;rw[hc];simp[m,Result.andThen]
  ·have hne:x.key≠b a:=fun e=>f (g _ _ (e.symm.trans hc))
   have n:(Instr.findAsking k (b a) (x :: d) i).run P w=(Instr.findAsking k (b a) d (i+1)).run P w:=by
    rw[qB f] at m
    conv=>lhs;unfold Instr.findAsking
    rw[hc];simp[m,Result.andThen]
   rw[n];rcases Qkc g l w a d (i+1) (fun e he=>h e (JY _ he)) with⟨h1,h2⟩|⟨j,e,h1,h2,h3,h4⟩
   ·left
    refine⟨h1,fun e he=>?_⟩
    rcases List.mem_cons.1 he with rfl|he
    ·exact hne
    ·exact h2 e he
   ·right
    refine⟨j+1,e,by rw[h1];congr 3;omega,by rw[List.getElem?_cons_succ];exact h2,h3,fun y e' hy he'=>?_⟩
    cases y with
    |zero=>
     rw[List.getElem?_cons_zero,J8] at he';rw[<-he'];exact hne
    |succ y=>
     rw[List.getElem?_cons_succ] at he';exact h4 y e' (by omega) he'
def Qcl(q1 q2:IntKind)(k:Nat×Nat):Value:=.agg #[.int q1 (k.1:Nat),.int q2 (k.2:Nat)]
theorem QnA(d b:IntKind)(a c:Nat×Nat)(h:Qcl d b a=Qcl d b c):a=c:=by
 unfold Qcl at h;obtain⟨a1,a2⟩:=a;obtain⟨c1,c2⟩:=c;simp only[Value.agg.injEq,Array.mk.injEq,List.cons.injEq,Value.int.injEq,true_and,and_true] at h;rw[show a1=c1 by omega,show a2=c2 by omega]
theorem Qnz{P:Program}{k:JT}(b d:IntKind){m:Array Field}(l:P.underlying k=some (.struct m))(n:∀(w:World) (f:Bool) (x y:Int),(Instr.checkKey f 10000 k (.agg #[.int b x,.int d y])).run P w=.ok () w)
  (i:∀(w:World) (a c:Nat×Nat),(Op.equal k (Qcl b d a) (Qcl b d c)).run P w=.ok (decide (a=c)) w):KeyT P k (Qcl b d) where
 check:=fun w f a=>n w f _ _
 find:=fun w a es h=>by
  have g:(Instr.findKey k (Qcl b d a) es).run P w=(Instr.findAsking k (Qcl b d a) es).run P w:=by
   unfold Instr.findKey;cases es with
   |nil=>simp[run_underlying l,Instr.findNow,Instr.findAsking,Result.andThen]
   |cons x es=>simp[run_underlying l,Instr.findNow,Instr.sameNow,Qcl,Result.andThen]
  rw[g];rcases Qkc (QnA b d) i w a es 0 h with h1|⟨j,e,h1,h2⟩
  ·exact .inl h1
  ·exact .inr ⟨j,e,by rw[h1,Nat.zero_add],h2⟩
 stays:=fun w a=>by
  unfold Instr.keyThatStays;have:Instr.sameBits 10000 (Qcl b d a) (Qcl b d a)=true:=by simp[Qcl,Instr.sameBits]
  rw[this];simp
 inj:=QnA b d
def QcE(q:IntKind)(n:Nat):Value:=.int q (n:Nat)
theorem QnM(q:IntKind)(a c:Nat)(h:QcE q a=QcE q c):a=c:=by
 unfold QcE at h;simp only[Value.int.injEq,true_and] at h;omega
theorem QnL{q:IntKind}{d:TypeDesc}{n:IntKind}(k:d=.int n)(a:Nat):∀(b:List MapEntry) (i:Nat),(∀e∈b,∃c,e.key=QcE q c)->(Instr.findNow d (QcE q a) b i=some none/\∀e∈b,e.key≠QcE q a)\/∃j e,Instr.findNow d (QcE q a) b i=some (some (i+j,e.val))/\b[j]?=some e/\e.key=QcE q a/\∀x e',x<j->b[x]?=some e'->e'.key≠QcE q a
 |[],i,_=>.inl ⟨rfl,fun e he=>by cases he⟩
 |x :: b,i,h=>by
  obtain⟨c,hc⟩:=h x JF;have m:Instr.sameNow d (QcE q a) x.key=some (decide (a=c)):=by
   rw[hc,k];simp[Instr.sameNow,QcE]
   by_cases l:a=c
   ·simp[l]
   ·have:¬((a:Int)=(c:Int)):=by omega
    simp[l,this]
  by_cases f:a=c
  ·right
   refine⟨0,x,?_,rfl,by rw[hc,f],fun _ _ h1=>by omega⟩
   unfold Instr.findNow;rw[m];simp[f]
  ·have hne:x.key≠QcE q a:=fun e=>f (QnM q _ _ (e.symm.trans hc))
   have g:Instr.findNow d (QcE q a) (x :: b) i=Instr.findNow d (QcE q a) b (i+1):=by
    conv=>lhs;unfold Instr.findNow
    rw[m];simp[f]
   rw[g];rcases QnL k a b (i+1) (fun e he=>h e (JY _ he)) with⟨h1,h2⟩|⟨j,e,h1,h2,h3,h4⟩
   ·left
    refine⟨h1,fun e he=>?_⟩
    rcases List.mem_cons.1 he with rfl|he
    ·exact hne
    ·exact h2 e he
   ·right
    refine⟨j+1,e,by rw[h1];congr 3;omega,by rw[List.getElem?_cons_succ];exact h2,h3,fun y e' hy he'=>?_⟩
    cases y with
    |zero=>
     rw[List.getElem?_cons_zero,J8] at he';rw[<-he'];exact hne
    |succ y=>
     rw[List.getElem?_cons_succ] at he';exact h4 y e' (by omega) he'
theorem Qrc{P:Program}{k:JT}(q c:IntKind)(b:P.underlying k=some (.int c)):KeyT P k (QcE q) where
 check:=fun w em a=>by
  unfold Instr.checkKey;simp[run_underlying b,QcE,Result.andThen]
 find:=fun w a es h=>by
  unfold Instr.findKey;rcases QnL (rfl:TypeDesc.int c=.int c) a es 0 h with⟨h1,h2⟩|⟨j,e,h1,h2⟩
  ·exact .inl ⟨by simp[run_underlying b,h1,Result.andThen],h2⟩
  ·refine .inr ⟨j,e,?_,h2⟩
   rw[Nat.zero_add] at h1;simp[run_underlying b,h1,Result.andThen]
 stays:=fun w a=>by
  unfold Instr.keyThatStays;have:Instr.sameBits 10000 (QcE q a) (QcE q a)=true:=by simp[QcE,Instr.sameBits]
  rw[this];simp
 inj:=QnM q
end
end Go.Proofs.YtlpecalodphalaaGreatDoor
namespace Go.Proofs
open Go.Shelf
def Tryz.lays125_ren:Go.Shelf.Ren:=⟨fun|125=>92|128=>150|129=>151|n=>n,fun|46=>208|3=>3|51=>59|53=>43|4=>4|5=>5|9=>9|n=>n,fun|n=>n⟩
theorem Tryz.lays125:Go.Proofs.Lays.n125 prog Tryz.lays125_ren:={ mixed:=by kernel_rfl,f125:=JX func92 (by kernel_rfl),f128:=JX func150 (by kernel_rfl),f129:=JX func151 (by kernel_rfl),t3:=underlying3,a3:=Tryz.isAgg3,z3:=Tryz.sizeOf3,v3:=Tryz.zeroValue3,t4:=underlying4,a4:=Tryz.isAgg4,z4:=Tryz.sizeOf4,v4:=Tryz.zeroValue4,t5:=underlying5,a5:=Tryz.isAgg5,z5:=Tryz.sizeOf5,v5:=Tryz.zeroValue5,t9:=underlying9,a9:=Tryz.isAgg9,z9:=Tryz.sizeOf9,v9:=Tryz.zeroValue9,t46:=underlying208,a46:=Tryz.isAgg208,z46:=Tryz.sizeOf208,v46:=Tryz.zeroValue208,t51:=underlying59,a51:=Tryz.isAgg59,z51:=Tryz.sizeOf59,v51:=Tryz.zeroValue59,t53:=underlying43,a53:=Tryz.isAgg43,z53:=Tryz.sizeOf43,v53:=Tryz.zeroValue43 }
theorem Tryz.bits_Len(x:Int)(w:World)(b:0<=x)(a:x<=18446744073709551615) :
  Calls prog 92 #[.int .u64 x] w fun e w'=>e=.returned (.int .i64 (Lib.bitLen x.toNat))/\w'=w:=Any.bits_Len Tryz.lays125 x w b a
def Tryz.lays137_ren:Go.Shelf.Ren:=⟨fun|137=>156|217=>189|266=>218|n=>n,fun|9=>9|5=>5|3=>3|n=>n,fun|n=>n⟩
theorem Tryz.lays137:Go.Proofs.Lays.n137 prog Tryz.lays137_ren:={ mixed:=by kernel_rfl,f137:=JX func156 (by kernel_rfl),f217:=JX func189 (by kernel_rfl),f266:=JX func218 (by kernel_rfl),t3:=underlying3,a3:=Tryz.isAgg3,z3:=Tryz.sizeOf3,v3:=Tryz.zeroValue3,t5:=underlying5,a5:=Tryz.isAgg5,z5:=Tryz.sizeOf5,v5:=Tryz.zeroValue5,t9:=underlying9,a9:=Tryz.isAgg9,z9:=Tryz.sizeOf9,v9:=Tryz.zeroValue9 }
open Go.RowKit in
theorem Tryz.strings_IndexByte(s:ByteArray)(c:Int)(w:World) :
  Calls prog 156 #[.string s,.int .u8 c] w fun e w'=>e=.returned (.int .i64 (Lib.indexByte s.data.toList c.toNat.toUInt8))/\w'=w:=Any.strings_IndexByte Tryz.lays137 s c w
def Tryz.lays129_ren:Go.Shelf.Ren:=⟨fun|129=>151|n=>n,fun|53=>43|3=>3|4=>4|46=>208|5=>5|9=>9|n=>n,fun|n=>n⟩
theorem Tryz.lays129:Go.Proofs.Lays.n129 prog Tryz.lays129_ren:={ mixed:=by kernel_rfl,f129:=JX func151 (by kernel_rfl),t3:=underlying3,a3:=Tryz.isAgg3,z3:=Tryz.sizeOf3,v3:=Tryz.zeroValue3,t4:=underlying4,a4:=Tryz.isAgg4,z4:=Tryz.sizeOf4,v4:=Tryz.zeroValue4,t5:=underlying5,a5:=Tryz.isAgg5,z5:=Tryz.sizeOf5,v5:=Tryz.zeroValue5,t9:=underlying9,a9:=Tryz.isAgg9,z9:=Tryz.sizeOf9,v9:=Tryz.zeroValue9,t46:=underlying208,a46:=Tryz.isAgg208,z46:=Tryz.sizeOf208,v46:=Tryz.zeroValue208,t53:=underlying43,a53:=Tryz.isAgg43,z53:=Tryz.sizeOf43,v53:=Tryz.zeroValue43 }
theorem Tryz.bits_Len64(x:Int)(w:World)(b:0<=x)(a:x<=18446744073709551615) :
  Calls prog 151 #[.int .u64 x] w fun e w'=>e=.returned (.int .i64 (Lib.bitLen x.toNat))/\w'=w:=Any.bits_Len64 Tryz.lays129 x w b a
end Go.Proofs
namespace Go.Proofs.YtlpecalodphalaaGreatDoor
section
theorem Qui(i:Nat)(t:JA)(l:i<6004799503160661)(k:0<t.size)(g:t.size<=65536)(w:World):Calls prog 42 #[Ju i,Jt t,.bool false] w (JS (Ji 0) w):=by
 have f:decide ((i:Int)>=6004799503160661)=false:=qB (by omega)
 have c:decide ((t.size:Int)>65536)=false:=qB (by omega)
 have b:t.toList≠[]:=by
  intro e;have a:=Qab t;rw[<-J7] at a;rw[e] at a;simp at a;omega
 have d:(t.toList==([]:JL))=false:=by rw[qI];exact b
 have j:t.toList.isEmpty=false:=by cases h:t.toList with|nil=>exact JN h b|cons _ _=>rfl
 go_enter func42,ntmps42;go_wp2;go_ret;exact⟨rfl,rfl⟩
theorem Qth(v f:Value)(a:Option Addr)(c:Nat)(b:v=.slice a 1 c)(w:World):Calls prog 142 #[v,Ji 0,Ji 1,f] w (JS (.tuple #[]) w):=by
 subst b;go_enter func142,ntmps142;go_wp2_with fail;go_loop [8] (fun i=>i = Ji 1) (fun _=>0)
 case atStart=>rfl
 case round=>
  subst hrel;go_wp2_with fail
  first|go_end0|refine bodyPost_ret (results_none rfl _ _ _) rfl ?_
  exact⟨rfl,rfl⟩
theorem QBH(v f:Value)(l:Int)(a:Option Addr)(c:Nat)(d:v=.slice a 1 c)(w:World):Calls prog 91 #[v,Ji 0,Ji 1,Ji l,f] w (JS (.tuple #[]) w):=by
 have g:=Z (Qth v f a c d w);subst d;go_enter func91,ntmps91;go_wp2_with fail;go_loop [1,2] (fun i j=>i = Ji 0/\j = Ji 1) (fun _ _=>0)
 case atStart=>exact⟨rfl,rfl⟩
 case round=>
  obtain⟨rfl,rfl⟩:=hrel;go_wp2_with fail;refine g.o.mono ?_;rintro e h ⟨rfl,b⟩;obtain rfl:=b.symm;clear b;go_wp2_with fail
  first|go_end0|refine bodyPost_ret (results_none rfl _ _ _) rfl ?_
  exact⟨rfl,rfl⟩
theorem Qx8(v f:Value)(a:Option Addr)(c:Nat)(d:v=.slice a 1 c)(w:World):Calls prog 43 #[v,f] w (JS (.tuple #[]) w):=by
 have i:=Z (fun l=>QBH v f l a c d w)
 have h:=Z (Tryz.bits_Len 1 w (by decide) (by decide))
 subst d;go_enter func43,ntmps43;go_wp2_with fail;refine h.o.mono ?_;rintro e g ⟨rfl,b⟩;obtain rfl:=b.symm;clear b;go_wp2_with fail;refine (i.o _).mono ?_;rintro e g ⟨rfl,b⟩;obtain rfl:=b.symm;clear b;go_wp2_with fail
 first|go_end0|refine bodyPost_ret (results_none rfl _ _ _) rfl ?_
 exact⟨rfl,rfl⟩
abbrev Key:=Nat×Nat
abbrev Qdl:=Int×Key×Key
structure LinkOk(ks:List (Key×Int))(g:Key->Option Qdl)(old new:Key):Prop where
 nd:(ks.map (·.1)).Nodup
 out:∀a,a∉ks.map (·.1)->g a=none
 mid:∀A p B,ks=A++p :: B->∃o n,g p.1=some (p.2,o,n)/\(∀q,A.getLast?=some q->o=q.1)/\(∀q,B.head?=some q->n=q.1)
 first:∀p,ks.head?=some p->old=p.1
 last:∀p,ks.getLast?=some p->new=p.1
theorem Qy0(a new:Key):LinkOk [] (fun _=>none) a new where
 nd:=List.nodup_nil
 out:=fun _ _=>rfl
 mid:=fun A p B h=>by cases A<;>cases h
 first:=fun p h=>by cases h
 last:=fun p h=>by cases h
theorem Qv1{ks:List (Key×Int)}{p:Key×Int}(h:p∈ks):∃A B,ks=A++p :: B:=List.append_of_mem h
theorem QdP{ks:List (Key×Int)}(b:(ks.map (·.1)).Nodup){A B:List (Key×Int)}{p q:Key×Int}(h:ks=A++p :: B)(a:q∈A\/q∈B):q.1≠p.1:=by
 rw[h,qY,J0,List.nodup_append,List.nodup_cons] at b;rcases a with a|a
 ·exact b.2.2 _ (List.mem_map.2 ⟨q,a,rfl⟩) _ JF
 ·exact fun e=>b.2.1.1 (by rw[<-e];exact List.mem_map.2 ⟨q,a,rfl⟩)
theorem Qeu{α:Type}(l:List α){a:List α}(h:a≠[]):(l++a).getLast?=a.getLast?:=by
 rw[List.getLast?_append];cases b:a.getLast? with
 |none=>exact JN (List.getLast?_eq_none_iff.1 b) h
 |some x=>rfl
theorem QmD{l:List (Key×Int)}{q:Key×Int}(h:l.head?=some q):q∈l:=List.mem_of_head? h
theorem Qet{l:List (Key×Int)}{q:Key×Int}(h:l.getLast?=some q):q∈l:=List.mem_of_getLast? h
theorem LinkOk.cut{A B:List (Key×Int)}{p:Key×Int}{g s:Key->Option Qdl}{m new old' f o n:Key}(h:LinkOk (A++p :: B) g m new)(hx:g p.1=some (p.2,o,n))
  (K:s p.1=none)
  (L:∀q,A.getLast?=some q->∀v qo qn,g q.1=some (v,qo,qn)->s q.1=some (v,qo,n))
  (J:∀r,B.head?=some r->∀v ro rn,g r.1=some (v,ro,rn)->s r.1=some (v,o,rn))
  (I:∀c,c≠p.1->(∀q,A.getLast?=some q->c≠q.1)->(∀r,B.head?=some r->c≠r.1)->s c=g c)
  (M:A = []->old'=n) (G:A≠[]->old'=m) (O:B = []->f=o) (E:B≠[]->f=new):LinkOk (A++B) s old' f:=by
 obtain⟨o0,n0,e0,eo,en⟩:=h.mid A p B rfl;rw[hx] at e0;injection e0 with e0
 injection e0 with _ e0
 injection e0 with e1 e2
 subst e1 e2;have H:((A++B).map (·.1)).Nodup:=h.nd.sublist (by
  rw[qY,qY,J0];exact (List.Sublist.refl _).append (List.sublist_cons_self _ _))
 refine⟨H,fun a ha=>?_,fun A1 q B1 hsp=>?_,fun q hq1=>?_,fun q hq1=>?_⟩
 ·by_cases j:a=p.1
  ·rw[j];exact K
  ·rw[I a j (fun q hq1 e=>ha (by rw[e];exact List.mem_map.2 ⟨q,List.mem_append_left _ (Qet hq1),rfl⟩)) (fun r hr1 e=>ha (by rw[e];exact List.mem_map.2 ⟨r,List.mem_append_right _ (QmD hr1),rfl⟩))]
   refine h.out a (fun hm=>ha ?_)
   rw[qY,J0,J1,List.mem_cons] at hm;rw[qY,J1];rcases hm with hm|hm|hm
   ·exact .inl hm
   ·exact JN hm j
   ·exact .inr hm
 ·
  rcases List.append_eq_append_iff.1 hsp with⟨C,hC1,hC2⟩|⟨C,hC1,hC2⟩
  ·
   obtain⟨a,b,f1,f2,f3⟩:=h.mid (A++p :: C) q B1 (by rw[hC2,qP,J4])
   have l:q.1≠p.1:=QdP h.nd rfl (.inr (by rw[hC2];simp))
   have k:∀x,A.getLast?=some x->q.1≠x.1:=fun x hx1 e=>by
    have i:=Qet hx1;obtain⟨S1,S2,hS⟩:=Qv1 i;have:=QdP (ks:=A++p :: B) h.nd (A:=S1) (B:=S2++p :: B) (p:=x) (q:=q) (by rw[hS];simp) (.inr (by rw[hC2];simp))
    exact this e
   cases C with
   |nil=>
    have y:B.head?=some q:=by rw[hC2];rfl
    rw[J q y _ _ _ f1];refine⟨o,b,rfl,fun x hx1=>?_,f3⟩
    rw[hC1,qT] at hx1;exact eo x hx1
   |cons c C=>
    have z:∀r,B.head?=some r->q.1≠r.1:=fun r hr1=>by
     rw[hC2] at hr1;injection hr1 with hr1
     subst hr1;exact QdP (ks:=A++p :: B) h.nd (A:=A++[p]) (B:=C++q :: B1) (p:=c) (by rw[hC2];simp) (.inr (by simp))
    rw[I q.1 l k z];refine⟨a,b,f1,fun x hx1=>f2 x ?_,f3⟩
    rw[hC1] at hx1;rw[Qeu _ (by simp)] at hx1
    rw[Qeu _ (by simp),List.getLast?_cons_cons]
    exact hx1
  ·
   cases C with
   |nil=>
    rw[qT] at hC1;rw[J3] at hC2;obtain⟨a,b,f1,f2,f3⟩:=h.mid (A++[p]) q B1 (by rw[<-hC2];simp)
    have y:B.head?=some q:=by rw[<-hC2];rfl
    rw[J q y _ _ _ f1];exact⟨o,b,rfl,fun x hx1=>eo x (by rw[hC1];exact hx1),f3⟩
   |cons c C=>
    rw[J4] at hC2;injection hC2 with hc1 hc2
    subst hc1;obtain⟨a,b,f1,f2,f3⟩:=h.mid A1 q (C++p :: B) (by rw[hC1];simp)
    have l:q.1≠p.1:=QdP h.nd rfl (.inl (by rw[hC1];simp))
    have D:∀r,B.head?=some r->q.1≠r.1:=fun r hr1 e=>by
     have t:=QmD hr1;have:=QdP (ks:=A++p :: B) h.nd (A:=A1) (B:=C++p :: B) (p:=q) (q:=r) (by rw[hC1];simp) (.inr (by simp[t]))
     exact this e.symm
    cases C with
    |nil=>
     have N:A.getLast?=some q:=by rw[hC1];simp
     rw[L q N _ _ _ f1];refine⟨a,n,rfl,f2,fun x hx1=>en x ?_⟩
     rw[hc2] at hx1;exact hx1
    |cons d C=>
     have k:∀x,A.getLast?=some x->q.1≠x.1:=fun x hx1 e=>by
      have i:x∈d :: C:=by
       rw[hC1,Qeu _ (by simp),List.getLast?_cons_cons] at hx1
       exact Qet hx1
      exact QdP (ks:=A++p :: B) h.nd (A:=A1) (B:=d :: C++p :: B) (p:=q) (q:=x) (by rw[hC1];simp) (.inr (List.mem_append_left _ i)) e.symm
     rw[I q.1 l k D];refine⟨a,b,f1,f2,fun x hx1=>f3 x ?_⟩
     rw[hc2] at hx1;exact hx1
 ·cases A with
  |nil=>
   rw[M rfl];exact en q hq1
  |cons x A=>
   rw[G (by simp)]
   exact h.first q hq1
 ·cases B with
  |nil=>
   rw[O rfl];rw[qT] at hq1;exact eo q hq1
  |cons x B=>
   rw[E (by simp)]
   refine h.last q ?_;rw[Qeu _ (by simp)] at hq1 ⊢
   rw[List.getLast?_cons_cons];exact hq1
theorem LinkOk.push{ks:List (Key×Int)}{g i:Key->Option Qdl}{f new old' a:Key}{v:Int}{z:Key}(h:LinkOk ks g f new)(s:a∉ks.map (·.1))
  (t:i a=some (v,new,z)) (D:∀q,ks.getLast?=some q->∀w qo qn,g q.1=some (w,qo,qn)->i q.1=some (w,qo,a)) (A:∀c,c≠a->(∀q,ks.getLast?=some q->c≠q.1)->i c=g c)
  (B:ks = []->old'=a) (m:ks≠[]->old'=f):LinkOk (ks++[(a,v)]) i old' a:=by
 refine⟨?_,fun c hc=>?_,fun A1 q B1 hsp=>?_,fun q hq1=>?_,fun q hq1=>?_⟩
 ·rw[qY,List.nodup_append]
  refine⟨h.nd,by simp,fun x hx y hy=>?_⟩
  simp only[J0,List.map_nil,J2] at hy;rintro rfl;exact s (by rw[<-hy];exact hx)
 ·rw[qY,J1,not_or] at hc
  simp only[J0,List.map_nil,J2] at hc;rw[A c hc.2 (fun q hq1 e=>hc.1 (by rw[e];exact List.mem_map.2 ⟨q,Qet hq1,rfl⟩))]
  exact h.out c hc.1
 ·rcases List.append_eq_append_iff.1 hsp with⟨C,hC1,hC2⟩|⟨C,hC1,hC2⟩
  ·
   cases C with
   |cons c C=>simp at hC2
   |nil=>
    rw[J3] at hC2;injection hC2 with e1 e2
    subst e1 e2;rw[qT] at hC1;exact⟨new,z,t,fun x hx1=>h.last x (by rw[<-hC1];exact hx1),fun x hx1=>by cases hx1⟩
  ·cases C with
   |nil=>
    rw[J3] at hC2;injection hC2 with e1 e2
    subst e1 e2;rw[qT] at hC1;exact⟨new,z,t,fun x hx1=>h.last x (by rw[hC1];exact hx1),fun x hx1=>by cases hx1⟩
   |cons c C=>
    rw[J4] at hC2;injection hC2 with hc1 hc2
    subst hc1;obtain⟨o,n,f1,f2,f3⟩:=h.mid A1 q C hC1;have l:q.1≠a:=fun e=>s (by rw[<-e];exact List.mem_map.2 ⟨q,by rw[hC1];simp,rfl⟩)
    cases C with
    |nil=>
     have j:ks.getLast?=some q:=by rw[hC1];simp
     rw[D q j _ _ _ f1];refine⟨o,a,rfl,f2,fun x hx1=>?_⟩
     rw[hc2] at hx1;injection hx1 with hx1
     rw[<-hx1]
    |cons d C=>
     have p:∀x,ks.getLast?=some x->q.1≠x.1:=fun x hx1 e=>by
      have k:x∈d :: C:=by
       rw[hC1,Qeu _ (by simp),List.getLast?_cons_cons] at hx1
       exact Qet hx1
      exact QdP h.nd hC1 (.inr k) e.symm
     rw[A q.1 l p];refine⟨o,n,f1,f2,fun x hx1=>f3 x ?_⟩
     rw[hc2] at hx1;exact hx1
 ·cases ks with
  |nil=>
   rw[B rfl];injection hq1 with hq1
   rw[<-hq1]
  |cons x r=>
   rw[m (by simp)]
   exact h.first q hq1
 ·rw[Qeu _ (by simp)] at hq1
  have b:some (a,v)=some q:=hq1;injection b with b
  rw[<-b]
theorem QmA:(prog.info? 61).map (fun i=>(i.zero,i.size,i.bytes))=some (some (.agg #[Ju 0,Ju 0,Jd 0,Jd 0]),4,24):=by kernel_rfl
theorem Qv6(n:Nat):madeCells #[Ju 0,Ju 0,Jd 0,Jd 0] (n*4)=(Qan (List.replicate n Qa7)).toArray:=by
 apply Array.ext';rw[List.toList_toArray];apply List.ext_getElem?;intro i
 by_cases d:i<n*4
 ·have c:i/4<(List.replicate n Qa7).length:=by rw[List.length_replicate];omega
  obtain⟨h0,h1,h2,h3⟩:=Qed (List.replicate n Qa7) (i/4) c;rw[List.getElem_replicate] at h0 h1 h2 h3;have a:i%4=0\/i%4=1\/i%4=2\/i%4=3:=by omega
  have b:(madeCells #[Ju 0,Ju 0,Jd 0,Jd 0] (n*4)).toList[i]?=some (#[Value.int .u64 0,Ju 0,Jd 0,Jd 0][i%4]!):=by
   simp[madeCells,d]
  rw[b];rcases a with a|a|a|a
  ·rw[a,show i=i/4*4 by omega,h0];rfl
  ·rw[a,show i=i/4*4+1 by omega,h1];rfl
  ·rw[a,show i=i/4*4+2 by omega,h2];rfl
  ·rw[a,show i=i/4*4+3 by omega,h3];rfl
 ·rw[List.getElem?_eq_none (by rw[Array.length_toList,size_madeCells];omega),List.getElem?_eq_none (by rw[Qbg,List.length_replicate];omega)]
theorem Qv3(n:Nat)(h:n<=1000000)(w:World):(Instr.makeSlice 51 (Ju (n:Int)) (Ju (n:Int))).run prog w=.ok (Jl w.heap.size n n) (w.alloc (.cells (Qan (List.replicate n Qa7)).toArray 61)):=by
 obtain⟨i0,hi,hz0,hz1,hz2⟩:=info_parts QmA;have:=run_make (P:=prog) w 51 61 i0 _ underlying51 hi hz0 .u64 .u64 n n (by omega) (by omega) (by rw[hz2];omega) (by omega)
 rw[this,hz1,Int.toNat_natCast];have e:(Value.agg #[Ju 0,Ju 0,Jd 0,Jd 0]).cells=#[Ju 0,Ju 0,Jd 0,Jd 0]:=rfl;rw[e,Qv6]
theorem Qk1{w:World}{B:Nat}{L:List Ent}{T:JT}(k:w.heap[B]?=some (.cells (Qan L).toArray T (0,0)))(b:L.length<=1000000)(base:Nat)(a:base<=B):w.ownsRow base T 4 (Jl B L.length L.length) L.length (Qan L):=
 ⟨Qbg L,.inr ⟨B,L.length,(Qan L).toArray,rfl,a,k,qC _,by unfold maxLen;omega,by simp[Qbg],by
  rw[List.toList_toArray,qX (by rw[Qbg];exact qC _)]⟩⟩
theorem Qn6{w:World}{B:Nat}{L:List Ent}{T:JT}(k:w.heap[B]?=some (.cells (Qan L).toArray T (0,0)))(a:L.length<=1000000):HoldsE w (Jl B L.length L.length) L:=HoldsR.of_own (Qk1 k a 0 (qL _))
theorem QzX(c i a b d f x:Nat)(m:c<4)(w:World)(B:Nat)(L:List Ent)(j:Nat)(T:JT)(g:j<L.length)(k:w.heap[B]?=some (.cells (Qan L).toArray T (0,0)))(l:Qbt (a,b,d,f))(hx:x<18446744073709551616) :
  Calls prog 33 #[Ji c,Ji i,.agg #[Ju a,Ju b,Jd d,Jd f],.pointer (some (Ja B (j*4))),Ju x] w (Qgc c i (a,b,d,f) x w B L j T):=by
 have h:c=0\/c=1\/c=2\/c=3:=by omega
 rcases h with rfl|rfl|rfl|rfl
 ·exact QBk i a b d f x w B L j T g k l.1 hx
 ·exact Qyd i a b d f x w B L j T g k hx
 ·exact Qpb i a b d f x w B L j T g k hx
 ·exact Qpa i a b d f x w B L j T g k l.2.2.1 hx
def QqL(R:Nat×List Ent)(w:World)(e:Ending)(w':World):Prop:=
 ∃(a:Int) (v:Value),e=.returned (.tuple #[v,Ji a,Ji R.1])/\Jw w w'/\(R.1≠0->v=.slice none 0 0)/\(R.1=0->∃g,v = Jl g R.2.length R.2.length/\w'.ownsRow w.heap.size 61 4 v R.2.length (Qan R.2))
theorem Qcw{R:Nat×List Ent}{w:World}{w':World}(a:Int)(E:Nat)(c:R=(E,[]))(b:E≠0)(d:Jw w w'):QqL R w (.returned (.tuple #[.slice none 0 0,Ji a,Ji E])) w':=by
 subst c;exact⟨a,_,rfl,d,fun _=>rfl,fun h=>JN h b⟩
theorem QtJ{L:List Ent}{R:Nat×List Ent}{w:World}{w':World}(a:Int)(g:Nat)(d:R=(0,L))(f:Jw w w')(c:L.length<=1000000)(b:w.heap.size<=g)(k:w'.heap[g]?=some (.cells (Qan L).toArray 61 (0,0))):QqL R w (.returned (.tuple #[Jl g L.length L.length,Ji a,Ji 0])) w':=by
 subst d;exact⟨a,_,rfl,f,fun h=>JN rfl h,fun _=>⟨g,rfl,Qk1 k c _ b⟩⟩
structure DW(w wr:World)(s:JA)(b6 bA:Nat)(a:Nat)(L:List Ent):Prop where
 b:Jw w wr
 s6:wr.heap[b6]?=some (.cells #[Jt s,Ji a,Ji 0] 98 (0,0))
 sA:wr.heap[bA]?=some (.cells (Qan L).toArray 61 (0,0))
 l6:w.heap.size<=b6
 lA:w.heap.size<=bA
theorem DW.step{w wr b:World}{s:JA}{d f a:Nat}{L:List Ent}(h:DW w wr s d f a L)(c:Jw wr b):DW w b s d f a L:=
 ⟨Qaa h.b c,Qad h.s6 c,Qad h.sA c,h.l6,h.lA⟩
theorem DW.ne{w wr:World}{s:JA}{c d a:Nat}{L:List Ent}(h:DW w wr s c d a L):c≠d:=fun e=>by
 have b:=h.s6;rw[e,h.sA] at b;simp only[J8,Obj.cells.injEq] at b;exact JN b.2.1 (by decide)
theorem QeG(w:World)(n:Nat):Jw w (w.drewN n):=⟨rfl,rfl,rfl,qC _,fun _ _=>rfl⟩
theorem Qi7(W:World)(b a:Nat)(h:a≠b)(c f g d:Value):((((W.setCell (Ja b 0) c).setCell (Ja b 1) f).setCell (Ja b 2) g).setCell (Ja b 3) d).heap[a]?=W.heap[a]?:=
 (JO _ _ _ _ h).trans ((JO _ _ _ _ h).trans ((JO _ _ _ _ h).trans (JO _ _ _ _ h)))
theorem Qi8(W:World)(b a:Nat)(h:a≠b)(c d f:Value):(((W.setCell (Ja b 0) c).setCell (Ja b 1) d).setCell (Ja b 2) f).heap[a]?=W.heap[a]?:=
 (JO _ _ _ _ h).trans ((JO _ _ _ _ h).trans (JO _ _ _ _ h))
theorem DW.touch{w wr b:World}{s:JA}{d c a:Nat}{L L':List Ent}(h:DW w wr s d c a L)(f:Touch (fun g=>g=c) wr b)(i:b.heap[c]?=some (.cells (Qan L').toArray 61 (0,0))):DW w b s d c a L':=
 ⟨h.b.trans (f.below (fun g hg=>by rw[show g=c from hg];exact h.lA) h.b.size),(f.block d (gsi h.s6).1 h.ne).trans h.s6,i,h.l6,h.lA⟩
theorem DW.scan{w wr:World}{s:JA}{b c a:Nat}{L:List Ent}(h:DW w wr s b c a L)(d:Nat):DW w (((wr.setCell (Ja b 0) (Jt s)).setCell (Ja b 1) (Ji d)).setCell (Ja b 2) (Ji 0)) s b c d L:=
 ⟨Qbw h.b h.l6 _ _ _,Qcq h.s6 _ _ _,(Qi8 _ _ _ (fun e=>h.ne e.symm) _ _ _).trans h.sA,h.l6,h.lA⟩
theorem DW.other{w wr:World}{s:JA}{d c a:Nat}{L:List Ent}(h:DW w wr s d c a L)(b:Nat)(g:w.heap.size<=b)(i:d≠b)(l:c≠b)(f k m j:Value):DW w ((((wr.setCell (Ja b 0) f).setCell (Ja b 1) k).setCell (Ja b 2) m).setCell (Ja b 3) j) s d c a L:=
 ⟨QdG h.b g _ _ _ _,(Qi7 _ _ _ i _ _ _ _).trans h.s6,(Qi7 _ _ _ l _ _ _ _).trans h.sA,h.l6,h.lA⟩
theorem Qx0{w:World}{b:Nat}{a d c:Value}{t:JT}(k:w.heap[b]?=some (.cells #[a,d,c] t (0,0)))(y:Value):(w.setCell (Ja b 1) y).heap[b]?=some (.cells #[a,y,c] t (0,0)):=by
 simp[World.setCell,J6,k]
theorem Qes(n:Nat)(w:World)(c:1<=n)(b:n<=8):Calls prog 172 #[Ji n] w (JS (.bool true) w):=by
 have g:decide ((n:Int)>=1)=true:=qA (by omega)
 have a:decide (1<=n)=true:=qA c;have f:decide ((n:Int)<=8)=true:=qA (by omega)
 have d:decide (n<=8)=true:=qA b;go_enter func172,ntmps172;go_wp2;go_ret;exact⟨rfl,rfl⟩
theorem Qmr(s:JA)(a:Nat)(w:World)(b:a<=s.size)(c:s.size<=1000000):Calls prog 208 #[.agg #[Jt s,Ji a,Ji 0]] w (JB (.bool true) w):=by
 obtain⟨c0,c1,c2⟩:=QBd w (Jt s) (Ji a) (Ji 0) 98;have f:decide ((a:Int)>=0)=true:=qA (by omega)
 have d:decide (a<=s.size)=true:=qA b;go_enter func208,ntmps208;go_wp2;go_ret;exact⟨rfl,Qcp w _ _ _ _⟩
theorem Qs7(s:JA)(a n:Nat)(w:World)(B:a+n<=s.size)(z:s.size<=1000000):Calls prog 171 #[.agg #[Jt s,Ji a,Ji 0],Ji n,.bool true] w (JB (.tuple #[Jt (s.extract a (a+n)),.agg #[Jt s,Ji ((a+n:Nat):Int),Ji 0]]) w):=by
 have g:=QlF w (Jt s) (Ji a) (Ji 0) (Jt ⟨#[]⟩) (Ji 0) (Ji 0) 98 98;have r:Jw w ((w.alloc (.cells #[Jt s,Ji a,Ji 0] 98)).alloc (.cells #[Jt ⟨#[]⟩,Ji 0,Ji 0] 98)):=((qF _ _).alloc (qC _) _).alloc (by simp) _
 have i:=Z (qE g r);have j:=Z (fun W=>Qmr s a W (by omega) z)
 obtain⟨m,hm⟩:∃m,a+n=m:=⟨_,rfl⟩;have C:IntKind.i64.wrap ((a:Int)+(n:Int))=(m:Int):=by rw[JR];omega
 have y:IntKind.i64.wrap ((s.size:Int)-(a:Int))=((s.size-a:Nat):Int):=by rw[JR];omega
 have D:decide ((n:Int)>((s.size:Int)-(a:Int)))=false:=qB (by omega)
 have x:decide (s.size-a<n)=false:=qB (by omega)
 have v:a<=m:=by omega
 have t:m<=s.size:=by omega
 rw[hm];have E:=Z hm;obtain⟨⟨c0,c1,c2⟩,-⟩:=Qbz g.1;clear g r hm B;go_enter func171,ntmps171;go_wp2_with fail;refine (j.o _).mono ?_;rintro e k ⟨rfl,b⟩;have l:=Z (Qad i.o.1.1 b);have q:=Z (Qad i.o.1.2 b);have h:=Z (Qaa i.o.2 b);clear b c0 c1 c2;obtain⟨⟨c0,c1,c2⟩,f0,f1,f2⟩:=Qbz l.o;obtain⟨⟨g0,g1,g2⟩,q0,q1,q2⟩:=Qbz q.o;go_wp2_with fail;have f:=Z (Qx0 l.o (Ji m));have c:=Z ((JO k (Ja w.heap.size 1) (Ji m) (w.heap.size+1) (by simp)).trans q.o)
 have d:=Z (h.o.setCell (p:=(Ja w.heap.size 1)) (qC _) (Ji m));clear c0 c1 c2 f0 f1 f2 g0 g1 g2 q0 q1 q2;generalize k.setCell (Ja w.heap.size 1) (Ji m)=W2 at f c d ⊢;obtain⟨⟨c0,c1,c2⟩,f0,f1,f2⟩:=Qbz f.o;obtain⟨⟨g0,g1,g2⟩,q0,q1,q2⟩:=Qbz c.o;go_region
 all_goals
  go_wp2_with fail;refine Qa4 (A:=(Ja (w.heap.size+1) 0)) rfl (Qb5 _ _ _ _ _ _ (Qcq c.o _ _ _)) rfl rfl rfl ?_;exact Qc1 rfl (Qbw d.o (by omega) _ _ _).drew
theorem QyI(X y k:Nat)(d:X<256 ^ k)(b:y*256 ^ k<18446744073709551616)(c:X<18446744073709551616):bits .or .u64 (X:Int) (IntKind.u64.wrap ((y:Int)*2 ^ (8*k)))=((X+y*256 ^ k:Nat):Int):=by
 have a:(2:Nat) ^ (8*k)=256 ^ k:=by rw[Nat.pow_mul]
 have e:IntKind.u64.wrap ((y:Int)*2 ^ (8*k))=((y*256 ^ k:Nat):Int):=by
  rw[JU,<-a];have f:((y:Int)*2 ^ (8*k))=((y*2 ^ (8*k):Nat):Int):=by
   rw[Int.natCast_mul,Int.natCast_pow];rfl
  rw[f];rw[<-a] at b;generalize y*2 ^ (8*k)=M at b ⊢;omega
 rw[e,Qka _ _ c b,Nat.or_comm]
 congr 1
 rw[<-a] at d ⊢;have:=Nat.shiftLeft_add_eq_or_of_lt d y;rw[Nat.shiftLeft_eq] at this;omega
theorem Qex(s:JA)(a n:Nat):(s.extract a (a+n)).data.toList=(s.data.toList.drop a).take n:=by
 simp[ByteArray.data_extract]
theorem Qs6(s:JA)(a n:Nat)(w:World)(N:a+n<=s.size)(hs:s.size<=1000000)(S:1<=n)(h8:n<=8):Calls prog 124 #[.agg #[Jt s,Ji a,Ji 0],Ji n] w (JB (.tuple #[Ju (atN s.data.toList a n:Nat),.agg #[Jt s,Ji ((a+n:Nat):Int),Ji 0]]) w):=by
 have C:=QlF w (Jt s) (Ji a) (Ji 0) (Jt ⟨#[]⟩) (Ji 0) (Ji 0) 98 98;have O:Jw w ((w.alloc (.cells #[Jt s,Ji a,Ji 0] 98)).alloc (.cells #[Jt ⟨#[]⟩,Ji 0,Ji 0] 98)):=((qF _ _).alloc (qC _) _).alloc (by simp) _
 have M:=Z (qE C O);have E:=Z (fun W=>Qs7 s a n W N hs)
 have P:=Z (fun W=>Qes n W S h8)
 have B:∀(fn:Fn) (first l:JW) (w:World),(Instr.makeFunc fn first l).run prog w=.ok (.func fn first l) w:=fun _ _ _ _=>rfl
 obtain⟨⟨c0,c1,c2⟩,-⟩:=Qbz C.1;obtain⟨T,hTe⟩:∃T,s.extract a (a+n)=T:=⟨_,rfl⟩;have c:=Qex s a n;rw[hTe] at E c;have h:T.size=n:=by
  rw[<-Qab,c,qW,JC,Qab];omega
 obtain⟨V,hV⟩:∃V,atN s.data.toList a n=V:=⟨_,rfl⟩;have p:leN T.data.toList=V:=by rw[c];exact hV
 rw[hV];obtain⟨m,hm⟩:∃m,a+n=m:=⟨_,rfl⟩;rw[hm] at E ⊢;have HV:=Z p;have H:=Z h;clear C O hTe c hV p hm N h;go_enter func124,ntmps124;go_wp2_with fail;refine (P.o _).mono ?_;rintro e w1 ⟨rfl,rfl⟩;go_wp2_with fail;refine (E.o _).mono ?_;rintro e t ⟨rfl,f⟩;have L:=Z (Qad M.o.1.2 f);have G:=Z (Qaa M.o.2 f);have qa:w.heap.size+1<t.heap.size:=(gsi L.o).1;have I:=JI t (.cells #[Jt s,Ji m,Ji 0] 98);have g:=Qcp t (Jt s) (Ji m) (Ji 0) 98;have HN:=Z I;have d:=Z (Qad L.o g);have r:=Z (Qaa G.o g);obtain⟨⟨u0,u1,u2⟩,-⟩:=Qbz I;clear f c0 c1 c2 B I g;obtain⟨⟨g0,g1,g2⟩,q0,q1,q2⟩:=Qbz d.o;have qc:=H.o;go_wp2_with fail;generalize t.alloc (.cells #[Jt s,Ji m,Ji 0] 98)=W at HN d r u0 u1 u2 g0 g1 g2 q0 q1 q2 ⊢;go_loop [9,23] (fun x i=>∃k X:Nat,k<=T.size/\i = Ji k/\x = Ju X/\Hi (X=leN (T.data.toList.take k))) (fun _ i=>T.size-(intOf i).toNat)
 case atStart=>exact⟨0,0,by omega,rfl,rfl,Z rfl⟩
 case round=>
  obtain⟨k,X,hk,rfl,rfl,HX⟩:=hrel
  by_cases y:k<T.size
  ·obtain⟨b,hb⟩:∃b:Nat,T[k].toNat=b:=⟨_,rfl⟩
   have J:b<256:=by rw[<-hb];exact T[k].toNat_lt
   have K:bits .or .u64 (X:Int) (IntKind.u64.wrap ((b:Int)*2 ^ (8*k)))=((X+b*256 ^ k:Nat):Int)/\X+b*256 ^ k=leN (T.data.toList.take (k+1)):=by
    have z:k<T.data.toList.length:=by rw[Qab];exact y
    have hlen:(T.data.toList.take k).length=k:=by rw[qW];omega
    have j:=QAN (T.data.toList.take k);rw[hlen,<-HX.o] at j;have qb:b<256:=by rw[<-hb];exact T[k].toNat_lt
    have hp:(256:Nat) ^ k<=256 ^ 7:=Nat.pow_le_pow_right (by decide) (by omega)
    have U:b*256 ^ k<=255*256 ^ 7:=Nat.mul_le_mul (by omega) hp
    have h7:(255:Nat)*256 ^ 7=18374686479671623680:=by decide
    have R:(256:Nat) ^ 7=72057594037927936:=by decide
    refine⟨QyI X b k j (by omega) (by omega),?_⟩
    rw[qV z,Qy5,hlen,<-HX.o]
    congr 2
    exact hb.symm
   obtain⟨Y,hY⟩:∃Y,X+b*256 ^ k=Y:=⟨_,rfl⟩;rw[hY] at K;obtain⟨hYe,hYs⟩:=K;have HY:=Z hYs;have D:Hi (IntKind.u64.wrap (b:Int)=(b:Int)):=Z (by rw[JU];omega)
   have q:=Z hYe;clear HX hY hYs hYe;go_wp2_with fail;go_round
   case rel=>exact⟨k+1,Y,by omega,by go_num,by first|rw[D.o,q.o]|rw[q.o],HY⟩
   case measure=>simp[intOf];omega
  ·obtain rfl:k=T.size:=by omega
   have v:Hi (X=V):=Z (by
    have:=HX.o;rw[qX (by rw[Qab];exact qC _)] at this
    exact this.trans HV.o)
   clear HX;go_wp2_with fail;go_region
   all_goals
    go_wp2_with fail;refine Qa4 (A:=(Ja (w.heap.size+1) 0)) rfl (Qb5 _ _ _ _ _ _ (Qcq d.o _ _ _)) rfl rfl rfl ?_;exact Qc1 (by rw[<-v.o]<;>rfl) (Qbw r.o (by omega) _ _ _).drew
theorem Qms(x:Nat)(w:World)(hx:x<4294967296):Calls prog 125 #[Ju x,Ji 4] w (JS (.tuple #[Ji (Qko x),Ji 0]) w):=by
 have a:=Z (fun W=>Qes 4 W (by decide) (by decide))
 go_enter func125,ntmps125;go_wp2_with fail;refine (a.o _).mono ?_;rintro e b ⟨rfl,rfl⟩;go_wp2;go_ret2;refine⟨?_,rfl⟩;have e:wrap64 ((x:Int)*4294967296)/4294967296=Qko x:=by
  unfold Qko wrap64;split<;>omega
 rw[<-e]<;>rfl
def Qg2(w:World)(b:Nat)(s:JA)(a:Nat):Prop:=w.heap[b]?=some (.cells #[Jt s,Ji a,Ji 0] 189 (0,0))
def Qbo(w:World)(b:Nat)(s:JA)(a n:Nat)(v:Value)(e:Ending)(w':World):Prop:=e=.returned v/\Qg2 w' b s (a+n)/\Touch (fun g=>g=b) w w'
theorem QbI(b:Nat)(s:JA)(a n:Nat)(w:World)(k:Qg2 w b s a)(j:a+n<=s.size)(p:s.size<=1000000)(l:1<=n)(i:n<=8):Calls prog 77 #[Jp b,Ji n] w (Qbo w b s a n (Ju (atN s.data.toList a n:Nat))):=by
 have d:=Z (fun W=>Qs6 s a n W j p l i)
 unfold Qg2 at k;obtain⟨⟨c0,c1,c2⟩,f0,f1,f2⟩:=Qbz k;have q:=Z k;generalize atN s.data.toList a n=V at d ⊢;obtain⟨m,hm⟩:∃m,a+n=m:=⟨_,rfl⟩;unfold Qbo Qg2;rw[hm] at d ⊢;clear k hm;go_enter func77,ntmps77;go_wp2_with fail;refine (d.o _).mono ?_;rintro e h ⟨rfl,c⟩;have f:=Z (Qad q.o c);have r:Hi (Touch (fun g=>g=b) w h):=Z (Touch.of_below c)
 clear c c0 c1 c2 f0 f1 f2;obtain⟨⟨c0,c1,c2⟩,f0,f1,f2⟩:=Qbz f.o;go_wp2;go_ret;exact⟨rfl,Qcq f.o _ _ _,Qaj (a:=(Ja b 2)) _ (Qaj (a:=(Ja b 1)) _ (Qaj (a:=(Ja b 0)) _ r.o (.inl rfl)) (.inl rfl)) (.inl rfl)⟩
theorem QyY(w:World)(b:Nat)(t:JT)(a c:Value)(h:w.heap[b]?=some (.cells #[a,c] t (0,0))):(loadVar 45 (Ja b 0)).run prog w=.ok (.agg #[a,c]) w:=
 run_loadVar_row w b t 45 #[a,c] (0,0) _ h underlying45 rfl (by kernel_rfl)
theorem Qax{w:World}{b:Nat}{a c:Value}{t:JT}(k:w.heap[b]?=some (.cells #[a,c] t (0,0))) :
  (w.cell? (Ja b 0)=some a/\w.cell? (Ja b 1)=some c)/\w.frozen? (Ja b 0)=false/\w.frozen? (Ja b 1)=false:=by
 refine⟨⟨?_,?_⟩,?_,?_⟩
 all_goals first
  |(unfold World.cell?;rw[k];rfl)
  |(unfold World.frozen?;rw[k];rfl)
theorem QqP{w:World}{b:Nat}{d f:Value}{t:JT}(k:w.heap[b]?=some (.cells #[d,f] t (0,0)))(a c:Value):((w.setCell (Ja b 0) a).setCell (Ja b 1) c).heap[b]?=some (.cells #[a,c] t (0,0)):=by
 simp[World.setCell,J6,k]
theorem Qdf(b:Nat)(s:JA)(a:Nat)(w:World)(k:Qg2 w b s a)(E:a+16<=s.size)(y:s.size<=1000000):Calls prog 76 #[Jp b] w (Qbo w b s a 16 (.agg #[Ju (atN s.data.toList a 8:Nat),Ju (atN s.data.toList (a+8) 8:Nat)])):=by
 have B:=(gsi k).1;have c:Jw w (w.alloc (.cells #[Ju 0,Ju 0] 45)):=(qF _ _).alloc (qC _) _;have l:=Z (QbI b s a 8 _ (Qad k c) (by omega) y (by decide) (by decide))
 have n:=Z (fun W (C:Qg2 W b s (a+8))=>QbI b s (a+8) 8 W C (by omega) y (by decide) (by decide))
 have D:=Z (JI w (.cells #[Ju 0,Ju 0] 45));have q:=Z c;have hne:w.heap.size≠b:=by omega
 generalize atN s.data.toList a 8=V1 at l ⊢;generalize atN s.data.toList (a+8) 8=V2 at n ⊢;clear k c E;go_enter func76,ntmps76;go_wp2_with fail;refine l.o.mono ?_;rintro e z ⟨rfl,i,d⟩;have r:=Z i;have v:Hi (Touch (fun g=>g=b) w z):=Z ((Touch.of_below (S:=fun g=>g=b) q.o).trans d (fun g hg=>.inl hg))
 have m:=Z ((d.block w.heap.size (by simp) hne).trans D.o)
 clear i d;go_wp2_with fail;refine (n.o _ r.o).mono ?_;rintro e G ⟨rfl,h,f⟩;have t:=Z h;have x:Hi (Touch (fun g=>g=b) w G):=Z (v.o.trans f (fun g hg=>.inl hg))
 have j:=Z ((f.block w.heap.size (gsi m.o).1 hne).trans m.o);clear h f;obtain⟨⟨c0,c1⟩,f0,f1⟩:=Qax j.o;go_wp2_with fail;refine QeV (A:=(Ja w.heap.size 0)) rfl (QyY _ _ _ _ _ (QqP j.o _ _)) rfl rfl ?_;have p:b≠w.heap.size:=fun e=>hne e.symm
 exact⟨rfl,(JO _ _ _ _ p).trans ((JO _ _ _ _ p).trans t.o),Qaj (a:=(Ja w.heap.size 1)) _ (Qaj (a:=(Ja w.heap.size 0)) _ x.o (.inr (qC _))) (.inr (qC _))⟩
theorem Qcy(b:Nat)(s:JA)(a:Nat)(w:World)(k:Qg2 w b s a)(l:a+4<=s.size)(m:s.size<=1000000):Calls prog 78 #[Jp b] w (Qbo w b s a 4 (Ji (Qko (atN s.data.toList a 4)))):=by
 have g:=Z (QbI b s a 4 _ k (by omega) m (by decide) (by decide))
 have i:atN s.data.toList a 4<4294967296:=Qr1 _ _ _;have j:=Z (fun W=>Qms (atN s.data.toList a 4) W i)
 generalize Qko (atN s.data.toList a 4)=Zq at j ⊢;generalize atN s.data.toList a 4=V1 at g j i;clear k l i;go_enter func78,ntmps78;go_wp2_with fail;refine g.o.mono ?_;rintro e n ⟨rfl,d,c⟩;have f:=Z (qE d c);clear d c;go_wp2_with fail;refine (j.o _).mono ?_;rintro e p ⟨rfl,h⟩;obtain rfl:=h.symm;clear h;go_wp2;go_ret;exact⟨rfl,f.o.1,f.o.2⟩
theorem QaK(w:World)(x y:Value)(t:JT):(w.alloc (.cells #[x,y] t)).cell? (Ja w.heap.size 0)=some x/\(w.alloc (.cells #[x,y] t)).cell? (Ja w.heap.size 1)=some y:=(Qax (JI w (.cells #[x,y] t))).1
theorem Qao(w:World)(x y:Value)(t:JT):Jw w (w.alloc (.cells #[x,y] t)):=(qF _ _).alloc (qC _) _
theorem Qcs(f l:Nat)(w:World)(b:f<9223372036854775808)(a:l<9223372036854775808):Calls prog 31 #[.agg #[Ju f,Ju l]] w (JB (Ju ((f+l:Nat):Int)) w):=by
 obtain⟨c0,c1⟩:=QaK w (Ju f) (Ju l) 45;go_enter func31,ntmps31;go_wp2;go_ret;exact⟨QbS (by omega),Qao w _ _ _⟩
theorem QbO(f l:Nat)(b:Bool)(a:Qnn f l=b)(w:World)(t:f<18446744073709551616)(v:l<18446744073709551616):Calls prog 126 #[.agg #[Ju f,Ju l]] w (JB (.bool b) w):=by
 obtain⟨c0,c1⟩:=QaK w (Ju f) (Ju l) 45;have d:=Z (Qao w (Ju f) (Ju l) 45);have n:=Z (fun W h j=>Qcs f l W h j)
 unfold Qnn Qds at a
 by_cases h:f<=1099511627776
 ·rw[qA h,Bool.true_and] at a
  have s:decide ((f:Int)<=1099511627776)=true:=qA (by omega)
  by_cases j:l<=1099511627776
  ·rw[qA j,Bool.true_and] at a
   have q:decide ((l:Int)<=1099511627776)=true:=qA (by omega)
   have g:=Z (fun W=>n.o W (by omega) (by omega))
   clear n h j;generalize f+l=m at g a
   by_cases k:m<=1099511627776
   ·rw[qA k] at a
    subst a;have r:decide ((m:Int)<=1099511627776)=true:=qA (by omega)
    clear k;go_enter func126,ntmps126;go_wp2_with fail;refine (g.o _).mono ?_;rintro e p ⟨rfl,c⟩;have i:=Z (Qaa d.o c);clear c;go_wp2;go_ret;exact⟨rfl,i.o⟩
   ·rw[qB k] at a
    subst a;have r:decide ((m:Int)<=1099511627776)=false:=qB (by omega)
    clear k;go_enter func126,ntmps126;go_wp2_with fail;refine (g.o _).mono ?_;rintro e p ⟨rfl,c⟩;have i:=Z (Qaa d.o c);clear c;go_wp2;go_ret;exact⟨rfl,i.o⟩
  ·rw[qB j,Bool.false_and] at a
   subst a;have q:decide ((l:Int)<=1099511627776)=false:=qB (by omega)
   clear h j n;go_enter func126,ntmps126;go_wp2;go_ret;exact⟨rfl,d.o⟩
 ·rw[qB h,Bool.false_and] at a
  subst a;have s:decide ((f:Int)<=1099511627776)=false:=qB (by omega)
  clear h n;go_enter func126,ntmps126;go_wp2;go_ret;exact⟨rfl,d.o⟩
theorem Qev(a c x y z:Int)(b:Bool)(l:(inB a c x&&(inB a c y&&inB a c z))=b)(B:Nat)(w:World)(k:w.heap[B]?=some (.cells #[Ji x,Ji y,Ji z] 3 (0,0))) :
  Calls prog 127 #[Ji a,Ji c,Jl B 3 3] w (JS (.bool b) w):=by
 obtain⟨⟨c0,c1,c2⟩,-⟩:=Qbz k;have f:Hi (b=(inB a c x&&(inB a c y&&inB a c z))):=Z l.symm;clear k l;go_enter func127,ntmps127;go_wp2_with fail;go_loop [11] (fun i=>∃k:Nat,k<=3/\i = Ji k/\Hi (1<=k->inB a c x=true)/\Hi (2<=k->inB a c y=true)/\Hi (3<=k->inB a c z=true)) (fun i=>3-(intOf i).toNat)
 case atStart=>exact⟨0,by omega,rfl,Z (fun h=>JN h (by decide)),Z (fun h=>JN h (by decide)),Z (fun h=>JN h (by decide))⟩
 case round=>
  obtain⟨k,hk,rfl,H0,H1,H2⟩:=hrel;have h:k=0\/k=1\/k=2\/k=3:=by omega
  have key:∀v:Int,(decide (a<=v)=true/\decide (v<=c)=true/\inB a c v=true)\/((decide (v<a)=true\/(decide (v<a)=false/\decide (c<v)=true))/\inB a c v=false):=by
   intro v;unfold inB
   by_cases j:a<=v
   ·by_cases g:v<=c
    ·exact .inl ⟨qA j,qA g,by rw[qA j,qA g];rfl⟩
    ·exact .inr ⟨.inr ⟨qB (by omega),qA (by omega)⟩,by rw[qB g,Bool.and_false]⟩
   ·exact .inr ⟨.inl (qA (by omega)),by rw[qB j];rfl⟩
  rcases h with rfl|rfl|rfl|rfl
  ·rcases key x with⟨a1,a2,a3⟩|⟨a1|⟨a1,a2⟩,a3⟩
   ·have u1:decide (x<a)=false:=qB (by have:=of_decide_eq_true a1;omega)
    have u2:decide (c<x)=false:=qB (by have:=of_decide_eq_true a2;omega)
    have HA:=Z a3;clear a1 a2 a3 key;go_wp2_with fail;go_round
    case rel=>exact⟨1,by omega,by go_num,Z (fun _=>HA.o),Z (fun h=>JN h (by decide)),Z (fun h=>JN h (by decide))⟩
    case measure=>simp[intOf]
   ·have d:Hi (b=false):=Z (by rw[f.o,a3];rfl)
    clear a3 key;go_wp2;go_ret;exact⟨by rw[d.o]<;>rfl,rfl⟩
   ·have d:Hi (b=false):=Z (by rw[f.o,a3];rfl)
    clear a3 key;go_wp2;go_ret;exact⟨by rw[d.o]<;>rfl,rfl⟩
  ·rcases key y with⟨a1,a2,a3⟩|⟨a1|⟨a1,a2⟩,a3⟩
   ·have u1:decide (y<a)=false:=qB (by have:=of_decide_eq_true a1;omega)
    have u2:decide (c<y)=false:=qB (by have:=of_decide_eq_true a2;omega)
    have HA:=Z a3;clear a1 a2 a3 key;go_wp2_with fail;go_round
    case rel=>exact⟨2,by omega,by go_num,Z (fun _=>H0.o (by decide)),Z (fun _=>HA.o),Z (fun h=>JN h (by decide))⟩
    case measure=>simp[intOf]
   ·have d:Hi (b=false):=Z (by rw[f.o,H0.o (by decide),a3];rfl)
    clear a3 key;go_wp2;go_ret;exact⟨by rw[d.o]<;>rfl,rfl⟩
   ·have d:Hi (b=false):=Z (by rw[f.o,H0.o (by decide),a3];rfl)
    clear a3 key;go_wp2;go_ret;exact⟨by rw[d.o]<;>rfl,rfl⟩
  ·rcases key z with⟨a1,a2,a3⟩|⟨a1|⟨a1,a2⟩,a3⟩
   ·have u1:decide (z<a)=false:=qB (by have:=of_decide_eq_true a1;omega)
    have u2:decide (c<z)=false:=qB (by have:=of_decide_eq_true a2;omega)
    have HA:=Z a3;clear a1 a2 a3 key;go_wp2_with fail;go_round
    case rel=>exact⟨3,by omega,by go_num,Z (fun _=>H0.o (by decide)),Z (fun _=>H1.o (by decide)),Z (fun _=>HA.o)⟩
    case measure=>simp[intOf]
   ·have d:Hi (b=false):=Z (by rw[f.o,H0.o (by decide),H1.o (by decide),a3];rfl)
    clear a3 key;go_wp2;go_ret;exact⟨by rw[d.o]<;>rfl,rfl⟩
   ·have d:Hi (b=false):=Z (by rw[f.o,H0.o (by decide),H1.o (by decide),a3];rfl)
    clear a3 key;go_wp2;go_ret;exact⟨by rw[d.o]<;>rfl,rfl⟩
  ·have d:Hi (b=true):=Z (by rw[f.o,H0.o (by decide),H1.o (by decide),H2.o (by decide)];rfl)
   clear key;go_wp2;go_ret;exact⟨by rw[d.o]<;>rfl,rfl⟩
def Qby(h:Hdr):JW:=#[Ju h.rf,Ju h.rl,Ju h.mf,Ju h.ml,Ju h.lf,Ju h.ll,Ju h.df,Ju h.dl,Ju h.ad,Ju h.en,Ju h.co,.bool h.cl,Jb h.inn,Jb h.out,Jb h.kd,Ji h.z0,Ji h.z1,Ji h.x0,Ji h.y0,Ji h.x1,Ji h.y1,Ji h.zo,Ji h.lo,Ji h.la]
structure HdrOk(h:Hdr):Prop where
 rf:h.rf<18446744073709551616
 rl:h.rl<18446744073709551616
 mf:h.mf<18446744073709551616
 ml:h.ml<18446744073709551616
 lf:h.lf<18446744073709551616
 ll:h.ll<18446744073709551616
 df:h.df<18446744073709551616
 dl:h.dl<18446744073709551616
 ad:h.ad<18446744073709551616
 en:h.en<18446744073709551616
 co:h.co<18446744073709551616
 inn:h.inn<256
 out:h.out<256
 kd:h.kd<256
 z0 : -9223372036854775808<=h.z0/\h.z0<=9223372036854775807
 z1 : -9223372036854775808<=h.z1/\h.z1<=9223372036854775807
 x0 : -9223372036854775808<=h.x0/\h.x0<=9223372036854775807
 y0 : -9223372036854775808<=h.y0/\h.y0<=9223372036854775807
 x1 : -9223372036854775808<=h.x1/\h.x1<=9223372036854775807
 y1 : -9223372036854775808<=h.y1/\h.y1<=9223372036854775807
 zo : -9223372036854775808<=h.zo/\h.zo<=9223372036854775807
 lo : -9223372036854775808<=h.lo/\h.lo<=9223372036854775807
 la : -9223372036854775808<=h.la/\h.la<=9223372036854775807
theorem QaI{w:World}{b:Nat}{h:Hdr}{T:JT}(k:w.heap[b]?=some (.cells (Qby h) T (0,0)))(i:Nat)(v:Value)(a:(Qby h)[i]?=some v):w.cell? (Ja b i)=some v:=by
 unfold World.cell?;rw[k];exact a
theorem QgZ(w:World)(h:Hdr)(T:JT):Jw w (w.alloc (.cells #[Ju h.rf,Ju h.rl,Ju h.mf,Ju h.ml,Ju h.lf,Ju h.ll,Ju h.df,Ju h.dl,Ju h.ad,Ju h.en,Ju h.co,.bool h.cl,Jb h.inn,Jb h.out,Jb h.kd,Ji h.z0,Ji h.z1,Ji h.x0,Ji h.y0,Ji h.x1,Ji h.y1,Ji h.zo,Ji h.lo,Ji h.la] T)):=(qF _ _).alloc (qC _) _
theorem QmF(w:World)(h:Hdr)(T:JT):(w.alloc (.cells #[Ju h.rf,Ju h.rl,Ju h.mf,Ju h.ml,Ju h.lf,Ju h.ll,Ju h.df,Ju h.dl,Ju h.ad,Ju h.en,Ju h.co,.bool h.cl,Jb h.inn,Jb h.out,Jb h.kd,Ji h.z0,Ji h.z1,Ji h.x0,Ji h.y0,Ji h.x1,Ji h.y1,Ji h.zo,Ji h.lo,Ji h.la] T)).heap[w.heap.size]?=some (.cells (Qby h) T (0,0)):=JI w _
theorem Qdc{w:World}{b:Nat}{h:Hdr}{T:JT}(k:w.heap[b]?=some (.cells (Qby h) T (0,0))):w.cell? (Ja b 0)=some (Ju h.rf)/\w.cell? (Ja b 1)=some (Ju h.rl)/\w.cell? (Ja b 2)=some (Ju h.mf)/\w.cell? (Ja b 3)=some (Ju h.ml)/\w.cell? (Ja b 4)=some (Ju h.lf)/\w.cell? (Ja b 5)=some (Ju h.ll)/\w.cell? (Ja b 6)=some (Ju h.df)/\w.cell? (Ja b 7)=some (Ju h.dl)/\w.cell? (Ja b 8)=some (Ju h.ad)/\w.cell? (Ja b 9)=some (Ju h.en)/\w.cell? (Ja b 10)=some (Ju h.co)/\w.cell? (Ja b 11)=some (.bool h.cl)/\w.cell? (Ja b 12)=some (Jb h.inn)/\w.cell? (Ja b 13)=some (Jb h.out)/\w.cell? (Ja b 14)=some (Jb h.kd)/\w.cell? (Ja b 15)=some (Ji h.z0)/\w.cell? (Ja b 16)=some (Ji h.z1)/\w.cell? (Ja b 17)=some (Ji h.x0)/\w.cell? (Ja b 18)=some (Ji h.y0)/\w.cell? (Ja b 19)=some (Ji h.x1)/\w.cell? (Ja b 20)=some (Ji h.y1)/\w.cell? (Ja b 21)=some (Ji h.zo)/\w.cell? (Ja b 22)=some (Ji h.lo)/\w.cell? (Ja b 23)=some (Ji h.la):=by
 refine⟨?_,?_,?_,?_,?_,?_,?_,?_,?_,?_,?_,?_,?_,?_,?_,?_,?_,?_,?_,?_,?_,?_,?_,?_⟩
 all_goals exact QaI k _ _ rfl
theorem QnR(w:World)(b:Nat)(t:JT)(a f j g c k d i:Value)(h:w.heap[b]?=some (.cells #[a,f,j,g,c,k,d,i] t (0,0))):(loadVar 95 (Ja b 0)).run prog w=.ok (.agg #[a,f,j,g,c,k,d,i]) w:=
 run_loadVar_row w b t 95 #[a,f,j,g,c,k,d,i] (0,0) _ h underlying95 rfl (by kernel_rfl)
theorem Qfc(h:Hdr)(w:World):Calls prog 115 #[.agg #[Ju h.rf,Ju h.rl,Ju h.mf,Ju h.ml,Ju h.lf,Ju h.ll,Ju h.df,Ju h.dl,Ju h.ad,Ju h.en,Ju h.co,.bool h.cl,Jb h.inn,Jb h.out,Jb h.kd,Ji h.z0,Ji h.z1,Ji h.x0,Ji h.y0,Ji h.x1,Ji h.y1,Ji h.zo,Ji h.lo,Ji h.la]] w (JB (.agg #[Ju h.rf,Ju h.rl,Ju h.mf,Ju h.ml,Ju h.lf,Ju h.ll,Ju h.df,Ju h.dl]) w):=by
 obtain⟨c0,c1,c2,c3,c4,c5,c6,c7,c8,c9,c10,c11,c12,c13,c14,c15,c16,c17,c18,c19,c20,c21,c22,c23⟩:=Qdc (QmF w h 47);have c:=Z (JI (w.alloc (.cells #[Ju h.rf,Ju h.rl,Ju h.mf,Ju h.ml,Ju h.lf,Ju h.ll,Ju h.df,Ju h.dl,Ju h.ad,Ju h.en,Ju h.co,.bool h.cl,Jb h.inn,Jb h.out,Jb h.kd,Ji h.z0,Ji h.z1,Ji h.x0,Ji h.y0,Ji h.x1,Ji h.y1,Ji h.zo,Ji h.lo,Ji h.la] 47)) (.cells #[Ju h.rf,Ju h.rl,Ju h.mf,Ju h.ml,Ju h.lf,Ju h.ll,Ju h.df,Ju h.dl] 95));have a:=Z (QgZ w h 47);go_enter func115,ntmps115;go_wp2_with fail;have b:=c.o;rw[qJ] at b;refine QeV (A:=(Ja (w.heap.size+1) 0)) rfl (QnR _ _ _ _ _ _ _ _ _ _ _ b) rfl rfl ?_;exact⟨rfl,a.o.alloc a.o.size _⟩
theorem QAd(h:Hdr)(a:Qd5 h=false):QkG h=8:=by unfold QkG;rw[JK a]
theorem QDW(h:Hdr)(a:Qd5 h=true):QkG h=if 4<h.inn\/4<h.out\/5<h.kd then 14
 else if (inB 0 26 h.z0&&(inB 0 26 h.z1&&inB 0 26 h.zo))=false\/h.z1<h.z0 then 8
 else if (inB (-1800000000) 1800000000 h.x0&&(inB (-1800000000) 1800000000 h.x1&&inB (-1800000000) 1800000000 h.lo))=false\/h.x1<h.x0 then 8
 else if (inB (-900000000) 900000000 h.y0&&(inB (-900000000) 900000000 h.y1&&inB (-900000000) 900000000 h.la))=false\/h.y1<h.y0 then 8
 else 0:=by
 unfold QkG;rw[JJ (by rw[a];decide)]
theorem Qmy{p:Prop}[Decidable p]{a b V:Nat}(h:(if p then a else b)=V):(p->V=a)/\(¬p->b=V):=by
 by_cases c:p
 ·rw[JK c] at h;exact⟨fun _=>h.symm,fun hn=>JN c hn⟩
 ·rw[JJ c] at h;exact⟨fun h1=>JN h1 c,fun _=>h⟩
theorem Qrx(h:Hdr):∀w,(Instr.index 95 (.agg #[Ju h.rf,Ju h.rl,Ju h.mf,Ju h.ml,Ju h.lf,Ju h.ll,Ju h.df,Ju h.dl]) (Ji 0)).run prog w=.ok (.agg #[Ju h.rf,Ju h.rl]) w:=fun _=>by kernel_rfl
theorem Qrw(h:Hdr):∀w,(Instr.index 95 (.agg #[Ju h.rf,Ju h.rl,Ju h.mf,Ju h.ml,Ju h.lf,Ju h.ll,Ju h.df,Ju h.dl]) (Ji 1)).run prog w=.ok (.agg #[Ju h.mf,Ju h.ml]) w:=fun _=>by kernel_rfl
theorem Qrv(h:Hdr):∀w,(Instr.index 95 (.agg #[Ju h.rf,Ju h.rl,Ju h.mf,Ju h.ml,Ju h.lf,Ju h.ll,Ju h.df,Ju h.dl]) (Ji 2)).run prog w=.ok (.agg #[Ju h.lf,Ju h.ll]) w:=fun _=>by kernel_rfl
theorem Qru(h:Hdr):∀w,(Instr.index 95 (.agg #[Ju h.rf,Ju h.rl,Ju h.mf,Ju h.ml,Ju h.lf,Ju h.ll,Ju h.df,Ju h.dl]) (Ji 3)).run prog w=.ok (.agg #[Ju h.df,Ju h.dl]) w:=fun _=>by kernel_rfl
theorem Qh0(h:Hdr)(p:HdrOk h)(w:World):Calls prog 79 #[.agg #[Ju h.rf,Ju h.rl,Ju h.mf,Ju h.ml,Ju h.lf,Ju h.ll,Ju h.df,Ju h.dl,Ju h.ad,Ju h.en,Ju h.co,.bool h.cl,Jb h.inn,Jb h.out,Jb h.kd,Ji h.z0,Ji h.z1,Ji h.x0,Ji h.y0,Ji h.x1,Ji h.y1,Ji h.zo,Ji h.lo,Ji h.la]] w (JB (Ji (QkG h:Nat)) w):=by
 have g:=Z (QgZ w h 47);have J:=Z (QmF w h 47);have qg:=Z (fun W=>Qfc h W)
 obtain⟨V,hV⟩:∃V,QkG h=V:=⟨_,rfl⟩;have E:Qd5 h=false->V=8:=fun hs=>by rw[<-hV];exact QAd h hs
 have qd:=Z (fun hs=>(QDW h hs).symm.trans hV)
 rw[hV];clear hV;go_enter func79,ntmps79
 iterate 8 go_step
 generalize w.alloc (.cells #[Ju h.rf,Ju h.rl,Ju h.mf,Ju h.ml,Ju h.lf,Ju h.ll,Ju h.df,Ju h.dl,Ju h.ad,Ju h.en,Ju h.co,.bool h.cl,Jb h.inn,Jb h.out,Jb h.kd,Ji h.z0,Ji h.z1,Ji h.x0,Ji h.y0,Ji h.x1,Ji h.y1,Ji h.zo,Ji h.lo,Ji h.la] 47)=W0 at g J ⊢;generalize w.heap.size=b0 at J ⊢;go_wp2_with (refine wpList_load_row rfl 47 (.tmp 1) rfl b0 rfl 47 #[Ju h.rf,Ju h.rl,Ju h.mf,Ju h.ml,Ju h.lf,Ju h.ll,Ju h.df,Ju h.dl,Ju h.ad,Ju h.en,Ju h.co,.bool h.cl,Jb h.inn,Jb h.out,Jb h.kd,Ji h.z0,Ji h.z1,Ji h.x0,Ji h.y0,Ji h.x1,Ji h.y1,Ji h.zo,Ji h.lo,Ji h.la] (0,0) _ J.o underlying47 rfl (by kernel_rfl) ?_)
 refine (qg.o _).mono ?_;rintro e w1 ⟨rfl,qc⟩;have qb:=Z qc;clear qc;have i0:=Qrx h;have i1:=Qrw h;have i2:=Qrv h;have i3:=Qru h;go_wp2_with fail;go_loopw [7] (fun i wr=>∃k:Nat,k<=4/\i = Ji k/\Hi (1<=k->Qnn h.rf h.rl=true)/\Hi (2<=k->Qnn h.mf h.ml=true)/\Hi (3<=k->Qnn h.lf h.ll=true)/\Hi (4<=k->Qnn h.df h.dl=true)/\Hi (Jw W0 wr)) (fun i _=>4-(intOf i).toNat)
 case atStart=>exact⟨0,by omega,rfl,Z (fun h=>JN h (by decide)),Z (fun h=>JN h (by decide)),Z (fun h=>JN h (by decide)),Z (fun h=>JN h (by decide)),qb⟩
 case round=>
  clear qb
  as_aux_lemma=>
   obtain⟨k,hk,rfl,S0,S1,S2,S3,HBr⟩:=hrel;have qe:k=0\/k=1\/k=2\/k=3\/k=4:=by omega
   rcases qe with rfl|rfl|rfl|rfl|rfl
   ·cases m:Qnn h.rf h.rl with
    |true=>
     as_aux_lemma=>
      have r:=Z (fun W=>QbO h.rf h.rl true m W p.rf p.rl)
      have HA:=Z m;have l:=Z (Qaa HBr.o (Qao wr (Ju h.rf) (Ju h.rl) 45));obtain⟨s0,s1⟩:=QaK wr (Ju h.rf) (Ju h.rl) 45;clear m;go_wp2_with fail;refine (r.o _).mono ?_;rintro e q ⟨rfl,d⟩;have j:=Z (Qaa l.o d);clear d;go_wp2_with fail;go_roundw
      case rel=>exact⟨1,by omega,by go_num,Z (fun _=>by first|exact HA.o|trivial),Z (fun h=>JN h (by decide)),Z (fun h=>JN h (by decide)),Z (fun h=>JN h (by decide)),j⟩
      case measure=>simp[intOf]
    |false=>
     as_aux_lemma=>
      have r:=Z (fun W=>QbO h.rf h.rl false m W p.rf p.rl)
      have n:Hi (V=8):=Z (E (by unfold Qd5;rw[m];simp))
      have l:=Z (Qaa HBr.o (Qao wr (Ju h.rf) (Ju h.rl) 45));obtain⟨s0,s1⟩:=QaK wr (Ju h.rf) (Ju h.rl) 45;clear m;go_wp2_with fail;refine (r.o _).mono ?_;rintro e q ⟨rfl,d⟩;have j:=Z (Qaa l.o d);clear d;go_wp2;go_ret;exact⟨by rw[n.o]<;>rfl,Qaa g.o j.o⟩
   ·cases m:Qnn h.mf h.ml with
    |true=>
     as_aux_lemma=>
      have r:=Z (fun W=>QbO h.mf h.ml true m W p.mf p.ml)
      have HA:=Z m;have l:=Z (Qaa HBr.o (Qao wr (Ju h.mf) (Ju h.ml) 45));obtain⟨s0,s1⟩:=QaK wr (Ju h.mf) (Ju h.ml) 45;clear m;go_wp2_with fail;refine (r.o _).mono ?_;rintro e q ⟨rfl,d⟩;have j:=Z (Qaa l.o d);clear d;go_wp2_with fail;go_roundw
      case rel=>exact⟨2,by omega,by go_num,Z (fun _=>S0.o (by decide)),Z (fun _=>by first|exact HA.o|trivial),Z (fun h=>JN h (by decide)),Z (fun h=>JN h (by decide)),j⟩
      case measure=>simp[intOf]
    |false=>
     as_aux_lemma=>
      have r:=Z (fun W=>QbO h.mf h.ml false m W p.mf p.ml)
      have n:Hi (V=8):=Z (E (by unfold Qd5;rw[S0.o (by decide),m];simp))
      have l:=Z (Qaa HBr.o (Qao wr (Ju h.mf) (Ju h.ml) 45));obtain⟨s0,s1⟩:=QaK wr (Ju h.mf) (Ju h.ml) 45;clear m;go_wp2_with fail;refine (r.o _).mono ?_;rintro e q ⟨rfl,d⟩;have j:=Z (Qaa l.o d);clear d;go_wp2;go_ret;exact⟨by rw[n.o]<;>rfl,Qaa g.o j.o⟩
   ·cases m:Qnn h.lf h.ll with
    |true=>
     as_aux_lemma=>
      have r:=Z (fun W=>QbO h.lf h.ll true m W p.lf p.ll)
      have HA:=Z m;have l:=Z (Qaa HBr.o (Qao wr (Ju h.lf) (Ju h.ll) 45));obtain⟨s0,s1⟩:=QaK wr (Ju h.lf) (Ju h.ll) 45;clear m;go_wp2_with fail;refine (r.o _).mono ?_;rintro e q ⟨rfl,d⟩;have j:=Z (Qaa l.o d);clear d;go_wp2_with fail;go_roundw
      case rel=>exact⟨3,by omega,by go_num,Z (fun _=>S0.o (by decide)),Z (fun _=>S1.o (by decide)),Z (fun _=>by first|exact HA.o|trivial),Z (fun h=>JN h (by decide)),j⟩
      case measure=>simp[intOf]
    |false=>
     as_aux_lemma=>
      have r:=Z (fun W=>QbO h.lf h.ll false m W p.lf p.ll)
      have n:Hi (V=8):=Z (E (by unfold Qd5;rw[S0.o (by decide),S1.o (by decide),m];simp))
      have l:=Z (Qaa HBr.o (Qao wr (Ju h.lf) (Ju h.ll) 45));obtain⟨s0,s1⟩:=QaK wr (Ju h.lf) (Ju h.ll) 45;clear m;go_wp2_with fail;refine (r.o _).mono ?_;rintro e q ⟨rfl,d⟩;have j:=Z (Qaa l.o d);clear d;go_wp2;go_ret;exact⟨by rw[n.o]<;>rfl,Qaa g.o j.o⟩
   ·cases m:Qnn h.df h.dl with
    |true=>
     as_aux_lemma=>
      have r:=Z (fun W=>QbO h.df h.dl true m W p.df p.dl)
      have HA:=Z m;have l:=Z (Qaa HBr.o (Qao wr (Ju h.df) (Ju h.dl) 45));obtain⟨s0,s1⟩:=QaK wr (Ju h.df) (Ju h.dl) 45;clear m;go_wp2_with fail;refine (r.o _).mono ?_;rintro e q ⟨rfl,d⟩;have j:=Z (Qaa l.o d);clear d;go_wp2_with fail;go_roundw
      case rel=>exact⟨4,by omega,by go_num,Z (fun _=>S0.o (by decide)),Z (fun _=>S1.o (by decide)),Z (fun _=>S2.o (by decide)),Z (fun _=>by first|exact HA.o|trivial),j⟩
      case measure=>simp[intOf]
    |false=>
     as_aux_lemma=>
      have r:=Z (fun W=>QbO h.df h.dl false m W p.df p.dl)
      have n:Hi (V=8):=Z (E (by unfold Qd5;rw[S0.o (by decide),S1.o (by decide),S2.o (by decide),m];simp))
      have l:=Z (Qaa HBr.o (Qao wr (Ju h.df) (Ju h.dl) 45));obtain⟨s0,s1⟩:=QaK wr (Ju h.df) (Ju h.dl) 45;clear m;go_wp2_with fail;refine (r.o _).mono ?_;rintro e q ⟨rfl,d⟩;have j:=Z (Qaa l.o d);clear d;go_wp2;go_ret;exact⟨by rw[n.o]<;>rfl,Qaa g.o j.o⟩
   ·as_aux_lemma=>
    have T:=qd.o (by unfold Qd5;rw[S0.o (by decide),S1.o (by decide),S2.o (by decide),S3.o (by decide)];rfl)
    obtain⟨hVk,hVk_⟩:=Qmy T;have t:=Z (Qad J.o HBr.o);have e0:Jx wr b0 12 (Jb h.inn):=QaI t.o 12 _ rfl;have e1:Jx wr b0 13 (Jb h.out):=QaI t.o 13 _ rfl;have e2:Jx wr b0 14 (Jb h.kd):=QaI t.o 14 _ rfl;clear E T i0 i1 i2 i3
    by_cases M:4<h.inn
    ·have n:Hi (V=14):=Z (hVk (.inl M))
     have u1:decide ((h.inn:Int)>4)=true:=qA (by omega)
     have u2:decide (4<h.inn)=true:=qA M;clear hVk hVk_ M;go_wp2;go_ret;exact⟨by rw[n.o]<;>rfl,Qaa g.o HBr.o⟩
    have u1:decide ((h.inn:Int)>4)=false:=qB (by omega)
    have u2:decide (4<h.inn)=false:=qB M
    by_cases P:4<h.out
    ·have n:Hi (V=14):=Z (hVk (.inr (.inl P)))
     have u3:decide ((h.out:Int)>4)=true:=qA (by omega)
     have u4:decide (4<h.out)=true:=qA P;clear hVk hVk_ M P;go_wp2;go_ret;exact⟨by rw[n.o]<;>rfl,Qaa g.o HBr.o⟩
    have u3:decide ((h.out:Int)>4)=false:=qB (by omega)
    have u4:decide (4<h.out)=false:=qB P
    by_cases R:5<h.kd
    ·have n:Hi (V=14):=Z (hVk (.inr (.inr R)))
     have u5:decide ((h.kd:Int)>5)=true:=qA (by omega)
     have u6:decide (5<h.kd)=true:=qA R;clear hVk hVk_ M P R;go_wp2;go_ret;exact⟨by rw[n.o]<;>rfl,Qaa g.o HBr.o⟩
    have u5:decide ((h.kd:Int)>5)=false:=qB (by omega)
    have u6:decide (5<h.kd)=false:=qB R;have D:=hVk_ (by rintro (e|e|e);exact M e;exact P e;exact R e)
    clear hVk hVk_ M P R;obtain⟨D,hV2_⟩:=Qmy D;obtain⟨wv2,hwv⟩:∃W,W=wr:=⟨_,rfl⟩;rw[<-hwv] at HBr t e0 e1 e2 ⊢;clear hwv;have I:=t;have U:=HBr;clear t HBr;have S:Jx wv2 b0 15 (Ji h.z0):=QaI I.o 15 _ rfl;have q1:Jx wv2 b0 16 (Ji h.z1):=QaI I.o 16 _ rfl;have q2:Jx wv2 b0 21 (Ji h.zo):=QaI I.o 21 _ rfl;have L:=Z (JI wv2 (.cells #[Ji h.z0,Ji h.z1,Ji h.zo] 3));have z:=Qcp wv2 (Ji h.z0) (Ji h.z1) (Ji h.zo) 3;have y:=Z (Qad I.o z);have C:=Z (Qaa U.o z);have f:=Z (Qev (0) 26 h.z0 h.z1 h.zo _ rfl _ _ L.o);clear z;cases c:(inB (0) 26 h.z0&&(inB (0) 26 h.z1&&inB (0) 26 h.zo)) with
    |false=>
     as_aux_lemma=>
      rw[c] at f;have n:Hi (V=8):=Z (D (.inl c));clear c;go_wp2_with fail;refine f.o.mono ?_;rintro e q ⟨rfl,a⟩;obtain rfl:=a.symm;clear a;go_wp2;go_ret;exact⟨by rw[n.o]<;>rfl,Qaa g.o C.o⟩
    |true=>
     rw[c] at f;have r0:(wv2.alloc (.cells #[Ji h.z0,Ji h.z1,Ji h.zo] 3)).cell? (Ja b0 15)=some (Ji h.z0):=QaI y.o 15 _ rfl;have r1:(wv2.alloc (.cells #[Ji h.z0,Ji h.z1,Ji h.zo] 3)).cell? (Ja b0 16)=some (Ji h.z1):=QaI y.o 16 _ rfl
     by_cases b:h.z1<h.z0
     ·as_aux_lemma=>
       have n:Hi (V=8):=Z (D (.inr b));have u1:decide (h.z0>h.z1)=true:=qA b;have u2:decide (h.z1<h.z0)=true:=qA b;clear c b;go_wp2_with fail;refine f.o.mono ?_;rintro e q ⟨rfl,a⟩;obtain rfl:=a.symm;clear a;go_wp2;go_ret;exact⟨by rw[n.o]<;>rfl,Qaa g.o C.o⟩
     ·as_aux_lemma=>
      have s:=Z (hV2_ (by rintro (e|e);exact JN (c.symm.trans e) (by decide);exact b e))
      have u1:decide (h.z0>h.z1)=false:=qB b;have u2:decide (h.z1<h.z0)=false:=qB b;clear c b D hV2_;go_wp2_with fail;refine f.o.mono ?_;rintro e q ⟨rfl,a⟩;obtain rfl:=a.symm;clear a S q1 q2;obtain⟨hV3,hV3_⟩:=Qmy s.o;clear s;generalize wv2.alloc (.cells #[Ji h.z0,Ji h.z1,Ji h.zo] 3)=wv3 at y C r0 r1 ⊢;have H:=y;have qa:=C;clear y C L f;have S:Jx wv3 b0 17 (Ji h.x0):=QaI H.o 17 _ rfl;have q1:Jx wv3 b0 19 (Ji h.x1):=QaI H.o 19 _ rfl;have q2:Jx wv3 b0 22 (Ji h.lo):=QaI H.o 22 _ rfl;have N:=Z (JI wv3 (.cells #[Ji h.x0,Ji h.x1,Ji h.lo] 3));have G:=Qcp wv3 (Ji h.x0) (Ji h.x1) (Ji h.lo) 3;have A:=Z (Qad H.o G);have x:=Z (Qaa qa.o G);have f:=Z (Qev (-1800000000) 1800000000 h.x0 h.x1 h.lo _ rfl _ _ N.o);clear G;cases c:(inB (-1800000000) 1800000000 h.x0&&(inB (-1800000000) 1800000000 h.x1&&inB (-1800000000) 1800000000 h.lo)) with
      |false=>
       as_aux_lemma=>
        rw[c] at f;have n:Hi (V=8):=Z (hV3 (.inl c));clear c;go_wp2_with fail;refine f.o.mono ?_;rintro e q ⟨rfl,a⟩;obtain rfl:=a.symm;clear a;go_wp2;go_ret;exact⟨by rw[n.o]<;>rfl,Qaa g.o x.o⟩
      |true=>
       rw[c] at f;have r0:(wv3.alloc (.cells #[Ji h.x0,Ji h.x1,Ji h.lo] 3)).cell? (Ja b0 17)=some (Ji h.x0):=QaI A.o 17 _ rfl;have r1:(wv3.alloc (.cells #[Ji h.x0,Ji h.x1,Ji h.lo] 3)).cell? (Ja b0 19)=some (Ji h.x1):=QaI A.o 19 _ rfl
       by_cases b:h.x1<h.x0
       ·as_aux_lemma=>
         have n:Hi (V=8):=Z (hV3 (.inr b));have u1:decide (h.x0>h.x1)=true:=qA b;have u2:decide (h.x1<h.x0)=true:=qA b;clear c b;go_wp2_with fail;refine f.o.mono ?_;rintro e q ⟨rfl,a⟩;obtain rfl:=a.symm;clear a;go_wp2;go_ret;exact⟨by rw[n.o]<;>rfl,Qaa g.o x.o⟩
       ·as_aux_lemma=>
        have s:=Z (hV3_ (by rintro (e|e);exact JN (c.symm.trans e) (by decide);exact b e))
        have u1:decide (h.x0>h.x1)=false:=qB b;have u2:decide (h.x1<h.x0)=false:=qB b;clear c b hV3 hV3_;go_wp2_with fail;refine f.o.mono ?_;rintro e q ⟨rfl,a⟩;obtain rfl:=a.symm;clear a S q1 q2;obtain⟨hV4,hV4_⟩:=Qmy s.o;clear s;generalize wv3.alloc (.cells #[Ji h.x0,Ji h.x1,Ji h.lo] 3)=wv4 at A x r0 r1 ⊢;have K:=A;have X:=x;clear A x N f;have S:Jx wv4 b0 18 (Ji h.y0):=QaI K.o 18 _ rfl;have q1:Jx wv4 b0 20 (Ji h.y1):=QaI K.o 20 _ rfl;have q2:Jx wv4 b0 23 (Ji h.la):=QaI K.o 23 _ rfl;have Y:=Z (JI wv4 (.cells #[Ji h.y0,Ji h.y1,Ji h.la] 3));have v:=Qcp wv4 (Ji h.y0) (Ji h.y1) (Ji h.la) 3;have O:=Z (Qad K.o v);have B:=Z (Qaa X.o v);have f:=Z (Qev (-900000000) 900000000 h.y0 h.y1 h.la _ rfl _ _ Y.o);clear v;cases c:(inB (-900000000) 900000000 h.y0&&(inB (-900000000) 900000000 h.y1&&inB (-900000000) 900000000 h.la)) with
        |false=>
         as_aux_lemma=>
          rw[c] at f;have n:Hi (V=8):=Z (hV4 (.inl c));clear c;go_wp2_with fail;refine f.o.mono ?_;rintro e q ⟨rfl,a⟩;obtain rfl:=a.symm;clear a;go_wp2;go_ret;exact⟨by rw[n.o]<;>rfl,Qaa g.o B.o⟩
        |true=>
         rw[c] at f;have r0:(wv4.alloc (.cells #[Ji h.y0,Ji h.y1,Ji h.la] 3)).cell? (Ja b0 18)=some (Ji h.y0):=QaI O.o 18 _ rfl;have r1:(wv4.alloc (.cells #[Ji h.y0,Ji h.y1,Ji h.la] 3)).cell? (Ja b0 20)=some (Ji h.y1):=QaI O.o 20 _ rfl
         by_cases b:h.y1<h.y0
         ·as_aux_lemma=>
           have n:Hi (V=8):=Z (hV4 (.inr b));have u1:decide (h.y0>h.y1)=true:=qA b;have u2:decide (h.y1<h.y0)=true:=qA b;clear c b;go_wp2_with fail;refine f.o.mono ?_;rintro e q ⟨rfl,a⟩;obtain rfl:=a.symm;clear a;go_wp2;go_ret;exact⟨by rw[n.o]<;>rfl,Qaa g.o B.o⟩
         ·as_aux_lemma=>
          have s:=Z (hV4_ (by rintro (e|e);exact JN (c.symm.trans e) (by decide);exact b e))
          have u1:decide (h.y0>h.y1)=false:=qB b;have u2:decide (h.y1<h.y0)=false:=qB b;clear c b hV4 hV4_;go_wp2_with fail;refine f.o.mono ?_;rintro e q ⟨rfl,a⟩;obtain rfl:=a.symm;clear a S q1 q2;have qf:Hi (V=0):=Z s.o.symm;go_wp2;go_ret;exact⟨by rw[qf.o]<;>rfl,Qaa g.o B.o⟩
theorem QDG(L:JL)(h:L.length<127):Qf3 L=3:=by unfold Qf3;rw[JK h]
theorem QDF(L:JL)(h:¬L.length<127)(a:L.take 7≠Qe7):Qf3 L=12:=by unfold Qf3;rw[JJ h,JK a]
theorem QDE(L:JL)(h:¬L.length<127)(a:L.take 7=Qe7)(b:(L.getD 7 0).toNat≠3):Qf3 L=13:=by unfold Qf3;rw[JJ h,JJ (fun e=>e a),JK b]
theorem QDD(L:JL)(h:¬L.length<127)(a:L.take 7=Qe7)(c:(L.getD 7 0).toNat=3)(b:1<atN L 96 1):Qf3 L=4:=by unfold Qf3;rw[JJ h,JJ (fun e=>e a),JJ (fun e=>e c),JK b]
theorem QDC(L:JL)(h:¬L.length<127)(a:L.take 7=Qe7)(c:(L.getD 7 0).toNat=3)(b:¬1<atN L 96 1):Qf3 L=QkG (Qoa L):=by unfold Qf3;rw[JJ h,JJ (fun e=>e a),JJ (fun e=>e c),JJ b]
def QCn(L:JL):Hdr:=if Qf3 L=0 then Qoa L else QA8
theorem QCm(L:JL){E:Nat}(h:Qf3 L=E)(a:E≠0):Qby (QCn L)=#[Ju 0,Ju 0,Ju 0,Ju 0,Ju 0,Ju 0,Ju 0,Ju 0,Ju 0,Ju 0,Ju 0,.bool false,Jb 0,Jb 0,Jb 0,Ji 0,Ji 0,Ji 0,Ji 0,Ji 0,Ji 0,Ji 0,Ji 0,Ji 0]:=by
 unfold QCn;rw[h,JJ a];rfl
theorem QmG(L:JL)(h:Qf3 L=0):Qby (QCn L)=Qby (Qoa L):=by
 unfold QCn;rw[h,JK rfl]
theorem Qd4(x:Nat)(h:x<4294967296) : -9223372036854775808<=Qko x/\Qko x<=9223372036854775807:=by
 unfold Qko;split<;>omega
theorem QcY(L:JL)(a:Nat):atN L a 1<256:=Qr1 L a 1
theorem QhE(L:JL)(a:Nat):atN L a 4<4294967296:=Qr1 L a 4
theorem QdH(L:JL)(a:Nat):atN L a 8<18446744073709551616:=Qr1 L a 8
theorem QwC(L:JL):HdrOk (Qoa L) where
 rf:=QdH _ _
 rl:=QdH _ _
 mf:=QdH _ _
 ml:=QdH _ _
 lf:=QdH _ _
 ll:=QdH _ _
 df:=QdH _ _
 dl:=QdH _ _
 ad:=QdH _ _
 en:=QdH _ _
 co:=QdH _ _
 inn:=QcY _ _
 out:=QcY _ _
 kd:=QcY _ _
 z0:=by have:=QcY L 100;show -9223372036854775808<=((atN L 100 1:Nat):Int)/\((atN L 100 1:Nat):Int)<=9223372036854775807;omega
 z1:=by have:=QcY L 101;show -9223372036854775808<=((atN L 101 1:Nat):Int)/\((atN L 101 1:Nat):Int)<=9223372036854775807;omega
 x0:=Qd4 _ (QhE _ _)
 y0:=Qd4 _ (QhE _ _)
 x1:=Qd4 _ (QhE _ _)
 y1:=Qd4 _ (QhE _ _)
 zo:=by have:=QcY L 118;show -9223372036854775808<=((atN L 118 1:Nat):Int)/\((atN L 118 1:Nat):Int)<=9223372036854775807;omega
 lo:=Qd4 _ (QhE _ _)
 la:=Qd4 _ (QhE _ _)
theorem QnP(L:JL):List.isPrefixOf Qe7 L=decide (L.take 7=Qe7):=by
 by_cases h:L.take 7=Qe7
 ·rw[qA h]
  exact List.isPrefixOf_iff_prefix.2 (List.prefix_iff_eq_take.2 h.symm)
 ·rw[qB h]
  cases a:List.isPrefixOf Qe7 L with
  |false=>rfl
  |true=>exact JN (List.prefix_iff_eq_take.1 (List.isPrefixOf_iff_prefix.1 a)).symm h
theorem Qb6{w:World}{b:Nat}{cs:JW}{T:JT}(k:w.heap[b]?=some (.cells cs T (0,0)))(a:cs.size=24):(loadVar 47 (Ja b 0)).run prog w=.ok (.agg cs) w:=
 run_loadVar_row w b T 47 cs (0,0) _ k underlying47 rfl (by rw[a];kernel_rfl)
theorem Qba{w0 w:World}{B g:Nat}(h:Below B w0 w)(a:B<=g)(cs:JW):Below B w0 (w.setRow g cs):=
 ⟨h.os,h.tape,h.output,by rw[setRow_size];exact h.size,fun k hk=>(setRow_other _ _ _ _ (by omega)).trans (h.block k hk)⟩
theorem Qaz{w:World}{b:Nat}{cs:JW}{T:JT}{a:Nat×Nat}(k:w.heap[b]?=some (.cells cs T a))(i:Nat)(v:Value):(w.setCell (Ja b i) v).heap[b]?=some (.cells (cs.set! i v) T a):=by
 rw[setCell_eq_setRow w b i cs T a v k];exact setRow_heap w b cs _ T a k
theorem Qak{w:World}{b:Nat}{cs:JW}{T:JT}(k:w.heap[b]?=some (.cells cs T (0,0)))(i:Nat)(v:Value)(a:cs[i]?=some v):w.cell? (Ja b i)=some v/\w.frozen? (Ja b i)=false:=by
 constructor
 ·unfold World.cell?;rw[k];exact a
 ·unfold World.frozen?;rw[k];rfl
theorem Qwz(w:World)(s:JA)(cs:JW):(((w.alloc (.cells cs 47)).alloc (.cells #[Jt s,Ji 8,Ji 0] 189)).alloc (.cells cs 47)).heap[w.heap.size]?=some (.cells cs 47 (0,0))/\
  Qg2 (((w.alloc (.cells cs 47)).alloc (.cells #[Jt s,Ji 8,Ji 0] 189)).alloc (.cells cs 47)) (w.heap.size+1) s 8/\
  (((w.alloc (.cells cs 47)).alloc (.cells #[Jt s,Ji 8,Ji 0] 189)).alloc (.cells cs 47)).heap[w.heap.size+2]?=some (.cells cs 47 (0,0))/\
  Jw w (((w.alloc (.cells cs 47)).alloc (.cells #[Jt s,Ji 8,Ji 0] 189)).alloc (.cells cs 47)):=by
 have f:=JI w (.cells cs 47);have c:=JI (w.alloc (.cells cs 47)) (.cells #[Jt s,Ji 8,Ji 0] 189);have d:=JI ((w.alloc (.cells cs 47)).alloc (.cells #[Jt s,Ji 8,Ji 0] 189)) (.cells cs 47);have b:(w.alloc (.cells cs 47)).heap.size=w.heap.size+1:=by simp
 have a:((w.alloc (.cells cs 47)).alloc (.cells #[Jt s,Ji 8,Ji 0] 189)).heap.size=w.heap.size+2:=by simp
 rw[b] at c;rw[a] at d;refine⟨(J5 _ _ (by rw[a];omega)).trans ((J5 _ _ (by rw[b];omega)).trans f),(J5 _ _ (by rw[a];omega)).trans c,d,?_⟩
 exact (((qF _ _).alloc (qC _) _).alloc (by rw[b];omega) _).alloc (by rw[a];omega) _
def DSt(w W:World)(s:JA)(a:Nat)(cs:JW):Prop:=(W.heap[w.heap.size]?=some (.cells qZ 47 (0,0))/\Qg2 W (w.heap.size+1) s a)/\W.heap[w.heap.size+2]?=some (.cells cs 47 (0,0))/\Jw w W
theorem DSt.call{w W:World}{s:JA}{a n:Nat}{cs:JW}{v:Value}{e:Ending}{w':World}(d:DSt w W s a cs)(h:Qbo W (w.heap.size+1) s a n v e w')(m:Nat)(b:a+n=m):e=.returned v/\DSt w w' s m cs:=by
 obtain⟨he,hk,ht⟩:=h;subst b;have f:=(gsi d.1.1).1;have c:=(gsi d.2.1).1;refine⟨he,⟨(ht.block _ f (by show ¬_;omega)).trans d.1.1,hk⟩,(ht.block _ c (by show ¬_;omega)).trans d.2.1,?_⟩
 exact Below.trans d.2.2 (ht.below (fun g hg=>by rw[hg];omega) (by omega))
theorem DSt.set{w W:World}{s:JA}{a:Nat}{cs:JW}(d:DSt w W s a cs)(i:Nat)(v:Value):DSt w (W.setCell (Ja (w.heap.size+2) i) v) s a (cs.set! i v):=by
 refine⟨⟨(JO _ _ _ _ (by show w.heap.size≠w.heap.size+2;omega)).trans d.1.1,?_⟩,Qaz d.2.1 i v,d.2.2.setCell (p:=(Ja (w.heap.size+2) i)) (by show w.heap.size<=w.heap.size+2;omega) v⟩
 exact (JO _ _ _ _ (by show w.heap.size+1≠w.heap.size+2;omega)).trans d.1.2
theorem DSt.to{w W:World}{s:JA}{a:Nat}{cs cs':JW}(d:DSt w W s a cs)(h:cs=cs'):DSt w W s a cs':=h ▸ d
theorem DSt.cell{w W:World}{s:JA}{a:Nat}{cs:JW}(d:DSt w W s a cs)(i:Nat)(v:Value)(b:cs[i]?=some v):W.cell? (Ja (w.heap.size+2) i)=some v/\W.frozen? (Ja (w.heap.size+2) i)=false:=Qak d.2.1 i v b
theorem QgH(s:JA)(t:s.size<=1000000)(w:World):Calls prog 30 #[Jt s] w (JB (.tuple #[.agg (Qby (QCn s.data.toList)),Ji (Qf3 s.data.toList:Nat)]) w):=by
 have v:=Z (JI w (.cells qZ 47));have B:=Z (((qF w.heap.size w).alloc (qC _) (.cells qZ 47)));have HH:=Z (Qwz w s #[Ju 0,Ju 0,Ju 0,Ju 0,Ju 0,Ju 0,Ju 0,Ju 0,Ju 0,Ju 0,Ju 0,.bool false,Jb 0,Jb 0,Jb 0,Ji 0,Ji 0,Ji 0,Ji 0,Ji 0,Ji 0,Ji 0,Ji 0,Ji 0]);have HP:=Z (fun W=>(Tryz.strings_HasPrefix s ⟨#[80,77,84,105,108,101,115]⟩ W))
 have HE:=Z (qE (QDG s.data.toList) (qE (QDF s.data.toList) (qE (QDE s.data.toList) (qE (QDD s.data.toList) (QDC s.data.toList)))));have L:=Z (fun E h h0=>QCm s.data.toList (E:=E) h h0)
 have p:=Z (QmG s.data.toList);have qi:s.data.toList.length=s.size:=Qab s;generalize Qby (QCn s.data.toList)=R at L p ⊢;generalize Qf3 s.data.toList=E at HE L p ⊢
 by_cases g1:s.size<127
 ·as_aux_lemma=>
   have n:E=3:=HE.o.1 (by omega)
   have hR:=L.o 3 n (by decide)
   have y:=Z (qE n hR);have u1:decide ((s.size:Int)<127)=true:=qA (by omega)
   have u2:decide (s.size<127)=true:=qA g1;clear n hR HE L p qi HH HP;go_enter func30,ntmps30
   iterate 8 go_step
   generalize w.alloc (.cells qZ 47)=V0 at v B ⊢;go_wp2_with (refine wpList_store_row rfl 47 (.tmp 2) (.tmp 12) rfl w.heap.size #[Ju 0,Ju 0,Ju 0,Ju 0,Ju 0,Ju 0,Ju 0,Ju 0,Ju 0,Ju 0,Ju 0,.bool false,Jb 0,Jb 0,Jb 0,Ji 0,Ji 0,Ji 0,Ji 0,Ji 0,Ji 0,Ji 0,Ji 0,Ji 0] rfl rfl 47 #[Ju 0,Ju 0,Ju 0,Ju 0,Ju 0,Ju 0,Ju 0,Ju 0,Ju 0,Ju 0,Ju 0,.bool false,Jb 0,Jb 0,Jb 0,Ji 0,Ji 0,Ji 0,Ji 0,Ji 0,Ji 0,Ji 0,Ji 0,Ji 0] v.o (by kernel_rfl) rfl (by simp[Value.oneCell']) ?_)
   refine Qau (A:=(Ja w.heap.size 0)) rfl (Qb6 (setRow_heap _ _ _ _ _ _ v.o) rfl) rfl rfl rfl ?_;exact⟨by rw[y.o.1,y.o.2]<;>rfl,Qba B.o (qC _) _⟩
 have u1:decide ((s.size:Int)<127)=false:=qB (by omega)
 have u2:decide (s.size<127)=false:=qB g1;have hm:Lib.hasPrefix s.data.toList ([80,77,84,105,108,101,115]:JL)=decide (s.data.toList.take 7=Qe7):=QnP _
 by_cases g2:s.data.toList.take 7=Qe7
 case neg=>
  as_aux_lemma=>
   have n:E=12:=HE.o.2.1 (by omega) g2
   have hR:=L.o 12 n (by decide)
   have y:=Z (qE n hR);have O:Hi (∀W,Calls prog 75 #[Jt s,Jt ⟨#[80,77,84,105,108,101,115]⟩] W (JS (.bool false) W)):=Z (fun W=>by
    have h:=HP.o W;rw[show Lib.hasPrefix s.data.toList (⟨#[80,77,84,105,108,101,115]⟩:JA).data.toList=false from hm.trans (qB g2)] at h;exact h)
   clear n hR HE L p qi HH HP g1 g2 hm;go_enter func30,ntmps30
   iterate 8 go_step
   generalize w.alloc (.cells qZ 47)=V0 at v B ⊢;go_wp2_with fail;refine (O.o _).mono ?_;rintro e a ⟨rfl,x⟩;obtain rfl:=x.symm;clear x;go_wp2_with (refine wpList_store_row rfl 47 (.tmp 2) (.tmp 17) rfl w.heap.size #[Ju 0,Ju 0,Ju 0,Ju 0,Ju 0,Ju 0,Ju 0,Ju 0,Ju 0,Ju 0,Ju 0,.bool false,Jb 0,Jb 0,Jb 0,Ji 0,Ji 0,Ji 0,Ji 0,Ji 0,Ji 0,Ji 0,Ji 0,Ji 0] rfl rfl 47 #[Ju 0,Ju 0,Ju 0,Ju 0,Ju 0,Ju 0,Ju 0,Ju 0,Ju 0,Ju 0,Ju 0,.bool false,Jb 0,Jb 0,Jb 0,Ji 0,Ji 0,Ji 0,Ji 0,Ji 0,Ji 0,Ji 0,Ji 0,Ji 0] v.o (by kernel_rfl) rfl (by simp[Value.oneCell']) ?_)
   refine Qau (A:=(Ja w.heap.size 0)) rfl (Qb6 (setRow_heap _ _ _ _ _ _ v.o) rfl) rfl rfl rfl ?_;exact⟨by rw[y.o.1,y.o.2]<;>rfl,Qba B.o (qC _) _⟩
 have O:Hi (∀W,Calls prog 75 #[Jt s,Jt ⟨#[80,77,84,105,108,101,115]⟩] W (JS (.bool true) W)):=Z (fun W=>by
  have h:=HP.o W;rw[show Lib.hasPrefix s.data.toList (⟨#[80,77,84,105,108,101,115]⟩:JA).data.toList=true from hm.trans (qA g2)] at h;exact h)
 clear HP hm;have h7:7<s.size:=by omega
 have zb:(s.data.toList.getD 7 0).toNat=s[7].toNat:=by
  rw[J9,qU (by omega)]
  rfl
 obtain⟨b7,hb7⟩:∃b7,s[7].toNat=b7:=⟨_,rfl⟩;rw[hb7] at zb
 by_cases g3:b7=3
 case neg=>
  as_aux_lemma=>
   have n:E=13:=HE.o.2.2.1 (by omega) g2 (by omega)
   have hR:=L.o 13 n (by decide)
   have y:=Z (qE n hR);have v1:((b7:Int)==3)=false:=by rw[qI];omega
   have v2:(b7==3)=false:=by rw[qI];omega
   have v3:((b7:Int) != 3)=true:=by rw[bne_iff_ne];omega
   have v4:(b7 != 3)=true:=by rw[bne_iff_ne];omega
   clear n hR HE L p qi HH g1 g2 zb;go_enter func30,ntmps30
   iterate 8 go_step
   generalize w.alloc (.cells qZ 47)=V0 at v B ⊢;go_wp2_with fail;refine (O.o _).mono ?_;rintro e a ⟨rfl,x⟩;obtain rfl:=x.symm;clear x;go_wp2_with (refine wpList_store_row rfl 47 (.tmp 2) (.tmp 22) rfl w.heap.size #[Ju 0,Ju 0,Ju 0,Ju 0,Ju 0,Ju 0,Ju 0,Ju 0,Ju 0,Ju 0,Ju 0,.bool false,Jb 0,Jb 0,Jb 0,Ji 0,Ji 0,Ji 0,Ji 0,Ji 0,Ji 0,Ji 0,Ji 0,Ji 0] rfl rfl 47 #[Ju 0,Ju 0,Ju 0,Ju 0,Ju 0,Ju 0,Ju 0,Ju 0,Ju 0,Ju 0,Ju 0,.bool false,Jb 0,Jb 0,Jb 0,Ji 0,Ji 0,Ji 0,Ji 0,Ji 0,Ji 0,Ji 0,Ji 0,Ji 0] v.o (by kernel_rfl) rfl (by simp[Value.oneCell']) ?_)
   refine Qau (A:=(Ja w.heap.size 0)) rfl (Qb6 (setRow_heap _ _ _ _ _ _ v.o) rfl) rfl rfl rfl ?_;exact⟨by rw[y.o.1,y.o.2]<;>rfl,Qba B.o (qC _) _⟩
 have v1:((b7:Int)==3)=true:=by rw[beq_iff_eq];omega
 have v2:(b7==3)=true:=by rw[beq_iff_eq];omega
 have v3:((b7:Int) != 3)=false:=by rw[bne_eq_false_iff_eq];omega
 have v4:(b7 != 3)=false:=by rw[bne_eq_false_iff_eq];omega
 have za:127<=s.size:=by omega
 have qq:=Z (HE.o.2.2.2.1 (by omega) g2 (by omega))
 have J:=Z (HE.o.2.2.2.2 (by omega) g2 (by omega))
 clear HE qi g1 g2 zb;have qy:=QwC s.data.toList;obtain⟨H,hH⟩:∃H,Qoa s.data.toList=H:=⟨_,rfl⟩;rw[hH] at J p qy;obtain⟨A0,hA0⟩:∃A,atN s.data.toList 8 8=A:=⟨_,rfl⟩;obtain⟨A1,hA1⟩:∃A,atN s.data.toList 16 8=A:=⟨_,rfl⟩;obtain⟨A2,hA2⟩:∃A,atN s.data.toList 24 8=A:=⟨_,rfl⟩;obtain⟨A3,hA3⟩:∃A,atN s.data.toList 32 8=A:=⟨_,rfl⟩;obtain⟨A4,hA4⟩:∃A,atN s.data.toList 40 8=A:=⟨_,rfl⟩;obtain⟨A5,hA5⟩:∃A,atN s.data.toList 48 8=A:=⟨_,rfl⟩;obtain⟨A6,hA6⟩:∃A,atN s.data.toList 56 8=A:=⟨_,rfl⟩;obtain⟨A7,hA7⟩:∃A,atN s.data.toList 64 8=A:=⟨_,rfl⟩;obtain⟨A8,hA8⟩:∃A,atN s.data.toList 72 8=A:=⟨_,rfl⟩;obtain⟨A9,hA9⟩:∃A,atN s.data.toList 80 8=A:=⟨_,rfl⟩;obtain⟨A10,hA10⟩:∃A,atN s.data.toList 88 8=A:=⟨_,rfl⟩;obtain⟨r,QG5⟩:∃A,atN s.data.toList 96 1=A:=⟨_,rfl⟩;have zs:r<256:=by rw[<-QG5];exact QcY _ _
 obtain⟨g,hA12⟩:∃A,atN s.data.toList 97 1=A:=⟨_,rfl⟩;have zt:g<256:=by rw[<-hA12];exact QcY _ _
 obtain⟨i,hA13⟩:∃A,atN s.data.toList 98 1=A:=⟨_,rfl⟩;have zk:i<256:=by rw[<-hA13];exact QcY _ _
 obtain⟨f,hA14⟩:∃A,atN s.data.toList 99 1=A:=⟨_,rfl⟩;have zi:f<256:=by rw[<-hA14];exact QcY _ _
 obtain⟨l,hA15⟩:∃A,atN s.data.toList 100 1=A:=⟨_,rfl⟩;have zp:l<256:=by rw[<-hA15];exact QcY _ _
 obtain⟨j,hA16⟩:∃A,atN s.data.toList 101 1=A:=⟨_,rfl⟩;have zl:j<256:=by rw[<-hA16];exact QcY _ _
 obtain⟨A17,hA17⟩:∃A,atN s.data.toList 102 4=A:=⟨_,rfl⟩;obtain⟨Z17,hZ17⟩:∃z,Qko A17=z:=⟨_,rfl⟩;obtain⟨A18,hA18⟩:∃A,atN s.data.toList 106 4=A:=⟨_,rfl⟩;obtain⟨Z18,hZ18⟩:∃z,Qko A18=z:=⟨_,rfl⟩;obtain⟨A19,hA19⟩:∃A,atN s.data.toList 110 4=A:=⟨_,rfl⟩;obtain⟨Z19,hZ19⟩:∃z,Qko A19=z:=⟨_,rfl⟩;obtain⟨A20,hA20⟩:∃A,atN s.data.toList 114 4=A:=⟨_,rfl⟩;obtain⟨Z20,hZ20⟩:∃z,Qko A20=z:=⟨_,rfl⟩;obtain⟨m,hA21⟩:∃A,atN s.data.toList 118 1=A:=⟨_,rfl⟩;have zn:m<256:=by rw[<-hA21];exact QcY _ _
 obtain⟨A22,hA22⟩:∃A,atN s.data.toList 119 4=A:=⟨_,rfl⟩;obtain⟨Z22,hZ22⟩:∃z,Qko A22=z:=⟨_,rfl⟩;obtain⟨A23,hA23⟩:∃A,atN s.data.toList 123 4=A:=⟨_,rfl⟩;obtain⟨Z23,hZ23⟩:∃z,Qko A23=z:=⟨_,rfl⟩;obtain⟨q,hq⟩:∃q,decide (r=1)=q:=⟨_,rfl⟩;have qz:Qby H=#[Ju A0,Ju A1,Ju A2,Ju A3,Ju A4,Ju A5,Ju A6,Ju A7,Ju A8,Ju A9,Ju A10,.bool q,Jb g,Jb i,Jb f,Ji l,Ji j,Ji Z17,Ji Z18,Ji Z19,Ji Z20,Ji m,Ji Z22,Ji Z23]:=by
  rw[<-hH,<-hq];simp only[Qby,Qoa,hA0,hA1,hA2,hA3,hA4,hA5,hA6,hA7,hA8,hA9,hA10,QG5,hA12,hA13,hA14,hA15,hA16,hA17,hA18,hA19,hA20,hA21,hA22,hA23,hZ17,hZ18,hZ19,hZ20,hZ22,hZ23]
 rw[QG5] at qq J;have zm:IntKind.u8.wrap (g:Int)=(g:Int):=by simp[IntKind.wrap,IntKind.bits,IntKind.signed];omega
 have zr:IntKind.u8.wrap (i:Int)=(i:Int):=by simp[IntKind.wrap,IntKind.bits,IntKind.signed];omega
 have zu:IntKind.u8.wrap (f:Int)=(f:Int):=by simp[IntKind.wrap,IntKind.bits,IntKind.signed];omega
 have zq:IntKind.i64.wrap (l:Int)=(l:Int):=by rw[JR];omega
 have zo:IntKind.i64.wrap (j:Int)=(j:Int):=by rw[JR];omega
 have zj:IntKind.i64.wrap (m:Int)=(m:Int):=by rw[JR];omega
 have y1:((r:Int)==1)=q:=by rw[<-hq,qN,beq_iff_eq,qO];omega
 have y2:(r==1)=q:=by rw[<-hq,qN,beq_iff_eq,qO]
 have zd:Hi (∀b W,Qg2 W b s 8->Calls prog 76 #[Jp b] W (Qbo W b s 8 16 (.agg #[Ju A0,Ju A1]))):=Z (fun b W k=>by rw[<-hA0,<-hA1];exact Qdf b s 8 W k (by omega) t)
 have zg:Hi (∀b W,Qg2 W b s 24->Calls prog 76 #[Jp b] W (Qbo W b s 24 16 (.agg #[Ju A2,Ju A3]))):=Z (fun b W k=>by rw[<-hA2,<-hA3];exact Qdf b s 24 W k (by omega) t)
 have ze:Hi (∀b W,Qg2 W b s 40->Calls prog 76 #[Jp b] W (Qbo W b s 40 16 (.agg #[Ju A4,Ju A5]))):=Z (fun b W k=>by rw[<-hA4,<-hA5];exact Qdf b s 40 W k (by omega) t)
 have zf:Hi (∀b W,Qg2 W b s 56->Calls prog 76 #[Jp b] W (Qbo W b s 56 16 (.agg #[Ju A6,Ju A7]))):=Z (fun b W k=>by rw[<-hA6,<-hA7];exact Qdf b s 56 W k (by omega) t)
 have zh:Hi (∀b W,Qg2 W b s 72->Calls prog 77 #[Jp b,Ji 8] W (Qbo W b s 72 8 (Ju A8))):=Z (fun b W k=>by rw[<-hA8];exact QbI b s 72 8 W k (by omega) t (by decide) (by decide))
 have zc:Hi (∀b W,Qg2 W b s 80->Calls prog 77 #[Jp b,Ji 8] W (Qbo W b s 80 8 (Ju A9))):=Z (fun b W k=>by rw[<-hA9];exact QbI b s 80 8 W k (by omega) t (by decide) (by decide))
 have qx:Hi (∀b W,Qg2 W b s 88->Calls prog 77 #[Jp b,Ji 8] W (Qbo W b s 88 8 (Ju A10))):=Z (fun b W k=>by rw[<-hA10];exact QbI b s 88 8 W k (by omega) t (by decide) (by decide))
 have qw:Hi (∀b W,Qg2 W b s 96->Calls prog 77 #[Jp b,Ji 1] W (Qbo W b s 96 1 (Ju r))):=Z (fun b W k=>by rw[<-QG5];exact QbI b s 96 1 W k (by omega) t (by decide) (by decide))
 have qd:Hi (∀b W,Qg2 W b s 97->Calls prog 77 #[Jp b,Ji 1] W (Qbo W b s 97 1 (Ju g))):=Z (fun b W k=>by rw[<-hA12];exact QbI b s 97 1 W k (by omega) t (by decide) (by decide))
 have U:Hi (∀b W,Qg2 W b s 98->Calls prog 77 #[Jp b,Ji 1] W (Qbo W b s 98 1 (Ju i))):=Z (fun b W k=>by rw[<-hA13];exact QbI b s 98 1 W k (by omega) t (by decide) (by decide))
 have qf:Hi (∀b W,Qg2 W b s 99->Calls prog 77 #[Jp b,Ji 1] W (Qbo W b s 99 1 (Ju f))):=Z (fun b W k=>by rw[<-hA14];exact QbI b s 99 1 W k (by omega) t (by decide) (by decide))
 have qe:Hi (∀b W,Qg2 W b s 100->Calls prog 77 #[Jp b,Ji 1] W (Qbo W b s 100 1 (Ju l))):=Z (fun b W k=>by rw[<-hA15];exact QbI b s 100 1 W k (by omega) t (by decide) (by decide))
 have X:Hi (∀b W,Qg2 W b s 101->Calls prog 77 #[Jp b,Ji 1] W (Qbo W b s 101 1 (Ju j))):=Z (fun b W k=>by rw[<-hA16];exact QbI b s 101 1 W k (by omega) t (by decide) (by decide))
 have qa:Hi (∀b W,Qg2 W b s 102->Calls prog 78 #[Jp b] W (Qbo W b s 102 4 (Ji Z17))):=Z (fun b W k=>by rw[<-hZ17,<-hA17];exact Qcy b s 102 W k (by omega) t)
 have T:Hi (∀b W,Qg2 W b s 106->Calls prog 78 #[Jp b] W (Qbo W b s 106 4 (Ji Z18))):=Z (fun b W k=>by rw[<-hZ18,<-hA18];exact Qcy b s 106 W k (by omega) t)
 have qb:Hi (∀b W,Qg2 W b s 110->Calls prog 78 #[Jp b] W (Qbo W b s 110 4 (Ji Z19))):=Z (fun b W k=>by rw[<-hZ19,<-hA19];exact Qcy b s 110 W k (by omega) t)
 have Y:Hi (∀b W,Qg2 W b s 114->Calls prog 78 #[Jp b] W (Qbo W b s 114 4 (Ji Z20))):=Z (fun b W k=>by rw[<-hZ20,<-hA20];exact Qcy b s 114 W k (by omega) t)
 have S:Hi (∀b W,Qg2 W b s 118->Calls prog 77 #[Jp b,Ji 1] W (Qbo W b s 118 1 (Ju m))):=Z (fun b W k=>by rw[<-hA21];exact QbI b s 118 1 W k (by omega) t (by decide) (by decide))
 have M:Hi (∀b W,Qg2 W b s 119->Calls prog 78 #[Jp b] W (Qbo W b s 119 4 (Ji Z22))):=Z (fun b W k=>by rw[<-hZ22,<-hA22];exact Qcy b s 119 W k (by omega) t)
 have qc:Hi (∀b W,Qg2 W b s 123->Calls prog 78 #[Jp b] W (Qbo W b s 123 4 (Ji Z23))):=Z (fun b W k=>by rw[<-hZ23,<-hA23];exact Qcy b s 123 W k (by omega) t)
 have qs:Hi (∀W,Calls prog 79 #[.agg #[Ju A0,Ju A1,Ju A2,Ju A3,Ju A4,Ju A5,Ju A6,Ju A7,Ju A8,Ju A9,Ju A10,.bool q,Jb g,Jb i,Jb f,Ji l,Ji j,Ji Z17,Ji Z18,Ji Z19,Ji Z20,Ji m,Ji Z22,Ji Z23]] W fun e a=>e=.returned (Ji (QkG H:Nat))/\Jw W a):=Z (fun W=>by
  have h1:Calls prog 79 #[.agg (Qby H)] W fun e a=>e=.returned (Ji (QkG H:Nat))/\Jw W a:=Qh0 H qy W
  rw[qz] at h1;exact h1)
 rw[qz] at p;generalize QkG H=C at qs J;clear qy hH qz t hA0 hA1 hA2 hA3 hA4 hA5 hA6 hA7 hA8 hA9 hA10 QG5 hA12 hA13 hA14 hA15 hA16 hA17 hA18 hA19 hA20 hA21 hA22 hA23 hq za hZ17 hZ18 hZ19 hZ20 hZ22 hZ23;go_enter func30,ntmps30;go_wp2_with fail;refine (O.o _).mono ?_;rintro e a ⟨rfl,x⟩;obtain rfl:=x.symm;clear x O;go_wp2_with fail;have D0:Hi (DSt w _ s 8 #[Ju 0,Ju 0,Ju 0,Ju 0,Ju 0,Ju 0,Ju 0,Ju 0,Ju 0,Ju 0,Ju 0,.bool false,Jb 0,Jb 0,Jb 0,Ji 0,Ji 0,Ji 0,Ji 0,Ji 0,Ji 0,Ji 0,Ji 0,Ji 0]):=Z ⟨⟨HH.o.1,HH.o.2.1⟩,HH.o.2.2.1,HH.o.2.2.2⟩;generalize ((w.alloc (.cells qZ 47)).alloc (.cells #[Jt s,Ji 8,Ji 0] 189)).alloc (.cells qZ 47)=V0 at D0 ⊢;clear HH v B;refine (zd.o _ _ D0.o.1.2).mono ?_;intro e a c;obtain⟨rfl,d⟩:=D0.o.call c 24 (by decide)
 have D1:=Z d;clear c d D0 zd;obtain⟨V1,hV⟩:∃V,a=V:=⟨_,rfl⟩;rw[hV] at D1 ⊢;clear hV a;go_wp2_with fail;refine (zg.o _ _ D1.o.1.2).mono ?_;intro e a c;obtain⟨rfl,d⟩:=D1.o.call c 40 (by decide)
 have D2:=Z d;clear c d D1 zg;obtain⟨V2,hV⟩:∃V,a=V:=⟨_,rfl⟩;rw[hV] at D2 ⊢;clear hV a;go_wp2_with fail;refine (ze.o _ _ D2.o.1.2).mono ?_;intro e a c;obtain⟨rfl,d⟩:=D2.o.call c 56 (by decide)
 have D3:=Z d;clear c d D2 ze;obtain⟨V3,hV⟩:∃V,a=V:=⟨_,rfl⟩;rw[hV] at D3 ⊢;clear hV a;go_wp2_with fail;refine (zf.o _ _ D3.o.1.2).mono ?_;intro e a c;obtain⟨rfl,d⟩:=D3.o.call c 72 (by decide)
 have N:=Z d;clear c d D3 zf;obtain⟨V4,hV⟩:∃V,a=V:=⟨_,rfl⟩;rw[hV] at N ⊢;clear hV a;obtain⟨c0,f0⟩:=N.o.cell 0 (Ju 0) rfl;obtain⟨c1,f1⟩:=N.o.cell 1 (Ju 0) rfl;obtain⟨c2,f2⟩:=N.o.cell 2 (Ju 0) rfl;obtain⟨c3,f3⟩:=N.o.cell 3 (Ju 0) rfl;obtain⟨c4,f4⟩:=N.o.cell 4 (Ju 0) rfl;obtain⟨c5,f5⟩:=N.o.cell 5 (Ju 0) rfl;obtain⟨c6,f6⟩:=N.o.cell 6 (Ju 0) rfl;obtain⟨c7,f7⟩:=N.o.cell 7 (Ju 0) rfl;go_wp2_with fail;have D5:Hi (DSt w ((((((((V4.setCell (Ja (w.heap.size+2) 0) (Ju A0)).setCell (Ja (w.heap.size+2) 1) (Ju A1)).setCell (Ja (w.heap.size+2) 2) (Ju A2)).setCell (Ja (w.heap.size+2) 3) (Ju A3)).setCell (Ja (w.heap.size+2) 4) (Ju A4)).setCell (Ja (w.heap.size+2) 5) (Ju A5)).setCell (Ja (w.heap.size+2) 6) (Ju A6)).setCell (Ja (w.heap.size+2) 7) (Ju A7)) s 72 #[Ju A0,Ju A1,Ju A2,Ju A3,Ju A4,Ju A5,Ju A6,Ju A7,Ju 0,Ju 0,Ju 0,.bool false,Jb 0,Jb 0,Jb 0,Ji 0,Ji 0,Ji 0,Ji 0,Ji 0,Ji 0,Ji 0,Ji 0,Ji 0]):=Z (((((((((N.o.set 0 (Ju A0)).set 1 (Ju A1)).set 2 (Ju A2)).set 3 (Ju A3)).set 4 (Ju A4)).set 5 (Ju A5)).set 6 (Ju A6)).set 7 (Ju A7)).to rfl);generalize ((((((((V4.setCell (Ja (w.heap.size+2) 0) (Ju A0)).setCell (Ja (w.heap.size+2) 1) (Ju A1)).setCell (Ja (w.heap.size+2) 2) (Ju A2)).setCell (Ja (w.heap.size+2) 3) (Ju A3)).setCell (Ja (w.heap.size+2) 4) (Ju A4)).setCell (Ja (w.heap.size+2) 5) (Ju A5)).setCell (Ja (w.heap.size+2) 6) (Ju A6)).setCell (Ja (w.heap.size+2) 7) (Ju A7))=V5 at D5 ⊢;clear N c0 f0 c1 f1 c2 f2 c3 f3 c4 f4 c5 f5 c6 f6 c7 f7;refine (zh.o _ _ D5.o.1.2).mono ?_;intro e a c;obtain⟨rfl,d⟩:=D5.o.call c 80 (by decide)
 have D6:=Z d;clear c d D5 zh;obtain⟨V6,hV⟩:∃V,a=V:=⟨_,rfl⟩;rw[hV] at D6 ⊢;clear hV a;go_wp2_with fail;refine (zc.o _ _ D6.o.1.2).mono ?_;intro e a c;obtain⟨rfl,d⟩:=D6.o.call c 88 (by decide)
 have D7:=Z d;clear c d D6 zc;obtain⟨V7,hV⟩:∃V,a=V:=⟨_,rfl⟩;rw[hV] at D7 ⊢;clear hV a;go_wp2_with fail;refine (qx.o _ _ D7.o.1.2).mono ?_;intro e a c;obtain⟨rfl,d⟩:=D7.o.call c 96 (by decide)
 have D8:=Z d;clear c d D7 qx;obtain⟨V8,hV⟩:∃V,a=V:=⟨_,rfl⟩;rw[hV] at D8 ⊢;clear hV a;obtain⟨c8,f8⟩:=D8.o.cell 8 (Ju 0) rfl;obtain⟨c9,f9⟩:=D8.o.cell 9 (Ju 0) rfl;obtain⟨c10,f10⟩:=D8.o.cell 10 (Ju 0) rfl;go_wp2_with fail;have D9:Hi (DSt w (((V8.setCell (Ja (w.heap.size+2) 8) (Ju A8)).setCell (Ja (w.heap.size+2) 9) (Ju A9)).setCell (Ja (w.heap.size+2) 10) (Ju A10)) s 96 #[Ju A0,Ju A1,Ju A2,Ju A3,Ju A4,Ju A5,Ju A6,Ju A7,Ju A8,Ju A9,Ju A10,.bool false,Jb 0,Jb 0,Jb 0,Ji 0,Ji 0,Ji 0,Ji 0,Ji 0,Ji 0,Ji 0,Ji 0,Ji 0]):=Z ((((D8.o.set 8 (Ju A8)).set 9 (Ju A9)).set 10 (Ju A10)).to rfl);generalize (((V8.setCell (Ja (w.heap.size+2) 8) (Ju A8)).setCell (Ja (w.heap.size+2) 9) (Ju A9)).setCell (Ja (w.heap.size+2) 10) (Ju A10))=V9 at D9 ⊢;clear D8 c8 f8 c9 f9 c10 f10;refine (qw.o _ _ D9.o.1.2).mono ?_;intro e a c;obtain⟨rfl,d⟩:=D9.o.call c 97 (by decide)
 have G:=Z d;clear c d D9 qw;obtain⟨V10,hV⟩:∃V,a=V:=⟨_,rfl⟩;rw[hV] at G ⊢;clear hV a
 by_cases g4:1<r
 case pos=>
  as_aux_lemma=>
   have n:=qq.o g4;have hR:=L.o 4 n (by decide)
   have y:=Z (qE n hR);have r1:decide ((r:Int)>1)=true:=qA (by omega)
   have r2:decide (1<r)=true:=qA g4;clear n hR L p qq J g4 qs qd U qf qe X qa T qb Y S M qc;go_wp2_with (refine wpList_store_row rfl 47 (.tmp 2) (.tmp 52) rfl w.heap.size #[Ju 0,Ju 0,Ju 0,Ju 0,Ju 0,Ju 0,Ju 0,Ju 0,Ju 0,Ju 0,Ju 0,.bool false,Jb 0,Jb 0,Jb 0,Ji 0,Ji 0,Ji 0,Ji 0,Ji 0,Ji 0,Ji 0,Ji 0,Ji 0] rfl rfl 47 #[Ju 0,Ju 0,Ju 0,Ju 0,Ju 0,Ju 0,Ju 0,Ju 0,Ju 0,Ju 0,Ju 0,.bool false,Jb 0,Jb 0,Jb 0,Ji 0,Ji 0,Ji 0,Ji 0,Ji 0,Ji 0,Ji 0,Ji 0,Ji 0] G.o.1.1 (by kernel_rfl) rfl (by simp[Value.oneCell']) ?_)
   refine Qau (A:=(Ja w.heap.size 0)) rfl (Qb6 (setRow_heap _ _ _ _ _ _ G.o.1.1) rfl) rfl rfl rfl ?_;exact⟨by rw[y.o.1,y.o.2]<;>rfl,Qba G.o.2.2 (qC _) _⟩
 have r1:decide ((r:Int)>1)=false:=qB (by omega)
 have r2:decide (1<r)=false:=qB g4;have qp:=Z (J.o g4);clear qq J g4;obtain⟨c11,f11⟩:=G.o.cell 11 (.bool false) rfl;go_wp2_with fail;have qo:Hi (DSt w (V10.setCell (Ja (w.heap.size+2) 11) (.bool q)) s 97 #[Ju A0,Ju A1,Ju A2,Ju A3,Ju A4,Ju A5,Ju A6,Ju A7,Ju A8,Ju A9,Ju A10,.bool q,Jb 0,Jb 0,Jb 0,Ji 0,Ji 0,Ji 0,Ji 0,Ji 0,Ji 0,Ji 0,Ji 0,Ji 0]):=Z ((G.o.set 11 (.bool q)).to rfl);generalize (V10.setCell (Ja (w.heap.size+2) 11) (.bool q))=V11 at qo ⊢;clear G c11 f11;refine (qd.o _ _ qo.o.1.2).mono ?_;intro e a c;obtain⟨rfl,d⟩:=qo.o.call c 98 (by decide)
 have qj:=Z d;clear c d qo qd;obtain⟨V12,hV⟩:∃V,a=V:=⟨_,rfl⟩;rw[hV] at qj ⊢;clear hV a;go_wp2_with fail;refine (U.o _ _ qj.o.1.2).mono ?_;intro e a c;obtain⟨rfl,d⟩:=qj.o.call c 99 (by decide)
 have qm:=Z d;clear c d qj U;obtain⟨V13,hV⟩:∃V,a=V:=⟨_,rfl⟩;rw[hV] at qm ⊢;clear hV a;go_wp2_with fail;refine (qf.o _ _ qm.o.1.2).mono ?_;intro e a c;obtain⟨rfl,d⟩:=qm.o.call c 100 (by decide)
 have K:=Z d;clear c d qm qf;obtain⟨V14,hV⟩:∃V,a=V:=⟨_,rfl⟩;rw[hV] at K ⊢;clear hV a;obtain⟨c12,f12⟩:=K.o.cell 12 (Jb 0) rfl;obtain⟨c13,f13⟩:=K.o.cell 13 (Jb 0) rfl;obtain⟨c14,f14⟩:=K.o.cell 14 (Jb 0) rfl;go_wp2_with fail;have qv:Hi (DSt w (((V14.setCell (Ja (w.heap.size+2) 12) (Jb g)).setCell (Ja (w.heap.size+2) 13) (Jb i)).setCell (Ja (w.heap.size+2) 14) (Jb f)) s 100 #[Ju A0,Ju A1,Ju A2,Ju A3,Ju A4,Ju A5,Ju A6,Ju A7,Ju A8,Ju A9,Ju A10,.bool q,Jb g,Jb i,Jb f,Ji 0,Ji 0,Ji 0,Ji 0,Ji 0,Ji 0,Ji 0,Ji 0,Ji 0]):=Z ((((K.o.set 12 (Jb g)).set 13 (Jb i)).set 14 (Jb f)).to rfl);generalize (((V14.setCell (Ja (w.heap.size+2) 12) (Jb g)).setCell (Ja (w.heap.size+2) 13) (Jb i)).setCell (Ja (w.heap.size+2) 14) (Jb f))=V15 at qv ⊢;clear K c12 f12 c13 f13 c14 f14;refine (qe.o _ _ qv.o.1.2).mono ?_;intro e a c;obtain⟨rfl,d⟩:=qv.o.call c 101 (by decide)
 have qt:=Z d;clear c d qv qe;obtain⟨V16,hV⟩:∃V,a=V:=⟨_,rfl⟩;rw[hV] at qt ⊢;clear hV a;go_wp2_with fail;refine (X.o _ _ qt.o.1.2).mono ?_;intro e a c;obtain⟨rfl,d⟩:=qt.o.call c 102 (by decide)
 have P:=Z d;clear c d qt X;obtain⟨V17,hV⟩:∃V,a=V:=⟨_,rfl⟩;rw[hV] at P ⊢;clear hV a;obtain⟨c15,f15⟩:=P.o.cell 15 (Ji 0) rfl;obtain⟨c16,f16⟩:=P.o.cell 16 (Ji 0) rfl;go_wp2_with fail;have qg:Hi (DSt w ((V17.setCell (Ja (w.heap.size+2) 15) (Ji l)).setCell (Ja (w.heap.size+2) 16) (Ji j)) s 102 #[Ju A0,Ju A1,Ju A2,Ju A3,Ju A4,Ju A5,Ju A6,Ju A7,Ju A8,Ju A9,Ju A10,.bool q,Jb g,Jb i,Jb f,Ji l,Ji j,Ji 0,Ji 0,Ji 0,Ji 0,Ji 0,Ji 0,Ji 0]):=Z (((P.o.set 15 (Ji l)).set 16 (Ji j)).to rfl);generalize ((V17.setCell (Ja (w.heap.size+2) 15) (Ji l)).setCell (Ja (w.heap.size+2) 16) (Ji j))=V18 at qg ⊢;clear P c15 f15 c16 f16;refine (qa.o _ _ qg.o.1.2).mono ?_;intro e a c;obtain⟨rfl,d⟩:=qg.o.call c 106 (by decide)
 have qr:=Z d;clear c d qg qa;obtain⟨V19,hV⟩:∃V,a=V:=⟨_,rfl⟩;rw[hV] at qr ⊢;clear hV a;go_wp2_with fail;refine (T.o _ _ qr.o.1.2).mono ?_;intro e a c;obtain⟨rfl,d⟩:=qr.o.call c 110 (by decide)
 have ql:=Z d;clear c d qr T;obtain⟨V20,hV⟩:∃V,a=V:=⟨_,rfl⟩;rw[hV] at ql ⊢;clear hV a;go_wp2_with fail;refine (qb.o _ _ ql.o.1.2).mono ?_;intro e a c;obtain⟨rfl,d⟩:=ql.o.call c 114 (by decide)
 have qh:=Z d;clear c d ql qb;obtain⟨V21,hV⟩:∃V,a=V:=⟨_,rfl⟩;rw[hV] at qh ⊢;clear hV a;go_wp2_with fail;refine (Y.o _ _ qh.o.1.2).mono ?_;intro e a c;obtain⟨rfl,d⟩:=qh.o.call c 118 (by decide)
 have D:=Z d;clear c d qh Y;obtain⟨V22,hV⟩:∃V,a=V:=⟨_,rfl⟩;rw[hV] at D ⊢;clear hV a;obtain⟨c17,f17⟩:=D.o.cell 17 (Ji 0) rfl;obtain⟨c18,f18⟩:=D.o.cell 18 (Ji 0) rfl;obtain⟨c19,f19⟩:=D.o.cell 19 (Ji 0) rfl;obtain⟨c20,f20⟩:=D.o.cell 20 (Ji 0) rfl;go_wp2_with fail;have qk:Hi (DSt w ((((V22.setCell (Ja (w.heap.size+2) 17) (Ji Z17)).setCell (Ja (w.heap.size+2) 18) (Ji Z18)).setCell (Ja (w.heap.size+2) 19) (Ji Z19)).setCell (Ja (w.heap.size+2) 20) (Ji Z20)) s 118 #[Ju A0,Ju A1,Ju A2,Ju A3,Ju A4,Ju A5,Ju A6,Ju A7,Ju A8,Ju A9,Ju A10,.bool q,Jb g,Jb i,Jb f,Ji l,Ji j,Ji Z17,Ji Z18,Ji Z19,Ji Z20,Ji 0,Ji 0,Ji 0]):=Z (((((D.o.set 17 (Ji Z17)).set 18 (Ji Z18)).set 19 (Ji Z19)).set 20 (Ji Z20)).to rfl);generalize ((((V22.setCell (Ja (w.heap.size+2) 17) (Ji Z17)).setCell (Ja (w.heap.size+2) 18) (Ji Z18)).setCell (Ja (w.heap.size+2) 19) (Ji Z19)).setCell (Ja (w.heap.size+2) 20) (Ji Z20))=V23 at qk ⊢;clear D c17 f17 c18 f18 c19 f19 c20 f20;refine (S.o _ _ qk.o.1.2).mono ?_;intro e a c;obtain⟨rfl,d⟩:=qk.o.call c 119 (by decide)
 have qu:=Z d;clear c d qk S;obtain⟨V24,hV⟩:∃V,a=V:=⟨_,rfl⟩;rw[hV] at qu ⊢;clear hV a;go_wp2_with fail;refine (M.o _ _ qu.o.1.2).mono ?_;intro e a c;obtain⟨rfl,d⟩:=qu.o.call c 123 (by decide)
 have qn:=Z d;clear c d qu M;obtain⟨V25,hV⟩:∃V,a=V:=⟨_,rfl⟩;rw[hV] at qn ⊢;clear hV a;go_wp2_with fail;refine (qc.o _ _ qn.o.1.2).mono ?_;intro e a c;obtain⟨rfl,d⟩:=qn.o.call c 127 (by decide)
 have I:=Z d;clear c d qn qc;obtain⟨V26,hV⟩:∃V,a=V:=⟨_,rfl⟩;rw[hV] at I ⊢;clear hV a;obtain⟨c21,f21⟩:=I.o.cell 21 (Ji 0) rfl;obtain⟨c22,f22⟩:=I.o.cell 22 (Ji 0) rfl;obtain⟨c23,f23⟩:=I.o.cell 23 (Ji 0) rfl;have e1:Hi (DSt w (((V26.setCell (Ja (w.heap.size+2) 21) (Ji m)).setCell (Ja (w.heap.size+2) 22) (Ji Z22)).setCell (Ja (w.heap.size+2) 23) (Ji Z23)) s 127 #[Ju A0,Ju A1,Ju A2,Ju A3,Ju A4,Ju A5,Ju A6,Ju A7,Ju A8,Ju A9,Ju A10,.bool q,Jb g,Jb i,Jb f,Ji l,Ji j,Ji Z17,Ji Z18,Ji Z19,Ji Z20,Ji m,Ji Z22,Ji Z23]):=Z ((((I.o.set 21 (Ji m)).set 22 (Ji Z22)).set 23 (Ji Z23)).to rfl);go_wp2_with (refine wpList_load_row rfl 47 (.tmp 5) rfl (w.heap.size+2) rfl 47 #[Ju A0,Ju A1,Ju A2,Ju A3,Ju A4,Ju A5,Ju A6,Ju A7,Ju A8,Ju A9,Ju A10,.bool q,Jb g,Jb i,Jb f,Ji l,Ji j,Ji Z17,Ji Z18,Ji Z19,Ji Z20,Ji m,Ji Z22,Ji Z23] (0,0) _ e1.out.2.1 underlying47 rfl (by kernel_rfl) ?_)
 generalize (((V26.setCell (Ja (w.heap.size+2) 21) (Ji m)).setCell (Ja (w.heap.size+2) 22) (Ji Z22)).setCell (Ja (w.heap.size+2) 23) (Ji Z23))=V27 at e1 ⊢;clear I c21 f21 c22 f22 c23 f23;refine (qs.o _).mono ?_;rintro e w5 ⟨rfl,hb⟩;have b0:=(gsi e1.out.1.1).1;have X0:=Z ((hb.block _ b0).trans e1.out.1.1);have X1:=Z ((hb.block _ (gsi e1.out.2.1).1).trans e1.out.2.1);have X2:=Z (Qaa e1.out.2.2 hb);clear hb b0 e1 qs
 by_cases g5:C=0
 ·have n:=qp.o
  rw[g5] at n;have y:=Z (qE n (p.o n));subst g5;clear L p qp n;go_wp2_with (first|(refine wpList_load_row rfl 47 (.tmp 5) rfl (w.heap.size+2) rfl 47 #[Ju A0,Ju A1,Ju A2,Ju A3,Ju A4,Ju A5,Ju A6,Ju A7,Ju A8,Ju A9,Ju A10,.bool q,Jb g,Jb i,Jb f,Ji l,Ji j,Ji Z17,Ji Z18,Ji Z19,Ji Z20,Ji m,Ji Z22,Ji Z23] (0,0) _ X1.o underlying47 rfl (by kernel_rfl) ?_)|(refine wpList_store_row rfl 47 (.tmp 2) (.tmp 104) rfl w.heap.size #[Ju A0,Ju A1,Ju A2,Ju A3,Ju A4,Ju A5,Ju A6,Ju A7,Ju A8,Ju A9,Ju A10,.bool q,Jb g,Jb i,Jb f,Ji l,Ji j,Ji Z17,Ji Z18,Ji Z19,Ji Z20,Ji m,Ji Z22,Ji Z23] rfl rfl 47 #[Ju 0,Ju 0,Ju 0,Ju 0,Ju 0,Ju 0,Ju 0,Ju 0,Ju 0,Ju 0,Ju 0,.bool false,Jb 0,Jb 0,Jb 0,Ji 0,Ji 0,Ji 0,Ji 0,Ji 0,Ji 0,Ji 0,Ji 0,Ji 0] X0.o (by kernel_rfl) rfl (by simp[Value.oneCell']) ?_))
  refine Qau (A:=(Ja w.heap.size 0)) rfl (Qb6 (setRow_heap _ _ _ _ _ _ X0.o) rfl) rfl rfl rfl ?_;exact⟨by rw[y.o.1,y.o.2]<;>rfl,Qba X2.o (qC _) _⟩
 ·have n:=qp.o
  have y:=Z (qE n (L.o C n g5));have z1:((C:Int)==0)=false:=by rw[qI];omega
  have z2:(C==0)=false:=by rw[qI];omega
  have z3:((C:Int) != 0)=true:=by rw[bne_iff_ne];omega
  have z4:(C != 0)=true:=by rw[bne_iff_ne];omega
  clear L p qp n;go_wp2_with (refine wpList_store_row rfl 47 (.tmp 2) (.tmp 102) rfl w.heap.size #[Ju 0,Ju 0,Ju 0,Ju 0,Ju 0,Ju 0,Ju 0,Ju 0,Ju 0,Ju 0,Ju 0,.bool false,Jb 0,Jb 0,Jb 0,Ji 0,Ji 0,Ji 0,Ji 0,Ji 0,Ji 0,Ji 0,Ji 0,Ji 0] rfl rfl 47 #[Ju 0,Ju 0,Ju 0,Ju 0,Ju 0,Ju 0,Ju 0,Ju 0,Ju 0,Ju 0,Ju 0,.bool false,Jb 0,Jb 0,Jb 0,Ji 0,Ji 0,Ji 0,Ji 0,Ji 0,Ji 0,Ji 0,Ji 0,Ji 0] X0.o (by kernel_rfl) rfl (by simp[Value.oneCell']) ?_)
  refine Qau (A:=(Ja w.heap.size 0)) rfl (Qb6 (setRow_heap _ _ _ _ _ _ X0.o) rfl) rfl rfl rfl ?_;exact⟨by rw[y.o.1,y.o.2]<;>rfl,Qba X2.o (qC _) _⟩
theorem QEO(h:Hdr)(n:Nat)(a:h.inn≠1\/h.out≠1):Qqe h n=14:=by unfold Qqe;rw[JK a]
theorem QEN(h:Hdr)(n:Nat)(a:h.inn=1)(b:h.out=1)(c:n<h.rf+h.rl\/n<h.mf+h.ml\/n<h.lf+h.ll\/n<h.df+h.dl):Qqe h n=8:=by
 unfold Qqe;rw[JJ (by rintro (e|e)<;>exact e (by assumption)),JK c]
theorem QEM(h:Hdr)(n:Nat)(a:h.inn=1)(b:h.out=1)(c:¬(n<h.rf+h.rl\/n<h.mf+h.ml\/n<h.lf+h.ll\/n<h.df+h.dl)):Qqe h n=if 16384<h.rf+h.rl then 8 else 0:=by
 unfold Qqe;rw[JJ (by rintro (e|e)<;>exact e (by assumption)),JJ c]
theorem Qpm(h:Hdr)(ok:Qd5 h=true)(n:Nat)(hn:n<9223372036854775808)(w:World):Calls prog 131 #[.agg #[Ju h.rf,Ju h.rl,Ju h.mf,Ju h.ml,Ju h.lf,Ju h.ll,Ju h.df,Ju h.dl,Ju h.ad,Ju h.en,Ju h.co,.bool h.cl,Jb h.inn,Jb h.out,Jb h.kd,Ji h.z0,Ji h.z1,Ji h.x0,Ji h.y0,Ji h.x1,Ji h.y1,Ji h.zo,Ji h.lo,Ji h.la],Ji n] w (JB (Ji (Qqe h n:Nat)) w):=by
 have l:=Z (QgZ w h 47);have d:=Z (QmF w h 47);have S:=QlU h ok;unfold Qds at S;obtain⟨⟨p0,q0,r0⟩,⟨p1,q1,r1⟩,⟨p2,q2,r2⟩,p3,q3,r3⟩:=S;have A:=Z (QEO h n);have f:=Z (QEN h n);have j:=Z (QEM h n);generalize Qqe h n=V at A f j ⊢;have hw:IntKind.u64.wrap (n:Int)=(n:Int):=by rw[JU];omega
 have m:=Z (fun W=>Qcs h.rf h.rl W (by omega) (by omega))
 have C:=Z (fun W=>Qcs h.mf h.ml W (by omega) (by omega))
 have E:=Z (fun W=>Qcs h.lf h.ll W (by omega) (by omega))
 have D:=Z (fun W=>Qcs h.df h.dl W (by omega) (by omega))
 clear p0 q0 r0 p1 q1 r1 p2 q2 r2 p3 q3 r3;generalize h.rf+h.rl=B at m f j;generalize h.mf+h.ml=J at C f j;generalize h.lf+h.ll=L at E f j;generalize h.df+h.dl=K at D f j;go_enter func131,ntmps131
 iterate 8 go_step
 generalize w.alloc (.cells #[Ju h.rf,Ju h.rl,Ju h.mf,Ju h.ml,Ju h.lf,Ju h.ll,Ju h.df,Ju h.dl,Ju h.ad,Ju h.en,Ju h.co,.bool h.cl,Jb h.inn,Jb h.out,Jb h.kd,Ji h.z0,Ji h.z1,Ji h.x0,Ji h.y0,Ji h.x1,Ji h.y1,Ji h.zo,Ji h.lo,Ji h.la] 47)=W0 at l d ⊢;generalize w.heap.size=b0 at d ⊢;have c0:Jx W0 b0 0 (Ju h.rf):=QaI d.o 0 _ rfl;have c1:Jx W0 b0 1 (Ju h.rl):=QaI d.o 1 _ rfl;have c2:Jx W0 b0 2 (Ju h.mf):=QaI d.o 2 _ rfl;have c3:Jx W0 b0 3 (Ju h.ml):=QaI d.o 3 _ rfl;have c4:Jx W0 b0 4 (Ju h.lf):=QaI d.o 4 _ rfl;have c5:Jx W0 b0 5 (Ju h.ll):=QaI d.o 5 _ rfl;have c6:Jx W0 b0 6 (Ju h.df):=QaI d.o 6 _ rfl;have c7:Jx W0 b0 7 (Ju h.dl):=QaI d.o 7 _ rfl;have T:Jx W0 b0 12 (Jb h.inn):=QaI d.o 12 _ rfl;have X:Jx W0 b0 13 (Jb h.out):=QaI d.o 13 _ rfl
 by_cases N:h.inn=1
 case neg=>
  as_aux_lemma=>
   have p:Hi (V=14):=Z (A.o (.inl N));have y:((h.inn:Int) != 1)=true:=by rw[bne_iff_ne];omega
   have z:(h.inn != 1)=true:=by rw[bne_iff_ne];omega
   have s:((h.inn:Int)==1)=false:=by rw[qI];omega
   have q:(h.inn==1)=false:=by rw[qI];omega
   clear N A f j m C E D;go_wp2;go_ret;exact⟨by rw[p.o]<;>rfl,l.o⟩
 have y:((h.inn:Int) != 1)=false:=by rw[bne_eq_false_iff_eq];omega
 have z:(h.inn != 1)=false:=by rw[bne_eq_false_iff_eq];omega
 have s:((h.inn:Int)==1)=true:=by rw[beq_iff_eq];omega
 have q:(h.inn==1)=true:=by rw[beq_iff_eq];omega
 by_cases R:h.out=1
 case neg=>
  as_aux_lemma=>
   have p:Hi (V=14):=Z (A.o (.inr R));have v:((h.out:Int) != 1)=true:=by rw[bne_iff_ne];omega
   have x:(h.out != 1)=true:=by rw[bne_iff_ne];omega
   have t:((h.out:Int)==1)=false:=by rw[qI];omega
   have r:(h.out==1)=false:=by rw[qI];omega
   clear N R A f j m C E D;go_wp2;go_ret;exact⟨by rw[p.o]<;>rfl,l.o⟩
 have v:((h.out:Int) != 1)=false:=by rw[bne_eq_false_iff_eq];omega
 have x:(h.out != 1)=false:=by rw[bne_eq_false_iff_eq];omega
 have t:((h.out:Int)==1)=true:=by rw[beq_iff_eq];omega
 have r:(h.out==1)=true:=by rw[beq_iff_eq];omega
 have f:=Z (f.o N R);have j:=Z (j.o N R);clear A N R;have i0:=Qrx h;have i1:=Qrw h;have Y:=Qrv h;have i3:=Qru h;go_wp2_with fail;clear c0 c1 c2 c3 c4 c5 c6 c7 T X y z s q v x t r;go_loopw [24] (fun i wr=>∃k:Nat,k<=4/\i = Ji k/\Hi (1<=k->¬n<B)/\Hi (2<=k->¬n<J)/\Hi (3<=k->¬n<L)/\Hi (4<=k->¬n<K)/\Hi (Jw W0 wr)) (fun i _=>4-(intOf i).toNat)
 case atStart=>exact⟨0,by omega,rfl,Z (fun h=>JN h (by decide)),Z (fun h=>JN h (by decide)),Z (fun h=>JN h (by decide)),Z (fun h=>JN h (by decide)),Z (qF _ _)⟩
 case round=>
  as_aux_lemma=>
   obtain⟨k,hk,rfl,S0,S1,S2,S3,HBr⟩:=hrel;have U:k=0\/k=1\/k=2\/k=3\/k=4:=by omega
   rcases U with rfl|rfl|rfl|rfl|rfl
   ·by_cases g:n<B
    ·as_aux_lemma=>
      have p:Hi (V=8):=Z (f.o (.inl g));have H:decide ((B:Int)>(n:Int))=true:=qA (by omega)
      have G:decide ((n:Int)<(B:Int))=true:=qA (by omega)
      have M:decide (n<B)=true:=qA g;have c:=Z (Qaa HBr.o (Qao wr (Ju h.rf) (Ju h.rl) 45));obtain⟨s0,s1⟩:=QaK wr (Ju h.rf) (Ju h.rl) 45;clear g;go_wp2_with fail;refine (m.o _).mono ?_;rintro e I ⟨rfl,a⟩;have b:=Z (Qaa c.o a);clear a;go_wp2;go_ret;exact⟨by rw[p.o]<;>rfl,Qaa l.o b.o⟩
    ·as_aux_lemma=>
      have HA:=Z g;have H:decide ((B:Int)>(n:Int))=false:=qB (by omega)
      have G:decide ((n:Int)<(B:Int))=false:=qB (by omega)
      have M:decide (n<B)=false:=qB g;have c:=Z (Qaa HBr.o (Qao wr (Ju h.rf) (Ju h.rl) 45));obtain⟨s0,s1⟩:=QaK wr (Ju h.rf) (Ju h.rl) 45;clear g;go_wp2_with fail;refine (m.o _).mono ?_;rintro e I ⟨rfl,a⟩;have b:=Z (Qaa c.o a);clear a;go_wp2_with fail;go_roundw
      case rel=>exact⟨1,by omega,by go_num,Z (fun _=>HA.o),Z (fun h=>JN h (by decide)),Z (fun h=>JN h (by decide)),Z (fun h=>JN h (by decide)),b⟩
      case measure=>simp[intOf]
   ·by_cases g:n<J
    ·as_aux_lemma=>
      have p:Hi (V=8):=Z (f.o (.inr (.inl g)));have H:decide ((J:Int)>(n:Int))=true:=qA (by omega)
      have G:decide ((n:Int)<(J:Int))=true:=qA (by omega)
      have M:decide (n<J)=true:=qA g;have c:=Z (Qaa HBr.o (Qao wr (Ju h.mf) (Ju h.ml) 45));obtain⟨s0,s1⟩:=QaK wr (Ju h.mf) (Ju h.ml) 45;clear g;go_wp2_with fail;refine (C.o _).mono ?_;rintro e I ⟨rfl,a⟩;have b:=Z (Qaa c.o a);clear a;go_wp2;go_ret;exact⟨by rw[p.o]<;>rfl,Qaa l.o b.o⟩
    ·as_aux_lemma=>
      have HA:=Z g;have H:decide ((J:Int)>(n:Int))=false:=qB (by omega)
      have G:decide ((n:Int)<(J:Int))=false:=qB (by omega)
      have M:decide (n<J)=false:=qB g;have c:=Z (Qaa HBr.o (Qao wr (Ju h.mf) (Ju h.ml) 45));obtain⟨s0,s1⟩:=QaK wr (Ju h.mf) (Ju h.ml) 45;clear g;go_wp2_with fail;refine (C.o _).mono ?_;rintro e I ⟨rfl,a⟩;have b:=Z (Qaa c.o a);clear a;go_wp2_with fail;go_roundw
      case rel=>exact⟨2,by omega,by go_num,Z (fun _=>S0.o (by decide)),Z (fun _=>HA.o),Z (fun h=>JN h (by decide)),Z (fun h=>JN h (by decide)),b⟩
      case measure=>simp[intOf]
   ·by_cases g:n<L
    ·as_aux_lemma=>
      have p:Hi (V=8):=Z (f.o (.inr (.inr (.inl g))));have H:decide ((L:Int)>(n:Int))=true:=qA (by omega)
      have G:decide ((n:Int)<(L:Int))=true:=qA (by omega)
      have M:decide (n<L)=true:=qA g;have c:=Z (Qaa HBr.o (Qao wr (Ju h.lf) (Ju h.ll) 45));obtain⟨s0,s1⟩:=QaK wr (Ju h.lf) (Ju h.ll) 45;clear g;go_wp2_with fail;refine (E.o _).mono ?_;rintro e I ⟨rfl,a⟩;have b:=Z (Qaa c.o a);clear a;go_wp2;go_ret;exact⟨by rw[p.o]<;>rfl,Qaa l.o b.o⟩
    ·as_aux_lemma=>
      have HA:=Z g;have H:decide ((L:Int)>(n:Int))=false:=qB (by omega)
      have G:decide ((n:Int)<(L:Int))=false:=qB (by omega)
      have M:decide (n<L)=false:=qB g;have c:=Z (Qaa HBr.o (Qao wr (Ju h.lf) (Ju h.ll) 45));obtain⟨s0,s1⟩:=QaK wr (Ju h.lf) (Ju h.ll) 45;clear g;go_wp2_with fail;refine (E.o _).mono ?_;rintro e I ⟨rfl,a⟩;have b:=Z (Qaa c.o a);clear a;go_wp2_with fail;go_roundw
      case rel=>exact⟨3,by omega,by go_num,Z (fun _=>S0.o (by decide)),Z (fun _=>S1.o (by decide)),Z (fun _=>HA.o),Z (fun h=>JN h (by decide)),b⟩
      case measure=>simp[intOf]
   ·by_cases g:n<K
    ·as_aux_lemma=>
      have p:Hi (V=8):=Z (f.o (.inr (.inr (.inr g))));have H:decide ((K:Int)>(n:Int))=true:=qA (by omega)
      have G:decide ((n:Int)<(K:Int))=true:=qA (by omega)
      have M:decide (n<K)=true:=qA g;have c:=Z (Qaa HBr.o (Qao wr (Ju h.df) (Ju h.dl) 45));obtain⟨s0,s1⟩:=QaK wr (Ju h.df) (Ju h.dl) 45;clear g;go_wp2_with fail;refine (D.o _).mono ?_;rintro e I ⟨rfl,a⟩;have b:=Z (Qaa c.o a);clear a;go_wp2;go_ret;exact⟨by rw[p.o]<;>rfl,Qaa l.o b.o⟩
    ·as_aux_lemma=>
      have HA:=Z g;have H:decide ((K:Int)>(n:Int))=false:=qB (by omega)
      have G:decide ((n:Int)<(K:Int))=false:=qB (by omega)
      have M:decide (n<K)=false:=qB g;have c:=Z (Qaa HBr.o (Qao wr (Ju h.df) (Ju h.dl) 45));obtain⟨s0,s1⟩:=QaK wr (Ju h.df) (Ju h.dl) 45;clear g;go_wp2_with fail;refine (D.o _).mono ?_;rintro e I ⟨rfl,a⟩;have b:=Z (Qaa c.o a);clear a;go_wp2_with fail;go_roundw
      case rel=>exact⟨4,by omega,by go_num,Z (fun _=>S0.o (by decide)),Z (fun _=>S1.o (by decide)),Z (fun _=>S2.o (by decide)),Z (fun _=>HA.o),b⟩
      case measure=>simp[intOf]
   ·as_aux_lemma=>
     have O:=j.o (by rintro (e|e|e|e);exact S0.o (by decide) e;exact S1.o (by decide) e;exact S2.o (by decide) e;exact S3.o (by decide) e)
     have P:=Z (Qad d.o HBr.o);have c0:Jx wr b0 0 (Ju h.rf):=QaI P.o 0 _ rfl;have c1:Jx wr b0 1 (Ju h.rl):=QaI P.o 1 _ rfl
     by_cases g:16384<B
     ·as_aux_lemma=>
       rw[JK g] at O;have p:=Z O;have H:decide ((B:Int)>16384)=true:=qA (by omega)
       have G:decide (16384<B)=true:=qA g;clear g O i0 i1 Y i3;go_wp2_with fail;refine (m.o _).mono ?_;rintro e I ⟨rfl,a⟩;have b:=Z (Qaa HBr.o a);clear a;go_wp2;go_ret;exact⟨by rw[p.o]<;>rfl,Qaa l.o b.o⟩
     ·as_aux_lemma=>
       rw[JJ g] at O;have p:=Z O;have H:decide ((B:Int)>16384)=false:=qB (by omega)
       have G:decide (16384<B)=false:=qB g;clear g O i0 i1 Y i3;go_wp2_with fail;refine (m.o _).mono ?_;rintro e I ⟨rfl,a⟩;have b:=Z (Qaa HBr.o a);clear a;go_wp2;go_ret;exact⟨by rw[p.o]<;>rfl,Qaa l.o b.o⟩
theorem Qme(w:World)(a d g f b i c:Value)(t:JT):(w.alloc (.cells #[a,d,g,f,b,i,c] t)).cell? (Ja w.heap.size 0)=some a/\(w.alloc (.cells #[a,d,g,f,b,i,c] t)).cell? (Ja w.heap.size 1)=some d/\(w.alloc (.cells #[a,d,g,f,b,i,c] t)).cell? (Ja w.heap.size 2)=some g/\(w.alloc (.cells #[a,d,g,f,b,i,c] t)).cell? (Ja w.heap.size 3)=some f/\(w.alloc (.cells #[a,d,g,f,b,i,c] t)).cell? (Ja w.heap.size 4)=some b/\(w.alloc (.cells #[a,d,g,f,b,i,c] t)).cell? (Ja w.heap.size 5)=some i/\(w.alloc (.cells #[a,d,g,f,b,i,c] t)).cell? (Ja w.heap.size 6)=some c:=by
 have h:=JI w (.cells #[a,d,g,f,b,i,c] t);refine⟨?_,?_,?_,?_,?_,?_,?_⟩<;>(unfold World.cell?;rw[h];rfl)
theorem QhD(w:World)(c:JW)(t:JT):Jw w (w.alloc (.cells c t)):=(qF _ _).alloc (qC _) _
theorem QBK(l a:Nat)(x:Ent)(h:l<x.2.1+x.2.2.1):Qdz l a x=8:=by unfold Qdz;rw[JK h]
theorem QBJ(l a:Nat)(x:Ent)(h:¬l<x.2.1+x.2.2.1)(b:a<x.2.2.1):Qdz l a x=5:=by unfold Qdz;rw[JJ h,JK b]
theorem QBI(l a:Nat)(x:Ent)(h:¬l<x.2.1+x.2.2.1)(b:¬a<x.2.2.1):Qdz l a x=0:=by unfold Qdz;rw[JJ h,JJ b]
theorem QkZ(id off len run f l a:Nat)(q:off+len<18446744073709551616)(w:World):Calls prog 38 #[.agg #[Ju id,Ju off,Jd len,Jd run,Ju f,Ju l,Jd a]] w (JB (Ji (Qdz l a (id,off,len,run):Nat)) w):=by
 obtain⟨c0,c1,c2,c3,c4,c5,c6⟩:=Qme w (Ju id) (Ju off) (Jd len) (Jd run) (Ju f) (Ju l) (Jd a) 113;have h:=Z (QhD w #[Ju id,Ju off,Jd len,Jd run,Ju f,Ju l,Jd a] 113);have p:IntKind.u64.wrap (len:Int)=(len:Int):=by rw[JU];omega
 have i:IntKind.u64.wrap ((off:Int)+(len:Int))=((off+len:Nat):Int):=by rw[JU];omega
 have b:=Z (qE (QBK l a (id,off,len,run)) (qE (QBJ l a (id,off,len,run)) (QBI l a (id,off,len,run))));generalize Qdz l a (id,off,len,run)=V at b ⊢;replace b:Hi ((l<off+len->V=8)/\(¬l<off+len->a<len->V=5)/\(¬l<off+len->¬a<len->V=0)):=b;generalize off+len=m at b i
 by_cases c:l<m
 ·have g:=Z (b.o.1 c)
  have n:decide ((m:Int)>(l:Int))=true:=qA (by omega)
  have j:decide ((l:Int)<(m:Int))=true:=qA (by omega)
  have k:decide (l<m)=true:=qA c;clear c b;go_enter func38,ntmps38;go_wp2;go_ret;exact⟨by rw[g.o]<;>rfl,h.o⟩
 have n:decide ((m:Int)>(l:Int))=false:=qB (by omega)
 have j:decide ((l:Int)<(m:Int))=false:=qB (by omega)
 have k:decide (l<m)=false:=qB c
 by_cases d:a<len
 ·have g:=Z (b.o.2.1 c d)
  have u1:decide ((len:Int)>(a:Int))=true:=qA (by omega)
  have u2:decide ((a:Int)<(len:Int))=true:=qA (by omega)
  have u3:decide (a<len)=true:=qA d;clear c d b;go_enter func38,ntmps38;go_wp2;go_ret;exact⟨by rw[g.o]<;>rfl,h.o⟩
 ·have g:=Z (b.o.2.2 c d)
  have u1:decide ((len:Int)>(a:Int))=false:=qB (by omega)
  have u2:decide ((a:Int)<(len:Int))=false:=qB (by omega)
  have u3:decide (a<len)=false:=qB d;clear c d b;go_enter func38,ntmps38;go_wp2;go_ret;exact⟨by rw[g.o]<;>rfl,h.o⟩
theorem Qrk(w:World)(b:Nat)(t:JT)(a c:Value)(h:w.heap[b]?=some (.cells #[a,c] t (0,0))):(loadVar 58 (Ja b 0)).run prog w=.ok (.agg #[a,c]) w:=
 run_loadVar_row w b t 58 #[a,c] (0,0) _ h underlying58 rfl (by kernel_rfl)
theorem Qq4(id off len run f l a:Nat)(i:f+off<18446744073709551616)(h:len<18446744073709551616)(w:World):Calls prog 40 #[.agg #[Ju id,Ju off,Jd len,Jd run,Ju f,Ju l,Jd a]] w (JB (.agg #[Ju ((f+off:Nat):Int),Ju len]) w):=by
 obtain⟨c0,c1,c2,c3,c4,c5,c6⟩:=Qme w (Ju id) (Ju off) (Jd len) (Jd run) (Ju f) (Ju l) (Jd a) 113;have c:=Z (QhD w #[Ju id,Ju off,Jd len,Jd run,Ju f,Ju l,Jd a] 113);have g:IntKind.u64.wrap (len:Int)=(len:Int):=by rw[JU];omega
 have b:IntKind.u64.wrap ((f:Int)+(off:Int))=((f+off:Nat):Int):=by rw[JU];omega
 generalize f+off=m at b ⊢;go_enter func40,ntmps40;go_wp2_with fail;have d:=JI (w.alloc (.cells #[Ju id,Ju off,Jd len,Jd run,Ju f,Ju l,Jd a] 113)) (.cells #[Ju m,Ju len] 58);rw[qJ] at d;refine QeV (A:=(Ja (w.heap.size+1) 0)) rfl (Qrk _ _ _ _ _ d) rfl rfl ?_;exact⟨rfl,c.o.alloc c.o.size _⟩
def QhZ(k:Key):Value:=Qcl .u64 .u64 k
def QcR(n:Qdl):Value:=.agg #[Ji n.1,Ju n.2.1.1,Ju n.2.1.2,Ju n.2.2.1,Ju n.2.2.2]
def LruB(w:World)(b most mb:Nat)(old new:Key):Prop:=w.heap[b]?=some (.cells #[Ji most,.map (some mb),Ju old.1,Ju old.2,Ju new.1,Ju new.2] 266 (0,0))
def LruAt(w:World)(b most mb:Nat)(ks:List (Key×Int)):Prop:=∃g old new,LruB w b most mb old new/\MapF QhZ QcR w mb g ks.length/\LinkOk ks g old new
theorem LruAt.keep{w w':World}{b a c:Nat}{ks:List (Key×Int)}(h:LruAt w b a c ks)(f:w'.heap[b]?=w.heap[b]?)(d:w'.heap[c]?=w.heap[c]?):LruAt w' b a c ks:=by
 obtain⟨g,old,new,hb,hm,hl⟩:=h;exact⟨g,old,new,f.trans hb,hm.keep d,hl⟩
theorem Qay{w:World}{b:Nat}{a d g f c h:Value}{t:JT}(k:w.heap[b]?=some (.cells #[a,d,g,f,c,h] t (0,0))) :
  (w.cell? (Ja b 0)=some a/\w.cell? (Ja b 1)=some d/\w.cell? (Ja b 2)=some g/\w.cell? (Ja b 3)=some f/\w.cell? (Ja b 4)=some c/\w.cell? (Ja b 5)=some h)/\w.frozen? (Ja b 0)=false/\w.frozen? (Ja b 1)=false/\w.frozen? (Ja b 2)=false/\w.frozen? (Ja b 3)=false/\w.frozen? (Ja b 4)=false/\w.frozen? (Ja b 5)=false:=by
 refine⟨⟨?_,?_,?_,?_,?_,?_⟩,?_,?_,?_,?_,?_,?_⟩
 all_goals first
  |(unfold World.cell?;rw[k];rfl)
  |(unfold World.frozen?;rw[k];rfl)
theorem Qri{w:World}{b a d:Nat}{c new:Key}(h:LruB w b a d c new):Calls prog 180 #[Jp b] w (JS (Ji a) w):=by
 obtain⟨⟨c0,-⟩,-⟩:=Qay h;clear h;go_enter func180,ntmps180;go_wp2;go_ret;exact⟨rfl,rfl⟩
theorem Qv9{w:World}{b a f n:Nat}{c new:Key}{g:Key->Option Qdl}(h:LruB w b a f c new)(d:MapF QhZ QcR w f g n):Calls prog 140 #[Jp b] w (JS (Ji n) w):=by
 obtain⟨⟨-,c1,-⟩,-⟩:=Qay h;have i:=d.len (P:=prog) 3 264 underlying264;clear h d;go_enter func140,ntmps140;go_wp2;go_ret;exact⟨rfl,rfl⟩
theorem QB6(a:Nat)(f:a<=64)(w:World):Calls prog 101 #[Ji a] w fun e w'=>e=.returned (.tuple #[Jp (w.heap.size+1),Ji 0])/\Jw w w'/\LruAt w' (w.heap.size+1) a w.heap.size []:=by
 have i:decide ((a:Int)<0)=false:=qB (by omega)
 have g:decide ((a:Int)>64)=false:=qB (by omega)
 have h:decide (64<a)=false:=qB (by omega)
 have c:=Z ((((qF w.heap.size w).alloc (qC _) (.map #[] 0)).alloc (by simp) (.cells #[Ji a,.map (some w.heap.size),Ju 0,Ju 0,Ju 0,Ju 0] 266)))
 have d:∀(t:JT) (W:World),(Instr.makeMap t none).run prog W=.ok (.map (some W.heap.size)) (W.alloc (.map #[] 0)):=fun _ _=>rfl
 go_enter func101,ntmps101;go_wp2;go_ret2;have b:=JI (w.alloc (.map #[] 0)) (.cells #[Ji a,.map (some w.heap.size),Ju 0,Ju 0,Ju 0,Ju 0] 266);rw[qJ] at b;exact⟨rfl,c.o,_,(0,0),(0,0),b,(Qre QhZ QcR w).keep (J5 _ _ (by simp)),Qy0 _ _⟩
theorem QjF(d:Nat)(x y u v:Int)(w:World):(Op.equalIn (d+2) 58 (.agg #[Ju x,Ju y]) (.agg #[Ju u,Ju v])).run prog w=.ok (decide (x=u)&&decide (y=v)) w:=by
 have u4:=underlying43;have f:prog.underlying 58=some (.struct (prog.fieldsOf 58)):=by kernel_rfl
 have c:prog.stoodInHeld 58=false:=by kernel_rfl
 rw[run_equalIn_agg w (d+1) 58 _ _ f c];simp only[Program.fieldsOf,underlying58];go_simp
 by_cases a:x=u
 ·by_cases b:y=v
  ·simp[a,b]
  ·simp[a,b]
 ·simp[a]
theorem QnZ(d:Nat)(w:World)(a:Bool)(x y:Int):(Instr.checkKey a (d+2) 58 (.agg #[Ju x,Ju y])).run prog w=.ok () w:=by
 cases a<;>kernel_rfl
theorem Qwk(w:World)(a:Bool)(x y:Int):(Instr.checkKey a 10000 58 (.agg #[Ju x,Ju y])).run prog w=.ok () w:=by
 rw[show (10000:Nat)=9998+2 from rfl];exact QnZ 9998 w a x y
theorem Qmx:KeyT prog 58 QhZ:=
 Qnz .u64 .u64 underlying58 Qwk (fun w a c=>by
  have h:=QjF 9998 (a.1:Int) (a.2:Int) (c.1:Int) (c.2:Int) w;have e:(decide ((a.1:Int)=(c.1:Int))&&decide ((a.2:Int)=(c.2:Int)))=decide (a=c):=by
   rw[qN,JD,qO,qO,qO,Prod.ext_iff];constructor
   ·rintro⟨h1,h2⟩;exact⟨by omega,by omega⟩
   ·rintro⟨h1,h2⟩;exact⟨by omega,by omega⟩
  rw[e] at h;exact h)
theorem QvW(w:World):(zeroValue 268).run prog w=.ok (.agg #[Ji 0,Ju 0,Ju 0,Ju 0,Ju 0]) w:=by kernel_rfl
theorem Qb2{w W:World}{b n:Nat}{g:Key->Option Qdl}(d:MapF QhZ QcR w b g n)(a:Key)(c:Bool)(f:W.heap[b]?=w.heap[b]?):(Instr.lookup 264 (.map (some b)) (.agg #[Ju a.1,Ju a.2]) c).run prog W=.ok (Qwb (.agg #[Ji 0,Ju 0,Ju 0,Ju 0,Ju 0]) QcR c (g a)) W:=
 (d.keep f).look Qmx underlying264 QvW a c
theorem QpQ{w:World}{b k i n:Nat}{q new:Key}{g:Key->Option Qdl}(h:LruB w b k i q new)(p:MapF QhZ QcR w i g n)(a:Key):Calls prog 177 #[Jp b,.agg #[Ju a.1,Ju a.2]] w (JB (.bool (g a).isSome) w):=by
 have z:b<w.heap.size:=(gsi h).1;have c:=Qao w (Ju a.1) (Ju a.2) 58;obtain⟨k0,k1⟩:=QaK w (Ju a.1) (Ju a.2) 58;obtain⟨⟨-,c1,-⟩,-⟩:=Qay (Qad h c);have f:=p.lt;have m:=Z (fun (W:World) (y:W.heap[i]?=w.heap[i]?)=>Qb2 p a true y)
 have l:=Z (c.block i p.lt);have s:=Z (JI w (.cells #[Ju a.1,Ju a.2] 58));have r:=Z (Qad h c);have d:=Z c;obtain⟨x,v0,v1,v2,v3,v4,hx⟩:∃x:Bool,∃v0:Int,∃v1 v2 v3 v4:Nat,Qwb (.agg #[Ji 0,Ju 0,Ju 0,Ju 0,Ju 0]) QcR true (g a)=.tuple #[.agg #[Ji v0,Ju v1,Ju v2,Ju v3,Ju v4],.bool x]/\(g a).isSome=x:=by
  cases A:g a with
  |none=>exact⟨false,0,0,0,0,0,rfl,rfl⟩
  |some nd=>exact⟨true,nd.1,nd.2.1.1,nd.2.1.2,nd.2.2.1,nd.2.2.2,rfl,rfl⟩
 rw[hx.1] at m;rw[hx.2];clear hx h p c;go_enter func177,ntmps177;go_wp2_with fail;generalize w.alloc (.cells #[Ju a.1,Ju a.2] 58)=W0 at k0 k1 c1 l d s r ⊢;have B:=m.o W0 l.o;have C:=m.o W0.drew l.o;have j:i<W0.heap.size:=qK f d.o.size;have D:=m.o ((W0.alloc (.cells #[Ji 0,Ju 0,Ju 0,Ju 0,Ju 0] 268)).drew) ((J5 W0 (.cells #[Ji 0,Ju 0,Ju 0,Ju 0,Ju 0] 268) j).trans l.o);have t:w.heap.size<W0.heap.size:=(gsi s.o).1;have v:b<W0.heap.size:=(gsi r.o).1;obtain⟨⟨n0,n1⟩,-⟩:=Qax ((J5 W0 (.cells #[Ji 0,Ju 0,Ju 0,Ju 0,Ju 0] 268) t).trans s.o);obtain⟨⟨-,d1,-⟩,-⟩:=Qay ((J5 W0 (.cells #[Ji 0,Ju 0,Ju 0,Ju 0,Ju 0] 268) v).trans r.o);clear j f t v;go_region
 all_goals
  go_wp2;go_ret;exact⟨rfl,(d.o.alloc d.o.size _).drew⟩
theorem QsV(a d c b g:Value)(f:a = Ji (match a with | .int _ i=>i|_=>0))(w:World):(Instr.field 268 (.agg #[a,d,c,b,g]) 0).run prog w=.ok a w:=by
 rw[f];kernel_rfl
theorem Qrh{w:World}{b p f n:Nat}{t new:Key}{g:Key->Option Qdl}(h:LruB w b p f t new)(m:MapF QhZ QcR w f g n)(a:Key):Calls prog 181 #[Jp b,.agg #[Ju a.1,Ju a.2]] w (JB (.tuple #[Ji (((g a).map (·.1)).getD 0),.bool (g a).isSome]) w):=by
 have d:=Qao w (Ju a.1) (Ju a.2) 58;have A:=Z (JI w (.cells #[Ju a.1,Ju a.2] 58));have z:=Z (Qad h d);have s:=Z (QpQ (Qad h d) (m.keep (d.block f m.lt)) a);have q:=Z (fun (W:World) (y:W.heap[f]?=w.heap[f]?)=>Qb2 m a false y)
 have x:=Z (d.block f m.lt);have j:=Z d;have r:=m.lt;obtain⟨k0,k1⟩:=QaK w (Ju a.1) (Ju a.2) 58;clear h m d;cases v:g a with
 |none=>
  rw[v] at s;clear q;go_enter func181,ntmps181;go_wp2_with fail;refine s.o.mono ?_;rintro e i ⟨rfl,c⟩;have l:=Z (Qaa j.o c);clear c k0 k1;simp only[Option.isSome_none];go_wp2;go_ret2;exact⟨rfl,l.o⟩
 |some nd=>
  rw[v] at s q;go_enter func181,ntmps181;go_wp2_with fail;refine s.o.mono ?_;rintro e i ⟨rfl,c⟩;have l:=Z (Qaa j.o c);have k:=(c.block f (qK r j.o.size)).trans x.o;obtain⟨⟨p0,p1⟩,-⟩:=Qax (Qad A.o c);obtain⟨⟨-,c1,-⟩,-⟩:=Qay (Qad z.o c);have C:(Instr.lookup 264 (.map (some f)) (.agg #[Ju a.1,Ju a.2]) false).run prog i=.ok (.agg #[Ji nd.1,Ju nd.2.1.1,Ju nd.2.1.2,Ju nd.2.2.1,Ju nd.2.2.2]) i:=q.o i k;have D:(Instr.lookup 264 (.map (some f)) (.agg #[Ju a.1,Ju a.2]) false).run prog i.drew=.ok (.agg #[Ji nd.1,Ju nd.2.1.1,Ju nd.2.1.2,Ju nd.2.2.1,Ju nd.2.2.2]) i.drew:=q.o i.drew k;have B:=fun W=>QsV (Ji nd.1) (Ju nd.2.1.1) (Ju nd.2.1.2) (Ju nd.2.2.1) (Ju nd.2.2.2) rfl W
  clear c k0 k1 k q;simp only[Option.isSome_some];go_wp2_with fail;go_region
  all_goals
   go_wp2;go_ret2;exact⟨rfl,l.o.drew⟩
theorem LruB.ne{w:World}{b a c n:Nat}{d new:Key}{g:Key->Option Qdl}(h:LruB w b a c d new)(f:MapF QhZ QcR w c g n):b≠c:=by
 intro e;obtain⟨es,clock,hb⟩:=f.blk;unfold LruB at h;rw[e,hb] at h;cases h
theorem Qrf{w W:World}{b n:Nat}{g:Key->Option Qdl}(f:MapF QhZ QcR w b g n)(a:Key)(d:Qdl)(h:W.heap[b]?=w.heap[b]?) :
  ∃o,(Instr.mapUpdate 264 (.map (some b)) (.agg #[Ju a.1,Ju a.2]) (.agg #[Ji d.1,Ju d.2.1.1,Ju d.2.1.2,Ju d.2.2.1,Ju d.2.2.2])).run prog W=.ok () (Qar W b o)/\MapF QhZ QcR (Qar W b o) b (fun c=>if c=a then some d else g c) (if (g a).isSome then n else n+1):=
 (f.keep h).put Qmx underlying264 a d
theorem Qi4{w:World}{b:Nat}{a d g f i j:Value}{t:JT}(k:w.heap[b]?=some (.cells #[a,d,g,f,i,j] t (0,0)))(c h:Value):((w.setCell (Ja b 4) c).setCell (Ja b 5) h).heap[b]?=some (.cells #[a,d,g,f,c,h] t (0,0)):=by
 simp[World.setCell,J6,k]
theorem Qnm{w:World}{b:Nat}{a f j i d h:Value}{t:JT}(k:w.heap[b]?=some (.cells #[a,f,j,i,d,h] t (0,0)))(g c:Value):((w.setCell (Ja b 2) g).setCell (Ja b 3) c).heap[b]?=some (.cells #[a,f,g,c,d,h] t (0,0)):=by
 simp[World.setCell,J6,k]
theorem Qgi{S:Nat->Prop}{w w':World}{a:Nat}(o:Obj)(h:Touch S w w')(b:S a):Touch S w (Qar w' a o):=
 h.trans (S':=fun g=>g=a) ⟨rfl,rfl,rfl,by rw[QdA];exact qC _,fun k _ hn=>Qam _ _ _ _ hn⟩ (fun g hg=>by rw[hg];exact .inl b)
theorem QbY{S:Nat->Prop}{w w':World}(h:Touch S w w'):Touch S w w'.drew:=h.trans (Touch.of_below (S:=S) (qF _ _).drew) (fun g hg=>.inl hg)
theorem Qv8{w:World}{b j d:Nat}{r new:Key}{g:Key->Option Qdl}(h:LruB w b j d r new)(n:MapF QhZ QcR w d g 0)(a:Key)(H:g a=none)(v:Int):Calls prog 179 #[Jp b,.agg #[Ju a.1,Ju a.2],Ji v] w fun e w'=>e=.returned (.tuple #[])/\LruB w' b j d a a/\MapF QhZ QcR w' d (fun c=>if c=a then some (v,new,(0,0)) else g c) 1/\Touch (fun i=>i=b\/i=d) w w':=by
 have hne:=h.ne n;have f:=Qao w (Ju a.1) (Ju a.2) 58;obtain⟨k0,k1⟩:=QaK w (Ju a.1) (Ju a.2) 58;have x:=Z (JI w (.cells #[Ju a.1,Ju a.2] 58));have q:=Z (Qad h f);have p:=Z (n.keep (f.block d n.lt));have k:=p.o.len (P:=prog) 3 264 underlying264;have z:Hi (Touch (fun i=>i=b\/i=d) w (w.alloc (.cells #[Ju a.1,Ju a.2] 58))):=Z (Touch.of_below f)
 have m:b≠w.heap.size:=by have:=(gsi h).1;omega
 have t:d≠w.heap.size:=by have:=n.lt;omega
 obtain⟨⟨-,c1,c2,c3,c4,c5⟩,-,-,f2,f3,f4,f5⟩:=Qay q.o;clear h n f;go_enter func179,ntmps179;go_wp2_with fail;generalize w.alloc (.cells #[Ju a.1,Ju a.2] 58)=W0 at x q p z c1 c2 c3 c4 c5 f2 f3 f4 f5 k0 k1 k ⊢;have y:=Z (Qnm q.o (Ju a.1) (Ju a.2));have A:=Z (Qaj (a:=(Ja b 3)) (Ju a.2) (Qaj (a:=(Ja b 2)) (Ju a.1) z.o (.inl (.inl rfl))) (.inl (.inl rfl)));have s:=Z ((JO (W0.setCell (Ja b 2) (Ju a.1)) (Ja b 3) (Ju a.2) _ m.symm).trans ((JO W0 (Ja b 2) (Ju a.1) _ m.symm).trans x.o));have B:=Z (p.o.keep ((JO (W0.setCell (Ja b 2) (Ju a.1)) (Ja b 3) (Ju a.2) _ hne.symm).trans (JO W0 (Ja b 2) (Ju a.1) _ hne.symm)));generalize (W0.setCell (Ja b 2) (Ju a.1)).setCell (Ja b 3) (Ju a.2)=W1 at y A s B ⊢;clear x q p z c1 c2 c3 c4 c5 f2 f3 f4 f5 k0 k1 k;obtain⟨⟨-,c1,-,-,c4,c5⟩,-⟩:=Qay y.o;obtain⟨⟨k0,k1⟩,-⟩:=Qax s.o;obtain⟨o,l,hM2⟩:=Qrf B.o a (v,new,(0,0)) (W:=W1.drew) rfl;have l:(Instr.mapUpdate 264 (.map (some d)) (.agg #[Ju a.1,Ju a.2]) (.agg #[Ji v,Ju new.1,Ju new.2,Ju 0,Ju 0])).run prog W1.drew=.ok () (Qar W1.drew d o):=l;rw[H] at hM2;have E:=Z hM2;clear hM2;have C:=Z ((Qam W1.drew d o b hne).trans y.o);have D:=Z ((Qam W1.drew d o w.heap.size (fun e=>t e.symm)).trans s.o)
 have G:=Z (Qgi o (QbY A.o) (.inr rfl));obtain⟨⟨-,-,-,-,e4,e5⟩,-,-,-,-,f4,f5⟩:=Qay C.o;obtain⟨⟨j0,j1⟩,-⟩:=Qax D.o;go_region
 all_goals
  go_wp2_with fail
  first|go_end0|refine bodyPost_ret (results_none rfl _ _ _) rfl ?_
  exact⟨rfl,Qi4 C.o _ _,E.o.keep ((JO _ (Ja b 5) _ _ hne.symm).trans (JO _ (Ja b 4) _ _ hne.symm)),Qaj (a:=(Ja b 5)) _ (Qaj (a:=(Ja b 4)) _ G.o (.inl (.inl rfl))) (.inl (.inl rfl))⟩
theorem Qap{w:World}{b:Nat}{a d g f c:Value}{t:JT}(k:w.heap[b]?=some (.cells #[a,d,g,f,c] t (0,0))) :
  (w.cell? (Ja b 0)=some a/\w.cell? (Ja b 1)=some d/\w.cell? (Ja b 2)=some g/\w.cell? (Ja b 3)=some f/\w.cell? (Ja b 4)=some c)/\w.frozen? (Ja b 0)=false/\w.frozen? (Ja b 1)=false/\w.frozen? (Ja b 2)=false/\w.frozen? (Ja b 3)=false/\w.frozen? (Ja b 4)=false:=by
 refine⟨⟨?_,?_,?_,?_,?_⟩,?_,?_,?_,?_,?_⟩
 all_goals first
  |(unfold World.cell?;rw[k];rfl)
  |(unfold World.frozen?;rw[k];rfl)
theorem Qhv{w:World}{b:Nat}{a f d i h:Value}{t:JT}(k:w.heap[b]?=some (.cells #[a,f,d,i,h] t (0,0)))(c g:Value):((w.setCell (Ja b 3) c).setCell (Ja b 4) g).heap[b]?=some (.cells #[a,f,d,c,g] t (0,0)):=by
 simp[World.setCell,J6,k]
theorem QbH{w:World}{b i j:Nat}{v u:Value}{k:Nat}(h:k≠b):((w.setCell (Ja b i) v).setCell (Ja b j) u).heap[k]?=w.heap[k]?:=
 (JO (w.setCell (Ja b i) v) (Ja b j) u k h).trans (JO w (Ja b i) v k h)
theorem Qv7{w:World}{b j f n:Nat}{l new:Key}{g:Key->Option Qdl}(h:LruB w b j f l new)(z:MapF QhZ QcR w f g n)(Y:n≠0)(a:Key)(B:g a=none)(d:Qdl)(r:g new=some d)(v:Int):Calls prog 179 #[Jp b,.agg #[Ju a.1,Ju a.2],Ji v] w fun e w'=>e=.returned (.tuple #[])/\LruB w' b j f l a/\MapF QhZ QcR w' f (fun c=>if c=a then some (v,new,(0,0)) else if c=new then some (d.1,d.2.1,a) else g c) (n+1)/\Touch (fun i=>i=b\/i=f) w w':=by
 have hne:=h.ne z;have x:a≠new:=by intro e;rw[e,r] at B;cases B
 have p:=Qao w (Ju a.1) (Ju a.2) 58;obtain⟨k0,k1⟩:=QaK w (Ju a.1) (Ju a.2) 58;have A:=Z (JI w (.cells #[Ju a.1,Ju a.2] 58));have s:=Z (Qad h p);have q:=Z (z.keep (p.block f z.lt));have t:=q.o.len (P:=prog) 3 264 underlying264;have J:Hi (Touch (fun i=>i=b\/i=f) w (w.alloc (.cells #[Ju a.1,Ju a.2] 58))):=Z (Touch.of_below p)
 have qa:b≠w.heap.size:=by have:=(gsi h).1;omega
 have y:f≠w.heap.size:=by have:=z.lt;omega
 have z1:((n:Int)==0)=false:=by rw[qI];omega
 have z2:(n==0)=false:=by rw[qI];omega
 obtain⟨⟨-,c1,c2,c3,c4,c5⟩,-⟩:=Qay s.o;have k:=Z (qE Y (qE B (qE r x)));clear h z p Y B r x;go_enter func179,ntmps179;go_wp2_with fail;generalize w.alloc (.cells #[Ju a.1,Ju a.2] 58)=W0 at A s q J c1 c2 c3 c4 c5 k0 k1 t ⊢;have C:w.heap.size<W0.heap.size:=(gsi A.o).1;have lo:b<W0.heap.size:=(gsi s.o).1;have lm:f<W0.heap.size:=q.o.lt;have l2:(Instr.lookup 264 (.map (some f)) (.agg #[Ju new.1,Ju new.2]) false).run prog ((W0.alloc (.cells #[Ji 0,Ju 0,Ju 0,Ju 0,Ju 0] 268)).drew)=.ok (.agg #[Ji d.1,Ju d.2.1.1,Ju d.2.1.2,Ju d.2.2.1,Ju d.2.2.2]) ((W0.alloc (.cells #[Ji 0,Ju 0,Ju 0,Ju 0,Ju 0] 268)).drew):=by
  have h:=Qb2 (W:=(W0.alloc (.cells #[Ji 0,Ju 0,Ju 0,Ju 0,Ju 0] 268)).drew) q.o new false (J5 W0 (.cells #[Ji 0,Ju 0,Ju 0,Ju 0,Ju 0] 268) lm);rw[k.o.2.2.1] at h;exact h
 have l3:(Instr.lookup 264 (.map (some f)) (.agg #[Ju new.1,Ju new.2]) false).run prog W0.drew=.ok (.agg #[Ji d.1,Ju d.2.1.1,Ju d.2.1.2,Ju d.2.2.1,Ju d.2.2.2]) W0.drew:=by
  have h:=Qb2 (W:=W0.drew) q.o new false rfl;rw[k.o.2.2.1] at h;exact h
 obtain⟨⟨-,d1,-,-,d4,d5⟩,-⟩:=Qay ((J5 W0 (.cells #[Ji 0,Ju 0,Ju 0,Ju 0,Ju 0] 268) lo).trans s.o);clear t k0 k1 c2 c3;go_region
 all_goals
  clear d1 d4 d5 l2 l3 c1 c4 c5;obtain⟨W1,hW1⟩:∃W1,(W0.alloc (.cells #[Ji d.1,Ju d.2.1.1,Ju d.2.1.2,Ju d.2.2.1,Ju d.2.2.2] 268)).drew=W1:=⟨_,rfl⟩;rw[hW1];have O1:Hi (LruB W1 b j f l new):=Z (by rw[<-hW1];exact (J5 W0 (.cells #[Ji d.1,Ju d.2.1.1,Ju d.2.1.2,Ju d.2.2.1,Ju d.2.2.2] 268) lo).trans s.o)
  have E:Hi (Jh W1 w.heap.size #[Ju a.1,Ju a.2] 58):=Z (by rw[<-hW1];exact (J5 W0 (.cells #[Ji d.1,Ju d.2.1.1,Ju d.2.1.2,Ju d.2.2.1,Ju d.2.2.2] 268) C).trans A.o)
  have M:Hi (MapF QhZ QcR W1 f g n):=Z (by rw[<-hW1];exact q.o.keep (J5 W0 (.cells #[Ji d.1,Ju d.2.1.1,Ju d.2.1.2,Ju d.2.2.1,Ju d.2.2.2] 268) lm))
  have G:Hi (Jh W1 W0.heap.size #[Ji d.1,Ju d.2.1.1,Ju d.2.1.2,Ju d.2.2.1,Ju d.2.2.2] 268):=Z (by rw[<-hW1];exact JI W0 (.cells #[Ji d.1,Ju d.2.1.1,Ju d.2.1.2,Ju d.2.2.1,Ju d.2.2.2] 268))
  have L:Hi (Touch (fun i=>i=b\/i=f) w W1):=Z (by rw[<-hW1];exact QbY (J.o.trans (Touch.of_below (S:=fun i=>i=b\/i=f) ((qF _ _).alloc (qC _) (.cells #[Ji d.1,Ju d.2.1.1,Ju d.2.1.2,Ju d.2.2.1,Ju d.2.2.2] 268))) (fun g hg=>.inl hg)))
  clear hW1;obtain⟨⟨k0,k1⟩,-⟩:=Qax E.o;obtain⟨⟨-,-,-,n3,n4⟩,-,-,-,f3,f4⟩:=Qap G.o;go_wp2_with fail;have V:b≠W0.heap.size:=by omega
  have O:w.heap.size≠W0.heap.size:=by omega
  have U:f≠W0.heap.size:=by omega
  obtain⟨W2,hW2⟩:∃W2,(W1.setCell (Ja W0.heap.size 3) (Ju a.1)).setCell (Ja W0.heap.size 4) (Ju a.2)=W2:=⟨_,rfl⟩;rw[hW2];have I:Hi (LruB W2 b j f l new):=Z (by rw[<-hW2];exact (QbH V).trans O1.o)
  have N:Hi (Jh W2 w.heap.size #[Ju a.1,Ju a.2] 58):=Z (by rw[<-hW2];exact (QbH O).trans E.o)
  have X:Hi (MapF QhZ QcR W2 f g n):=Z (by rw[<-hW2];exact M.o.keep (QbH U))
  have K:Hi (Jh W2 W0.heap.size #[Ji d.1,Ju d.2.1.1,Ju d.2.1.2,Ju a.1,Ju a.2] 268):=Z (by rw[<-hW2];exact Qhv G.o _ _)
  have T2:Hi (Touch (fun i=>i=b\/i=f) w W2):=Z (by rw[<-hW2];exact Qaj (a:=(Ja W0.heap.size 4)) _ (Qaj (a:=(Ja W0.heap.size 3)) _ L.o (.inr (Nat.le_of_lt C))) (.inr (Nat.le_of_lt C)))
  clear hW2 O1 E M G L k0 k1 n3 n4 f3 f4 V O U A s q J;obtain⟨⟨-,c1,-,-,c4,c5⟩,-⟩:=Qay I.o;obtain⟨⟨n0,n1,n2,n3,n4⟩,-⟩:=Qap K.o;obtain⟨o1,m,hM3⟩:=Qrf X.o new (d.1,d.2.1,a) (W:=W2.drew) rfl;rw[k.o.2.2.1] at hM3;have R:=Z hM3;clear hM3;have D:=Z ((Qam W2.drew f o1 b hne).trans I.o);have H:=Z ((Qam W2.drew f o1 w.heap.size (fun e=>y e.symm)).trans N.o)
  have T:=Z (Qgi o1 (QbY T2.o) (.inr rfl));go_region
  all_goals
   generalize Qar W2.drew f o1=W3 at D H T R ⊢;clear m c1 c4 c5 n0 n1 n2 n3 n4 I N X K T2;obtain⟨⟨-,c1,-,-,c4,c5⟩,-⟩:=Qay D.o;obtain⟨⟨k0,k1⟩,-⟩:=Qax H.o;obtain⟨o2,m,hM4⟩:=Qrf R.o a (v,new,(0,0)) (W:=W3.drew) rfl;have m:(Instr.mapUpdate 264 (.map (some f)) (.agg #[Ju a.1,Ju a.2]) (.agg #[Ji v,Ju new.1,Ju new.2,Ju 0,Ju 0])).run prog W3.drew=.ok () (Qar W3.drew f o2):=m;rw[JJ k.o.2.2.2,k.o.2.1] at hM4;have M4:=Z hM4;clear hM4;have O4:=Z ((Qam W3.drew f o2 b hne).trans D.o);have K4:=Z ((Qam W3.drew f o2 w.heap.size (fun e=>y e.symm)).trans H.o)
   have T4:=Z (Qgi o2 (QbY T.o) (.inr rfl));obtain⟨⟨-,-,-,-,e4,e5⟩,-,-,-,-,f4,f5⟩:=Qay O4.o;obtain⟨⟨j0,j1⟩,-⟩:=Qax K4.o;go_wp2_with fail;go_region
   all_goals
    go_wp2_with fail
    first|go_end0|refine bodyPost_ret (results_none rfl _ _ _) rfl ?_
    exact⟨rfl,Qi4 O4.o _ _,M4.o.keep (QbH hne.symm),Qaj (a:=(Ja b 5)) _ (Qaj (a:=(Ja b 4)) _ T4.o (.inl (.inl rfl))) (.inl (.inl rfl))⟩
theorem Qrg{w:World}{b j s:Nat}{ks:List (Key×Int)}(h:LruAt w b j s ks)(a:Key)(v:Int)(t:a∉ks.map (·.1)):Calls prog 179 #[Jp b,.agg #[Ju a.1,Ju a.2],Ji v] w fun e w'=>e=.returned (.tuple #[])/\LruAt w' b j s (ks++[(a,v)])/\Touch (fun i=>i=b\/i=s) w w':=by
 obtain⟨g,old,new,hb,hm,hl⟩:=h;have d:=hl.out a t
 by_cases m:ks = []
 ·subst m
  refine (Qv8 hb hm a d v).mono ?_;rintro e w' ⟨r,y,n,B⟩;refine⟨r,⟨_,a,a,y,n,hl.push (old':=a) (v:=v) (z:=(0,0)) t ?_ ?_ ?_ ?_ ?_⟩,B⟩
  ·exact JK rfl
  ·intro q f;cases f
  ·intro c C _;exact JJ C
  ·intro _;rfl
  ·intro D;exact JN rfl D
 ·obtain⟨p,hp⟩:∃p,ks.getLast?=some p:=by
   cases f:ks.getLast? with
   |none=>exact JN (List.getLast?_eq_none_iff.1 f) m
   |some p=>exact⟨p,rfl⟩
  obtain⟨ys,hsp⟩:=List.getLast?_eq_some_iff.1 hp;obtain⟨o,n',hg,-,-⟩:=hl.mid _ p [] hsp;have l:=hl.last p hp;rw[<-l] at hg;have A:a≠new:=by intro e;rw[e,hg] at d;cases d
  refine (Qv7 hb hm (by intro e;exact m (List.length_eq_zero_iff.1 e)) a d (p.2,o,n') hg v).mono ?_
  rintro e w' ⟨r,y,n,B⟩;rw[show ks.length+1=(ks++[(a,v)]).length by simp] at n
  refine⟨r,⟨_,old,a,y,n,hl.push (old':=old) (v:=v) (z:=(0,0)) t ?_ ?_ ?_ ?_ ?_⟩,B⟩
  ·exact JK rfl
  ·intro q f x H G k
   rw[hp] at f;obtain rfl:=qS f;rw[<-l] at k ⊢;rw[hg] at k;have E:=qS k;show (if new=a then _ else if new=new then some (p.2,o,a) else g new)=_
   rw[JJ (fun e=>A e.symm),JK rfl]
   cases E;rfl
  ·intro c C f
   show (if c=a then _ else if c=new then _ else g c)=g c
   rw[JJ C,JJ (by rw[l];exact f p hp)]
  ·intro D;exact JN D m
  ·intro _;rfl
def ShB(w:World)(b lb rb nx:Nat)(hi mi:Int):Prop:=w.heap[b]?=some (.cells #[Jp lb,.map (some rb),Ji nx,Ji hi,Ji mi] 205 (0,0))
theorem QuL(a:Nat)(p:a<=64)(w:World):Calls prog 54 #[Ji a] w fun e w'=>∃b lb mb rb,e=.returned (.tuple #[Jp b,Ji 0])/\Jw w w'/\(w.heap.size<=b/\w.heap.size<=lb/\w.heap.size<=mb/\w.heap.size<=rb)/\ShB w' b lb rb 0 0 0/\LruAt w' lb a mb []/\w'.heap[rb]?=some (.map #[] 0)/\mb≠rb:=by
 have x:=Z (QB6 a p w);have v:∀(t:JT) (W:World),(Instr.makeMap t none).run prog W=.ok (.map (some W.heap.size)) (W.alloc (.map #[] 0)):=fun _ _=>rfl
 go_enter func54,ntmps54;go_wp2_with fail;refine x.o.mono ?_;rintro e c ⟨rfl,j,f⟩;have h:=Z j;have l:=Z f;have k:w.heap.size+1<c.heap.size:=by obtain⟨g,old,new,h1,-,-⟩:=f;exact (gsi h1).1
 clear j f;have s:=Z (JI (c.alloc (.map #[] 0)) (.cells #[Jp (w.heap.size+1),.map (some c.heap.size),Ji 0,Ji 0,Ji 0] 205));have q:=Z ((J5 (c.alloc (.map #[] 0)) (.cells #[Jp (w.heap.size+1),.map (some c.heap.size),Ji 0,Ji 0,Ji 0] 205) (r:=c.heap.size) (by simp)).trans (JI c (.map #[] 0)))
 have d:∀i,i<c.heap.size->((c.alloc (.map #[] 0)).alloc (.cells #[Jp (w.heap.size+1),.map (some c.heap.size),Ji 0,Ji 0,Ji 0] 205)).heap[i]?=c.heap[i]?:=fun i hi=>(J5 _ _ (by simp;omega)).trans (J5 _ _ hi)
 have m:=Z d;clear d;go_wp2;go_ret2;have n:=s.o;rw[qJ] at n;have y:=h.o.size;exact⟨c.heap.size+1,w.heap.size+1,w.heap.size,c.heap.size,rfl,(h.o.alloc h.o.size _).alloc (by simp;omega) _,⟨by omega,by omega,by omega,by omega⟩,n,l.o.keep (m.o _ k) (m.o _ (by omega)),q.o,by omega⟩
theorem QpP(a:Int)(b:a<0\/64<a)(w:World):Calls prog 101 #[Ji a] w (JS (.tuple #[.pointer none,Ji 2]) w):=by
 rcases b with b|b
 ·have c:decide (a<0)=true:=qA b
  clear b;go_enter func101,ntmps101;go_wp2;go_ret2;exact⟨rfl,rfl⟩
 ·have c:decide (a<0)=false:=qB (by omega)
  have d:decide (a>64)=true:=qA b;clear b;go_enter func101,ntmps101;go_wp2;go_ret2;exact⟨rfl,rfl⟩
theorem QlR(a:Int)(c:a<0\/64<a)(w:World):Calls prog 54 #[Ji a] w (JS (.tuple #[.pointer none,Ji 2]) w):=by
 have d:=Z (QpP a c w);clear c;go_enter func54,ntmps54;go_wp2_with fail;refine d.o.mono ?_;rintro e f ⟨rfl,b⟩;obtain rfl:=b.symm;clear b;go_wp2;go_ret2;exact⟨rfl,rfl⟩
theorem Qhc{w:World}{b lb j l a d:Nat}{k m:Int}{ks:List (Key×Int)}(h:ShB w b lb j l k m)(f:LruAt w lb a d ks):Calls prog 136 #[Jp b] w (JS (Ji a) w):=by
 obtain⟨⟨c0,-⟩,-⟩:=Qap h;obtain⟨g,old,new,h1,-,-⟩:=f;have i:=Z (Qri h1);clear h h1;go_enter func136,ntmps136;go_wp2_with fail;refine i.o.mono ?_;rintro e n ⟨rfl,c⟩;obtain rfl:=c.symm;clear c;go_wp2;go_ret;exact⟨rfl,rfl⟩
theorem QuM{w:World}{b lb j l a d:Nat}{k m:Int}{ks:List (Key×Int)}(h:ShB w b lb j l k m)(f:LruAt w lb a d ks):Calls prog 138 #[Jp b] w (JS (Ji ks.length) w):=by
 obtain⟨⟨c0,-⟩,-⟩:=Qap h;obtain⟨g,old,new,h1,h2,-⟩:=f;have i:=Z (Qv9 h1 h2);clear h h1 h2;go_enter func138,ntmps138;go_wp2_with fail;refine i.o.mono ?_;rintro e n ⟨rfl,c⟩;obtain rfl:=c.symm;clear c;go_wp2;go_ret;exact⟨rfl,rfl⟩
end
end Go.Proofs.YtlpecalodphalaaGreatDoor
