/- What parts of the program compute: packed for TopCache. Conditions: none. -/
import Derived.Test.YtlpecalodphalaaGreatDoorPz3
set_option linter.all false
set_option maxRecDepth 100000
set_option maxHeartbeats 16000000
open Go.Proofs.Tryz Go.RowKit
namespace Go.Proofs.YtlpecalodphalaaGreatDoor
section
open Go.RowKit Go.Shelf
attribute [local go_sem] Oper.semAt_some
def Qd6(l:List Ent)(x:Nat×Nat):List Ent:=(l.drop x.1).take x.2
theorem QtF(l:List Ent):∀i,Qan (l.drop i)=(Qan l).drop (i*4):=by
 induction l with
 |nil=>intro i;simp[Qan]
 |cons e r ih=>
  intro i;cases i with
  |zero=>simp
  |succ i=>
   rw[List.drop_succ_cons,ih];unfold Qan;have a:(QzT e).drop ((i+1)*4) = []:=List.drop_eq_nil_of_le (by show 4<=(i+1)*4;omega)
   have b:(i+1)*4-(QzT e).length=i*4:=by show (i+1)*4-4=i*4;omega
   rw[List.flatMap_cons,List.drop_append,a,b,J3]
theorem QtE(l:List Ent):∀i,Qan (l.take i)=(Qan l).take (i*4):=by
 induction l with
 |nil=>intro i;simp[Qan]
 |cons e r ih=>
  intro i;cases i with
  |zero=>simp[Qan]
  |succ i=>
   rw[List.take_succ_cons];have h:=ih i;unfold Qan at h ⊢;rw[List.flatMap_cons,List.flatMap_cons,List.take_append,h];have a:(QzT e).take ((i+1)*4)=QzT e:=qX (by show 4<=(i+1)*4;omega)
   have b:(i+1)*4-(QzT e).length=i*4:=by show (i+1)*4-4=i*4;omega
   rw[a,b]
theorem QsI(l:List Ent)(x:Nat×Nat)(i:Nat)(v:Value)(h:(Qan (Qd6 l x))[i]?=some v):(Qan l)[x.1*4+i]?=some v:=by
 unfold Qd6 at h;rw[QtE,QtF,List.getElem?_take] at h;split at h
 ·rwa[List.getElem?_drop] at h
 ·cases h
theorem QiJ(g o i:Nat):((Ja g o):Addr).add i=(Ja g (o+i)):=by unfold Addr.add;split<;>simp_all
theorem Qz9(g o b:Nat)(l:List Ent)(N:Nat)(n:l.length=N)(w:World)(r:∀i x,(Qan l)[i]?=some x->Jx w g (o+i) x)(z:l.length<=1000000) :
  Calls prog 64 #[.slice (some (Ja g o)) N b] w (Qm0 l w):=by
 have q:=QmL;obtain⟨i0,hi,hz0,hz1,hz2⟩:=info_parts QmA;have s:=Z r;have m:=Z (Qbg l);have p:=Z (Qon l);obtain⟨E,hE⟩:∃E,Qan l=E:=⟨_,rfl⟩;rw[hE] at s m p;have C:=Z hE;rw[n] at m z;have A:=Z n;clear hE n r;go_enter func64,ntmps64;go_wp2_with (at_builtin;refine wpList_append_own _ rfl _ _ 51 rfl w.heap.size 61 i0 (.agg #[Ju 0,Ju 0,Jd 0,Jd 0]) 4 24 underlying51 hi hz0 hz1 hz2 rfl (by decide) _ _ _ rfl (World.ownsRow_made w #[] 0 (qC _) (qL _) rfl) (Ja g o) N b E rfl ?qc1 ?qc2 ?qc3 ?qc4 ?qc5 ?qc6 ?_)
 case qc1=>exact m.o
 case qc2=>exact fun j u hj=>by rw[QiJ];exact Lib.cell?_alloc_some _ (s.o j u hj)
 case qc3=>exact p.o
 case qc4=>unfold maxLen;omega
 case qc5=>omega
 case qc6=>simp
 intro y t f h B;have d:t.ownsRow w.heap.size 61 4 y N E:=by simpa using f
 go_wp2;go_ret;obtain⟨a,c,hv⟩:=Qat d;subst hv;unfold Qm0;rw[A.o,C.o];exact⟨a,c,rfl,d,((qF _ w).alloc (qC _) _).grown h (by simp) (by intro k v;simp[Value.ownBlock] at v;omega)⟩
theorem Qwp:(prog.info? 51).map (fun i=>(i.zero,i.size,i.bytes))=some (some (.slice none 0 0),1,24):=by kernel_rfl
theorem Qyh:(51:Nat)≠61:=by decide
theorem Qu0:(170:Nat)≠61:=by decide
structure CutI(n0 n1 B1:Nat)(w W:World)(L:List (List Ent))(v:Value)(vs:JV):Prop where
 bo:Boxed W B1 170 v
 own:W.ownsRow n1 51 1 v L.length vs
 el:∀j (h:j<L.length),∃u,vs[j]?=some u/\W.ownsRow n1 61 4 u L[j].length (Qan L[j])
 bel:Below n0 w W
section
variable {n0 n1 B1:Nat} {w W W':World} {L:List (List Ent)} {v:Value} {vs:JV}
theorem CutI.same(h:CutI n0 n1 B1 w W L v vs)(a:∀(k:Nat) cs t m,W.heap[k]?=some (Obj.cells cs t m)->W'.heap[k]?=some (Obj.cells cs t m))(b:Below n0 w W'):CutI n0 n1 B1 w W' L v vs:=
 ⟨a _ _ _ _ h.bo,Qac h.own (fun g hg=>by obtain⟨cur,hcu⟩:=Qa5 h.own g hg;rw[hcu];exact a _ _ _ _ hcu),
  fun j hj=>by
  obtain⟨u,h1,h2⟩:=h.el j hj;exact⟨u,h1,Qac h2 (fun g hg=>by obtain⟨cur,hcu⟩:=Qa5 h2 g hg;rw[hcu];exact a _ _ _ _ hcu)⟩,b⟩
theorem CutI.below(h:CutI n0 n1 B1 w W L v vs)(a:Jw W W')(b:n0<=W.heap.size):CutI n0 n1 B1 w W' L v vs:=
 h.same (fun k cs t m hk=>(a.block k (gsi hk).1).trans hk) (h.bel.trans (a.mono b))
theorem CutI.odd(h:CutI n0 n1 B1 w W L v vs){B:Nat}{row:Option Nat}(a:W.grownBy W' row)(c:n0<=B)(b:∀r,row=some r->B<=r/\∃o,W.heap[r]?=some o/\Odd o)(d:n0<=w.heap.size):CutI n0 n1 B1 w W' L v vs:=
 h.same (fun k cs t m hk=>(a.block k (gsi hk).1 (fun e=>by
  obtain⟨-,o,ho,h1,-⟩:=b k e.symm;rw[hk] at ho;cases ho;cases h1)).trans hk) (QfB (T:=fun _=>False) (B:=B) h.bel a (fun r e=>.inr (b r e)) c d)
theorem CutI.app(h:CutI n0 n1 B1 w W L v vs){n:Obj}{a:World}{c u:Value}{p:List Ent}(y:n0<=W.heap.size)(A:n0<=B1)(t:n0<=n1)(l:(W.alloc n).grownBy a v.ownBlock)(f:a.ownsRow n1 51 1 c (L.length+1) (vs++[u]))(z:W.ownsRow n1 61 4 u p.length (Qan p)) :
  Boxed a B1 170 v/\CutI n0 n1 B1 w (a.setCell (Ja B1 0) c) (L++[p]) c (vs++[u])/\(∀(k:Nat) (o:Obj),W.heap[k]?=some o->(k<n1/\k≠B1)\/Odd o->(a.setCell (Ja B1 0) c).heap[k]?=some o)/\W.heap.size<=(a.setCell (Ja B1 0) c).heap.size:=by
 obtain⟨hv1,hv2,-,-,hb2⟩:=h.bo.appended (by decide) (QaM h.own t) y A (QaM f t) l
 have q:=f.kept (grownBy_setCell' a B1 c) (.inr (hv1.not_row (by decide) f).symm)
 have s:∀(k:Nat) (o:Obj),W.heap[k]?=some o->some k≠v.ownBlock->k≠B1->(a.setCell (Ja B1 0) c).heap[k]?=some o:=fun k o hko h1 h2=>by
  have b:=(gsi hko).1;exact (JO _ _ _ _ h2).trans ((l.block k (by rw[qJ];omega) h1).trans ((JQ _ _ _ b).trans hko))
 have d:∀ {x:Value} {m:Nat} {xs:JV},W.ownsRow n1 61 4 x m xs->(a.setCell (Ja B1 0) c).ownsRow n1 61 4 x m xs:=fun hx=>Qac hx (fun g hg=>by
  obtain⟨cur,hcu⟩:=Qa5 hx g hg;rw[hcu];refine s g _ hcu (fun e=>?_) (fun e=>?_)
  ·obtain⟨cur2,hc2⟩:=Qa5 h.own g e.symm
   rw[hcu] at hc2;injection hc2 with e;injection e with _ e;exact Qyh e.symm
  ·have i:=h.bo;unfold Boxed at i;rw[<-e,hcu] at i;injection i with e;injection e with _ e;exact Qu0 e.symm)
 have r:vs.length=L.length:=by have:=h.own.1;omega
 refine⟨hv1,⟨hv2,by rw[qG];exact q,fun j hj=>?_,h.bel.trans hb2⟩,fun k o hko hor=>s k o hko (fun e=>?_) (fun e=>?_),hb2.size⟩
 ·by_cases b:j<L.length
  ·obtain⟨x,h1,h2⟩:=h.el j b
   refine⟨x,by rw[List.getElem?_append_left (by omega)];exact h1,?_⟩
   rw[List.getElem_append_left b];exact d h2
  ·rw[qG,List.length_singleton] at hj
   obtain rfl:j=L.length:=by omega
   refine⟨u,by rw[List.getElem?_append_right (by omega),r,Nat.sub_self];rfl,?_⟩
   rw[List.getElem_append_right (qC _)];simp only[Nat.sub_self,List.getElem_singleton];exact d z
 ·rcases hor with⟨h1,-⟩|h1
  ·have:=(h.own.lt k e.symm).1;omega
  ·obtain⟨cur2,hc2⟩:=Qa5 h.own k e.symm
   rw[hko] at hc2;cases hc2;cases h1.1
 ·rcases hor with⟨-,h1⟩|h1
  ·exact h1 e
  ·have i:=h.bo;unfold Boxed at i;rw[<-e,hko] at i;cases i;cases h1.1
end
def Qgg(l:List Ent)(size:Nat):List (List Ent):=(chL l.length size (chK l.length size)).map (Qd6 l)
def QxO(l:List Ent)(size:Nat)(w:World)(e:Ending)(w':World):Prop:=
 ∃v vs,e=.returned v/\w'.ownsRow w.heap.size 51 1 v (Qgg l size).length vs/\(∀j (h:j<(Qgg l size).length),∃u,vs[j]?=some u/\w'.ownsRow w.heap.size 61 4 u (Qgg l size)[j].length (Qan (Qgg l size)[j]))/\Jw w w'
theorem Qz0{l:List Ent}{size N:Nat}{w W:World}{v:Value}{a:JV}(h:CutI N (N+3) N w W (Qgg l size) v a)(b:w.heap.size=N):QxO l size w (.returned v) W:=by
 subst b;refine⟨v,a,rfl,QaM h.own (by omega),fun j hj=>?_,h.bel⟩
 obtain⟨u,h1,h2⟩:=h.el j hj;exact⟨u,h1,QaM h2 (by omega)⟩
theorem QAc(c:Option Addr)(a b:Nat)(n:Nat)(f:0<n)(w:World):Calls prog 111 #[.slice c a b,Ji n] w fun e w'=>e=.returned (.func (.func 166) #[] #[Jp w.heap.size,Jp (w.heap.size+1)])/\w'=(w.alloc (.cells #[.slice c a b] 51)).alloc (.cells #[Ji n] 3):=by
 have d:decide ((n:Int)<1)=false:=qB (by omega)
 go_enter func111,ntmps111;go_wp2;go_ret;exact⟨rfl,rfl⟩
theorem iteP{c:Prop}[Decidable c]{p q:Prop}(h:c)(a:p):ite c p q:=by rw[JK h];exact a
theorem Qz1{N:Nat}{W i f W':World}(c:Jw W i)(a:Jw i f)(h:∀(k:Nat) (o:Obj),f.heap[k]?=some o->(k<N+3/\k≠N)\/Odd o->W'.heap[k]?=some o)(n:f.heap.size<=W'.heap.size)(p:N+3<=W.heap.size) :
  KeptE (fun k=>k=N+1\/k=N+1+1) W W'/\N+3<=W'.heap.size/\∀(g:Nat),g<N->∀(o:Obj),i.heap[g]?=some o->W'.heap[g]?=some o:=by
 have j:=Qaa c a;have m:=c.size;have l:=a.size;refine⟨⟨⟨by omega,fun k hk2=>?_⟩,fun k o d h2=>?_⟩,by omega,fun g hg o ho=>?_⟩
 ·have b:k<W.heap.size:=by omega
  have d:W.heap[k]?=some W.heap[k]:=Array.getElem?_eq_getElem b;rw[d];exact h k _ ((j.block k b).trans d) (.inl (by omega))
 ·exact h k o ((j.block k (gsi d).1).trans d) (.inr h2)
 ·exact h g o ((a.block g (gsi ho).1).trans ho) (.inl (by omega))
theorem Qm5{F:Fence}{n:Nat}{P:Program}(w:World){o:Oper}{a:Act}{K:Act->World->Prop}{Q:Exit->Act->World->Prop}(s x:Operand)(t:JT)(f:o.op=Op.call { callee:=Callee.builtin Builtin.append,args:=#[s,x],argTypes:=#[t,t] })
  (base:Nat) (e:JT) (i:TypeInfo) (z:Value) (size d:Nat) (B:P.underlying t=some (.slice e)) (r:P.info? e=some i) (H:i.zero=some z) (A:i.size=size) (D:i.bytes=d) (L:z.cells.size=size) (C:0<size)
  (v:Value) (k:Nat) (xs:JV) (I:a.eval s=v) (p:w.ownsRow base e size v k xs) (h:Addr) (m c:Nat) (b:JV) (hx:a.eval x=.slice (some h) m c) (J:b.length=m*size)
  (M:∀j u,b[j]?=some u->w.cell? (h.add j)=some u) (l:∀u∈b,u.oneCell'=true) (q:k+m<=maxLen) (G:(k+m)*d<=140737488355328) (y:base<=w.heap.size)
  (E:∀v' w',w'.ownsRow base e size v' (k+m) (xs++b)->w.grownBy w' v.ownBlock->K (a.put o.dst v') w'):o.wpIn F n P a w K Q:=by
 obtain⟨v',w',QFc,r1,r2,-⟩:=run_append_own (P:=P) w base t o.type e i z size d B r H A D L C v k xs p h m c b J M l q G y;unfold Oper.wpIn;refine⟨?_,?_⟩
 ·simp[Oper.about,f,resolve,Target.leads,Sem.run_pure]
 ·rw[Oper.semAt_plain F _ _ (by rw[f];intro c g;cases g)]
  simp[execOp,f,resolve,invoke,builtin,I,hx,QFc,Result.andThen];exact E _ _ r1 r2
theorem Qy4(l:List Ent)(g c size:Nat)(d:JW)(m:Nat×Nat)(w:World)(L:0<size)(qo:size<=4096)(qg:0<l.length)(qr:l.length<=4096)(qq:l.length<=c)(qh:c<=maxLen)(I:w.heap[g]?=some (.cells d 61 m))(qc:∀(i:Nat) (x:Value),(Qan l)[i]?=some x->d[i]?=some x) :
  Calls prog 65 #[Jl g l.length c,Ji size] w (QxO l size w):=by
 have qd:=Z (fun va vn vc W=>QAc va vn vc size L W)
 have t1:decide ((size:Int)<1)=false:=qB (by omega)
 refine (callsIn_wide (n:=4)).1 ?_;refine callsIn_of_wp_marks func65 rfl trivial ?_ rfl;simp only[ntmps65,List.size_toArray,qH,List.length_nil,Nat.reduceAdd,Nat.reduceSub,Array.replicate_succ,Array.replicate_zero,List.push_toArray,List.append_toArray,J3,J4];gi_wp2_with (refine⟨trivial,?_⟩;gi_at_call 111;refine (callsIn_wide.2 (qd.o _ _ _ _)).mono ?_;rintro e w1 ⟨rfl,rfl⟩);obtain⟨W2,hW2⟩:∃W2,((w.alloc (.cells #[.slice none 0 0] 170)).alloc (.cells #[Jl g l.length c] 51)).alloc (.cells #[Ji size] 3)=W2:=⟨_,rfl⟩;obtain⟨N,hN⟩:∃N,w.heap.size=N:=⟨_,rfl⟩;have qm:W2.heap.size=N+3:=by rw[<-hW2,<-hN];simp
 have qb:Below N w W2:=by rw[<-hW2,<-hN];exact (((qF _ _).alloc (qC _) _).alloc (by simp) _).alloc (by simp;omega) _
 have k0:Boxed W2 N 170 (.slice none 0 0):=by
  rw[<-hW2,<-hN];exact ((Boxed.new w _ _).alloc _).alloc _
 have k1:W2.heap[N+1]?=some (.cells #[Jl g l.length c] 51 (0,0)):=by
  have h:=JI (w.alloc (.cells #[.slice none 0 0] 170)) (.cells #[Jl g l.length c] 51);rw[qJ,hN] at h;rw[<-hW2];exact (JQ _ _ _ (by simp;omega)).trans h
 have k2:W2.heap[N+1+1]?=some (.cells #[Ji size] 3 (0,0)):=by
  have h:=JI ((w.alloc (.cells #[.slice none 0 0] 170)).alloc (.cells #[Jl g l.length c] 51)) (.cells #[Ji size] 3);rw[qJ,qJ,hN] at h;rw[<-hW2];exact h
 have qa:g<N:=by rw[<-hN];exact (gsi I).1
 have qk:Hi (W2.heap[g]?=some (.cells d 61 m)):=Z ((qb.block g qa).trans I);have qp:=Z qc;have ql:prog.follows .mixedOrders=true:=by kernel_rfl
 obtain⟨i0,hif,hz0,hz1,hz3⟩:=info_parts Qwp;have qi:=Qxd g c l.length size (N+1) (N+1+1) W2 L qo qg qr qq qh k1 k2;have qf:Hi (w.heap.size=N):=Z hN;have qj:Hi (W2.heap.size=N+3/\g<N):=Z ⟨qm,qa⟩;rw[hW2,hN];clear hW2 qd qc I;refine QBz rfl (by omega) (gf:=166) (lb:=#[Jp (N+1),Jp (N+1+1)]) rfl trivial (enters_of func166 (by kernel_rfl) rfl) (fun k=>k=N+1\/k=N+1+1) (fun k hk=>by omega) qi (qF _ _) (fun _=>rfl)
  (fun a W=>W2.heap.size<=W.heap.size/\W.heap[g]?=some (.cells d 61 m)/\∃v S,CutI N (N+3) N w W (a.map (Qd6 l)) v S) (fun s X Y row ⟨A,z,v,S,p⟩ I hr=>⟨qD A I.size,(I.block g (gsi z).1 (fun e=>by obtain⟨-,o,ho,h1,-⟩:=hr g e.symm;rw[z] at ho;cases ho;cases h1)).trans z,v,S,p.odd I (by omega) hr (by omega)⟩) ⟨qC _,qk.o,.slice none 0 0,[],k0,JZ _ _ _ _,fun j hj=>JN hj (JH _),qb⟩
  (fun x=>{ tmps:=#[Jl g l.length c,Ji size,undef,undef,.slice none 0 0,Jp N,.slice (some (Ja g (x.1*4))) x.2 x.2,Ji size,.bool false,Jl g l.length c,Ji size,.func (.func 166) #[] #[Jp (N+1),Jp (N+1+1)],.slice (some (Ja g (x.1*4))) x.2 x.2,undef,undef,undef,undef,undef,undef],defers:=[] }) ?assign ?Qa2 ?done
 case assign=>
  intro lp x W K r;gi_wp2;exact r
 case Qa2=>
  rintro lp a x W ⟨A,z,v,S,p⟩ hG;have qt:x.1+x.2<=l.length:=by
   obtain⟨q1,-,rfl⟩:=hG;have:=Nat.min_le_right size (l.length-a.length*size);dsimp only;omega
  have G:(Qd6 l x).length=x.2:=by
   unfold Qd6;rw[qW,JC];omega
  obtain⟨Wd,hWd⟩:∃Wd,W.drew=Wd:=⟨_,rfl⟩;have f:Jw W Wd:=by rw[<-hWd];exact (qF _ _).drew
  have qs:N<=W.heap.size:=by have:=p.bel.size;omega
  have P:Wd.heap[g]?=some (.cells d 61 m):=(f.block _ (gsi z).1).trans z;have O:=p.below f qs;have qn:=Z (Qz9 g (x.1*4) x.2 (Qd6 l x) x.2 G Wd (fun i y hy=>(QaJ P _).trans (qp.o _ _ (QsI l x i y hy))) (by omega))
  have hc:=O.bo.cell;have H:=Z (qE P (qE O f));obtain⟨va,vc,hv⟩:∃va vc,v=.slice va a.length vc:=by have:=Qat p.own;rwa[qQ] at this
  subst hv;have HP:=Z G;have E:Hi (N+3<=W.heap.size/\N+3<=Wd.heap.size):=Z ⟨by omega,by have:=f.size;have:=A;omega⟩
  have T:Hi (a.length<=4096):=Z (by
   obtain⟨q1,-,-⟩:=hG;have:a.length*1<=a.length*size:=Nat.mul_le_mul_left _ L;omega)
  clear z p P O f G;gi_wp2;refine wpIn_region_any ql ?_;change wpAnyIn _ _ _ _ _ _ _ _ _ (World.drew _);rw[hWd];clear hWd
  repeat' (first
   |refine wpAnyIn_ready (rs:=[0,1]) (by decide +kernel) (by simp) ?_
   |refine wpAnyIn_ready (rs:=[0,2]) (by decide +kernel) (by simp) ?_
   |refine wpAnyIn_ready (rs:=[0,3]) (by decide +kernel) (by simp) ?_
   |refine wpAnyIn_ready (rs:=[0]) (by decide +kernel) (by simp) ?_
   |refine wpAnyIn_ready (rs:=[1]) (by decide +kernel) (by simp) ?_
   |refine wpAnyIn_ready (rs:=[2]) (by decide +kernel) (by simp) ?_
   |refine wpAnyIn_ready (rs:=[3]) (by decide +kernel) (by simp) ?_
   |refine wpAnyIn_ready (rs:=[4]) (by decide +kernel) (by simp) ?_
   |refine wpAnyIn_ready (rs:=[5]) (by decide +kernel) (by simp) ?_
   |refine wpAnyIn_done (by decide +kernel) ?_ _
   |refine AllReadyIn.cons rfl (fun K r=>?_) ?_
   |exact AllReadyIn.nil
   |(refine iteP rfl ?_;refine Qm5 _ _ _ 170 rfl (N+3) 51 i0 (.slice none 0 0) 1 24 underlying170 hif hz0 hz1 hz3 rfl (by decide) (.slice va a.length vc) a.length S rfl (B.o.1.alloc _) (Ja w1.heap.size 0) 1 1 [.slice a1 (Qd6 l x).length c1] rfl rfl (cell_one_new _ _ _) (by simp[Value.oneCell']) (by unfold maxLen;have:=T.o;omega) (by have:=T.o;omega) (by have:=R.o;simp;omega) ?_;intro v' w4 M qe;obtain⟨g',cap',rfl⟩:=ownsRow_succ M;obtain⟨hv1,hM4,hk4,hs4⟩:=B.o.2.1.app R.o.1 (qC _) (by omega) qe (by rw[qQ];exact M) (QaM B.o.2.2.1 R.o.2.1);have qv:=hv1.cell;have qw:=hv1.frozen;have J:=Z (qE hM4 (qE hk4 hs4));clear M qe hv1 hM4 hk4 hs4;refine r _ _ ?_;clear r K)
   |(go_simp;refine⟨trivial,?_⟩;gi_at_call 64;refine (CallsIn.inRound lp (callsIn_wide.2 qn.o)).mono ?_;rintro e w1 ⟨a1,c1,rfl,V,C⟩;have b:=H.o.2.1.below C (by have:=H.o.2.2.size;omega);have qu:=b.bo.cell;have qx:=(b.bo.alloc (.cells #[.slice a1 (Qd6 l x).length c1] 51)).cell;have B:=Z (qE (by have:=b.own;rwa[qQ] at this) (qE b (qE V C)));have R:Hi (N<=w1.heap.size/\N+3<=Wd.heap.size/\N+3<=w1.heap.size):=Z (by have:=C.size;have:=E.o;omega);clear b V C;go_simp;refine r _ _ ?_;clear r K)
   |(go_simp;refine r _ _ ?_;clear r K))
  all_goals gi_wp2
  all_goals exact (fun q=>⟨q.1,by simpa using q.2.1,q.2.2 g qj.o.2 _ H.o.1,_,_,J.o.1⟩) (Qz1 H.o.2.2 B.o.2.2.2 J.o.2.1 J.o.2.2 E.o.1)
 case done=>
  rintro D xs W hD rfl ⟨A,z,v,S,p⟩ r;have hc:=p.bo.cell;have H:=Z p;have HD:=Z (qE hD r);clear z p hD;gi_wp2;refine⟨by simp,.inl ⟨_,_,rfl,run_takeDeferred HD.o.2,?_⟩⟩
  have hD:=HD.o.1;have U:N<=w.heap.size:=Nat.le_of_eq qf.o.symm;exact⟨_,results_tmp rfl _ _ _,Qz0 (H.o.same (fun k cs t m hk=>(World.putObj_heap_other (fun e=>by rw[e,HD.o.2] at hk;cases hk)).trans hk) (H.o.bel.trans (belowK_b (w:=w) U W D _ _ (by omega) HD.o.2 rfl rfl))) qf.o⟩
end
section
def QkK(id n:Nat):Nat:=if 6004799503160661<=id then 8 else if n=0 then 2 else if 65536<n then 5 else 0
theorem Quj(id n:Nat):QkK id n=0↔id<QfV/\0<n/\n<=65536:=by
 have:QfV=6004799503160661:=rfl;unfold QkK;constructor
 ·intro h
  split at h
  ·cases h
  ·split at h
   ·cases h
   ·split at h
    ·cases h
    ·omega
 ·rintro⟨h1,h2,h3⟩
  rw[JJ (by omega),JJ (by omega),JJ (by omega)]
theorem QuF(t:JA):t.toList.isEmpty=decide (t.size=0):=by
 have a:=Qab t;rw[<-J7] at a;rw[qN,List.isEmpty_iff,qO,<-JE,a]
theorem Qqw(id:Nat)(t:JA)(w:World):Calls prog 42 #[Ju id,Jt t,.bool false] w (JS (Ji (QkK id t.size:Nat)) w):=by
 have h:=QuF t;have d:(t.toList==([]:JL))=decide (t.size=0):=by
  rw[<-h];cases t.toList<;>rfl
 have a:Hi (QkK id t.size=if 6004799503160661<=id then 8 else if t.size=0 then 2 else if 65536<t.size then 5 else 0):=Z rfl
 generalize QkK id t.size=N at a ⊢
 by_cases c:6004799503160661<=id
 ·have f:N=8:=by have:=a.o;rwa[JK c] at this
  subst f;have j:decide ((id:Int)>=6004799503160661)=true:=qA (by omega)
  clear h d a c;go_enter func42,ntmps42;go_wp2;go_ret;exact⟨rfl,rfl⟩
 ·have j:decide ((id:Int)>=6004799503160661)=false:=qB (by omega)
  by_cases b:t.size=0
  ·have f:N=2:=by have:=a.o;rwa[JJ c,JK b] at this
   subst f;rw[qA b] at h d;clear a c b;go_enter func42,ntmps42;go_wp2;go_ret;exact⟨rfl,rfl⟩
  ·rw[qB b] at h d
   by_cases g:65536<t.size
   ·have f:N=5:=by have:=a.o;rwa[JJ c,JJ b,JK g] at this
    subst f;have i:decide ((t.size:Int)>65536)=decide (65536<t.size):=by rw[qN,qO,qO];omega
    rw[qA g] at i;clear a c b g;go_enter func42,ntmps42;go_wp2;go_ret;exact⟨rfl,rfl⟩
   ·have f:N=0:=by have:=a.o;rwa[JJ c,JJ b,JJ g] at this
    subst f;have i:decide ((t.size:Int)>65536)=decide (65536<t.size):=by rw[qN,qO,qO];omega
    rw[qB g] at i;clear a c b g;go_enter func42,ntmps42;go_wp2;go_ret;exact⟨rfl,rfl⟩
theorem Qni{b:Array Oper}{o:Oper}{a:Act}{K:Act->World->Prop}{Q:Exit->Act->World->Prop}{E:Prop}(f:o.guard=none)(s x:Operand)(y:o.op=.call { callee:=.builtin .append,args:=#[s,x],argTypes:=#[29,29] })
  (w0:World) (b0:Nat) (v:Value) (p:Nat) (olds:JV) (z:(v=.slice none 0 0/\p=0/\olds = [])\/∃g,v = Jl g p p/\olds.length=p*2/\∀(j:Nat) (u:Value),olds[j]?=some u->w0.cell? (Ja g j)=some u)
  (A:a.eval s=v) (i:Nat) (t:JA) (hx:a.eval x = Jl w0.heap.size 1 1) (C:p<=1000000) (r:b0<=w0.heap.size)
  (h:∀g cap w',w'.ownsRow b0 67 2 (Jl g (p+1) cap) (p+1) (olds++[Ju i,Jt t])->Jw w0 w'->K (a.put o.dst (Jl g (p+1) cap)) w') :
  if Region.wanted o (yielded b a.tmps)=true then Oper.wp prog o a (w0.alloc (.cells #[Ju i,Jt t] 67)) K Q else E:=by
 have q:Region.wanted o (yielded b a.tmps)=true:=by simp[Region.wanted,f]
 rw[JK q];obtain⟨i0,hi,hz0,hz1,hz2⟩:=info_parts QgE;obtain⟨W,hW⟩:∃W,w0.alloc (.cells #[Ju i,Jt t] 67)=W:=⟨_,rfl⟩;have n:Jw w0 W:=by rw[<-hW];exact (qF _ _).alloc (qC _) _
 have l:W.heap[w0.heap.size]?=some (.cells #[Ju i,Jt t] 67 (0,0)):=by rw[<-hW];exact JI w0 _
 have B:W.heap.size=w0.heap.size+1:=by rw[<-hW,qJ]
 have d:∀(j:Nat) (u:Value),([Ju i,Jt t]:JV)[j]?=some u->W.cell? (((Ja w0.heap.size 0):Addr).add j)=some u:=fun j u hj=>by
  rw[QiJ,Nat.zero_add,QaJ l];simpa using hj
 have c:∀v' w',(Builtin.append_ #[29,29] o.type #[v,Jl w0.heap.size 1 1]).run prog W=.ok v' w'->w'.ownsRow b0 67 2 v' (p+1) (olds++[Ju i,Jt t])->W.grownBy w' none->o.wp prog a W K Q:=fun v' w' QFc QE2 hgr=>by
  obtain⟨g,cap,rfl⟩:=ownsRow_succ QE2;unfold Oper.wp;simp[execOp,y,resolve,invoke,builtin,A,hx,QFc,Result.andThen];exact h g cap w' QE2 (Qaa n ⟨hgr.os,hgr.tape,hgr.output,hgr.size,fun k l=>hgr.block k l (by simp)⟩)
 rw[hW];rcases z with⟨rfl,rfl,rfl⟩|⟨g,rfl,hol,hoc⟩
 ·obtain⟨v',w',h1,h2,h3,-⟩:=run_append_own (P:=prog) W b0 29 o.type 67 i0 _ 2 24 underlying29 hi hz0 hz1 hz2 rfl (by decide) (.slice none 0 0) 0 [] (JZ _ _ _ _) (Ja w0.heap.size 0) 1 1 _ rfl d (by simp[Value.oneCell']) (by unfold maxLen;omega) (by omega) (by omega)
  exact c v' w' h1 h2 h3
 ·obtain⟨v',w',h1,h2,h3⟩:=run_append_arg_grows (P:=prog) W 29 o.type 67 i0 _ 2 24 underlying29 hi hz0 hz1 hz2 rfl (by decide) (Ja g 0) p p olds hol (fun j u hj=>by
   have:=hoc j u hj;rw[QiJ,Nat.zero_add];have m:g<w0.heap.size:=by
    unfold World.cell? at this;rcases Nat.lt_or_ge g w0.heap.size with h|h
    ·exact h
    ·rw[Array.getElem?_eq_none h] at this;cases this
   exact (n.cell (p:=(Ja g j)) m).trans this) (Ja w0.heap.size 0) 1 1 _ rfl d (by omega) (by unfold maxLen;omega) (by omega)
  exact c v' w' h1 (QaM h2 (by omega)) h3
theorem Qnh{k:Array Oper}{o:Oper}{a:Act}{K:Act->World->Prop}{Q:Exit->Act->World->Prop}{E:Prop}(l:o.guard=none)(s x:Operand)(q:o.op=.call { callee:=.builtin .append,args:=#[s,x],argTypes:=#[29,29] })
  (w0:World) (b0 i d n m:Nat) (xs b:JV) (f:w0.ownsRow b0 67 2 (Jl i n d) n xs) (r:a.eval s = Jl i n d)
  (hx:(a.eval x=.slice none 0 0/\m=0/\b = [])\/∃g o' c,a.eval x=.slice (some (Ja g o')) m c/\b.length=m*2/\(∀u∈b,u.oneCell'=true)/\∀(j:Nat) (u:Value),b[j]?=some u->w0.cell? (Ja g (o'+j))=some u) (z:0<n) (y:n+m<=1000000) (p:b0<=w0.heap.size)
  (h:∀g d w',w'.ownsRow b0 67 2 (Jl g (n+m) d) (n+m) (xs++b)->w0.grownBy w' (some i)->K (a.put o.dst (Jl g (n+m) d)) w') :
  if Region.wanted o (yielded k a.tmps)=true then Oper.wp prog o a w0 K Q else E:=by
 have t:Region.wanted o (yielded k a.tmps)=true:=by simp[Region.wanted,l]
 rw[JK t];obtain⟨i0,hi,hz0,hz1,hz2⟩:=info_parts QgE;rcases hx with⟨hx,rfl,rfl⟩|⟨g,o',c,hx,hnl,h1c,hnc⟩
 ·have v:=run_append_owned_none (P:=prog) (w:=w0) b0 29 o.type 67 i0 2 underlying29 hi (Jl i n d) n xs f
  unfold Oper.wp;simp[execOp,q,resolve,invoke,builtin,r,hx,v,Result.andThen];have:=h i d w0 (by rw[qT];exact f) ⟨rfl,rfl,rfl,qC _,fun _ _ _=>rfl⟩
  exact this
 ·obtain⟨v',w',h1,h2,h3,-⟩:=run_append_own (P:=prog) w0 b0 29 o.type 67 i0 _ 2 24 underlying29 hi hz0 hz1 hz2 rfl (by decide) (Jl i n d) n xs f (Ja g o') m c b hnl (fun j u hj=>by rw[QiJ];exact hnc j u hj) h1c (by unfold maxLen;omega) (by omega) p
  obtain⟨j,hj⟩:∃j,n+m=j+1:=⟨n+m-1,by omega⟩
  rw[hj] at h2;obtain⟨g',cap',rfl⟩:=ownsRow_succ h2;rw[<-hj] at h2 h1;unfold Oper.wp;simp[execOp,q,resolve,invoke,builtin,r,hx,h1,Result.andThen];exact h g' cap' w' h2 h3
theorem Qfu:(prog.info? 64).map (fun i=>(i.zero,i.size,i.bytes))=some (some (.agg #[Ju 0,Jt ⟨#[]⟩]),2,24):=by kernel_rfl
theorem QoF{a b:Nat}(h:¬a=b):((a:Int)==(b:Int))=false:=by
 rw[qI];omega
theorem QAW{a b:Nat}(h:¬a=b):((a:Int) != (b:Int))=true:=by
 rw[bne_iff_ne];omega
theorem QqX{w:World}{v:Value}{L:List Itm}(h:HoldsR 2 w v L.length (QaZ L))(k:Nat)(a:k<L.length):∃b o c,v=.slice (some (Ja b o)) L.length c/\b<w.heap.size/\w.cell? (Ja b (o+k*2))=some (Ju L[k].1)/\w.cell? (Ja b (o+k*2+1))=some (Jt L[k].2):=by
 obtain⟨b,o,c,h1,-,h3,h4⟩:=h.at (by omega)
 obtain⟨x,y⟩:=Qe9 L k a;exact⟨b,o,c,h1,h3,h4 _ _ x,h4 _ _ y⟩
def QAD(w:World)(e:Ending)(w':World):Prop:=(∃s b,e=.returned (.tuple #[Jt s,.bool b]))/\w'=w
theorem Qu7(v:Value)(L:List Itm)(i:Nat)(w:World)(d:HoldsR 2 w v L.length (QaZ L))(m:L.length<=1000000) :
  Calls prog 50 #[v,Ju i] w (QAD w):=by
 obtain⟨a,c,rfl,-⟩:=d.len;have j:=Z (fun k hk=>QqX d k hk)
 clear d;go_enter func50,ntmps50;go_wp2_with fail;go_loopw [6] (fun u wr=>∃k:Nat,k<=L.length/\u = Ji k/\wr=w) (fun u _=>L.length-(intOf u).toNat)
 case atStart=>exact⟨0,qL _,rfl,rfl⟩
 case round=>
  obtain⟨k,hk,rfl,hw⟩:=hrel;obtain rfl:=hw.symm;clear hw
  by_cases f:k<L.length
  ·obtain⟨b,o,c',d,hbl,c0,c1⟩:=j.o k f
   injection d with q1 q2 q3
   subst q1;generalize L[k]=X at c0 c1;obtain⟨h,xt⟩:=X;clear j hbl q2 q3
   by_cases g:h=i
   ·have l:((h:Int)==(i:Int))=true:=by simp[g]
    subst g;go_wp2;go_ret2;exact⟨⟨_,_,rfl⟩,rfl⟩
   ·have l:=QoF g
    go_wp2_with fail;go_roundw
    case rel=>exact⟨k+1,by omega,by go_num,by simp⟩
    case measure=>simp[intOf];omega
  ·obtain rfl:k=L.length:=by omega
   go_wp2;go_ret2;exact⟨⟨_,_,rfl⟩,rfl⟩
def QAE(L:List Itm)(w:World)(e:Ending)(w':World):Prop:=∃u,e=.returned u/\(∃L':List Itm,L'.length<=L.length/\w'.ownsRow w.heap.size 64 2 u L'.length (QaZ L'))/\Jw w w'
theorem Qu8(v:Value)(L:List Itm)(i:Nat)(w:World)(d:HoldsR 2 w v L.length (QaZ L))(y:L.length<=1000000) :
  Calls prog 51 #[v,Ju i] w (QAE L w):=by
 obtain⟨a,c,hve,-⟩:=d.len;subst hve;have t:=Z (fun (W:World) (g:Jw w W) k hk=>QqX (d.below g) k hk)
 clear d;go_enter func51,ntmps51;go_wp2_with fail;go_loopw [5,6] (fun u j wr=>∃k:Nat,k<=L.length/\j = Ji k/\Hi ((∃L':List Itm,L'.length<=k/\wr.ownsRow w.heap.size 64 2 u L'.length (QaZ L'))/\Jw w wr)) (fun _ j _=>L.length-(intOf j).toNat)
 case atStart=>exact⟨0,qL _,rfl,Z ⟨⟨[],qC _,JZ _ _ _ _⟩,qF _ _⟩⟩
 case round=>
  obtain⟨k,hk,rfl,HS⟩:=hrel
  by_cases l:k<L.length
  ·obtain⟨b,o,c',d,hbl,c0,c1⟩:=t.o wr HS.o.2 k l
   injection d with q1 q2 q3
   subst q1;generalize L[k]=X at c0 c1;obtain⟨h,xt⟩:=X;clear hbl q2 q3
   by_cases n:h=i
   ·have q:((h:Int) != (i:Int))=false:=by simp[n]
    subst n;go_wp2_with fail;go_roundw
    case rel=>exact⟨k+1,by omega,by go_num,Z ⟨(let ⟨L',h1,h2⟩:=HS.o.1;⟨L',Nat.le_succ_of_le h1,h2⟩),HS.o.2⟩⟩
    case measure=>simp[intOf];omega
   ·have q:=QAW n
    obtain⟨L',hl',QE2⟩:=HS.o.1;have g:=HS.o.2;have f:=g.size;go_wp2_with (at_builtin;go_loud (refine Qdd 22 64 _ 2 24 underlying22 Qfu rfl (by decide) (by decide) wr [Ju h,Jt xt] rfl (by simp[Value.oneCell']) (by rfl) _ _ (by rfl) w.heap.size _ L'.length _ (by rfl) QE2 (by rfl) (by omega) f ?_);intro z s x p m r)
    go_roundw
    case rel=>exact⟨k+1,by omega,by go_num,Z ⟨⟨L'++[(h,xt)],by rw[qG];exact Nat.succ_le_succ hl',by rw[Qfa,qG];exact p⟩,Qbu g m QE2 (qC _) f⟩⟩
    case measure=>simp[intOf];omega
  ·obtain rfl:k=L.length:=by omega
   go_wp2;go_ret;exact⟨_,rfl,HS.o.1,HS.o.2⟩
theorem appS{l:Array Oper}{f:List Oper}{o:Oper}{a:Act}{Q:Exit->Act->World->Prop}(t e:JT)(z:Value)(k b:Nat)(B:prog.underlying t=some (.slice e))(q:(prog.info? e).map (fun i=>(i.zero,i.size,i.bytes))=some (some z,k,b))(I:z.cells.size=k)(D:0<k)(H:b<=64)
  (w0:World) (p:o.guard=none) (s x:Operand) (A:o.op=.call { callee:=.builtin .append,args:=#[s,x],argTypes:=#[t,t] })
  (base:Nat) (v:Value) (n:Nat) (xs:JV) (C:a.eval s=v) (g:w0.ownsRow base e k v n xs) (m:Nat) (d:JV)
  (hx:(a.eval x=.slice none 0 0/\m=0/\d = [])\/∃ad c,a.eval x=.slice (some ad) m c/\d.length=m*k/\(∀u∈d,u.oneCell'=true)/\∀(j:Nat) (u:Value),d[j]?=some u->w0.cell? (ad.add j)=some u) (r:n+m<=1000000) (y:base<=w0.heap.size)
  (h:∀v' w',w'.ownsRow base e k v' (n+m) (xs++d)->w0.grownBy w' v.ownBlock->wpList prog l Q f (a.put o.dst v') w') :
  wpList prog l Q (o :: f) a w0:=by
 obtain⟨i0,hi,hz0,hz1,hz2⟩:=info_parts q;have E:(n+m)*b<=1000000*64:=Nat.mul_le_mul r H;refine wpList_plain p fun _ hK=>?_
 rcases hx with⟨hx,rfl,rfl⟩|⟨ad,c,hx,hnl,h1c,hnc⟩
 ·have G:=run_append_owned_none (P:=prog) (w:=w0) base t o.type e i0 k B hi v n xs g
  unfold Oper.wp;simp[execOp,A,resolve,invoke,builtin,C,hx,G,Result.andThen];exact hK _ _ (h v w0 (by rw[qT];exact g) ⟨rfl,rfl,rfl,qC _,fun _ _ _=>rfl⟩)
 ·obtain⟨v',w',h1,h2,h3,-⟩:=run_append_own (P:=prog) w0 base t o.type e i0 z k b B hi hz0 hz1 hz2 I D v n xs g ad m c d hnl hnc h1c (by unfold maxLen;omega) (by omega) y
  unfold Oper.wp;simp[execOp,A,resolve,invoke,builtin,C,hx,h1,Result.andThen];exact hK _ _ (h v' w' h2 h3)
theorem QEk{f:Array Oper}{d:List Oper}{o:Oper}{a:Act}{Q:Exit->Act->World->Prop}(w0:World)(g:o.guard=none)(s x:Operand)(p:o.op=.call { callee:=.builtin .append,args:=#[s,x],argTypes:=#[22,22] })
  (base:Nat) (v:Value) (n:Nat) (xs:JV) (q:a.eval s=v) (l:w0.ownsRow base 64 2 v n xs) (m:Nat) (b:JV)
  (hx:(a.eval x=.slice none 0 0/\m=0/\b = [])\/∃ad c,a.eval x=.slice (some ad) m c/\b.length=m*2/\(∀u∈b,u.oneCell'=true)/\∀(j:Nat) (u:Value),b[j]?=some u->w0.cell? (ad.add j)=some u) (i:n+m<=1000000) (k:base<=w0.heap.size)
  (h:∀v' w',w'.ownsRow base 64 2 v' (n+m) (xs++b)->w0.grownBy w' v.ownBlock->wpList prog f Q d (a.put o.dst v') w') :
  wpList prog f Q (o :: d) a w0:=
 appS 22 64 _ 2 24 underlying22 Qfu rfl (by decide) (by decide) w0 g s x p base v n xs q l m b hx i k h
def Qr6(v:Value)(L:List Itm)(w:World)(e:Ending)(w':World):Prop:=∃u n,e=.returned (.tuple #[u,Ji n])/\(∃L':List Itm,L'.length<=L.length+1/\HoldsR 2 w' u L'.length (QaZ L'))/\Jw w w'/\∀b,QBr u=some b->QBr v=some b\/w.heap.size<=b
theorem Qvi{L':List Itm}{k m i n:Nat}{v:Value}{t:JA}{w f d:World}{p:Value}{x:Int}(r:k<=m)(q:L'.length=m)(s:m<=n)(j:d.ownsRow f.heap.size 64 2 p (k+1+(m-k)) (QaZ (L'.take k)++[Ju i,Jt t]++QaZ (L'.drop k)))(c:Jw w f)(h:Jw f d) :
  ∃u y,Ending.returned (.tuple #[p,Ji x])=.returned (.tuple #[u,Ji y])/\(∃M:List Itm,M.length<=n+1/\HoldsR 2 d u M.length (QaZ M))/\Jw w d/\∀b,QBr u=some b->QBr v=some b\/w.heap.size<=b:=by
 subst q;have a:=Ql8 L' k false i t (by simpa using r)
 have l:=QkX L' k false i t;simp only[Bool.toNat_false,qM] at a l;refine⟨_,_,rfl,⟨Qvl L' k false i t,by rw[a];omega,?_⟩,Qaa c h,fun b hb=>.inr ?_⟩
 ·rw[a,l]
  exact HoldsR.of_own j
 ·rcases j.2 with⟨rfl,-⟩|⟨g,cap,cur,rfl,hg,-⟩
  ·cases hb
  ·obtain rfl:g=b:=qS hb
   exact qD c.size hg
theorem QeH(g i:Nat):((Ja g 0):Addr).add i=(Ja g i):=by
 unfold Addr.add;split<;>simp_all
theorem QAs(g o i:Nat):((Ja g o):Addr).add i=(Ja g (o+i)):=by
 unfold Addr.add;split<;>simp_all
theorem Qu6(v:Value)(L:List Itm)(i:Nat)(t:JA)(w:World)(V:HoldsR 2 w v L.length (QaZ L))(hL:L.length<=1000) :
  Calls prog 17 #[v,Ju i,Jt t] w (Qr6 v L w):=by
 obtain⟨a,c,hve,-⟩:=V.len;subst hve;have HV:=Z V;have HG:=Z (Qu7 _ L i w V (by omega))
 have HD:=Z (Qu8 _ L i w V (by omega))
 obtain⟨n,hln⟩:∃n,L.length=n:=⟨_,rfl⟩;have d:=Z hln;rw[hln] at HG HD hL ⊢;clear V hln;have tl:decide ((n:Int)>=2048)=false:=qB (by omega)
 by_cases h1:6004799503160661<=i
 ·have t1:decide ((i:Int)>=6004799503160661)=true:=qA (by omega)
  clear h1;go_enter func17,ntmps17;go_wp2;go_ret2;exact⟨_,_,rfl,⟨L,Nat.le_succ _,by rw[d.o];have:=HV.o;rwa[d.o] at this⟩,qF _ _,fun b hb=>.inl hb⟩
 have t1:decide ((i:Int)>=6004799503160661)=false:=qB (by omega)
 clear h1
 by_cases h2:t.size=0
 ·have t2:((t.size:Int)==0)=true:=by simp[h2]
  clear h2;go_enter func17,ntmps17;go_wp2;go_ret2;exact⟨_,_,rfl,⟨L,Nat.le_succ _,by rw[d.o];have:=HV.o;rwa[d.o] at this⟩,qF _ _,fun b hb=>.inl hb⟩
 have t2:((t.size:Int)==0)=false:=QoF (b:=0) h2;clear h2
 by_cases h3:65536<t.size
 ·have t3:decide ((t.size:Int)>65536)=true:=qA (by omega)
  clear h3;go_enter func17,ntmps17;go_wp2;go_ret2;exact⟨_,_,rfl,⟨L,Nat.le_succ _,by rw[d.o];have:=HV.o;rwa[d.o] at this⟩,qF _ _,fun b hb=>.inl hb⟩
 have t3:decide ((t.size:Int)>65536)=false:=qB (by omega)
 clear h3;go_enter func17,ntmps17;go_wp2_with fail;refine HG.o.mono ?_;rintro e w1 ⟨⟨s,b,rfl⟩,J⟩;obtain rfl:=J.symm;clear J;cases b
 all_goals
  go_wp2_with fail;refine HD.o.mono ?_;rintro e f ⟨u,rfl,⟨L',U,y⟩,H⟩;obtain⟨m,hlm⟩:∃m,L'.length=m:=⟨_,rfl⟩;have l:=Z hlm;rw[hlm,d.o] at U;rw[hlm] at y;have HO:=Z y;have HB:=Z H;have qe:=H.size;rcases y.2 with⟨rfl,h0⟩|⟨g,cap,cur,rfl,-,hg,hle,-⟩
  ·subst h0
   clear y H hlm;go_wp2_with fail;go_loopw [11] (fun j wr=>j = Ji 0/\wr=f) (fun _ _=>0)
   case atStart=>exact⟨rfl,rfl⟩
   case round=>
    obtain⟨rfl,J⟩:=hrel;obtain rfl:=J.symm;clear J;go_wp2_with (first
      |(at_builtin;go_loud (refine QEk S (by rfl) _ _ (by rfl) f.heap.size _ ((0+0)+1) _ (by rfl) B 0 [] (.inl ⟨by rfl,rfl,rfl⟩) (by omega) A ?_);intro v5 w5 K N;have O:=Qbu I N B (qC _) A)
      |(at_builtin;go_loud (refine Qdd 22 64 _ 2 24 underlying22 Qfu rfl (by decide) (by decide) w3 [Ju i,Jt t] rfl (by simp[Value.oneCell']) (by rfl) _ _ (by rfl) f.heap.size _ (0+0) _ (by rfl) z (by rfl) (by omega) r ?_);intro g4 T S B C qa;have A:f.heap.size<=S.heap.size:=qD r C.size;have I:=Qbu R C z (qC _) r)
      |(at_builtin;go_loud (refine QEk f (by rfl) _ _ (by rfl) f.heap.size _ 0 _ (by rfl) (JZ _ _ _ _) 0 [] (.inl ⟨by rfl,rfl,rfl⟩) (by omega) (qC _) ?_);intro v3 w3 z D;have r:=D.size;have R:=Qbu (base:=f.heap.size) (e:=64) (size:=2) (n:=0) (xs:=[]) (qF _ _) D (JZ _ _ _ _) (qC _) (qC _)))
    go_ret2;exact Qvi (L':=[]) (m:=0) (qL _) rfl (by rw[d.o];omega) K HB.o O
  ·have qc:g<f.heap.size:=(gsi hg).1
   have Qak:∀(j:Nat) (x:Value),(QaZ L')[j]?=some x->f.cell? (Ja g j)=some x:=fun j x hx=>by
    have:=y.cells (g:=g) rfl j x hx
    rwa[QeH] at this
   have G:=Z Qak;clear y H hlm hg Qak;go_wp2_with fail;go_loopw [11] (fun j wr=>∃k:Nat,k<=m/\j = Ji k/\wr=f) (fun j _=>m-(intOf j).toNat)
   case atStart=>exact⟨0,qL _,rfl,rfl⟩
   case round=>
    obtain⟨k,hk,rfl,J⟩:=hrel;obtain rfl:=J.symm;clear J
    by_cases M:∃h:k<L'.length,L'[k].1<i
    ·obtain⟨q,hlt⟩:=M
     obtain⟨c00,-⟩:=Qe9 L' k q;have c0:=G.o _ _ c00;have qb:k+1<=m:=by rw[<-l.o];omega
     clear c00;have tk:decide ((k:Int)<(m:Int))=true:=qA (by rw[<-l.o];omega)
     generalize L'[k].1=x at c0 hlt;have tx:decide ((x:Int)<(i:Int))=true:=qA (by omega)
     clear q;go_wp2_with fail;go_roundw
     case rel=>exact⟨k+1,qb,by go_num,by simp⟩
     case measure=>simp[intOf];omega
    ·have X:Hi ((k<m/\∃x:Nat,f.cell? (Ja g (k*2))=some (Ju x)/\¬x<i)\/¬k<m):=Z (by
      by_cases q:k<L'.length
      ·obtain⟨c00,-⟩:=Qe9 L' k q
       exact .inl ⟨by rw[<-l.o];exact q,_,G.o _ _ c00,fun h=>M ⟨q,h⟩⟩
      ·exact .inr (by rw[<-l.o];exact q))
     have Y:Hi ((QaZ (L'.take k)).length=k*2/\∀(j:Nat) (u:Value),(QaZ (L'.take k))[j]?=some u->f.cell? (((Ja g 0):Addr).add j)=some u):=Z ⟨by rw[Qb8,qW,l.o,Nat.min_eq_left hk],fun j u hj=>by
      rw[QeH];rw[Qlb,List.getElem?_take] at hj;split at hj
      ·exact G.o _ _ hj
      ·cases hj⟩
     have E:Hi (∃ad:Addr,ad=(if cap=k then (Ja g 0) else (Ja g (k*2)))/\(QaZ (L'.drop k)).length=(m-k)*2/\∀W,Jw f W->∀(j:Nat) (u:Value),(QaZ (L'.drop k))[j]?=some u->W.cell? (ad.add j)=some u):=Z ⟨_,rfl,by rw[Qb8,JC,l.o],fun W hW j u hj=>by
      split
      ·next P=>
       rw[List.drop_eq_nil_of_le (by rw[l.o];omega)] at hj
       cases hj
      ·rw[QAs]
       rw[Qlc,List.getElem?_drop] at hj;exact (hW.cell (p:=(Ja g (k*2+j))) qc).trans (G.o _ _ hj)⟩
     have qd:k<=cap:=qD hk hle;rcases X.o with⟨tk,x,c0,hxi⟩|tk
     all_goals
      clear X M;obtain⟨ad,had,d1,d2⟩:=E.o;have E:=Z (qE d1 d2)
      by_cases P:cap=k
      all_goals
       first
       |(exfalso;omega)
       |(first|rw[JK P] at had|rw[JJ P] at had
         subst had;clear d1 d2;go_wp2_with (first
         |(at_builtin;go_loud (refine QEk S (by rfl) _ _ (by rfl) f.heap.size _ (k+1) _ (by rfl) B (m-k) (QaZ (L'.drop k)) (.inr ⟨_,_,by rfl,E.o.1,QjG _,E.o.2 _ I⟩) (by omega) A ?_);intro v5 w5 K N;have O:=Qbu I N B (qC _) A)
         |(at_builtin;go_loud (refine Qdd 22 64 _ 2 24 underlying22 Qfu rfl (by decide) (by decide) w3 [Ju i,Jt t] rfl (by simp[Value.oneCell']) (by rfl) _ _ (by rfl) f.heap.size _ (k) _ (by rfl) z (by rfl) (by omega) r ?_);intro g4 T S B C qa;have A:f.heap.size<=S.heap.size:=qD r C.size;have I:=Qbu R C z (qC _) r)
         |(at_builtin;go_loud (refine QEk f (by rfl) _ _ (by rfl) f.heap.size _ 0 _ (by rfl) (JZ _ _ _ _) k (QaZ (L'.take k)) (.inr ⟨(Ja g 0),_,by rfl,Y.o.1,QjG _,Y.o.2⟩) (by omega) (qC _) ?_);intro v3 w3 z D;rw[Nat.zero_add,J3] at z;have r:=D.size;have R:=Qbu (base:=f.heap.size) (e:=64) (size:=2) (n:=0) (xs:=[]) (qF _ _) D (JZ _ _ _ _) (qC _) (qC _)))
         go_ret2;exact Qvi hk l.o (by rw[d.o];exact U) K HB.o O)
theorem Qzk(a c b d:Nat):(∀w,(Instr.index 176 (.agg #[Ju a,Ju c,Ju b,Ju d]) (Ji 0)).run prog w=.ok (Ju a) w)/\(∀w,(Instr.index 176 (.agg #[Ju a,Ju c,Ju b,Ju d]) (Ji 1)).run prog w=.ok (Ju c) w)/\(∀w,(Instr.index 176 (.agg #[Ju a,Ju c,Ju b,Ju d]) (Ji 2)).run prog w=.ok (Ju b) w)/\(∀w,(Instr.index 176 (.agg #[Ju a,Ju c,Ju b,Ju d]) (Ji 3)).run prog w=.ok (Ju d) w):=
 ⟨fun _=>by kernel_rfl,fun _=>by kernel_rfl,fun _=>by kernel_rfl,fun _=>by kernel_rfl⟩
def QkV(n0 n1 n2 n3 a0 a1 a2 a3:Nat):Nat->JW
 |0=>#[Ju 0,Ju 0,Ju 0,Ju 0,Ju 0,Ju 0,Ju 0,Ju 0]
 |1=>#[Ju a0,Ju n0,Ju 0,Ju 0,Ju 0,Ju 0,Ju 0,Ju 0]
 |2=>#[Ju a0,Ju n0,Ju a1,Ju n1,Ju 0,Ju 0,Ju 0,Ju 0]
 |3=>#[Ju a0,Ju n0,Ju a1,Ju n1,Ju a2,Ju n2,Ju 0,Ju 0]
 |_=>#[Ju a0,Ju n0,Ju a1,Ju n1,Ju a2,Ju n2,Ju a3,Ju n3]
def Qjb(a0 a1 a2 a3 a4:Nat):Nat->Nat
 |0=>a0
 |1=>a1
 |2=>a2
 |3=>a3
 |_=>a4
def QD9(n0 n1 n2 n3 a0 a1 a2 a3 a4 B5:Nat)(Zq:JW)(w:World)(k:Nat)(u6:Value)(wr:World):Prop:=u6 = Ju (Qjb a0 a1 a2 a3 a4 k:Nat)/\wr.heap[B5]?=some (.cells (QkV n0 n1 n2 n3 a0 a1 a2 a3 k) 95 (0,0))/\wr.heap[w.heap.size+1]?=some (.cells Zq 95 (0,0))/\Jw w wr
theorem Qiq{w wr:World}{B a:Nat}{cs cs' c:JW}{T f:JT}(h:wr.heap[B]?=some (.cells cs T (0,0)))(g:wr.heap[a]?=some (.cells c f (0,0)))(k:Jw w wr)(b:w.heap.size<=B)(d:a≠B)(i j:Nat)(u v:Value)(l:(cs.set! i u).set! j v=cs') :
  ((wr.setCell (Ja B i) u).setCell (Ja B j) v).heap[B]?=some (.cells cs' T (0,0))/\((wr.setCell (Ja B i) u).setCell (Ja B j) v).heap[a]?=some (.cells c f (0,0))/\Jw w ((wr.setCell (Ja B i) u).setCell (Ja B j) v):=by
 subst l;exact⟨Qaz (Qaz h i u) j v,(JO _ _ _ _ (show a≠((Ja B j):Addr).block from d)).trans ((JO _ _ _ _ (show a≠((Ja B i):Addr).block from d)).trans g),(k.setCell (p:=(Ja B i)) b u).setCell (p:=(Ja B j)) b v⟩
theorem QjD(h i j g d b c a l:Nat)(w:World)(r:d=127)(x:b=d+h)(n:c=b+i)(z:a=c+j)(v:l=a+g)(B:l<=1099511627776) :
  Calls prog 68 #[.agg #[Ju h,Ju i,Ju j,Ju g]] w (JB (.tuple #[.agg (QkV h i j g d b c a 4),Ju l,Ji 0]) w):=by
 obtain⟨j0,j1,j2,j3⟩:=Qzk h i j g;obtain⟨W,hW⟩:∃W,((w.alloc (.cells #[Ju h,Ju i,Ju j,Ju g] 176)).alloc (.cells #[Ju 0,Ju 0,Ju 0,Ju 0,Ju 0,Ju 0,Ju 0,Ju 0] 95)).alloc (.cells #[Ju 0,Ju 0,Ju 0,Ju 0,Ju 0,Ju 0,Ju 0,Ju 0] 95)=W:=⟨_,rfl⟩;have E:Jw w W:=by rw[<-hW];exact (((qF _ _).alloc (qC _) _).alloc (by simp) _).alloc (by simp;omega) _
 have t:W.heap[w.heap.size]?=some (.cells #[Ju h,Ju i,Ju j,Ju g] 176 (0,0)):=by
  rw[<-hW];exact (JQ _ _ _ (by rw[qJ,qJ];omega)).trans ((JQ _ _ _ (by rw[qJ];omega)).trans (JI w _))
 have D:W.heap[w.heap.size+1]?=some (.cells #[Ju 0,Ju 0,Ju 0,Ju 0,Ju 0,Ju 0,Ju 0,Ju 0] 95 (0,0)):=by
  have:=JI (w.alloc (.cells #[Ju h,Ju i,Ju j,Ju g] 176)) (.cells #[Ju 0,Ju 0,Ju 0,Ju 0,Ju 0,Ju 0,Ju 0,Ju 0] 95);rw[qJ] at this;rw[<-hW];exact (JQ _ _ _ (by rw[qJ,qJ];omega)).trans this
 have y:W.heap[w.heap.size+1+1]?=some (.cells #[Ju 0,Ju 0,Ju 0,Ju 0,Ju 0,Ju 0,Ju 0,Ju 0] 95 (0,0)):=by
  have:=JI ((w.alloc (.cells #[Ju h,Ju i,Ju j,Ju g] 176)).alloc (.cells #[Ju 0,Ju 0,Ju 0,Ju 0,Ju 0,Ju 0,Ju 0,Ju 0] 95)) (.cells #[Ju 0,Ju 0,Ju 0,Ju 0,Ju 0,Ju 0,Ju 0,Ju 0] 95);rw[qJ,qJ] at this;rw[<-hW];exact this
 obtain⟨⟨c0,c1,c2,c3⟩,-⟩:=QaC t;have H:Hi (QD9 h i j g d b c a l (w.heap.size+1+1) #[Ju 0,Ju 0,Ju 0,Ju 0,Ju 0,Ju 0,Ju 0,Ju 0] w 0 (Ju 127) W):=Z ⟨by rw[show Qjb d b c a l 0=d from rfl,r];rfl,y,D,E⟩
 have HA:=Z (qE r (qE x (qE n (qE z (qE v B)))));clear t D y E r x n z v B;go_enter func68,ntmps68;go_wp2_with fail;go_loopw [6,10] (fun u6 u10 wr=>Hi (∃k:Nat,k<=4/\u10 = Ji k/\QD9 h i j g d b c a l (w.heap.size+1+1) #[Ju 0,Ju 0,Ju 0,Ju 0,Ju 0,Ju 0,Ju 0,Ju 0] w k u6 wr)) (fun _ u10 _=>4-(intOf u10).toNat)
 case atStart=>exact Z ⟨0,by decide,rfl,H.o⟩
 case round=>
  obtain⟨k,hk,rfl,rfl,f,n,hb⟩:=hrel.o;clear hrel;obtain⟨g0,g1,g2,g3,g4,g5⟩:=HA.o;rcases (by omega:k=0\/k=1\/k=2\/k=3\/k=4) with rfl|rfl|rfl|rfl|rfl
  ·have f:=f
   rw[show Qjb d b c a l 0=d from rfl];obtain⟨x0,f0⟩:=Qak f 0 (Ju 0) rfl;obtain⟨x1,f1⟩:=Qak f 1 (Ju 0) rfl;have m:=Z (Qiq (cs':=QkV h i j g d b c a 1) f n hb (by omega) (by omega) 0 1 (Ju d) (Ju h) rfl)
   have q:d+h<=1099511627776:=by omega
   have s:decide ((1099511627776:Int)-(d:Int)<(h:Int))=false:=qB (by omega)
   have p:=Z (show b=d+h by omega)
   clear f n hb c0 c1 c2 c3 g0 g1 g2 g3 g4 g5;go_wp2_with fail;refine⟨Z ⟨1,by decide,by go_num,?_,m.o.1,m.o.2.1,m.o.2.2⟩,?_⟩
   ·rw[show Qjb d b c a l 1=b from rfl,p.o];first|rfl|go_num
   ·simp[intOf]
  ·have f:=f
   rw[show Qjb d b c a l 1=b from rfl];obtain⟨x0,f0⟩:=Qak f 2 (Ju 0) rfl;obtain⟨x1,f1⟩:=Qak f 3 (Ju 0) rfl;have m:=Z (Qiq (cs':=QkV h i j g d b c a 2) f n hb (by omega) (by omega) 2 3 (Ju b) (Ju i) rfl)
   have q:b+i<=1099511627776:=by omega
   have s:decide ((1099511627776:Int)-(b:Int)<(i:Int))=false:=qB (by omega)
   have p:=Z (show c=b+i by omega)
   clear f n hb c0 c1 c2 c3 g0 g1 g2 g3 g4 g5;go_wp2_with fail;refine⟨Z ⟨2,by decide,by go_num,?_,m.o.1,m.o.2.1,m.o.2.2⟩,?_⟩
   ·rw[show Qjb d b c a l 2=c from rfl,p.o];first|rfl|go_num
   ·simp[intOf]
  ·have f:=f
   rw[show Qjb d b c a l 2=c from rfl];obtain⟨x0,f0⟩:=Qak f 4 (Ju 0) rfl;obtain⟨x1,f1⟩:=Qak f 5 (Ju 0) rfl;have m:=Z (Qiq (cs':=QkV h i j g d b c a 3) f n hb (by omega) (by omega) 4 5 (Ju c) (Ju j) rfl)
   have q:c+j<=1099511627776:=by omega
   have s:decide ((1099511627776:Int)-(c:Int)<(j:Int))=false:=qB (by omega)
   have p:=Z (show a=c+j by omega)
   clear f n hb c0 c1 c2 c3 g0 g1 g2 g3 g4 g5;go_wp2_with fail;refine⟨Z ⟨3,by decide,by go_num,?_,m.o.1,m.o.2.1,m.o.2.2⟩,?_⟩
   ·rw[show Qjb d b c a l 3=a from rfl,p.o];first|rfl|go_num
   ·simp[intOf]
  ·have f:=f
   rw[show Qjb d b c a l 3=a from rfl];obtain⟨x0,f0⟩:=Qak f 6 (Ju 0) rfl;obtain⟨x1,f1⟩:=Qak f 7 (Ju 0) rfl;have m:=Z (Qiq (cs':=QkV h i j g d b c a 4) f n hb (by omega) (by omega) 6 7 (Ju a) (Ju g) rfl)
   have q:a+g<=1099511627776:=by omega
   have s:decide ((1099511627776:Int)-(a:Int)<(g:Int))=false:=qB (by omega)
   have p:=Z (show l=a+g by omega)
   clear f n hb c0 c1 c2 c3 g0 g1 g2 g3 g4 g5;go_wp2_with fail;refine⟨Z ⟨4,by decide,by go_num,?_,m.o.1,m.o.2.1,m.o.2.2⟩,?_⟩
   ·rw[show Qjb d b c a l 4=l from rfl,p.o];first|rfl|go_num
   ·simp[intOf]
  ·have m:=Z (show wr.heap[w.heap.size+1+1]?=some (.cells #[Ju d,Ju h,Ju b,Ju i,Ju c,Ju j,Ju a,Ju g] 95 (0,0)) from f)
   have C:=Z n;have G:=Z hb;clear f n hb c0 c1 c2 c3 g0 g1 g2 g3 g4 g5;rw[show Qjb d b c a l 4=l from rfl];go_wp2_with (first|(refine wpList_load_row rfl 95 (.tmp 5) rfl (w.heap.size+1+1) rfl 95 #[Ju d,Ju h,Ju b,Ju i,Ju c,Ju j,Ju a,Ju g] (0,0) _ m.o underlying95 rfl (by kernel_rfl) ?_)|(refine wpList_store_row rfl 95 (.tmp 2) (.tmp 28) rfl (w.heap.size+1) #[Ju d,Ju h,Ju b,Ju i,Ju c,Ju j,Ju a,Ju g] rfl rfl 95 #[Ju 0,Ju 0,Ju 0,Ju 0,Ju 0,Ju 0,Ju 0,Ju 0] C.o (by kernel_rfl) rfl (by simp[Value.oneCell']) ?_))
   refine QaW (A:=(Ja (w.heap.size+1) 0)) rfl (QnR _ _ _ _ _ _ _ _ _ _ _ (setRow_heap _ _ _ _ _ _ C.o)) rfl rfl rfl rfl ?_;exact⟨rfl,Qba G.o (by omega) _⟩
def QiN(h:Hdr)(s0 t0 s1 t1 s2 t2 s3 t3:Nat):Hdr:={ h with rf:=s0,rl:=t0,mf:=s1,ml:=t1,lf:=s2,ll:=t2,df:=s3,dl:=t3 }
theorem QrI{w:World}{b:Nat}{a f i g c j d h:Value}{t:JT}(k:w.heap[b]?=some (.cells #[a,f,i,g,c,j,d,h] t (0,0))):w.cell? (Ja b 0)=some a/\w.cell? (Ja b 1)=some f/\w.cell? (Ja b 2)=some i/\w.cell? (Ja b 3)=some g/\w.cell? (Ja b 4)=some c/\w.cell? (Ja b 5)=some j/\w.cell? (Ja b 6)=some d/\w.cell? (Ja b 7)=some h:=by
 refine⟨?_,?_,?_,?_,?_,?_,?_,?_⟩<;>(unfold World.cell?;rw[k];rfl)
theorem Qal{w:World}{b k:Nat}(h:k≠b)(i:Nat)(v:Value):(w.setCell (Ja b i) v).heap[k]?=w.heap[k]?:=JO _ _ _ _ h
theorem set8{B:Nat}{w W:World}{b z:Nat}{cs A cs':JW}{T C:JT}(k:W.heap[b]?=some (.cells cs T (0,0)))(D:W.heap[z]?=some (.cells A C (0,0)))(c:z≠b)(E:Below B w W)(a:B<=b){m v g n q h t i:Nat}{x j r d s y f l:Value}(G:((((((((cs.set! m x).set! v j).set! g r).set! n d).set! q s).set! h y).set! t f).set! i l)=cs') :
  ((((((((W.setCell (Ja b m) x).setCell (Ja b v) j).setCell (Ja b g) r).setCell (Ja b n) d).setCell (Ja b q) s).setCell (Ja b h) y).setCell (Ja b t) f).setCell (Ja b i) l).heap[b]?=some (.cells cs' T (0,0))/\((((((((W.setCell (Ja b m) x).setCell (Ja b v) j).setCell (Ja b g) r).setCell (Ja b n) d).setCell (Ja b q) s).setCell (Ja b h) y).setCell (Ja b t) f).setCell (Ja b i) l).heap[z]?=some (.cells A C (0,0))/\Below B w ((((((((W.setCell (Ja b m) x).setCell (Ja b v) j).setCell (Ja b g) r).setCell (Ja b n) d).setCell (Ja b q) s).setCell (Ja b h) y).setCell (Ja b t) f).setCell (Ja b i) l):=by
 subst G;exact⟨(Qaz (Qaz (Qaz (Qaz (Qaz (Qaz (Qaz (Qaz k m x) v j) g r) n d) q s) h y) t f) i l),((Qal c i l).trans ((Qal c t f).trans ((Qal c h y).trans ((Qal c q s).trans ((Qal c n d).trans ((Qal c g r).trans ((Qal c v j).trans ((Qal c m x).trans D)))))))),(Below.setCell (p:=(Ja b i)) (Below.setCell (p:=(Ja b t)) (Below.setCell (p:=(Ja b h)) (Below.setCell (p:=(Ja b q)) (Below.setCell (p:=(Ja b n)) (Below.setCell (p:=(Ja b g)) (Below.setCell (p:=(Ja b v)) (Below.setCell (p:=(Ja b m)) E a x) a j) a r) a d) a s) a y) a f) a l)⟩
theorem QES{B b a:Nat}{w X:World}{P Q:Option Obj}(h:X.heap[b]?=P/\X.heap[a]?=Q/\Below B w X):X.drew.heap[b]?=P/\X.drew.heap[a]?=Q/\Below B w X.drew:=⟨h.1,h.2.1,h.2.2.drew⟩
theorem QpV(h:Hdr)(g k j d f a c b:Nat)(w:World):Calls prog 70 #[.agg #[Ju h.rf,Ju h.rl,Ju h.mf,Ju h.ml,Ju h.lf,Ju h.ll,Ju h.df,Ju h.dl,Ju h.ad,Ju h.en,Ju h.co,.bool h.cl,Jb h.inn,Jb h.out,Jb h.kd,Ji h.z0,Ji h.z1,Ji h.x0,Ji h.y0,Ji h.x1,Ji h.y1,Ji h.zo,Ji h.lo,Ji h.la],.agg #[Ju g,Ju k,Ju j,Ju d,Ju f,Ju a,Ju c,Ju b]] w (JB (.agg #[Ju g,Ju k,Ju j,Ju d,Ju f,Ju a,Ju c,Ju b,Ju h.ad,Ju h.en,Ju h.co,.bool h.cl,Jb h.inn,Jb h.out,Jb h.kd,Ji h.z0,Ji h.z1,Ji h.x0,Ji h.y0,Ji h.x1,Ji h.y1,Ji h.zo,Ji h.lo,Ji h.la]) w):=by
 obtain⟨W,hW⟩:∃W,((w.alloc (.cells #[Ju h.rf,Ju h.rl,Ju h.mf,Ju h.ml,Ju h.lf,Ju h.ll,Ju h.df,Ju h.dl,Ju h.ad,Ju h.en,Ju h.co,.bool h.cl,Jb h.inn,Jb h.out,Jb h.kd,Ji h.z0,Ji h.z1,Ji h.x0,Ji h.y0,Ji h.x1,Ji h.y1,Ji h.zo,Ji h.lo,Ji h.la] 47)).alloc (.cells #[Ju g,Ju k,Ju j,Ju d,Ju f,Ju a,Ju c,Ju b] 95)).alloc (.cells qZ 47)=W:=⟨_,rfl⟩;have q:Jw w W:=by rw[<-hW];exact (((qF _ _).alloc (qC _) _).alloc (by simp) _).alloc (by simp;omega) _
 have l:W.heap[w.heap.size]?=some (.cells (Qby h) 47 (0,0)):=by
  rw[<-hW];exact (JQ _ _ _ (by rw[qJ,qJ];omega)).trans ((JQ _ _ _ (by rw[qJ];omega)).trans (JI w _))
 have p:W.heap[w.heap.size+1]?=some (.cells #[Ju g,Ju k,Ju j,Ju d,Ju f,Ju a,Ju c,Ju b] 95 (0,0)):=by
  have:=JI (w.alloc (.cells #[Ju h.rf,Ju h.rl,Ju h.mf,Ju h.ml,Ju h.lf,Ju h.ll,Ju h.df,Ju h.dl,Ju h.ad,Ju h.en,Ju h.co,.bool h.cl,Jb h.inn,Jb h.out,Jb h.kd,Ji h.z0,Ji h.z1,Ji h.x0,Ji h.y0,Ji h.x1,Ji h.y1,Ji h.zo,Ji h.lo,Ji h.la] 47)) (.cells #[Ju g,Ju k,Ju j,Ju d,Ju f,Ju a,Ju c,Ju b] 95);rw[qJ] at this;rw[<-hW];exact (JQ _ _ _ (by rw[qJ,qJ];omega)).trans this
 have r:W.heap[w.heap.size+1+1]?=some (.cells qZ 47 (0,0)):=by
  have:=JI ((w.alloc (.cells #[Ju h.rf,Ju h.rl,Ju h.mf,Ju h.ml,Ju h.lf,Ju h.ll,Ju h.df,Ju h.dl,Ju h.ad,Ju h.en,Ju h.co,.bool h.cl,Jb h.inn,Jb h.out,Jb h.kd,Ji h.z0,Ji h.z1,Ji h.x0,Ji h.y0,Ji h.x1,Ji h.y1,Ji h.zo,Ji h.lo,Ji h.la] 47)).alloc (.cells #[Ju g,Ju k,Ju j,Ju d,Ju f,Ju a,Ju c,Ju b] 95)) (.cells qZ 47);rw[qJ,qJ] at this;rw[<-hW];exact this
 obtain⟨d0,d1,d2,d3,d4,d5,d6,d7⟩:=QrI p;obtain⟨c0,c1,c2,c3,c4,c5,c6,c7,-⟩:=Qdc l;have s:∀i,W.frozen? (Ja w.heap.size i)=false:=fun i=>by unfold World.frozen?;rw[l];rfl
 have n:=Z (qE q (qE l r));clear q l p r;go_enter func70,ntmps70;go_upto_region 1 with fail
 go_cut [] (fun wx=>wx.heap[w.heap.size]?=some (.cells #[Ju g,Ju k,Ju j,Ju d,Ju f,Ju a,Ju c,Ju b,Ju h.ad,Ju h.en,Ju h.co,.bool h.cl,Jb h.inn,Jb h.out,Jb h.kd,Ji h.z0,Ji h.z1,Ji h.x0,Ji h.y0,Ji h.x1,Ji h.y1,Ji h.zo,Ji h.lo,Ji h.la] 47 (0,0))/\wx.heap[w.heap.size+1+1]?=some (.cells qZ 47 (0,0))/\Jw w wx)
 case first=>
  go_region
  all_goals
   go_wp2_with fail;go_meet;exact QES (set8 n.o.2.1 n.o.2.2 (by omega) n.o.1 (qC _) (by kernel_rfl))
 have m:=Z hcut;clear hcut;go_wp2_with (first|(refine wpList_load_row rfl 47 (.tmp 2) rfl w.heap.size rfl 47 #[Ju g,Ju k,Ju j,Ju d,Ju f,Ju a,Ju c,Ju b,Ju h.ad,Ju h.en,Ju h.co,.bool h.cl,Jb h.inn,Jb h.out,Jb h.kd,Ji h.z0,Ji h.z1,Ji h.x0,Ji h.y0,Ji h.x1,Ji h.y1,Ji h.zo,Ji h.lo,Ji h.la] (0,0) _ m.o.1 underlying47 rfl (by kernel_rfl) ?_)|(refine wpList_store_row rfl 47 (.tmp 4) (.tmp 17) rfl (w.heap.size+1+1) #[Ju g,Ju k,Ju j,Ju d,Ju f,Ju a,Ju c,Ju b,Ju h.ad,Ju h.en,Ju h.co,.bool h.cl,Jb h.inn,Jb h.out,Jb h.kd,Ji h.z0,Ji h.z1,Ji h.x0,Ji h.y0,Ji h.x1,Ji h.y1,Ji h.zo,Ji h.lo,Ji h.la] rfl rfl 47 #[Ju 0,Ju 0,Ju 0,Ju 0,Ju 0,Ju 0,Ju 0,Ju 0,Ju 0,Ju 0,Ju 0,.bool false,Jb 0,Jb 0,Jb 0,Ji 0,Ji 0,Ji 0,Ji 0,Ji 0,Ji 0,Ji 0,Ji 0,Ji 0] m.o.2.1 (by kernel_rfl) rfl (by simp[Value.oneCell']) ?_))
 refine QeV (A:=(Ja (w.heap.size+1+1) 0)) rfl (Qb6 (setRow_heap _ _ _ _ _ _ m.o.2.1) rfl) rfl rfl ?_;exact⟨rfl,Qba m.o.2.2 (by omega) _⟩
def ItmN(W:World)(v:Value)(L:List Itm):Prop:=ItmB W v L/\∃a c,v=.slice a L.length c/\L.length<=c/\(L = []->a=none/\c=0)
theorem ItmN.nil(W:World):ItmN W (.slice none 0 0) []:=⟨⟨none,0,rfl,fun h=>JN rfl h⟩,none,0,rfl,qC _,fun _=>⟨rfl,rfl⟩⟩
theorem ItmN.below{W W':World}{v:Value}{L:List Itm}(h:ItmN W v L)(a:Jw W W'):ItmN W' v L:=⟨h.1.below a,h.2⟩
theorem ItmN.of_own{w:World}{b0:Nat}{v:Value}{L:List Itm}(h:w.ownsRow b0 67 2 v L.length (QaZ L))(hne:L≠[]):ItmN w v L:=by
 refine⟨ItmB.of_own h,?_⟩;rcases h.2 with⟨rfl,h0⟩|⟨g,cap,cur,rfl,-,hg,hle,-⟩
 ·exact JN (List.length_eq_zero_iff.1 h0) hne
 ·exact⟨_,cap,rfl,hle,fun e=>JN e hne⟩
def QqJ(k T:Nat)(t:JA)(w:World)(e:Ending)(w':World):Prop:=
 ∃v' L' n,e=.returned (.tuple #[.agg #[v'],Ji ((n:Nat):Int)])/\ItmN w' v' L'/\(n=0->OwnOk L' (k+1) (T+t.size))/\Jw w w'
def PutSt(w:World)(W:World)(v:Value):Prop:=W.heap[w.heap.size]?=some (.cells #[v] 31 (0,0))/\W.heap[w.heap.size+1]?=some (.cells #[.slice none 0 0] 31 (0,0))/\Jw w W
theorem PutSt.below{w W W':World}{v:Value}(h:PutSt w W v)(a:Jw W W'):PutSt w W' v:=⟨Qad h.1 a,Qad h.2.1 a,Qaa h.2.2 a⟩
theorem PutSt.new(w:World)(v:Value):PutSt w ((w.alloc (.cells #[v] 31)).alloc (.cells #[.slice none 0 0] 31)) v:=
 ⟨(J5 _ _ (by rw[qJ];exact Nat.lt_succ_self _)).trans (JI w _),by have:=JI (w.alloc (.cells #[v] 31)) (.cells #[.slice none 0 0] 31);rwa[qJ] at this,((qF _ _).alloc (qC _) _).alloc (by simp) _⟩
theorem PutSt.at{w W:World}{v:Value}(h:PutSt w W v):W.cell? (Ja w.heap.size 0)=some v/\W.cell? (Ja (w.heap.size+1) 0)=some (.slice none 0 0)/\W.frozen? (Ja (w.heap.size+1) 0)=false:=
 ⟨(QaF h.1).1,(QaF h.2.1).1,(QaF h.2.1).2⟩
theorem ItmB.cellsOf{W:World}{v:Value}{L:List Itm}(h:ItmB W v L)(b:L≠[]):∃g c,v = Jl g L.length c/\g<W.heap.size/\∀(j:Nat) (u:Value),(QaZ L)[j]?=some u->W.cell? (Ja g j)=some u:=by
 obtain⟨a,c,hv,h1⟩:=h;obtain⟨g,cs,m,rfl,h3,h4⟩:=h1 b;exact⟨g,c,hv,(gsi h3).1,fun j u hj=>(QaJ h3 _).trans (h4 _ _ hj)⟩
theorem QrX{w b:World}{x:Value}:(b.setCell (Ja (w.heap.size+1) 0) x).cell? (Ja w.heap.size 0)=b.cell? (Ja w.heap.size 0):=
 Qhb (a:=(Ja w.heap.size 0)) (Qal (by show w.heap.size≠w.heap.size+1;omega) 0 _)
theorem Qvh{L:List Itm}{k T i p q n c a:Nat}{b:Bool}{t:JA}{v:Value}{w d f:World}(hO:OwnOk L k T)(j:PlcAt L i p b)(s:p+b.toNat=q)(x:L.length=n)(h:i<QfV/\0<t.size/\t.size<=65536)(g:PutSt w d v)(m:Jw d f)
  (l:f.ownsRow d.heap.size 67 2 (Jl c (p+1+(n-q)) a) (p+1+(n-q)) (QaZ (L.take p)++[Ju i,Jt t]++QaZ (L.drop q))) :
  (f.setCell (Ja (w.heap.size+1) 0) (Jl c (p+1+(n-q)) a)).heap[w.heap.size+1]?=some (.cells #[Jl c (p+1+(n-q)) a] 31 (0,0))/\
  QqJ k T t w (.returned (.tuple #[.agg #[Jl c (p+1+(n-q)) a],Ji 0])) (f.setCell (Ja (w.heap.size+1) 0) (Jl c (p+1+(n-q)) a)):=by
 subst x s;have r:=(gsi g.2.1).1;refine⟨Qcd (Qad g.2.1 m) _,_,Qvl L p b i t,0,rfl,?_,fun _=>hO.put j h.1 h.2.1 h.2.2,?_⟩
 ·refine ItmN.of_own (b0:=d.heap.size) ?_ (by unfold Qvl;simp)
  rw[Ql8 L p b i t j.fit,QkX];exact Qac l (fun k hk=>Qal (by have:=(l.lt k hk).1;omega) 0 _)
 ·exact (Qaa g.2.2 m).setCell (p:=(Ja (w.heap.size+1) 0)) (by show w.heap.size<=w.heap.size+1;omega) _
theorem Qxg(L:List Itm)(k T i:Nat)(t:JA)(v:Value)(w:World)(hL:OwnOk L k T)(hk:k<=1000)(hI:ItmN w v L) :
  Calls prog 16 #[.agg #[v],Ju i,Jt t] w (QqJ k T t w):=by
 have hn:L.length<=1000:=qD hL.len hk;obtain⟨a,c,hv,hlc,QGt⟩:=hI.2;subst hv;have HI:=Z hI;have HP:=Z (fun W (h:Jw w W)=>Qqx L i (by omega) hL.up a c W (hI.1.below h))
 have HW:=Z (fun W=>Qqw i t W)
 have P:=Z hL;have S:=Z (Quj i t.size);have C:=Z (PutSt.new w (.slice a L.length c));have R:=Z QGt;obtain⟨c0,-,-⟩:=C.o.at;generalize QkK i t.size=N at HW S;obtain⟨n,hln⟩:∃n,L.length=n:=⟨_,rfl⟩;have r:=Z hln;rw[hln] at HP C c0 hn hlc;clear hL hI QGt;have t1:decide ((n:Int)>=2048)=false:=qB (by omega)
 rw[hln];clear hln;go_enter func16,ntmps16;go_wp2_with fail;refine (HP.o _ C.o.2.2).mono ?_;rintro e x ⟨⟨p,b,rfl,hp⟩,qa⟩;have d:=Z (C.o.below qa);have HF:=Z hp;have z:=hp.fit;rw[r.o] at z;clear qa hp c0 C HP;obtain⟨c0,c1,f1⟩:=d.o.at;obtain⟨q,K⟩:∃q,p+b.toNat=q:=⟨_,rfl⟩;rw[K] at z;have HQ:=Z K;have qb:p<=q:=by omega
 have Y:p<=n:=qD qb z;have tw:IntKind.i64.wrap ((p:Int)+1)=((p+1:Nat):Int):=by rw[JR]<;>omega
 have E:p+b.toNat=q:=HQ.o
 by_cases hN:N=0
 ·subst hN
  have X:=Z (S.o.1 rfl);have s:Hi (Jw x x.drew):=Z (qF _ _).drew
  by_cases hne:L = []
  ·obtain⟨ha,hc⟩:=R.o hne
   subst ha hc;have qe:n=0:=by rw[<-r.o,hne];rfl
   subst qe;have qd:p=0:=by omega
   subst qd;have qc:q=0:=by omega
   subst qc;cases b
   ·have f:Hi (∀W,Jw x W->Jx W w.heap.size 0 (.slice none 0 0)):=Z (fun W hW=>(d.o.below hW).at.1)
    go_wp2_with fail;refine (HW.o _).mono ?_;rintro e M ⟨rfl,D⟩;obtain rfl:=D.symm;clear D;go_wp2_with fail;go_region_held3 (fun w'=>Jx w' w.heap.size 0 (.slice none 0 0)) (first
     |exact f.o _ s.o
     |exact f.o _ (s.o.alloc (qC _) _)
     |exact f.o _ m.o
     |exact QrX.trans (f.o _ m.o)
     |exact f.o _ l.o)
    (first
     |(refine Qnh rfl _ _ rfl M x.heap.size g2 B (0+1) 0 _ [] y (by simp[Act.eval,Act.put]) (.inl ⟨by simp[Act.eval,Act.put],rfl,rfl⟩) (by omega) (by omega) l.o.size ?_;intro g3 V w3 G H;have m:=Z (Qbu l.o H y (qC _) l.o.size);obtain⟨-,c3,f3⟩:=(d.o.below m.o).at)
     |(refine Qni rfl _ _ rfl x.drew x.heap.size (.slice none 0 0) 0 [] (.inl ⟨rfl,rfl,rfl⟩) (by simp[Act.eval,Act.put]) i t (by simp[Act.eval,Act.put]) (by omega) (qC _) ?_;intro g2 B M y I;have l:=Z (Qaa s.o I)))
    go_wp2_with fail;obtain⟨hr,QE4⟩:=Qvh (n:=0) P.o HF.o HQ.o r.o X.o d.o m.o (by rw[hne];exact G)
    exact Qau (A:=(Ja (w.heap.size+1) 0)) rfl (QcS _ _ _ _ hr) rfl rfl rfl QE4
   ·simp at E
  ·obtain⟨g,c',hv,hgl,hcl⟩:=HI.o.1.cellsOf hne
   injection hv with q1 q2 q3
   subst q1;have qf:=qK hgl d.o.2.2.size;have U:Hi (∀W,Jw x W->∀(j:Nat) (u:Value),(QaZ L)[j]?=some u->Jx W g j u):=Z (fun W hW j u hj=>((Qaa d.o.2.2 hW).cell (p:=(Ja g j)) hgl).trans (hcl j u hj))
   have HZ:Hi ((QaZ (L.take p)).length=p*2/\∀(j:Nat) (u:Value),(QaZ (L.take p))[j]?=some u->x.drew.cell? (Ja g j)=some u):=Z ⟨by rw[Qb8,qW,r.o,Nat.min_eq_left Y],fun j u hj=>by
    rw[Qlb,List.getElem?_take] at hj;split at hj
    ·exact U.o _ s.o _ _ hj
    ·cases hj⟩
   have HY:Hi ((QaZ (L.drop q)).length=(n-q)*2/\∀W,Jw x W->∀(j:Nat) (u:Value),(QaZ (L.drop q))[j]?=some u->W.cell? (Ja g ((if c=q then 0 else q*2)+j))=some u):=Z ⟨by rw[Qb8,JC,r.o],fun W hW j u hj=>by
    split
    ·next J=>
     rw[List.drop_eq_nil_of_le (by rw[r.o];omega)] at hj
     cases hj
    ·rw[Qlc,List.getElem?_drop] at hj
     exact U.o W hW _ _ hj⟩
   have f:Hi (∀W,Jw x W->Jx W w.heap.size 0 (Jl g n c)):=Z (fun W hW=>(d.o.below hW).at.1)
   have qk:p<=c:=qD Y hlc;have qj:q<=c:=qD z hlc;clear q2 q3 hgl hcl
   by_cases J:c=q
   all_goals
    first|rw[JK J] at HY|rw[JJ J] at HY
    cases b
    all_goals
     first
     |(have K:p=q:=E
       subst K)
     |(have K:p+1=q:=E
       subst K;have ql:(0:Int)<=(p:Int)+1:=by omega
       have qi:(p:Int)+1<=(n:Int):=by omega
       have qh:(p:Int)+1<=(c:Int):=by omega)
     go_wp2_with fail;refine (HW.o _).mono ?_;rintro e M ⟨rfl,D⟩;obtain rfl:=D.symm;clear D;go_wp2_with fail;go_region_held3 (fun w'=>Jx w' w.heap.size 0 (Jl g n c)) (first
        |exact f.o _ s.o
        |exact f.o _ (s.o.alloc (qC _) _)
        |exact f.o _ m.o
        |exact QrX.trans (f.o _ m.o)
        |exact f.o _ l.o)
       (first
        |(refine Qnh rfl _ _ rfl M x.heap.size g2 B (p+1) _ _ _ y (by simp[Act.eval,Act.put]) (.inr ⟨g,_,_,by rfl,HY.o.1,QjG _,HY.o.2 _ l.o⟩) (by omega) (by omega) l.o.size ?_;intro g3 V w3 G H;have m:=Z (Qbu l.o H y (qC _) l.o.size);obtain⟨-,c3,f3⟩:=(d.o.below m.o).at)
        |(refine Qni rfl _ _ rfl x.drew x.heap.size (Jl g p p) p (QaZ (L.take p)) (.inr ⟨g,rfl,HZ.o.1,HZ.o.2⟩) (by simp[Act.eval,Act.put]) i t (by simp[Act.eval,Act.put]) (by omega) (qC _) ?_;intro g2 B M y I;have l:=Z (Qaa s.o I)))
     go_wp2_with fail;obtain⟨hr,QE4⟩:=Qvh P.o HF.o HQ.o r.o X.o d.o m.o G
     try rw[Nat.add_sub_cancel' z] at hr QE4
     exact Qau (A:=(Ja (w.heap.size+1) 0)) rfl (QcS _ _ _ _ hr) rfl rfl rfl QE4
 ·have qg:((N:Int) != 0)=true:=QAW (b:=0) hN
  have HR:=Z (Qcd d.o.2.1 (.slice a n c));have O:Hi (Jw w (x.setCell (Ja (w.heap.size+1) 0) (.slice a n c))):=Z (d.o.2.2.setCell (p:=(Ja (w.heap.size+1) 0)) (by show w.heap.size<=w.heap.size+1;omega) _)
  cases b
  all_goals
   go_wp2_with fail;refine (HW.o _).mono ?_;rintro e M ⟨rfl,D⟩;obtain rfl:=D.symm;clear D;go_wp2_with fail;refine Qau (A:=(Ja (w.heap.size+1) 0)) rfl (QcS _ _ _ _ HR.o) rfl rfl rfl ?_;exact⟨_,L,N,rfl,by have:=HI.o;rw[r.o] at this;exact this.below O.o,fun h=>JN h hN,O.o⟩
def QlL(l:List Itm):Nat:=(l.map (fun x=>x.2.size)).sum
theorem Qnf(l:List Itm)(k:Nat)(h:k<l.length):QlL (l.take (k+1))=QlL (l.take k)+l[k].2.size:=by
 unfold QlL;rw[qV h,qY,List.sum_append];simp
def QAx(l:List Itm)(w:World)(e:Ending)(w':World):Prop:=∃b,e=.returned (.bool b)/\(b=false->l.length<=80/\QlL l<=4000)/\w'=w
theorem QDq(v:Value)(l:List Itm)(w:World)(m:HoldsR 2 w v l.length (QaZ l))(s:l.length<=maxLen)(q:∀x∈l,x.2.size<=maxLen) :
  Calls prog 4 #[v,Ji 80,Ji 4000] w (QAx l w):=by
 obtain⟨a,c,hve,-⟩:=m.len;subst hve;have r:=Z (fun k g=>QqX m k g)
 have y:=Z (fun k (g:k<l.length)=>q l[k] (JG g))
 have z:=Z (fun k (g:k<l.length)=>Qnf l k g)
 unfold maxLen at s;clear m q;go_enter func4,ntmps4;go_wp2_with fail;go_loopw [2,7] (fun u j wr=>∃(k:Nat) (x:Int),k<=l.length/\j = Ji k/\u = Ji x/\0<=x/\x<=4000/\Hi (x+(QlL (l.take k):Nat)=4000)/\wr=w) (fun _ j _=>l.length-(intOf j).toNat)
 case atStart=>exact⟨0,4000,qL _,rfl,rfl,by decide,by decide,Z (by simp[QlL]),rfl⟩
 case round=>
  obtain⟨k,x,g,rfl,rfl,hx0,hx1,hx,hw⟩:=hrel;obtain rfl:=hw.symm;clear hw
  by_cases f:k<l.length
  ·obtain⟨b,o,c',m,hbl,c0,c1⟩:=r.o k f
   injection m with q1 q2 q3
   subst q1;have d:=y.o k f;have n:=Z (z.o k f);generalize l[k]=X at c0 c1 d n;obtain⟨xi,xt⟩:=X;unfold maxLen at d;have d:xt.size<=9223372036854775807:=d;have n:Hi (QlL (l.take (k+1))=QlL (l.take k)+xt.size):=n;have A:IntKind.i64.wrap (x-(xt.size:Int))=x-(xt.size:Int):=by rw[JR]<;>omega
   clear hbl q2 q3 c0
   by_cases i:x-(xt.size:Int)<0
   ·have p:decide (x-(xt.size:Int)<0)=true:=qA i
    go_wp2;go_ret;exact⟨true,rfl,(fun h=>by cases h),rfl⟩
   ·have p:decide (x-(xt.size:Int)<0)=false:=qB i
    go_wp2_with fail;go_roundw
    case rel=>exact⟨k+1,x-(xt.size:Int),by omega,by go_num,rfl,by omega,by omega,Z (by have:=n.o;have:=hx.out;omega),by simp⟩
    case measure=>simp[intOf];omega
  ·obtain rfl:k=l.length:=by omega
   by_cases t:80<l.length
   ·have p:decide ((l.length:Int)>80)=true:=qA (by omega)
    go_wp2;go_ret;exact⟨true,rfl,(fun h=>by cases h),rfl⟩
   ·have p:decide ((l.length:Int)>80)=false:=qB (by omega)
    go_wp2;go_ret;exact⟨false,rfl,fun _=>⟨by omega,by have:=hx.out;rw[List.take_length] at this;omega⟩,rfl⟩
theorem ItmN.set{W:World}{v:Value}{L:List Itm}{B i:Nat}{x y:Value}(h:ItmN W v L)(b:W.heap[B]?=some (.cells #[x] 31 (0,0))):ItmN (W.setCell (Ja B i) y) v L:=by
 refine⟨?_,h.2⟩;obtain⟨a,c,hv,h1⟩:=h.1;refine⟨a,c,hv,fun hn=>?_⟩
 obtain⟨g,cs,m,h2,h3,h4⟩:=h1 hn;refine⟨g,cs,m,h2,?_,h4⟩;rw[Qal (fun e=>by
  rw[e,b] at h3;simp only[J8,Obj.cells.injEq] at h3;exact JN h3.2.1 (by decide)) i y]
 exact h3
structure OwnSt(l:List Itm)(w:World)(k:Nat)(u:Value)(v:Value)(L M:List Itm)(W:World):Prop where
 r:W.heap[w.heap.size]?=some (.cells #[.slice none 0 0] 31 (0,0))
 c:W.heap[w.heap.size+1]?=some (.cells #[v] 31 (0,0))
 i:ItmN W v L
 o:OwnOk L k (QlL (l.take k))
 d:HoldsR 2 W u M.length (QaZ M)
 m:M.length<=k
 s:∀b,QBr u=some b->w.heap.size+2<=b
 b:Jw w W
theorem OwnSt.below{l:List Itm}{w:World}{k:Nat}{u v:Value}{L M:List Itm}{W W':World}(h:OwnSt l w k u v L M W)(a:Jw W W'):OwnSt l w k u v L M W':=
 ⟨Qad h.r a,Qad h.c a,h.i.below a,h.o,h.d.below a,h.m,h.s,Qaa h.b a⟩
theorem OwnSt.start(l:List Itm)(w:World):OwnSt l w 0 (.slice none 0 0) (.slice none 0 0) [] [] ((w.alloc (.cells #[.slice none 0 0] 31)).alloc (.cells #[.slice none 0 0] 31)):=
 ⟨(PutSt.new w _).1,(PutSt.new w _).2.1,ItmN.nil _,OwnOk.nil,HoldsR.empty _ _ _ _,qC _,(fun b hb=>by cases hb),(PutSt.new w _).2.2⟩
theorem OwnSt.take{l:List Itm}{w:World}{k:Nat}{u v c:Value}{L a M:List Itm}{W:World}(h:OwnSt l w k u v L M W)(i:ItmN W c a)(g:OwnOk a (k+1) (QlL (l.take (k+1))))(d:M.length<=k) :
  OwnSt l w (k+1) u c a M (W.setCell (Ja (w.heap.size+1) 0) c):=
 have f:=(gsi h.c).1
 ⟨(Qal (by omega) 0 _).trans h.r,Qcd h.c _,i.set h.c,g,h.d.kept (Nat.le_of_eq (World.size_setCell _ _ _).symm) (fun b hb=>Qal (by have:=h.s b hb;omega) 0 _),Nat.le_succ_of_le d,h.s,h.b.setCell (p:=(Ja (w.heap.size+1) 0)) (by show w.heap.size<=w.heap.size+1;omega) _⟩
theorem OwnSt.leave{l:List Itm}{w:World}{k:Nat}{u v:Value}{L M:List Itm}{W:World}(h:OwnSt l w k u v L M W)(a:QlL (l.take k)<=QlL (l.take (k+1))):OwnSt l w (k+1) u v L M W:=
 ⟨h.r,h.c,h.i,h.o.mono (Nat.le_succ _) a,h.d,Nat.le_succ_of_le h.m,h.s,h.b⟩
theorem OwnSt.turn{l:List Itm}{w:World}{k:Nat}{u c v:Value}{L M a:List Itm}{W:World}(h:OwnSt l w k u v L M W)(d:HoldsR 2 W c a.length (QaZ a))(f:a.length<=k)(g:∀b,QBr c=some b->w.heap.size+2<=b):OwnSt l w k c v L a W:=
 ⟨h.r,h.c,h.i,h.o,d,f,g,h.b⟩
def QxE(w:World)(e:Ending)(w':World):Prop:=∃v L d,e=.returned (.tuple #[.agg #[v],d])/\ItmsOk L/\ItmN w' v L/\Jw w w'
theorem QBg(l:List Itm)(k:Nat):QlL (l.take k)<=QlL l:=by
 unfold QlL;have a:(l.map (fun x=>x.2.size)).sum=((l.take k).map (fun x=>x.2.size)).sum+((l.drop k).map (fun x=>x.2.size)).sum:=by
  rw[<-List.sum_append,<-qY,List.take_append_drop]
 omega
theorem QEw(v:Value)(l:List Itm)(w:World)(Y:HoldsR 2 w v l.length (QaZ l))(hl:l.length<=80)(hs:QlL l<=4000) :
  Calls prog 6 #[v] w (QxE w):=by
 obtain⟨a,c,hve,-⟩:=Y.len;subst hve;have HX:Hi (∀k,k<l.length->∃(b o c' x:Nat) (t:JA),Value.slice a l.length c=.slice (some (Ja b o)) l.length c'/\(∀W,Jw w W->W.cell? (Ja b (o+k*2))=some (Ju x)/\W.cell? (Ja b (o+k*2+1))=some (Jt t))/\QlL (l.take (k+1))=QlL (l.take k)+t.size):=Z (fun k hk=>by
  obtain⟨b,o,c',h1,h2,h3,h4⟩:=QqX Y k hk;exact⟨b,o,c',_,_,h1,fun W hW=>⟨(hW.cell (p:=(Ja b (o+k*2))) h2).trans h3,(hW.cell (p:=(Ja b (o+k*2+1))) h2).trans h4⟩,Qnf l k hk⟩)
 have HS:=Z hs;have V:=Z (OwnSt.start l w);obtain⟨n,hln⟩:∃n,l.length=n:=⟨_,rfl⟩;have qd:=Z hln;rw[hln] at HX hl ⊢;clear Y hs hln;go_enter func6,ntmps6;go_wp2_with fail;go_loopw [5,6] (fun u j wr=>∃k:Nat,k<=n/\j = Ji k/\Hi (∃v' L M,OwnSt l w k u v' L M wr)) (fun _ j _=>n-(intOf j).toNat)
 case atStart=>exact⟨0,qL _,rfl,Z ⟨_,_,_,V.o⟩⟩
 case round=>
  clear V;obtain⟨k,hk,rfl,z⟩:=hrel;obtain⟨v',L,M,hst⟩:=z.o;obtain⟨a1,e1,hv1,-⟩:=hst.i.2;obtain⟨n1,hn1⟩:∃n1,L.length=n1:=⟨_,rfl⟩;rw[hn1] at hv1;subst hv1
  by_cases qc:k<n
  ·obtain⟨b,o,c',xi,xt,Y,hcs,QGs⟩:=HX.o k qc
   injection Y with q1 q2 q3
   subst q1;have HK:=Z QGs;have z:=Z hst;have HP:Hi (∀W,Jw wr W->Calls prog 16 #[.agg #[.slice a1 n1 e1],Ju xi,Jt xt] W (QqJ k (QlL (l.take k)) xt W)):=Z (fun W hW=>Qxg L k _ xi xt (.slice a1 n1 e1) W hst.o (by omega) (hst.i.below hW))
   have HR:Hi (∀W u M,HoldsR 2 W u M.length (QaZ M)->M.length<=k->Calls prog 17 #[u,Ju xi,Jt xt] W (Qr6 u M W)):=Z (fun W u M h hm=>Qu6 u M xi xt W h (by omega))
   have r:Hi (Jw wr wr.drew):=Z (qF _ _).drew;have P:=Z hcs;have q:Hi (∀W,Jw wr W->Jx W (w.heap.size+1) 0 (.slice a1 n1 e1)/\Jx W b (o+k*2) (Ju xi)/\Jx W b (o+k*2+1) (Jt xt)):=Z (fun W hW=>⟨(QaF (z.o.below hW).c).1,P.o W (Qaa z.o.b hW)⟩)
   clear hst q2 q3 hcs QGs;go_wp2_with fail;go_region_held3 (fun w'=>Jx w' (w.heap.size+1) 0 (.slice a1 n1 e1)/\Jx w' b (o+k*2) (Ju xi)/\Jx w' b (o+k*2+1) (Jt xt)) (first
     |exact q.o _ r.o
     |exact q.o _ (r.o.alloc (qC _) _)
     |exact q.o _ d.o
     |exact q.o _ (d.o.alloc d.o.size _)
     |exact q.o _ ((d.o.alloc d.o.size _).setCell (p:=(Ja H.heap.size 0)) d.o.size _)
     |exact q.o _ (d.o.setCell (p:=(Ja wr.heap.size 0)) (qC _) _))
    (first
     |(go_at_call 16;refine (HP.o _ r.o).mono ?_;rintro e H ⟨v2,L2,n2,rfl,g,B,s⟩;obtain⟨a2,e2,hv2,-⟩:=g.2;obtain⟨m2,hm2⟩:∃m2,L2.length=m2:=⟨_,rfl⟩;rw[hm2] at hv2;subst hv2;obtain⟨y0,yf⟩:=QaF (JI H (.cells #[.slice none 0 0] 31));have d:=Z (Qaa r.o s);have C:=Z (qE g B);clear s g B)
     |(go_at_call 16;refine (HP.o _ (r.o.alloc (qC _) _)).mono ?_;rintro e H ⟨v2,L2,n2,rfl,g,B,s⟩;obtain⟨a2,e2,hv2,-⟩:=g.2;obtain⟨m2,hm2⟩:∃m2,L2.length=m2:=⟨_,rfl⟩;rw[hm2] at hv2;subst hv2;have J:Hi (Jh H wr.heap.size #[.slice none 0 0] 31):=Z (Qad (JI wr.drew _) s);obtain⟨x0,xf⟩:=QaF J.o;have d:=Z (Qaa (r.o.alloc (qC _) _) s);have C:=Z (qE g B);clear s g B))
   all_goals
    first
    |(have m:=Z (Qcd J.o (.slice a2 m2 e2))
      have D:=Z (d.o.setCell (p:=(Ja wr.heap.size 0)) (qC _) (.slice a2 m2 e2));have E:=Z (C.o.1.set (i:=0) (y:=.slice a2 m2 e2) J.o);clear x0 xf;generalize H.setCell (Ja wr.heap.size 0) (.slice a2 m2 e2)=W3 at m D E ⊢;generalize wr.heap.size=X3 at m ⊢)
    |(have m:=Z (JI H (.cells #[.slice a2 m2 e2] 31))
      have D:=Z (d.o.alloc d.o.size (.cells #[.slice a2 m2 e2] 31));have E:=Z (C.o.1.below ((qF _ _).alloc (qC _) (.cells #[.slice a2 m2 e2] 31)));generalize H.alloc (.cells #[.slice a2 m2 e2] 31)=W3 at m D E ⊢;generalize H.heap.size=X3 at m ⊢)
   all_goals
    have G:=Z (z.o.below D.o);obtain⟨x0,-⟩:=QaF m.o;obtain⟨d0,df⟩:=QaF G.o.c;have HM:=Z G.o.m
    by_cases X:n2=0
    all_goals
     first
     |(subst X
       have S:=Z (C.o.2 rfl);rw[<-HK.o] at S;have f:=Z (G.o.take E.o S.o HM.o);go_wp2_with fail;generalize T:W3.setCell (Ja (w.heap.size+1) 0) (.slice a2 m2 e2)=W4 at f ⊢)
     |(have tn:((n2:Int)==0)=false:=QoF (b:=0) X
       have f:=Z (G.o.leave (by rw[HK.o];exact Nat.le_add_right _ _))
       go_wp2_with fail;generalize T:W3=W4 at f ⊢)
     clear T;have N:Hi (Jw W4 W4.drew):=Z (qF _ _).drew;have qb:Hi (∀W,Jw W4 W->Jx W b (o+k*2) (Ju xi)/\Jx W b (o+k*2+1) (Jt xt)):=Z (fun W hW=>P.o W (Qaa f.o.b hW))
     go_region_held3 (fun w'=>Jx w' b (o+k*2) (Ju xi)/\Jx w' b (o+k*2+1) (Jt xt)) (first
       |exact qb.o _ N.o
       |exact qb.o _ K.o)
      (first
       |(go_at_call 17;refine (HR.o _ u5 M (f.o.d.below N.o) HM.o).mono ?_;rintro e w5 ⟨u',f3,rfl,⟨M',O,qa⟩,U,R⟩;have K:=Z (Qaa N.o U);have I:=Z (qE O (qE qa R));clear O qa U R))
     by_cases hf:f3=0
     ·subst hf
      go_wp2_with fail;go_roundw
      case rel=>
       refine⟨k+1,by omega,by go_num,Z ⟨_,_,M',(f.o.below K.o).turn I.o.2.1 (qD I.o.1 (Nat.succ_le_succ HM.o)) (fun b hb=>?_)⟩⟩
       rcases I.o.2.2 b hb with h|h
       ·exact f.o.s b h
       ·have:=(gsi f.o.c).1
        have h:W4.heap.size<=b:=h;omega
      case measure=>simp[intOf];omega
     ·have tf:(f3==0)=false:=by rw[qI];exact hf
      go_wp2_with fail;go_roundw
      case rel=>exact⟨k+1,by omega,by go_num,Z ⟨_,_,M,f.o.below K.o⟩⟩
      case measure=>simp[intOf];omega
  ·obtain rfl:k=n:=by omega
   have HR:=Z (Qcd hst.r (.slice a1 n1 e1));have HB:=Z (hst.b.setCell (p:=(Ja w.heap.size 0)) (qC _) (.slice a1 n1 e1));have HI:=Z (hst.i.set (i:=0) (y:=.slice a1 n1 e1) hst.r);have HO:Hi (ItmsOk L):=Z (hst.o.itms hl (qD (QBg l _) HS.o));obtain⟨c0,-⟩:=QaF hst.c;obtain⟨r0,rf⟩:=QaF hst.r;clear hst z;go_wp2_with fail;refine Qau (A:=(Ja w.heap.size 0)) rfl (QcS _ _ _ _ HR.o) rfl rfl rfl ?_;exact⟨_,L,_,rfl,HO.o,HI.o,HB.o⟩
end
section
structure SmRow(l:List Ent):Prop where
 ok:∀e∈l,Qbt e/\Qcj e=0
 up:l.Pairwise (fun a b=>QdM a<b.1)
 len:l.length<=80
theorem QCd(e:Ent)(h:Qcj e=0):e.1<=QdM e:=by unfold QdM;rw[JK h];omega
theorem QBw(l:List Ent):∀f,(∀e∈l,Qcj e=0/\f<=e.1)->l.Pairwise (fun a b=>QdM a<b.1)->Qm1 f l=0:=by
 induction l with
 |nil=>intro f _ _;rfl
 |cons e r ih=>
  intro f h c;obtain⟨h1,h2⟩:=h e JF;unfold Qm1;rw[JJ (by simpa using h1),JJ (by omega)]
  obtain⟨p1,p2⟩:=List.pairwise_cons.1 c;exact ih _ (fun x hx=>⟨(h x (JY _ hx)).1,p1 x hx⟩) p2
theorem SmRow.row{l:List Ent}(h:SmRow l):QeZ l=0:=by
 unfold QeZ;have:=h.len;rw[JJ (by omega)]
 exact QBw l 0 (fun e he=>⟨(h.ok e he).2,qL _⟩) h.up
theorem SmRow.sub{l a:List Ent}(h:SmRow l)(s:a.Sublist l):SmRow a:=
 ⟨fun e he=>h.ok e (s.subset he),h.up.sublist s,qD s.length_le h.len⟩
theorem SmRow.entOk{l:List Ent}(h:SmRow l):∀e∈l,Qbt e:=fun e he=>(h.ok e he).1
theorem Qy7(l:List Nat)(h:∀x∈l,x<18446744073709551616):(Qa6 l).length<=10*l.length/\l.length<=(Qa6 l).length:=by
 induction l with
 |nil=>exact⟨qL _,qL _⟩
 |cons x r ih=>
  obtain⟨h1,h2⟩:=Ql7 x (h x JF);obtain⟨h3,h4⟩:=ih (fun y hy=>h y (JY _ hy))
  have e:Qa6 (x :: r)=QfP x++Qa6 r:=rfl;rw[e,qG,qH];omega
theorem SmRow.size{l:List Ent}(h:SmRow l):(Qb3 l).length<=10+40*l.length/\0<(Qb3 l).length:=by
 have:=h.len;obtain⟨h1,h2⟩:=Qy7 (QeO l) (QpF l (by omega) h.ok)
 rw[QhT] at h1 h2;unfold Qb3;omega
def QeN:Nat->List (List Ent)->List Ent
 |_,[]=>[]
 |off,ch :: r=>((ch.headD Qa7).1,off,(Qb3 ch).length,0) :: QeN (off+(Qb3 ch).length) r
def Qge(L:List (List Ent)):JL:=L.flatMap Qb3
theorem QiO(a:List Ent)(L:List (List Ent)):Qge (a :: L)=Qb3 a++Qge L:=rfl
theorem QiP(L K:List (List Ent)):Qge (L++K)=Qge L++Qge K:=by unfold Qge;rw[List.flatMap_append]
theorem Qnw(off:Nat)(a:List Ent)(L:List (List Ent)):QeN off (a :: L)=((a.headD Qa7).1,off,(Qb3 a).length,0) :: QeN (off+(Qb3 a).length) L:=rfl
theorem Qpr(L K:List (List Ent)):∀off,QeN off (L++K)=QeN off L++QeN (off+(Qge L).length) K:=by
 induction L with
 |nil=>intro off;rfl
 |cons ch r ih=>
  intro off;rw[J4,Qnw,Qnw,ih,J4,QiO,qG,Nat.add_assoc]
theorem Qf1(L:List (List Ent)):∀off,(QeN off L).length=L.length:=by
 induction L with
 |nil=>intro off;rfl
 |cons ch r ih=>intro off;unfold QeN;rw[qH,ih,qH]
theorem Qyq(L:List (List Ent)):∀off,(QeN off L).map (·.1)=L.map (fun ch=>(ch.headD Qa7).1):=by
 induction L with
 |nil=>intro off;rfl
 |cons ch r ih=>intro off;unfold QeN;rw[J0,ih,J0]
structure Pcs(l:List Ent)(L:List (List Ent)):Prop where
 flat:L.flatten=l
 ne:∀ch∈L,ch≠[]
section
variable {l:List Ent} {L:List (List Ent)}
theorem Pcs.sub(h:Pcs l L):∀ch∈L,ch.Sublist l:=fun ch hc=>by rw[<-h.flat];exact List.sublist_flatten_of_mem hc
theorem Qn8(L:List (List Ent))(h:∀ch∈L,ch≠[]):(L.map (fun ch=>ch.headD Qa7)).Sublist L.flatten:=by
 induction L with
 |nil=>exact List.Sublist.refl _
 |cons ch r ih=>
  cases ch with
  |nil=>exact JN rfl (h [] JF)
  |cons e t=>
   rw[J0,List.flatten_cons,J4];exact List.Sublist.cons_cons _ ((ih (fun x hx=>h x (JY _ hx))).trans (List.sublist_append_right _ _))
theorem Pcs.count(h:Pcs l L):L.length<=l.length:=by
 have:=(Qn8 L h.ne).length_le
 rwa[qQ,h.flat] at this
theorem QDf(L:List (List Ent))(h:∀ch∈L,ch≠[]/\SmRow ch):(Qge L).length<=50*L.flatten.length:=by
 induction L with
 |nil=>exact qL _
 |cons ch r ih=>
  obtain⟨h1,h2⟩:=h ch JF;have c:=ih (fun x hx=>h x (JY _ hx))
  have b:=h2.size.1;have a:0<ch.length:=List.length_pos_iff.2 h1;rw[QiO,qG,List.flatten_cons,qG];omega
theorem Pcs.txt(h:Pcs l L)(a:SmRow l):(Qge L).length<=4000:=by
 have b:=QDf L (fun ch hc=>⟨h.ne ch hc,a.sub (h.sub ch hc)⟩)
 rw[h.flat] at b;have:=a.len;omega
theorem Qvn(L:List (List Ent))(h:∀ch∈L,ch≠[]/\SmRow ch):∀off,∀e∈QeN off L,e.2.2.2=0/\0<e.2.2.1/\off<=e.2.1/\e.2.1+e.2.2.1<=off+(Qge L).length/\∃ch∈L,e.1=(ch.headD Qa7).1/\((Qge L).drop (e.2.1-off)).take e.2.2.1=Qb3 ch:=by
 induction L with
 |nil=>intro off e a;cases a
 |cons ch r ih=>
  intro off e a;obtain⟨h1,h2⟩:=h ch JF;unfold QeN at a;rw[QiO,qG];rcases List.mem_cons.1 a with rfl|a
  ·refine⟨rfl,h2.size.2,qC _,by dsimp only;omega,ch,JF,rfl,?_⟩
   dsimp only;rw[Nat.sub_self,List.drop_zero,List.take_left]
  ·obtain⟨g1,g2,g3,g4,c,g5,g6,g7⟩:=ih (fun x hx=>h x (JY _ hx)) _ e a
   refine⟨g1,g2,by omega,by omega,c,JY _ g5,g6,?_⟩
   rw[<-g7,List.drop_append,List.drop_eq_nil_of_le (by omega),J3]
   congr 2;omega
theorem Pcs.root(h:Pcs l L)(g:SmRow l):SmRow (QeN 0 L):=by
 have d:∀ch∈L,ch≠[]/\SmRow ch:=fun ch d=>⟨h.ne ch d,g.sub (h.sub ch d)⟩
 have r:=h.txt g;have j:=Qvn L d 0;have f:∀e∈QeN 0 L,Qbt e/\Qcj e=0:=fun e he=>by
  obtain⟨g1,g2,g3,g4,c,g5,g6,g7⟩:=j e he;have hne:=(d c g5).1;cases c with
  |nil=>exact JN rfl hne
  |cons y t=>
   obtain⟨q1,q2⟩:=(d _ g5).2.ok y JF;have s:=(Qf9 y q2).2.2;have k:e.1=y.1:=g6;have q:e.1+1<=QfV:=by
    rw[k];have:1<=max 1 y.2.2.2:=Nat.le_max_left _ _;unfold Qcj at q2
    by_cases p:y.2.2.1=0
    ·rw[JK p] at q2;cases q2
    ·have:0<QfV:=by decide
     omega
   refine⟨⟨by have:QfV=6004799503160661:=rfl;omega,by omega,by omega,by omega⟩,Qqu e g2 (by rw[g1];exact q) (by have:Qds=1099511627776:=rfl;omega)⟩
 refine⟨f,?_,?_⟩
 ·have i:((QeN 0 L).map (·.1)).Pairwise (· < ·):=by
   rw[Qyq];have n:(l.map (·.1)).Pairwise (· < ·):=by
    rw[List.pairwise_map];exact g.up.imp_of_mem (fun {a b} ha hb hab=>Nat.lt_of_le_of_lt (QCd a (g.ok a ha).2) hab)
   refine n.sublist ?_;have:=(Qn8 L h.ne).map (fun e:Ent=>e.1)
   rw[List.map_map,h.flat] at this;exact this
  rw[List.pairwise_map] at i;refine i.imp_of_mem (fun {a b} ha hb hab=>?_)
  have m:=(j a ha).1;unfold QdM;rw[JK (f a ha).2,m];exact (by omega:a.1+max 1 0-1<b.1)
 ·rw[Qf1]
  exact qD h.count g.len
end
theorem QAe(l:List Ent)(size:Nat):∀k,((chL l.length size k).map (Qd6 l)).flatten=l.take (k*size):=by
 intro k
 induction k with
 |zero=>rw[Nat.zero_mul,List.take_zero];rfl
 |succ k ih=>
  rw[QrS,qY,List.flatten_append,ih,List.map_singleton,List.flatten_singleton,Nat.succ_mul,List.take_add];unfold Qd6;dsimp only
  congr 1
  by_cases a:size<=l.length-k*size
  ·rw[Nat.min_eq_left a]
  ·rw[Nat.min_eq_right (by omega),qX (by rw[JC];omega),qX (by rw[JC];omega)]
theorem QmR(l:List Ent)(size:Nat)(d:0<size):Pcs l (Qgg l size):=by
 have b:=Nat.div_add_mod (l.length+size-1) size;have f:=Nat.mod_lt (l.length+size-1) d;obtain⟨q,hq⟩:∃q,chK l.length size=q:=⟨_,rfl⟩;unfold chK at hq;rw[hq] at b;rw[Nat.mul_comm] at b;refine⟨?_,fun ch hc=>?_⟩
 ·unfold Qgg
  rw[QAe];unfold chK;rw[hq];exact qX (by omega)
 ·unfold Qgg chL at hc
  rw[List.map_map] at hc;obtain⟨j,hj,rfl⟩:=List.mem_map.1 hc;have a:=List.mem_range.1 hj;unfold chK at a;rw[hq] at a;have c:(j+1)*size<=q*size:=Nat.mul_le_mul_right _ a;rw[Nat.succ_mul] at c;intro e;have:=congrArg List.length e;simp only[Function.comp,Qd6,qW,JC,List.length_nil] at this;omega
theorem QrN(l:List Ent)(size:Nat)(b:0<l.length)(h:l.length<=size):Qgg l size = [l]:=by
 have a:chK l.length size=1:=by
  unfold chK;rw[Nat.div_eq_iff (by omega)]
  omega
 unfold Qgg;rw[a];unfold chL Qd6;simp[qX,Nat.min_eq_right h]
def Qd3(l:List Ent)(B:Nat):Nat->Nat->List Ent×JL×Nat
 |0,_=>([],[],0)
 |f+1,size=>if (Qb3 (QeN 0 (Qgg l size))).length<=B then (QeN 0 (Qgg l size),Qge (Qgg l size),size) else Qd3 l B f (2*size)
def QaS(l:List Ent)(B:Nat):List Ent×JL×Nat:=if (Qb3 l).length<=B then (l,[],0) else Qd3 l B 9 1
theorem QyJ(l:List Ent)(size:Nat)(c:SmRow l)(b:0<l.length)(h:l.length<=size):(Qb3 (QeN 0 (Qgg l size))).length<=50:=by
 have a:=((QmR l size (by omega)).root c).size.1
 rw[Qf1,QrN l size b h] at a;rw[QrN l size b h];exact a
end
section
open Go.RowKit Go.Shelf
def Qg3(l:List Ent)(B:Nat)(w:World)(e:Ending)(w':World):Prop:=
 ∃a c,e=.returned (.tuple #[.slice a (QaS l B).1.length c,Jt (bs (QaS l B).2.1),Ji ((QaS l B).2.2:Nat),Ji 0])/\w'.ownsRow w.heap.size 61 4 (.slice a (QaS l B).1.length c) (QaS l B).1.length (Qan (QaS l B).1)/\Jw w w'
def QEZ(l:List Ent)(B:Nat)(w:World)(k:Nat)(W:World):Prop:=
 Jw w W/\(k=0\/2 ^ (k-1)<l.length)/\Qd3 l B (9-k) (2 ^ k)=Qd3 l B 9 1
theorem sp_k{l:List Ent}{B:Nat}{w W:World}{k:Nat}(h:QEZ l B w k W)(b:l.length<=80):k<=7/\2 ^ k<=128/\1<=2 ^ k:=by
 have a:k<=7:=by
  rcases h.2.1 with h0|h0
  ·omega
  ·by_cases a:k<=7
   ·exact a
   ·have:2 ^ 7<=2 ^ (k-1):=Nat.pow_le_pow_right (by decide) (by omega)
    omega
 exact⟨a,Nat.pow_le_pow_right (n:=2) (by decide) a,Nat.one_le_two_pow⟩
structure SpIn(n1:Nat)(wc W:World)(P:List (List Ent))(j:Nat)(u v:Value):Prop where
 le:j<=P.length
 root:W.ownsRow n1 61 4 u (QeN 0 (P.take j)).length (Qan (QeN 0 (P.take j)))
 text:W.ownsRow n1 5 1 v (Qge (P.take j)).length (QaL (Qge (P.take j)))
 bel:Below n1 wc W
theorem QDS{l:List Ent}{size:Nat}{w W:World}{v:Value}{b:JV}(d:w.ownsRow 0 51 1 v (Qgg l size).length b)(k:∀j (h:j<(Qgg l size).length),∃u,b[j]?=some u/\w.ownsRow 0 61 4 u (Qgg l size)[j].length (Qan (Qgg l size)[j]))(f:Jw w W)(j:Nat)(i:j<(Qgg l size).length) :
  ∃g c u cu,v = Jl g (Qgg l size).length c/\W.cell? (Ja g j)=some (.slice u (Qgg l size)[j].length cu)/\EntB W (.slice u (Qgg l size)[j].length cu) (Qgg l size)[j]:=by
 obtain⟨u,q1,q2⟩:=k j i;obtain⟨ua,uc,hu⟩:=Qat q2;subst hu;have m:=fun g hg=>d.cells (g:=g) hg
 rcases d.2 with⟨-,h0⟩|⟨g,c,cur,rfl,-,hg,-⟩
 ·omega
 ·refine⟨g,c,ua,uc,rfl,?_,(EntB.own q2).below f⟩
  have:=m g rfl j _ q1;rw[QmY] at this;exact (Qhb (a:=(Ja g j)) (f.block g (gsi hg).1)).trans this
theorem Qup:(5:Nat)≠61:=by decide
theorem Qjq{w w':World}{i f n m l d:Nat}{b a:JT}{u v:Value}{xs c:JV}(h:w.ownsRow i b l u n xs)(k:w.ownsRow f a d v m c)(p:w.grownBy w' u.ownBlock)(j:(a:Nat)≠b):w'.ownsRow f a d v m c:=
 Qac k (fun g hv=>p.block g (k.lt g hv).2 (fun e=>by
  obtain⟨c1,q1⟩:=Qa5 h g e.symm;obtain⟨c2,q2⟩:=Qa5 k g hv;rw[q1] at q2;injection q2 with q2;injection q2 with _ q2;exact j q2.symm))
theorem SpIn.next{b q d:Nat}{wc p f g:World}{P:List (List Ent)}{j:Nat}{u v i:Value}(h:SpIn b wc p P j u v)(z:b<=wc.heap.size)(l:j<P.length)
  (s:f.ownsRow b 61 4 (Jl q ((QeN 0 (P.take j)).length+1) d) ((QeN 0 (P.take j)).length+1) (Qan (QeN 0 (P.take j))++[Ju ((P[j].headD Qa7).1:Nat),Ju ((Qge (P.take j)).length:Nat),Jd ((Qb3 P[j]).length:Nat),Jd 0])) (a:p.grownBy f u.ownBlock)
  (n:g.ownsRow b 5 1 i ((Qge (P.take j)).length+(bs (Qb3 P[j])).size) (QaL (Qge (P.take j))++Lib.strCells (bs (Qb3 P[j])))) (c:f.grownBy g v.ownBlock):SpIn b wc g P (j+1) (Jl q ((QeN 0 (P.take j)).length+1) d) i:=by
 have m:P.take (j+1)=P.take j++[P[j]]:=qV l;have x:QeN 0 (P.take (j+1))=QeN 0 (P.take j)++[((P[j].headD Qa7).1,(Qge (P.take j)).length,(Qb3 P[j]).length,0)]:=by
  rw[m,Qpr,Nat.zero_add];rfl
 have y:Qge (P.take (j+1))=Qge (P.take j)++Qb3 P[j]:=by
  rw[m,QiP]
  congr 1
  exact qT _
 have r:=Qjq h.root h.text a Qup;have t:=Qjq r s c (fun e=>Qup e.symm)
 refine⟨l,?_,?_,?_⟩
 ·rw[x,QbQ,qG];exact t
 ·rw[y,QeF,qG]
  rw[Qls,Qaq] at n;exact n
 ·refine h.bel.trans (Below.trans (B:=b) ⟨a.os,a.tape,a.output,a.size,fun k hk=>a.block k (by have:=h.bel.size;omega) (fun e=>by have:=(h.root.lt k e.symm).1;omega)⟩ ⟨c.os,c.tape,c.output,c.size,fun k hk=>c.block k (by have:=h.bel.size;have:=a.size;omega) (fun e=>by have:=(r.lt k e.symm).1;omega)⟩)
theorem SpIn.below{a:Nat}{wc W W':World}{P:List (List Ent)}{j:Nat}{u v:Value}(h:SpIn a wc W P j u v)(c:a<=wc.heap.size)(b:Jw W W'):SpIn a wc W' P j u v:=
 ⟨h.le,Qac h.root (fun g hg=>b.block g (h.root.lt g hg).2),Qac h.text (fun g hg=>b.block g (h.text.lt g hg).2),h.bel.trans (b.mono (qD c h.bel.size))⟩
theorem Qta(l:List Ent)(b0:Nat)(a:Option Addr)(c B:Nat)(w:World)(m:w.ownsRow b0 61 4 (.slice a l.length c) l.length (Qan l))(hs:SmRow l)(hr:∀e∈l,0<e.2.2.2)(qu:64<=B)(zu:B<=16257) :
  Calls prog 26 #[.slice a l.length c,Ji B] w (Qg3 l B w):=by
 have hc:c<=maxLen:=by
  rcases m.2 with⟨hv,-⟩|⟨g,qq,cur,hv,-,-,-,hm,-⟩
  ·injection hv with _ _ h3
   rw[h3];exact qL _
  ·injection hv with _ _ h3
   rw[h3];exact hm
 have hE:=EntB.own m;have N:=hs.row;have J:=hs.entOk;have hl:=hs.len;have qc:=hs.size;have qi:=Z (QdE _ l w hE.holds J (by omega))
 rw[N] at qi;have U:=Z (fun W (C:Jw w W)=>QmS l a c W (hE.below C) (by omega) hr)
 have qn:=Z (fun W (C:Jw w W)=>QjX l a c W (hE.below C) N J (by omega))
 have zi:=Z (fun W (C:Jw w W)=>QhA (.slice a l.length c) b0 l W (Qac m (fun g hg=>C.block g (m.lt g hg).2)) (by omega))
 have t1:decide ((B:Int)<1)=false:=qB (by omega)
 have t2:decide ((16257:Int)<(B:Int))=false:=qB (by omega)
 by_cases r:(Qb3 l).length<=B
 ·have t3:decide ((Qb3 l).length<=B)=true:=qA r
  have HM:Hi (QaS l B=(l,[],0)):=Z (by unfold QaS;rw[JK r])
  generalize (Qb3 l).length=M at *;clear m hE hr J r hs N hl qc;go_enter func26,ntmps26;go_wp2_with fail;go_step3;go_wp2_with fail;refine qi.o.mono ?_;rintro e w1 ⟨rfl,q⟩;go_wp2_with fail;refine (U.o _ q).mono ?_;rintro e w2 ⟨rfl,E⟩;have n:=Qaa q E;clear q E;go_wp2_with fail;refine (qn.o _ n).mono ?_;rintro e w3 ⟨rfl,G⟩;have I:=Qaa n G;clear n G;go_wp2_with fail;refine (zi.o _ I).mono ?_;rintro e O ⟨a4,c4,rfl,qr,H⟩;have HF:=Z (qE (QaM qr I.size) (Qaa I H));clear qr H I;go_wp2_with fail
  try rw[Exit.noGoto_ret]
  refine bodyPost_ret (by simp[results];rfl) rfl ?_
  unfold Qg3;rw[HM.o];exact⟨a4,c4,rfl,HF.o.1,HF.o.2⟩
 ·have t3:decide ((Qb3 l).length<=B)=false:=qB r
  have hM:QaS l B=Qd3 l B 9 1:=by unfold QaS;rw[JJ r]
  have ql:0<l.length:=by have:=qc.1;omega
  obtain⟨g,cur,ha,hg,hcu⟩:∃g cur,a=some (Ja g 0)/\w.heap[g]?=some (.cells cur 61 (0,0))/\(∀(i:Nat) (x:Value),(Qan l)[i]?=some x->cur[i]?=some x):=by
   have S:=fun g hg=>m.cells (g:=g) hg
   rcases m.2 with⟨-,h0⟩|⟨g,qq,cur,hv,-,hg,-⟩
   ·omega
   ·injection hv with h1
    subst h1;refine⟨g,cur,rfl,hg,fun i x hx=>?_⟩
    have:=S g rfl i x hx;rw[QmY,QaJ hg] at this;exact this
  subst ha;have qe:l.length<=c:=by
   obtain⟨ax,cx,hv,h⟩:=hE.len;injection hv with _ _ h3
   rw[h3];exact h
  have qz:=Z (fun W (C:Jw w W) size (h1:0<size) (h2:size<=4096)=>Qy4 l g c size cur (0,0) W h1 h2 ql (by omega) qe hc ((C.block g (gsi hg).1).trans hg) hcu)
  have HS:=Z hs;have HM:=Z hM;have ze:Hi (64<=B):=Z qu;generalize (Qb3 l).length=M at *;clear m hE hr J r N qc hs hM hg hcu qe;go_enter func26,ntmps26;go_wp2_with fail;go_step3;go_wp2_with fail;refine qi.o.mono ?_;rintro e w1 ⟨rfl,q⟩;go_wp2_with fail;refine (U.o _ q).mono ?_;rintro e w2 ⟨rfl,E⟩;have n:=Qaa q E;clear q E;go_wp2_with fail;refine (qn.o _ n).mono ?_;rintro e w3 ⟨rfl,G⟩;have za:Hi (QEZ l B w 0 w3):=Z ⟨Qaa n G,.inl rfl,rfl⟩;clear n G;go_wp2_with fail;go_step3;go_wp2_with fail;obtain⟨i8,hi8,hz80,hz81,hz82⟩:=info_parts Qn3;go_loopw [9] (fun u9 wr=>Hi (∃k:Nat,u9 = Ji ((2 ^ k:Nat):Int)/\QEZ l B w k wr)) (fun u9 _=>1000-(intOf u9).toNat)
  case atStart=>exact Z ⟨0,rfl,za.o⟩
  case round=>
   obtain⟨k,rfl,hst⟩:=hrel.o;obtain⟨hk,hz1,hz2⟩:=sp_k hst hl;have T:=Z hst;clear hrel hst;obtain⟨z,hz⟩:∃z,2 ^ k=z:=⟨_,rfl⟩;rw[hz] at hz1 hz2;have HZ:=Z hz;rw[hz];clear hz;have t4:decide ((z:Int)<=4096)=true:=qA (by omega)
   go_wp2_with fail;refine (qz.o _ T.o.1 z hz2 (by omega)).mono ?_
   rintro e O ⟨v,vs,rfl,K,S,H⟩;have X:=QaM K (qL _);have zl:(Qgg l z).length<=80:=qD (QmR l z (by omega)).count hl
   have qm:=Z (fun W (C:Jw O W) j (hj:j<(Qgg l z).length)=>QDS X (fun j hj=>by obtain⟨u,q1,q2⟩:=S j hj;exact⟨u,q1,QaM q2 (qL _)⟩) C j hj)
   obtain⟨cva,cvc,hv⟩:=Qat K;subst hv;have qh:=Z (Qaa T.o.1 H);have V:Hi (SpIn O.heap.size O O (Qgg l z) 0 (.slice none 0 0) (.slice none 0 0)):=Z ⟨qL _,JZ _ _ _ _,JZ _ _ _ _,qF _ _⟩;clear K X S H;obtain⟨P,hP⟩:∃P,Qgg l z=P:=⟨_,rfl⟩;rw[hP] at qm V zl ⊢;have HP:=Z hP;have R:=Z (hP ▸ QmR l z (by omega))
   clear hP;go_wp2_with fail;go_loopw [10,11,43] (fun u10 u11 u43 wr=>Hi (∃j:Nat,u43 = Ji j/\SpIn O.heap.size O wr P j u10 u11)) (fun _ _ u43 _=>P.length-(intOf u43).toNat)
   case atStart=>exact Z ⟨0,rfl,V.o⟩
   case round=>
    obtain⟨j,rfl,hst⟩:=hrel.o;clear hrel
    by_cases qd:j<P.length
    ·have t5:decide ((j:Int)<(P.length:Int))=true:=qA (by omega)
     obtain⟨g1,c1,u,cu,hv1,Qak,hEj⟩:=qm.o wr hst.bel j qd;injection hv1 with q1 q2 q3
     subst q1 q3;obtain⟨ch,hch⟩:∃ch,P[j]=ch:=⟨_,rfl⟩;have qj:ch∈P:=by rw[<-hch];exact JG qd
     have D:SmRow ch:=HS.o.sub (R.o.sub ch qj);have hne:ch≠[]:=R.o.ne ch qj;rw[hch] at Qak hEj;obtain⟨b1,cb,hub,-,hx⟩:=hEj.at hne;obtain⟨x0,-,-,-⟩:=hx 0 (List.length_pos_iff.2 hne);injection hub with p1 p2 p3
     subst p1 p3;have zm:=D.size;have zw:0<ch.length:=List.length_pos_iff.2 hne;have qe:=D.len;have zk:=Z (QjY ch _ cu wr hEj D.row D.entOk (by omega))
     have qo:ch[0]'(List.length_pos_iff.2 hne)=ch.headD Qa7:=by cases ch with
      |nil=>exact JN rfl hne
      |cons y t=>rfl
     rw[qo] at x0;obtain⟨hie,hhi⟩:∃hie,(ch.headD Qa7).1=hie:=⟨_,rfl⟩;rw[hhi] at x0;have qx:=Z hhi;have qp:=Z hch;have zj:=Z hst;have zo:(Qge (P.take j)).length<=4000:=by
      have h1:=R.o.txt HS.o;have h2:Qge P=Qge (P.take j)++Qge (P.drop j):=by rw[<-QiP,List.take_append_drop]
      rw[h2,qG] at h1;omega
     have zd:b1<wr.heap.size:=by
      unfold World.cell? at x0;rcases Nat.lt_or_ge b1 wr.heap.size with h|h
      ·exact h
      ·rw[Array.getElem?_eq_none h] at x0;cases x0
     have zg:Hi (∀W,Jw wr W->Jx W b1 0 (Ju hie)):=Z (fun W C=>(C.cell (p:=(Ja b1 0)) zd).trans x0)
     obtain⟨ra,rc,hru⟩:=Qat hst.root;obtain⟨ta,tc,htu⟩:=Qat hst.text;subst hru htu;have qk:=Qaq (Qb3 ch);clear hst hx hEj qo hhi hch qj hne D;go_wp2_with fail;refine zk.o.mono ?_;rintro e w5 ⟨rfl,d⟩;have x1:=zg.o _ d;have A:=Z (zj.o.below (qC _) d);have zs:IntKind.u64.wrap ((Qge (P.take j)).length:Int)=((Qge (P.take j)).length:Int):=by rw[JU];omega
     have zp:IntKind.u32.wrap ((Qb3 ch).length:Int)=((Qb3 ch).length:Int):=by rw[IntKind.wrap_u32];omega
     have zv:(QeN 0 (P.take j)).length<=80:=by rw[Qf1,qW];omega
     clear x0 d Qak;go_wp2_with (first|(at_builtin;(refine Qdd 51 61 _ 4 24 underlying51 Qht rfl (by decide) (by decide) w5 [Ju hie,Ju ((Qge (P.take j)).length:Nat),Jd ((Qb3 ch).length:Nat),Jd 0] rfl (by simp[Value.oneCell']) (by rfl) _ _ (by rfl) O.heap.size _ (QeN 0 (P.take j)).length (Qan (QeN 0 (P.take j))) (by rfl) A.o.root (by rfl) (by omega) A.o.bel.size ?_);intro g' qq w6 qt qg zr;have qw:=Qjq A.o.root A.o.text qg Qup)|(at_builtin;(refine Lib.wpList_append_own_string _ (by rfl) _ _ 169 9 (by rfl) O.heap.size 5 i8 underlying169 underlying9 hi8 hz80 hz81 hz82 _ (Qge (P.take j)).length (QaL (Qge (P.take j))) (by rfl) qw (bs (Qb3 ch)) (by rfl) (by rw[qk];unfold maxLen;omega) (by rw[qk];omega) (by have:=qg.size;have:=A.o.bel.size;omega) ?_);intro v' w7 qf zf _))
     have zb:=A.o.next (qC _) qd (by rw[qp.o,qx.o];exact qt) qg (by rw[qp.o];exact qf) zf
     have qy:=Z zb;go_roundw
     case rel=>exact Z ⟨j+1,by go_num,qy.o⟩
     case measure=>simp[intOf];omega
    ·have t5:decide ((j:Int)<(P.length:Int))=false:=qB (by omega)
     obtain rfl:j=P.length:=by have:=hst.le;omega
     have b:=hst.root;have L:=hst.text;rw[List.take_length] at b L;have s:=R.o.root HS.o;have zn:=s.size;have zt:=s.len;obtain⟨ra,rc,hru⟩:=Qat b;obtain⟨ta,tc,htu⟩:=Qat L;subst hru htu;have Y:=Z (QjX (QeN 0 P) ra rc wr (EntB.own b) s.row s.entOk (by omega))
     have HR:=Z (qE b (qE L hst.bel));have zq:=Z s;clear hst b L s
     by_cases qs:(Qb3 (QeN 0 P)).length<=B
     ·have t6:decide ((B:Int)<((Qb3 (QeN 0 P)).length:Int))=false:=qB (by omega)
      have qb:Hi (QaS l B=(QeN 0 P,Qge P,z)):=Z (by
       rw[HM.o,<-T.o.2.2];obtain⟨f,hf⟩:∃f,9-k=f+1:=⟨8-k,by omega⟩
       rw[hf];unfold Qd3;rw[HZ.o,HP.o,JK qs])
      generalize (Qb3 (QeN 0 P)).length=M2 at *;go_wp2_with fail;refine Y.o.mono ?_;rintro e w5 ⟨rfl,d⟩;have HF:=Z (qE (QaM (Qac HR.o.1 (fun g hg=>d.block g (HR.o.1.lt g hg).2)) qh.o.size) (Qaa qh.o (HR.o.2.2.trans (d.mono HR.o.2.2.size))))
      have K:=Qfq (Qac (w':=w5.drew) HR.o.2.1 (fun g hg=>d.block g (HR.o.2.1.lt g hg).2))
      clear d;go_wp2_with fail;go_region
      all_goals go_wp2_with fail
      try rw[Exit.noGoto_ret]
      refine bodyPost_ret (by simp[results];rfl) rfl ?_
      unfold Qg3;rw[qb.o];exact⟨ra,rc,rfl,Qac HF.o.1 (fun _ _=>rfl),HF.o.2.drew⟩
     ·have t6:decide ((B:Int)<((Qb3 (QeN 0 P)).length:Int))=true:=qA (by omega)
      have qv:z<l.length:=by
       rcases Nat.lt_or_ge z l.length with h|h
       ·exact h
       ·have:=QyJ l z HS.o ql h
        rw[HP.o] at this;have:=ze.o;omega
      have HN:Hi (k+1=0\/2 ^ (k+1-1)<l.length):=Z (.inr (by rw[Nat.add_sub_cancel,HZ.o];exact qv))
      have qb:Hi (Qd3 l B (9-(k+1)) (2 ^ (k+1))=Qd3 l B 9 1):=Z (by
       rw[<-T.o.2.2];obtain⟨f,hf⟩:∃f,9-k=f+1:=⟨8-k,by omega⟩
       have zc:9-(k+1)=f:=by omega
       rw[hf,zc]
       conv=>rhs;unfold Qd3
       rw[HZ.o,HP.o,JJ qs,Nat.pow_succ,HZ.o,Nat.mul_comm])
      generalize (Qb3 (QeN 0 P)).length=M2 at *;go_wp2_with fail;refine Y.o.mono ?_;rintro e w5 ⟨rfl,d⟩;have qa:=Qaa qh.o (HR.o.2.2.trans (d.mono HR.o.2.2.size));have zh:=Z qa;clear d qa;go_wp2_with fail;refine⟨Z ⟨k+1,?_,zh.o,HN.o,qb.o⟩,?_⟩
      ·rw[Nat.pow_succ,HZ.o];go_num
      ·simp[intOf];omega
end
section
theorem QmU(d:Nat)(w:World)(a:Bool)(x y:Int):(Instr.checkKey a (d+2) 252 (.agg #[Ju x,Jd y])).run prog w=.ok () w:=by
 cases a<;>kernel_rfl
theorem QtQ(w:World)(a:Bool)(x y:Int):(Instr.checkKey a 10000 252 (.agg #[Ju x,Jd y])).run prog w=.ok () w:=by
 rw[show (10000:Nat)=9998+2 from rfl];exact QmU 9998 w a x y
theorem QtP(d:Nat)(x y u v:Int)(w:World):(Op.equalIn (d+2) 252 (.agg #[Ju x,Jd y]) (.agg #[Ju u,Jd v])).run prog w=.ok (decide (x=u)&&decide (y=v)) w:=by
 have u4:=underlying43;have u5:=underlying59;have f:prog.underlying 252=some (.struct (prog.fieldsOf 252)):=by kernel_rfl
 have c:prog.stoodInHeld 252=false:=by kernel_rfl
 rw[run_equalIn_agg w (d+1) 252 _ _ f c];simp only[Program.fieldsOf,underlying252];go_simp
 by_cases a:x=u
 ·by_cases b:y=v
  ·simp[a,b]
  ·simp[a,b]
 ·simp[a]
theorem Qeg:KeyT prog 252 (Qcl .u64 .u32):=
 Qnz .u64 .u32 underlying252 QtQ (fun w a c=>by
  have h:=QtP 9998 (a.1:Int) (a.2:Int) (c.1:Int) (c.2:Int) w;have e:(decide ((a.1:Int)=(c.1:Int))&&decide ((a.2:Int)=(c.2:Int)))=decide (a=c):=by
   rw[qN,JD,qO,qO,qO,Prod.ext_iff];constructor
   ·rintro⟨h1,h2⟩;exact⟨by omega,by omega⟩
   ·rintro⟨h1,h2⟩;exact⟨by omega,by omega⟩
  rw[e] at h;exact h)
def KeysM(W:World)(M:Nat)(ks:List (Nat×Nat)):Prop:=
 ∃es clock,W.heap[M]?=some (.map es clock)/\es.toList.map (·.key)=ks.map (Qcl .u64 .u32)/\∀e∈es.toList,∃x:Int,e.val = Ji x
def Qr5(ks:List (Nat×Nat))(k:Nat×Nat):List (Nat×Nat):=if k∈ks then ks else ks++[k]
def QfK(l:List Ent):List (Nat×Nat):=l.foldl (fun ks e=>Qr5 ks (e.2.1,e.2.2.1)) []
theorem QtM(l:List Ent)(e:Ent):QfK (l++[e])=Qr5 (QfK l) (e.2.1,e.2.2.1):=by unfold QfK;rw[List.foldl_append];rfl
theorem QAt(ks:List (Nat×Nat))(k:Nat×Nat):(Qr5 ks k).length<=ks.length+1:=by
 unfold Qr5;split
 ·omega
 ·simp
theorem QrP(l:List Ent):∀ks:List (Nat×Nat),(l.foldl (fun ks e=>Qr5 ks (e.2.1,e.2.2.1)) ks).length<=ks.length+l.length:=by
 induction l with
 |nil=>intro ks;exact qC _
 |cons e r ih=>
  intro ks;have a:=ih (Qr5 ks (e.2.1,e.2.2.1));have b:=QAt ks (e.2.1,e.2.2.1);rw[List.foldl_cons,qH];omega
theorem KeysM.new(w:World):KeysM (w.alloc (.map #[] 0)) w.heap.size []:=⟨#[],0,JI w _,rfl,fun e he=>by cases he⟩
theorem KeysM.keep{W W':World}{M:Nat}{ks:List (Nat×Nat)}(h:KeysM W M ks)(a:W'.heap[M]?=W.heap[M]?):KeysM W' M ks:=by
 obtain⟨es,c,h1,h2⟩:=h;exact⟨es,c,a.trans h1,h2⟩
theorem KeysM.is{a:Array MapEntry}{ks:List (Nat×Nat)}(h:a.toList.map (·.key)=ks.map (Qcl .u64 .u32)):∀e∈a.toList,∃c:Nat×Nat,e.key=Qcl .u64 .u32 c:=fun e he=>by
 have:e.key∈ks.map (Qcl .u64 .u32):=by rw[<-h];exact List.mem_map.2 ⟨e,he,rfl⟩
 obtain⟨c,-,hc⟩:=List.mem_map.1 this;exact⟨c,hc.symm⟩
theorem QCf{a:Array MapEntry}{ks:List (Nat×Nat)}(h:a.toList.map (·.key)=ks.map (Qcl .u64 .u32))(k:Nat×Nat)(b:∀e∈a.toList,e.key≠Qcl .u64 .u32 k):k∉ks:=fun hk=>by
 have:Qcl .u64 .u32 k∈a.toList.map (·.key):=by rw[h];exact List.mem_map.2 ⟨k,hk,rfl⟩
 obtain⟨e,he,hc⟩:=List.mem_map.1 this;exact b e he hc
theorem QCe{a:Array MapEntry}{ks:List (Nat×Nat)}(h:a.toList.map (·.key)=ks.map (Qcl .u64 .u32))(k:Nat×Nat)(e:MapEntry)(b:e∈a.toList)(d:e.key=Qcl .u64 .u32 k):k∈ks:=by
 have:e.key∈ks.map (Qcl .u64 .u32):=by rw[<-h];exact List.mem_map.2 ⟨e,b,rfl⟩
 obtain⟨c,hc,hc2⟩:=List.mem_map.1 this;rw[<-Qeg.inj c k (hc2.trans d)];exact hc
theorem KeysM.look{W:World}{M:Nat}{ks:List (Nat×Nat)}(h:KeysM W M ks)(o n:Nat):∃x:Int,(Instr.lookup 250 (.map (some M)) (.agg #[Ju o,Jd n]) false).run prog W=.ok (Ji x) W:=by
 obtain⟨es,c,h1,h2,h3⟩:=h;have b:prog.underlying 250=some (.map 252 3):=underlying250;have a:=Qeg.check W es.isEmpty (o,n);rcases Qeg.find W (o,n) es.toList (KeysM.is h2) with⟨q1,-⟩|⟨j,e,q1,q2,-⟩
 ·refine⟨0,?_⟩
  simp only[Qcl] at a q1;simp[Instr.lookup,run_underlying b,MapKept.run_getObj_map h1,a,q1,Qil,Result.andThen]
 ·obtain⟨x,hx⟩:=h3 e (List.mem_of_getElem? q2)
  refine⟨x,?_⟩;simp only[Qcl] at a q1;simp[Instr.lookup,run_underlying b,MapKept.run_getObj_map h1,a,q1,hx,Result.andThen]
theorem KeysM.entry{W:World}{M:Nat}{ks:List (Nat×Nat)}(h:KeysM W M ks)(o n:Nat):∃(v s:Int) (x:Obj),(Instr.mapEntry 250 (.map (some M)) (.agg #[Ju o,Jd n])).run prog W=.ok (.tuple #[Ji v,Ji s]) (Qar W M x)/\
  KeysM (Qar W M x) M (Qr5 ks (o,n))/\∀y:Int,∃x',(Instr.entryStore 250 (.map (some M)) (Ji s) (Ji y)).run prog (Qar W M x)=.ok () (Qar (Qar W M x) M x')/\KeysM (Qar (Qar W M x) M x') M (Qr5 ks (o,n)):=by
 obtain⟨es,c,h1,h2,h3⟩:=h;have G:prog.underlying 250=some (.map 252 3):=underlying250;have A:=Qeg.check W false (o,n);have p:∀(W:World) (y:Obj) (z:Obj),W.heap[M]?=some y->(Qar W M z).heap[M]?=some z:=fun W y z C=>by
  have I:=(gsi C).1;simp[Qar,I]
 have m:∀(b:Array MapEntry) (d:Nat) (s:Nat) (e:MapEntry),e∈b.toList->e.born=s->b.toList.map (·.key)=(Qr5 ks (o,n)).map (Qcl .u64 .u32)->(∀e∈b.toList,∃x:Int,e.val = Ji x)->KeysM (Qar W M (.map b d)) M (Qr5 ks (o,n))/\∀y:Int,∃x',(Instr.entryStore 250 (.map (some M)) (Ji s) (Ji y)).run prog (Qar W M (.map b d))=.ok () (Qar (Qar W M (.map b d)) M x')/\KeysM (Qar (Qar W M (.map b d)) M x') M (Qr5 ks (o,n)):=by
  intro b d s e g J D H;have t:=p W _ (.map b d) h1;obtain⟨W2,hW2⟩:∃W2,Qar W M (.map b d)=W2:=⟨_,rfl⟩;rw[hW2] at t ⊢;refine⟨⟨b,d,t,D,H⟩,fun y=>?_⟩
  obtain⟨i,hi⟩:∃i,b.findIdx? (fun e=>(e.born:Int)==(s:Int))=some i:=by
   cases E:b.findIdx? (fun e=>(e.born:Int)==(s:Int)) with
   |some i=>exact⟨i,rfl⟩
   |none=>
    rw[Array.findIdx?_eq_none_iff] at E;have:=E e (by simpa using g)
    simp[J] at this
  refine⟨.map (b.modify i fun e=>{ e with val:=Ji y }) d,?_,⟨_,d,p _ _ _ t,?_,?_⟩⟩
  ·simp[Instr.entryStore,MapKept.run_getObj_map t,MapKept.run_setObj_map _ t,Result.andThen,Qar,asInt,asIntOf,hi]
  ·rw[<-D,Array.toList_modify]
   refine List.ext_getElem? fun j=>?_
   rw[List.getElem?_map,List.getElem?_map,List.getElem?_modify];cases b.toList[j]? with
   |none=>rfl
   |some a=>simp only[Option.map_eq_map,Option.map_some];split<;>rfl
  ·intro L r
   rw[Array.toList_modify] at r;obtain⟨j,f⟩:=List.getElem?_of_mem r;rw[List.getElem?_modify] at f;cases hx:b.toList[j]? with
   |none=>rw[hx] at f;cases f
   |some e1=>
    rw[hx,Option.map_eq_map,Option.map_some] at f;injection f with f
    rw[<-f];split
    ·exact⟨y,rfl⟩
    ·exact H e1 (List.mem_of_getElem? hx)
 rcases Qeg.find W (o,n) es.toList (KeysM.is h2) with⟨q1,q2⟩|⟨j,e,q1,q2,q3,-⟩
 ·have K:=QCf h2 (o,n) q2
  refine⟨0,(c:Nat),.map (es.push ⟨Qcl .u64 .u32 (o,n),Ji 0,c⟩) (c+1),?_,m _ _ c ⟨Qcl .u64 .u32 (o,n),Ji 0,c⟩ (by simp) rfl ?_ ?_⟩
  ·simp only[Qcl] at A q1 ⊢
   simp[Instr.mapEntry,run_underlying G,MapKept.run_getObj_map h1,A,q1,Qil,MapKept.run_setObj_map _ h1,Result.andThen,Qar,goInt]
  ·unfold Qr5
   rw[JJ K,Array.toList_push,qY,qY,h2];rfl
  ·intro e g
   rw[Array.toList_push] at g;rcases List.mem_append.1 g with g|g
   ·exact h3 e g
   ·rw[List.mem_singleton.1 g];exact⟨0,rfl⟩
 ·have l:e∈es.toList:=List.mem_of_getElem? q2
  have C:=QCe h2 (o,n) e l q3;obtain⟨x,hx⟩:=h3 e l;have f:es[j]?=some e:=by simpa using q2
  have q:=Qeg.stays W (o,n);have k:(es.modify j fun y=>{ y with key:=Qcl .u64 .u32 (o,n) }).toList=es.toList:=by
   rw[Array.toList_modify];refine List.ext_getElem? fun i=>?_
   rw[List.getElem?_modify];cases hx:es.toList[i]? with
   |none=>rfl
   |some a=>
    rw[Option.map_eq_map,Option.map_some];split
    ·rename_i B
     rw[<-B,q2] at hx;injection hx with hx
     rw[<-hx,<-q3]
    ·rfl
  refine⟨x,(e.born:Nat),.map (es.modify j fun y=>{ y with key:=Qcl .u64 .u32 (o,n) }) c,?_,m _ _ e.born e (by rw[k];exact l) rfl ?_ ?_⟩
  ·simp only[Qcl] at A q1 q3 q ⊢
   simp[Instr.mapEntry,run_underlying G,MapKept.run_getObj_map h1,A,q1,f,q3,q,hx,MapKept.run_setObj_map _ h1,Result.andThen,Qar,goInt]
  ·unfold Qr5
   rw[JK C,k,h2]
  ·rw[k];exact h3
theorem KeysM.len{W:World}{M:Nat}{ks:List (Nat×Nat)}(h:KeysM W M ks):(Builtin.len_ #[250] 3 #[.map (some M)]).run prog W=.ok (Ji ks.length) W:=by
 obtain⟨es,c,h1,h2,-⟩:=h;have b:prog.underlying 250=some (.map 252 3):=underlying250;have a:=congrArg List.length h2;rw[qQ,qQ,Array.length_toList] at a;simp[Builtin.len_,Builtin.lenOf,run_underlying b,MapKept.run_getObj_map h1,Result.andThen,goInt,a]
theorem Qfs{w W:World}{B M:Nat}(h:Below B w W)(y:Obj)(a:B<=M):Below B w (Qar W M y):=
 h.trans ⟨rfl,rfl,rfl,by rw[QdA];exact qC _,fun k hk=>Qam _ _ _ _ (by omega)⟩
def QEo(l:List Ent)(w:World)(k:Nat)(wr:World):Prop:=Jw w wr/\KeysM wr w.heap.size (QfK (l.take k))
theorem Qqr(l:List Ent)(v:Value)(w:World)(y:EntB w v l)(M:l.length<=4096)(m:∀e∈l,Qbt e/\Qcj e=0/\0<e.2.2.2) :
  Calls prog 73 #[v] w (JB (Ji ((QfK l).length:Nat)) w):=by
 have K:∀(t:JT) (W:World),(Instr.makeMap t none).run prog W=.ok (.map (some W.heap.size)) (W.alloc (.map #[] 0)):=fun _ _=>rfl
 have j:Jw w (w.alloc (.map #[] 0)):=(qF _ _).alloc (qC _) _;have x:Hi (QEo l w 0 (w.alloc (.map #[] 0))):=Z ⟨j,KeysM.new w⟩;have C:=Z y;have r:=Z m;obtain⟨ab,c,rfl,hlc⟩:=y.len;clear y j m;go_enter func73,ntmps73;go_wp2_with fail;go_loopw [9] (fun u9 wr=>Hi (∃k:Nat,k<=l.length/\u9 = Ji k/\QEo l w k wr)) (fun u9 _=>l.length-(intOf u9).toNat)
 case atStart=>exact Z ⟨0,qL _,rfl,x.out⟩
 case round=>
  obtain⟨k,hk,rfl,hb,hm⟩:=hrel.o;clear hrel
  by_cases a:k<l.length
  ·have J:decide ((k:Int)<(l.length:Int))=true:=qA (by omega)
   obtain⟨b,c',he',-,hx'⟩:=(C.o.kept (KeptC.of_below hb)).at (fun e=>by rw[e] at a;exact JN a (JH _))
   obtain⟨x0,x1,x2,x3⟩:=hx' k a;injection he' with q1 q2 q3
   subst q1;obtain⟨o1,o2,o3⟩:=r.o _ (JG a);have D:Hi (QfK (l.take (k+1))=Qr5 (QfK (l.take k)) (l[k].2.1,l[k].2.2.1)):=Z (by rw[qV a,QtM])
   generalize l[k]=e at *;obtain⟨e0,e1,e2,p⟩:=e;have G:=Z (fun W=>QjU e0 e1 e2 p true (by rw[o2];rfl) W o1.1 o1.2.1 o1.2.2.1 o1.2.2.2)
   obtain⟨Wb,hWb⟩:∃Wb,wr.alloc (.cells #[Ju e0,Ju e1,Jd e2,Jd p] 61)=Wb:=⟨_,rfl⟩;obtain⟨E,hEE⟩:∃E,wr.heap.size=E:=⟨_,rfl⟩;have A:Wb.heap[E]?=some (.cells #[Ju e0,Ju e1,Jd e2,Jd p] 61 (0,0)):=by rw[<-hWb,<-hEE];exact JI wr _
   have d:Jw wr Wb:=by rw[<-hWb];exact (qF _ _).alloc (qC _) _
   have i:w.heap.size<wr.heap.size:=by obtain⟨es,cl,h1,-⟩:=hm;exact (gsi h1).1
   have H:=Z (qE (Qaa hb d) (qE (hm.keep (d.block _ i)) (qE (qK i d.size) A)));obtain⟨⟨y0,y1,y2,y3⟩,-⟩:=QaC A;have N:0<p:=o3;have L:decide ((0:Int)<(p:Int))=true:=qA (by omega)
   clear hb hm hx' q2 q3 d A o1 o2 o3 i;go_wp2_with fail;refine (G.o _).mono ?_;rintro e q ⟨rfl,f⟩;obtain⟨g1,g2,g3,g4⟩:=H.o;have n:=(f.block _ (gsi g4).1).trans g4;obtain⟨⟨z0,z1,z2,z3⟩,-⟩:=QaC n;have h:=(g2.keep (f.block _ g3)).keep (W':=q.drew) rfl;have g:=(Qaa g1 f).drew;obtain⟨xa,l0⟩:=h.look e1 e2;obtain⟨xv,xs,xo,me,hm2,hst⟩:=h.entry e1 e2;obtain⟨xb,l1⟩:=hm2.look e1 e2;obtain⟨x1,es0,f0⟩:=hst (wrap64 (xa+1));obtain⟨x2,es1,f1⟩:=hst (wrap64 (xb+1));have s:Hi (QEo l w (k+1) (Qar (Qar q.drew w.heap.size xo) w.heap.size x1)):=Z ⟨Qfs (Qfs g _ (qC _)) _ (qC _),by rw[D.o];exact f0⟩
   have B:Hi (QEo l w (k+1) (Qar (Qar q.drew w.heap.size xo) w.heap.size x2)):=Z ⟨Qfs (Qfs g _ (qC _)) _ (qC _),by rw[D.o];exact f1⟩
   clear y0 y1 y2 y3 g1 g2 g3 g4 f n h hm2 hst g f0 f1;go_upto_region 6 with fail
   go_region
   all_goals
    go_wp2_with fail
    first
     |refine⟨Z ⟨k+1,a,by go_num,s.o⟩,?_⟩
     |refine⟨Z ⟨k+1,a,by go_num,B.o⟩,?_⟩
    simp[intOf];omega
  ·have J:decide ((k:Int)<(l.length:Int))=false:=qB (by omega)
   obtain rfl:k=l.length:=by omega
   have z:=hm.len;rw[List.take_length] at z;have I:=Z hb;clear hm hb;go_wp2;go_ret;exact⟨rfl,I.o⟩
theorem set7{B:Nat}{w W:World}{b m:Nat}{cs cs' n:JW}{T q:JT}(k:W.heap[b]?=some (.cells cs T (0,0)))(r:W.heap[m]?=some (.cells n q (0,0)))(l:m≠b)(s:Below B w W)(g:B<=b)(i f c a h j d:Value)(t:(((((((cs.set! 15 i).set! 16 f).set! 21 c).set! 17 a).set! 19 h).set! 18 j).set! 20 d)=cs') :
  (((((((W.setCell (Ja b 15) i).setCell (Ja b 16) f).setCell (Ja b 21) c).setCell (Ja b 17) a).setCell (Ja b 19) h).setCell (Ja b 18) j).setCell (Ja b 20) d).heap[b]?=some (.cells cs' T (0,0))/\(((((((W.setCell (Ja b 15) i).setCell (Ja b 16) f).setCell (Ja b 21) c).setCell (Ja b 17) a).setCell (Ja b 19) h).setCell (Ja b 18) j).setCell (Ja b 20) d).heap[m]?=some (.cells n q (0,0))/\Below B w (((((((W.setCell (Ja b 15) i).setCell (Ja b 16) f).setCell (Ja b 21) c).setCell (Ja b 17) a).setCell (Ja b 19) h).setCell (Ja b 18) j).setCell (Ja b 20) d):=by
 subst t;exact⟨(Qaz (Qaz (Qaz (Qaz (Qaz (Qaz (Qaz k 15 i) 16 f) 21 c) 17 a) 19 h) 18 j) 20 d),((Qal l 20 d).trans ((Qal l 18 j).trans ((Qal l 19 h).trans ((Qal l 17 a).trans ((Qal l 21 c).trans ((Qal l 16 f).trans ((Qal l 15 i).trans r))))))),(Below.setCell (p:=(Ja b 20)) (Below.setCell (p:=(Ja b 18)) (Below.setCell (p:=(Ja b 19)) (Below.setCell (p:=(Ja b 17)) (Below.setCell (p:=(Ja b 21)) (Below.setCell (p:=(Ja b 16)) (Below.setCell (p:=(Ja b 15)) s g i) g f) g c) g a) g h) g j) g d)⟩
def Qp7(n en m z y:Nat):JW:=#[Ju 0,Ju 0,Ju 0,Ju 0,Ju 0,Ju 0,Ju 0,Ju 0,Ju n,Ju en,Ju m,.bool true,Jb 1,Jb 1,Jb 0,Ji z,Ji y,Ji (-1800000000),Ji (-850511287),Ji 1800000000,Ji 850511287,Ji z,Ji 0,Ji 0]
def zLo(L:List Itm):Nat:=match L with|[]=>0|x :: _=>Qh9 x.1
def zHi(L:List Itm):Nat:=match L.getLast? with|none=>0|some x=>Qh9 x.1
theorem Qqv(L:List Itm)(m:∀x∈L,x.1<6004799503160661)(B:L.length<=80)(a:Option Addr)(c:Nat)(w:World)(k:ItmB w (.slice a L.length c) L) :
  Calls prog 74 #[.agg #[.slice a L.length c]] w fun e w'=>(∃b,e=.returned (.tuple #[Ji (zLo L:Nat),Ji (zHi L:Nat),.bool b]))/\Jw w w':=by
 obtain⟨c0,hb⟩:=QqD w (.slice a L.length c) 31
 by_cases d:L = []
 ·subst d
  have l:=Z hb;clear hb k;go_enter func74,ntmps74;go_wp2;go_ret3;exact⟨⟨_,rfl⟩,l.o⟩
 ·obtain⟨g,c',hv,hg,hx⟩:=k.at d
  injection hv with q1 q2 q3
  subst q1;have f:0<L.length:=List.length_pos_iff.2 d;obtain⟨x0,-⟩:=hx 0 f;obtain⟨x1,-⟩:=hx (L.length-1) (by omega)
  have y:=Z (fun i (h:i<6004799503160661) W=>Qo2 i h W)
  have t:=m L[0] (JG _);have v:=m (L[L.length-1]'(by omega)) (JG _)
  have q:zLo L=Qh9 L[0].1:=by
   cases L with
   |nil=>exact JN rfl d
   |cons x r=>rfl
  have s:zHi L=Qh9 (L[L.length-1]'(by omega)).1:=by
   unfold zHi;rw[List.getLast?_eq_getElem?,qU (by omega)]
  rw[q,s];obtain⟨i,h⟩:∃i,L[0].1=i:=⟨_,rfl⟩;obtain⟨j,hj⟩:∃j,(L[L.length-1]'(by omega)).1=j:=⟨_,rfl⟩
  rw[h] at x0 t ⊢;rw[hj] at x1 v ⊢;obtain⟨n,hnn⟩:∃n,L.length=n:=⟨_,rfl⟩;rw[hnn] at x1 c0 hb f ⊢;have A:n<=80:=by omega
  have C:(w.alloc (.cells #[Jl g n c] 31)).cell? (Ja g 0)=some (Ju i):=(hb.cell (p:=(Ja g 0)) hg).trans (by rw[Nat.zero_mul] at x0;exact x0)
  have D:(w.alloc (.cells #[Jl g n c] 31)).cell? (Ja g ((n-1)*2))=some (Ju j):=(hb.cell (p:=(Ja g ((n-1)*2))) hg).trans x1;have E:((n:Int)==0)=false:=by rw[qI];omega
  have z:wrap64 ((n:Int)-1)=((n-1:Nat):Int):=by unfold wrap64;omega
  have l:=Z hb;clear hb k hx x0 x1 q s h hj hnn m B d q2 q3;go_enter func74,ntmps74;go_wp2_with fail;go_quiet (first|(go_at_call 122;exact Calls.quiet_of_same (y.o _ (by assumption) _)))
  go_wp2;go_ret3;exact⟨⟨_,rfl⟩,l.o.trans ⟨rfl,rfl,rfl,qC _,fun _ _=>rfl⟩⟩
theorem QsG(L:List Itm)(l:List Ent)(a:Option Addr)(c:Nat)(v:Value)(w:World)(X:∀x∈L,x.1<6004799503160661)(hn:L.length<=80)(Y:ItmB w (.slice a L.length c) L)(U:EntB w v l)(hl:l.length<=80)(J:∀e∈l,Qbt e/\Qcj e=0/\0<e.2.2.2) :
  Calls prog 29 #[.agg #[.slice a L.length c],v,Jb 0] w (JB (.agg (Qp7 L.length l.length (QfK l).length (zLo L) (zHi L))) w):=by
 obtain⟨W,hW⟩:∃W,(w.alloc (.cells #[.slice a L.length c] 31)).alloc (.cells qZ 47)=W:=⟨_,rfl⟩;have hB:Jw w W:=by rw[<-hW];exact ((qF _ _).alloc (qC _) _).alloc (by simp) _
 have O:W.heap[w.heap.size]?=some (.cells #[.slice a L.length c] 31 (0,0)):=by
  rw[<-hW];exact (JQ _ _ _ (by rw[qJ];omega)).trans (JI w _)
 have H:W.heap[w.heap.size+1]?=some (.cells qZ 47 (0,0)):=by
  have:=JI (w.alloc (.cells #[.slice a L.length c] 31)) (.cells qZ 47);rw[qJ] at this;rw[<-hW];exact this
 have t:=Z (fun W=>Qxh a L.length c W)
 have r:=Z (fun W (h:EntB W v l)=>Qqr l v W h (by omega) J)
 have q:=Z (fun W (P:Jw w W)=>Qqv L X hn a c W (Y.below P))
 have I:=Z (fun W (P:Jw w W)=>U.kept (KeptC.of_below P))
 obtain⟨ab,cl,rfl,-⟩:=U.len;have hm:(QfK l).length<=80:=qD (QrP l []) (by simpa using hl)
 obtain⟨z,hz⟩:∃z,zLo L=z:=⟨_,rfl⟩;obtain⟨y,hy⟩:∃y,zHi L=y:=⟨_,rfl⟩;obtain⟨m,hm'⟩:∃m,(QfK l).length=m:=⟨_,rfl⟩;obtain⟨n,hn'⟩:∃n,L.length=n:=⟨_,rfl⟩;obtain⟨f,hen'⟩:∃f,l.length=f:=⟨_,rfl⟩;rw[hz,hy] at q;rw[hm'] at r hm;rw[hn'] at q t hn hW O;rw[hen'] at r I hl;rw[hz,hy,hm',hn',hen'];have qc:IntKind.u64.wrap (n:Int)=(n:Int):=by rw[JU];omega
 have qb:IntKind.u64.wrap (f:Int)=(f:Int):=by rw[JU];omega
 have qa:IntKind.u64.wrap (m:Int)=(m:Int):=by rw[JU];omega
 obtain⟨c3,-⟩:=QaF O;have k:=Z (qE hB (qE O H));clear hB O H U Y J hz hy hm' hn' hen' X;go_enter func29,ntmps29;go_wp2_with fail;refine (t.o _).mono ?_;rintro e w1 ⟨rfl,s⟩;have G:=k.o.1.trans (s.mono k.o.1.size);have b:=Z (qE G s);clear s G;go_wp2_with fail;refine (r.o _ (I.o _ b.o.1)).mono ?_;rintro e K ⟨rfl,g⟩;have p:=b.o.1.trans (g.mono b.o.1.size);have T:=(g.block _ (by have:=b.o.2.size;have:=(gsi k.o.2.1).1;omega)).trans ((b.o.2.block _ (gsi k.o.2.1).1).trans k.o.2.1)
 have N:=(g.block _ (by have:=b.o.2.size;have:=(gsi k.o.2.2).1;omega)).trans ((b.o.2.block _ (gsi k.o.2.2).1).trans k.o.2.2)
 obtain⟨W6,hW6⟩:∃W6,K.alloc (.cells qZ 47)=W6:=⟨_,rfl⟩;obtain⟨b7,hb7⟩:∃b7,K.heap.size=b7:=⟨_,rfl⟩;have D:Jw K W6:=by rw[<-hW6];exact (qF _ _).alloc (qC _) _
 have S:W6.heap[b7]?=some (.cells qZ 47 (0,0)):=by rw[<-hW6,<-hb7];exact JI K _
 have V:=Z S;have l6:w.heap.size+1<b7:=by rw[<-hb7];exact (gsi N).1
 have d:=setRow_heap W6 b7 #[Ju 0,Ju 0,Ju 0,Ju 0,Ju 0,Ju 0,Ju 0,Ju 0,Ju 0,Ju 0,Ju 0,.bool false,Jb 0,Jb 0,Jb 0,Ji 0,Ji 0,Ji 0,Ji 0,Ji 0,Ji 0,Ji 0,Ji 0,Ji 0] #[Ju 0,Ju 0,Ju 0,Ju 0,Ju 0,Ju 0,Ju 0,Ju 0,Ju n,Ju f,Ju m,.bool true,Jb 1,Jb 1,Jb 0,Ji 0,Ji 0,Ji 0,Ji 0,Ji 0,Ji 0,Ji 0,Ji 0,Ji 0] 47 (0,0) S;have i:Jw K (W6.setRow b7 #[Ju 0,Ju 0,Ju 0,Ju 0,Ju 0,Ju 0,Ju 0,Ju 0,Ju n,Ju f,Ju m,.bool true,Jb 1,Jb 1,Jb 0,Ji 0,Ji 0,Ji 0,Ji 0,Ji 0,Ji 0,Ji 0,Ji 0,Ji 0]):=Qba D (by omega) _
 have C:=(i.block _ (gsi T).1).trans T;have E:=(i.block _ (gsi N).1).trans N;obtain⟨c37,-⟩:=QaF C;have B:=Z (qE (p.trans (i.mono p.size)) (qE d (qE E l6)));clear p T N i d l6 C E c3 g D S;go_wp2_with (refine wpList_store_row rfl 47 (.tmp 7) (.tmp 18) rfl b7 #[Ju 0,Ju 0,Ju 0,Ju 0,Ju 0,Ju 0,Ju 0,Ju 0,Ju n,Ju f,Ju m,.bool true,Jb 1,Jb 1,Jb 0,Ji 0,Ji 0,Ji 0,Ji 0,Ji 0,Ji 0,Ji 0,Ji 0,Ji 0] rfl rfl 47 #[Ju 0,Ju 0,Ju 0,Ju 0,Ju 0,Ju 0,Ju 0,Ju 0,Ju 0,Ju 0,Ju 0,.bool false,Jb 0,Jb 0,Jb 0,Ji 0,Ji 0,Ji 0,Ji 0,Ji 0,Ji 0,Ji 0,Ji 0,Ji 0] V.o (by kernel_rfl) rfl (by simp[Value.oneCell']) ?_)
 refine (q.o _ B.o.1).mono ?_;rintro e w3 ⟨⟨zb,rfl⟩,j⟩;obtain⟨p1,p2,p3,p4⟩:=B.o;have d:=(j.block _ (gsi p2).1).trans p2;have H:=(j.block _ (gsi p3).1).trans p3;have M:=Z (set7 (cs':=Qp7 n f m z y) d H (by omega) (p1.trans (j.mono p1.size)) (by omega) (Ji z) (Ji y) (Ji z) (Ji (-1800000000)) (Ji 1800000000) (Ji (-850511287)) (Ji 850511287) (by kernel_rfl))
 obtain⟨y15,f15⟩:=Qak d 15 (Ji 0) rfl;obtain⟨y16,f16⟩:=Qak d 16 (Ji 0) rfl;obtain⟨y21,f21⟩:=Qak d 21 (Ji 0) rfl;obtain⟨y17,f17⟩:=Qak d 17 (Ji 0) rfl;obtain⟨y19,f19⟩:=Qak d 19 (Ji 0) rfl;obtain⟨y18,f18⟩:=Qak d 18 (Ji 0) rfl;obtain⟨y20,f20⟩:=Qak d 20 (Ji 0) rfl;clear p1 p2 p3 p4 d H j c37;go_upto_region 5 with fail
 have R:(Qp7 n f m z y).all (·.oneCell')=true:=by kernel_rfl
 go_wp2_with (first|(refine wpList_load_row rfl 47 (.tmp 7) rfl b7 rfl 47 (Qp7 n f m z y) (0,0) _ M.o.1 underlying47 rfl (by kernel_rfl) ?_)|(refine wpList_store_row rfl 47 (.tmp 6) (.tmp 34) rfl (w.heap.size+1) (Qp7 n f m z y) rfl rfl 47 #[Ju 0,Ju 0,Ju 0,Ju 0,Ju 0,Ju 0,Ju 0,Ju 0,Ju 0,Ju 0,Ju 0,.bool false,Jb 0,Jb 0,Jb 0,Ji 0,Ji 0,Ji 0,Ji 0,Ji 0,Ji 0,Ji 0,Ji 0,Ji 0] M.o.2.1 (by kernel_rfl) rfl R ?_))
 refine QeV (A:=(Ja (w.heap.size+1) 0)) rfl (Qb6 (setRow_heap _ _ _ _ _ _ M.o.2.1) rfl) rfl rfl ?_;exact⟨rfl,Qba M.o.2.2 (by omega) _⟩
def leB:Nat->Nat->JL
 |0,_=>[]
 |n+1,x=>UInt8.ofNat x :: leB n (x/256)
theorem Qb7(n:Nat):∀x,(leB n x).length=n:=by
 induction n with
 |zero=>intro x;rfl
 |succ n ih=>intro x;unfold leB;rw[qH,ih]
theorem QCc(n:Nat):∀x,x<256 ^ n->leN (leB n x)=x:=by
 induction n with
 |zero=>
  intro x hx;have:x=0:=by simpa using hx
  subst this;rfl
 |succ n ih=>
  intro x hx;unfold leB leN;rw[ih (x/256) (by rw[Nat.div_lt_iff_lt_mul (by decide),<-Nat.pow_succ];exact hx),UInt8.toNat_ofNat']
  omega
theorem Qlv(m x:Nat)(s:JL)(k n:Nat)(h:m<=k):atN (leB m x++s) k n=atN s (k-m) n:=by
 unfold atN;rw[List.drop_append,List.drop_of_length_le (by rw[Qb7];exact h),Qb7,J3]
theorem Qbn(x:Nat)(s:JL)(n:Nat)(h:x<256 ^ n):atN (leB n x++s) 0 n=x:=by
 unfold atN;rw[List.drop_zero,List.take_append,qX (by rw[Qb7];exact qC _),Qb7,Nat.sub_self,List.take_zero,qT]
 exact QCc n x h
def Qa8(x:Int):Nat:=(x%4294967296).toNat
theorem QfW(x:Int):Qa8 x<256 ^ 4:=by
 unfold Qa8;have h:(256:Nat) ^ 4=4294967296:=by decide
 rw[h];omega
theorem Qhe(x:Int)(a : -2147483648<=x)(b:x<2147483648):Qko (Qa8 x)=x:=by
 unfold Qko Qa8
 by_cases hx:0<=x
 ·rw[JK (by omega)];omega
 ·rw[JJ (by omega)];omega
def QwA(h:Hdr)(r:JL):JL:=
 leB 8 h.rf++(leB 8 h.rl++(leB 8 h.mf++(leB 8 h.ml++(leB 8 h.lf++(leB 8 h.ll++(leB 8 h.df++(leB 8 h.dl++(leB 8 h.ad++(leB 8 h.en++(leB 8 h.co ++
 (leB 1 (if h.cl then 1 else 0)++(leB 1 h.inn++(leB 1 h.out++(leB 1 h.kd++(leB 1 h.z0.toNat++(leB 1 h.z1.toNat ++
 (leB 4 (Qa8 h.x0)++(leB 4 (Qa8 h.y0)++(leB 4 (Qa8 h.x1)++(leB 4 (Qa8 h.y1)++(leB 1 h.zo.toNat++(leB 4 (Qa8 h.lo)++(leB 4 (Qa8 h.la)++r)))))))))))))))))))))))
def QjW:JL:=[80,77,84,105,108,101,115,3]
def Qkq(h:Hdr):JL:=QjW++QwA h []
theorem Qzt(h:Hdr)(r:JL):QwA h []++r=QwA h r:=by
 unfold QwA;simp only[qP,J3]
theorem QiD(h:Hdr)(r:JL):Qkq h++r=QjW++QwA h r:=by
 unfold Qkq;rw[qP,Qzt]
theorem Qzs(h:Hdr)(r:JL):(QwA h r).length=119+r.length:=by
 unfold QwA;simp only[qG,Qb7];omega
theorem QdQ(h:Hdr):(Qkq h).length=127:=by
 unfold Qkq;rw[qG,Qzs];rfl
theorem QoG(s:JL)(k n:Nat):atN (QjW++s) (k+8) n=atN s k n:=by
 unfold atN;rw[List.drop_append,List.drop_of_length_le (by show 8<=k+8;omega),J3]
 rw[show k+8-QjW.length=k from Nat.add_sub_cancel k 8]
theorem Qwr(a b x:Int)(h:inB a b x=true):a<=x/\x<=b:=by
 unfold inB at h;rw[JD,qO,qO] at h;exact h
theorem Qxf(h:Hdr)(c:QkG h=0):Qd5 h=true/\(h.inn<=4/\h.out<=4/\h.kd<=5)/\((0<=h.z0/\h.z0<=26)/\(0<=h.z1/\h.z1<=26)/\(0<=h.zo/\h.zo<=26))/\
  ((-1800000000<=h.x0/\h.x0<=1800000000)/\(-1800000000<=h.x1/\h.x1<=1800000000)/\(-1800000000<=h.lo/\h.lo<=1800000000))/\
  ((-900000000<=h.y0/\h.y0<=900000000)/\(-900000000<=h.y1/\h.y1<=900000000)/\(-900000000<=h.la/\h.la<=900000000)):=by
 have m:=Qj9 h c;unfold QkG at c;rw[JJ (by rw[m];decide)] at c
 by_cases l:4<h.inn\/4<h.out\/5<h.kd
 ·rw[JK l] at c;cases c
 rw[JJ l] at c;have i:∀(a b:Int) (d f x y z:Int),¬((inB d f x&&(inB d f y&&inB d f z))=false\/b<a)->(d<=x/\x<=f)/\(d<=y/\y<=f)/\(d<=z/\z<=f):=by
  intro a b d f x y z p;have g:(inB d f x&&(inB d f y&&inB d f z))=true:=by
   cases n:(inB d f x&&(inB d f y&&inB d f z))
   ·exact JN (.inl n) p
   ·rfl
  rw[JD,JD] at g;exact⟨Qwr _ _ _ g.1,Qwr _ _ _ g.2.1,Qwr _ _ _ g.2.2⟩
 by_cases j:(inB 0 26 h.z0&&(inB 0 26 h.z1&&inB 0 26 h.zo))=false\/h.z1<h.z0
 ·rw[JK j] at c;cases c
 rw[JJ j] at c
 by_cases g:(inB (-1800000000) 1800000000 h.x0&&(inB (-1800000000) 1800000000 h.x1&&inB (-1800000000) 1800000000 h.lo))=false\/h.x1<h.x0
 ·rw[JK g] at c;cases c
 rw[JJ g] at c
 by_cases k:(inB (-900000000) 900000000 h.y0&&(inB (-900000000) 900000000 h.y1&&inB (-900000000) 900000000 h.la))=false\/h.y1<h.y0
 ·rw[JK k] at c;cases c
 exact⟨m,by omega,i _ _ _ _ _ _ _ j,i _ _ _ _ _ _ _ g,i _ _ _ _ _ _ _ k⟩
theorem Qrz(h:Hdr)(L:QkG h=0)(U:h.ad<18446744073709551616)(T:h.en<18446744073709551616)(M:h.co<18446744073709551616)(r:JL):Qoa (Qkq h++r)=h/\Qf3 (Qkq h++r)=0:=by
 obtain⟨hs,⟨i1,i2,i3⟩,⟨z1,z2,z3⟩,⟨x1,x2,x3⟩,⟨y1,y2,y3⟩⟩:=Qxf h L;obtain⟨⟨r1,r2,-⟩,⟨m1,m2,-⟩,⟨l1,l2,-⟩,⟨d1,d2,-⟩⟩:=QlU h hs;have O:Qds=1099511627776:=rfl;have P:(256:Nat) ^ 8=18446744073709551616:=by decide
 have R:(256:Nat) ^ 1=256:=by decide
 have b:(if h.cl=true then 1 else 0)<256 ^ 1:=by split<;>decide
 have K:Qoa (Qkq h++r)=h:=by
  rw[QiD];unfold Qoa;rw[show (8:Nat)=0+8 from rfl];have e:=fun k n=>QoG (QwA h r) k n
  have f:=e 0 8;have j:=e 8 8;have B:=e 16 8;have G:=e 24 8;have E:=e 32 8;have y:=e 40 8;have A:=e 48 8;have g:=e 56 8;have d:=e 64 8;have H:=e 72 8;have a:=e 80 8;have m:=e 88 1;have v:=e 89 1;have i:=e 90 1;have J:=e 91 1;have t:=e 92 1;have D:=e 93 1;have p:=e 94 4;have c:=e 98 4;have C:=e 102 4;have l:=e 106 4;have q:=e 110 1;have s:=e 111 4;have z:=e 115 4;simp only[Nat.reduceAdd,Nat.zero_add] at f j B G E y A g d H a m v i J t D p c C l q s z ⊢;rw[f,j,B,G,E,y,A,g,d,H,a,m,v,i,J,t,D,p,c,C,l,q,s,z];clear f j B G E y A g d H a m v i J t D p c C l q s z e;unfold QwA;simp only[Qlv,Nat.reduceLeDiff,Nat.reduceSub,qC,Nat.sub_self];rw[Qbn _ _ _ (by omega),Qbn _ _ _ (by omega),Qbn _ _ _ (by omega),Qbn _ _ _ (by omega),Qbn _ _ _ (by omega),Qbn _ _ _ (by omega),Qbn _ _ _ (by omega),Qbn _ _ _ (by omega),Qbn _ _ _ (by omega),Qbn _ _ _ (by omega),Qbn _ _ _ (by omega),Qbn _ _ _ b,Qbn _ _ _ (by omega),Qbn _ _ _ (by omega),Qbn _ _ _ (by omega),Qbn _ _ _ (by omega),Qbn _ _ _ (by omega),Qbn _ _ _ (QfW _),Qbn _ _ _ (QfW _),Qbn _ _ _ (QfW _),Qbn _ _ _ (QfW _),Qbn _ _ _ (by omega),Qbn _ _ _ (QfW _),Qbn _ _ _ (QfW _)]
  rw[Qhe _ (by omega) (by omega),Qhe _ (by omega) (by omega),Qhe _ (by omega) (by omega),Qhe _ (by omega) (by omega),Qhe _ (by omega) (by omega),Qhe _ (by omega) (by omega)]
  have N:decide ((if h.cl=true then 1 else 0)=1)=h.cl:=by cases h.cl<;>rfl
  rw[N,Int.toNat_of_nonneg z1.1,Int.toNat_of_nonneg z2.1,Int.toNat_of_nonneg z3.1]
 refine⟨K,?_⟩;have S:(Qkq h++r).length=127+r.length:=by rw[qG,QdQ]
 have I:atN (Qkq h++r) 96 1=if h.cl=true then 1 else 0:=by
  rw[QiD,show (96:Nat)=88+8 from rfl,QoG];unfold QwA;simp only[Qlv,Nat.reduceLeDiff,Nat.reduceSub,qC,Nat.sub_self];exact Qbn _ _ _ b
 unfold Qf3;rw[K,JJ (by omega),JJ,JJ,JJ,L]
 ·rw[I];split<;>decide
 ·rw[QiD];exact fun x=>x rfl
 ·rw[QiD];exact fun x=>x rfl
def QdV(l:JL)(w:World)(e:Ending)(w':World):Prop:=
 ∃a c,e=.returned (.slice a l.length c)/\w'.ownsRow w.heap.size 5 1 (.slice a l.length c) l.length (QaL l)/\Jw w w'
theorem Qln(w:World)(a:Option Addr)(n c b d:Nat):(binOp .eql 169 (.slice a n c) (.slice none b d)).run prog w=.ok (.bool a.isNone) w:=Lib.run_eql_slice_nil w _ _ a n c b d underlying169
theorem Qig(w:World):Calls prog 205 #[.slice none 0 0] w (JS (.slice none 0 0) w):=by
 have q:=Qln;go_enter func205,ntmps205;go_wp2;go_ret;exact⟨rfl,rfl⟩
theorem QtV(l:JL):∀u∈QaL l,u.oneCell'=true:=by
 intro u a;unfold QaL at a;obtain⟨b,-,rfl⟩:=List.mem_map.1 a;rfl
theorem Qoz(v:Value)(b0:Nat)(l:JL)(w:World)(h:w.ownsRow b0 5 1 v l.length (QaL l))(x:l.length<=1000000) :
  Calls prog 205 #[v] w (QdV l w):=by
 rcases id h.2 with⟨rfl,h0⟩|⟨g,cap,cur,rfl,-⟩
 ·refine (Qig w).mono ?_
  rintro e w' ⟨rfl,p⟩;subst p;obtain rfl:l = []:=List.length_eq_zero_iff.1 h0;exact⟨_,_,rfl,JZ _ _ _ _,qF _ _⟩
 ·have q:=Qln
  obtain⟨i0,hi,hz0,hz1,hz2⟩:=info_parts QjI;have n:=Z (h.cells (g:=g) rfl);have i:=Z (QmW l);have m:=Z (QtV l);obtain⟨E,hE⟩:∃E,QaL l=E:=⟨_,rfl⟩;rw[hE] at n i m;have A:=Z hE;obtain⟨N,hN⟩:∃N,l.length=N:=⟨_,rfl⟩;rw[hN] at i x ⊢;have y:=Z hN;clear h hE hN;go_enter func205,ntmps205;go_wp2_with (at_builtin;refine wpList_append_own _ rfl _ _ 169 rfl w.heap.size 5 i0 (Jb 0) 1 1 underlying169 hi hz0 hz1 hz2 rfl (by decide) _ _ _ rfl (World.ownsRow_made w #[] 0 (qC _) (qL _) rfl) (Ja g 0) N cap E rfl ?qc1 ?qc2 ?qc3 ?qc4 ?qc5 ?qc6 ?_)
  case qc1=>rw[i.o,Nat.mul_one]
  case qc2=>exact fun j u hj=>Lib.cell?_alloc_some _ (n.o j u hj)
  case qc3=>exact m.o
  case qc4=>unfold maxLen;omega
  case qc5=>omega
  case qc6=>simp
  intro t r d f z;have b:r.ownsRow w.heap.size 5 1 t N E:=by simpa using d
  go_wp2;go_ret;obtain⟨a,c,hv⟩:=Qat b;subst hv;unfold QdV;rw[y.o,A.o];exact⟨a,c,rfl,b,((qF _ w).alloc (qC _) _).grown f (by simp) (by intro k s;simp[Value.ownBlock] at s;omega)⟩
theorem Qy6(n:Nat):∀x,leB (n+1) x=leB n x++[UInt8.ofNat (x/256 ^ n)]:=by
 induction n with
 |zero=>intro x;show [UInt8.ofNat x]=_;rw[Nat.pow_zero,Nat.div_one];rfl
 |succ n ih=>
  intro x;show UInt8.ofNat x :: leB (n+1) (x/256)=_;rw[ih,Nat.div_div_eq_div_mul,show 256*256 ^ n=256 ^ (n+1) by rw[Nat.pow_succ,Nat.mul_comm]]
  rfl
theorem QvQ(y:Nat):UInt8.ofNat (y%256)=UInt8.ofNat y:=by
 apply UInt8.toNat_inj.1;rw[UInt8.toNat_ofNat',UInt8.toNat_ofNat',Nat.mod_mod]
def LpSt(l:JL)(n x:Nat)(w:World)(u2 u7 u15:Value)(wr:World):Prop:=
 ∃(k:Nat) (a:Option Addr) (c:Nat),k<=n/\u15 = Ji k/\u2 = Ju (x/256 ^ k:Nat)/\u7=.slice a (l++leB k x).length c/\wr.ownsRow w.heap.size 5 1 (.slice a (l++leB k x).length c) (l++leB k x).length (QaL (l++leB k x))/\Jw w wr
theorem Qk7(b0 n x:Nat)(l:JL)(v:Value)(w:World)(N:∃a c,v=.slice a l.length c)(G:1<=n)(M:n<=8)(hx:x<18446744073709551616)(U:l.length<=900000)(f:w.ownsRow b0 5 1 v l.length (QaL l)) :
  Calls prog 167 #[v,Ji n,Ju x] w (QdV (l++leB n x) w):=by
 have m:=Z (Qoz v b0 l w f (by omega))
 have E:=Z (fun W=>Qes n W G M)
 obtain⟨a0,c0,rfl⟩:=N;obtain⟨L,hL⟩:∃L,l.length=L:=⟨_,rfl⟩;have P:=Z hL;rw[hL] at m f ⊢;clear f hL;go_enter func167,ntmps167;go_wp2_with fail;refine m.o.mono ?_;rintro e S ⟨O,I,rfl,q,s⟩;have j:=Z (qE q s);clear q s;go_wp2_with fail;refine (E.o _).mono ?_;rintro e X ⟨rfl,D⟩;obtain rfl:=D.symm;clear D;go_wp2_with fail;go_loopw [2,7,15] (fun u2 u7 u15 wr=>Hi (LpSt l n x w u2 u7 u15 wr)) (fun _ _ u15 _=>n-(intOf u15).toNat)
 case atStart=>exact Z ⟨0,O,I,qL _,rfl,by rw[Nat.pow_zero,Nat.div_one],by rw[show leB 0 x = [] from rfl,qT],by rw[show leB 0 x = [] from rfl,qT];exact j.o.1,j.o.2⟩
 case round=>
  obtain⟨k,a,c,hk,rfl,rfl,rfl,f,hb⟩:=hrel.o;clear hrel
  by_cases g:k<n
  ·have K:decide (k<n)=true:=qA g
   have t:decide ((k:Int)<(n:Int))=true:=qA (by omega)
   have V:x/256 ^ k<18446744073709551616:=Nat.lt_of_le_of_lt (Nat.div_le_self _ _) hx;have p:x/256 ^ k/256=x/256 ^ (k+1):=by rw[Nat.div_div_eq_div_mul,Nat.pow_succ]
   have B:=Z p;have i:=Qy6 k x;have hlen:(l++leB k x).length=l.length+k:=by rw[qG,Qb7]
   have h:Hi (l++leB (k+1) x=(l++leB k x)++[UInt8.ofNat (x/256 ^ k%256)]):=Z (by rw[i,QvQ,qP])
   generalize x/256 ^ k=y at *;obtain⟨d,hd⟩:∃d,l++leB k x=d:=⟨_,rfl⟩;rw[hd] at f hlen h ⊢;have b:=Z f;have r:=Z hb;clear f hb p i hd;go_wp2_with (at_builtin;go_loud (refine Qdd 169 5 (Jb 0) 1 1 underlying169 QjI rfl (by decide) (by decide) wr [Jb ((y:Int)%256)] rfl (by simp[Value.oneCell']) (by rfl) _ _ (by rfl) w.heap.size _ d.length (QaL d) (by rfl) b.o (by rfl) (by omega) r.o.size ?_);intro H z T C A J)
   refine⟨Z ⟨k+1,some (Ja H 0),z,g,by go_num,?_,?_,?_,Qf4 r.o A b.o (qC _) (qC _)⟩,?_⟩
   ·rw[<-B.o];rfl
   ·rw[h.o,qG,List.length_singleton,hlen]
   ·rw[h.o,qG,List.length_singleton,Qga _ _ (by omega)]
    exact C
   ·simp[intOf];omega
  ·have K:decide (k<n)=false:=qB g
   have t:decide ((k:Int)<(n:Int))=false:=qB (by omega)
   obtain rfl:k=n:=by omega
   have b:=Z (qE f hb);clear f hb;obtain⟨d,hd⟩:∃d,l++leB k x=d:=⟨_,rfl⟩;rw[hd] at b ⊢;have R:=Z hd;clear hd;go_wp2;go_ret;rw[R.o];exact⟨a,c,rfl,b.o.1,b.o.2⟩
theorem Qof{α:Type}(f:α->JL)(xs:List α)(k:Nat)(x:α)(h:xs[k]?=some x):(xs.take (k+1)).flatMap f=(xs.take k).flatMap f++f x:=by
 obtain⟨hk,rfl⟩:=List.getElem?_eq_some_iff.1 h;rw[qV hk,List.flatMap_append];simp
theorem QzK(n:Nat)(xs:List Nat):(xs.flatMap (leB n)).length=n*xs.length:=by
 induction xs with
 |nil=>simp
 |cons x r ih=>rw[List.flatMap_cons,qG,Qb7,ih,qH,Nat.mul_add,Nat.mul_one];omega
def QEm(f:Nat->JL)(l:JL)(w:World)(k:Nat)(u0:Value)(wr:World):Prop:=
 ∃(bb:Nat) (a:Option Addr) (c:Nat),u0=.slice a (l++f k).length c/\wr.ownsRow bb 5 1 (.slice a (l++f k).length c) (l++f k).length (QaL (l++f k))/\(0<k->w.heap.size<=bb)/\Jw w wr
theorem Qtj(b0 n g c:Nat)(l:JL)(xs:List Nat)(v:Value)(w:World)(I:∃a c,v=.slice a l.length c)(T:1<=n)(N:n<=8)(r:∀x∈xs,x<18446744073709551616)(G:l.length<=500000)(J:0<xs.length)(R:xs.length<=1000)(i:w.ownsRow b0 5 1 v l.length (QaL l))
  (S:g<w.heap.size) (P:∀j (hj:j<xs.length),w.cell? (Ja g j)=some (Ju xs[j])) :
  Calls prog 116 #[v,Ji n,Jl g xs.length c] w (QdV (l++xs.flatMap (leB n)) w):=by
 obtain⟨f,hf⟩:∃f:Nat->JL,f=fun k=>(xs.take k).flatMap (leB n):=⟨_,rfl⟩
 have y:∀k,(f k).length<=8000:=by
  intro k;rw[hf];show ((xs.take k).flatMap (leB n)).length<=_;rw[QzK,qW];have:min k xs.length<=1000:=by omega
  calc n*min k xs.length<=8*1000:=Nat.mul_le_mul N this
   _=8000:=rfl
 have m:f 0 = []:=by rw[hf];rfl
 have s:∀k x,xs[k]?=some x->f (k+1)=f k++leB n x:=by intro k x h;rw[hf];exact Qof _ _ _ _ h
 have A:f xs.length=xs.flatMap (leB n):=by rw[hf];show (xs.take xs.length).flatMap _=_;rw[List.take_length]
 rw[<-A];have HP:=Z (fun (D x:Nat) (d:JL) (v:Value) (W:World) (I:∃a c,v=.slice a d.length c) hx G i=>Qk7 D n x d v W I T N hx G i)
 have HX:=Z r;have U:=Z P;have K:=Z (qE y s);obtain⟨a0,c0,rfl⟩:=I;obtain⟨L,hL⟩:∃L,l.length=L:=⟨_,rfl⟩;have Y:Hi (QEm f l w 0 (.slice a0 L c0) w):=Z ⟨b0,a0,c0,by rw[m,qT,hL],by rw[m,qT];exact i,fun h=>JN h (qR _),qF _ _⟩
 have HL:=Z hL;rw[hL] at G ⊢;clear i r P hf y m s A hL;go_enter func116,ntmps116;go_wp2_with fail;go_loopw [0,11] (fun u0 u11 wr=>Hi (∃k:Nat,k<=xs.length/\u11 = Ji k/\QEm f l w k u0 wr)) (fun _ u11 _=>xs.length-(intOf u11).toNat)
 case atStart=>exact Z ⟨0,qL _,rfl,Y.o⟩
 case round=>
  obtain⟨k,hk,rfl,D,a,c1,rfl,i,hbb,hb⟩:=hrel.o;clear hrel
  by_cases b:k<xs.length
  ·have X:decide (k<xs.length)=true:=qA b
   have C:decide ((k:Int)<(xs.length:Int))=true:=qA (by omega)
   have cx:=(hb.cell (p:=(Ja g k)) S).trans (U.o k b);have H:=K.o.1 k;have O:=Z (K.o.2 k xs[k] (qU b));have E:=Z (HP.o D xs[k] (l++f k) (.slice a (l++f k).length c1) wr ⟨a,c1,rfl⟩ (HX.o _ (JG b)) (by rw[qG,HL.o];omega) i)
   rw[qP,<-O.o] at E;have M:=Z hb;generalize xs[k]=x at *;obtain⟨d,hd⟩:∃d,l++f k=d:=⟨_,rfl⟩;rw[hd] at E ⊢;clear i hbb hb hd H O;go_wp2_with fail;refine E.o.mono ?_;rintro e w2 ⟨a2,V,rfl,B,z⟩;have t:=Z (qE B z);clear B z;go_wp2_with fail;refine⟨Z ⟨k+1,b,by go_num,wr.heap.size,a2,V,by rw[qG],t.o.1,fun _=>M.o.size,Qaa M.o t.o.2⟩,?_⟩
   simp[intOf];omega
  ·have X:decide (k<xs.length)=false:=qB b
   have C:decide ((k:Int)<(xs.length:Int))=false:=qB (by omega)
   obtain rfl:k=xs.length:=by omega
   have q:=Z (qE (QaM i (hbb J)) hb);clear i hb hbb;obtain⟨d,hd⟩:∃d,l++f xs.length=d:=⟨_,rfl⟩;rw[hd] at q ⊢;have HD:=Z hd;clear hd;go_wp2;go_ret;rw[HD.o];exact⟨a,c1,rfl,q.o.1,q.o.2⟩
theorem QjA(x:Int)(w:World)(f : -2147483648<=x)(d:x<2147483648):Calls prog 168 #[Ji x,Ji 4] w (JS (.tuple #[Ju (Qa8 x:Nat),Ji 0]) w):=by
 have b:=Z (fun W=>Qes 4 W (by decide) (by decide))
 go_enter func168,ntmps168;go_wp2_with fail;refine (b.o _).mono ?_;rintro e c ⟨rfl,a⟩;obtain rfl:=a.symm;clear a;go_wp2;go_ret2;refine⟨?_,rfl⟩;have e:IntKind.u64.wrap (IntKind.u64.wrap x*4294967296)/4294967296=((Qa8 x:Nat):Int):=by
  unfold Qa8;rw[JU,JU];omega
 rw[<-e];rfl
theorem QkC(b0 g c:Nat)(l:JL)(xs:List Int)(v:Value)(w:World)(O:∃a c,v=.slice a l.length c)(s:∀x∈xs,-2147483648<=x/\x<2147483648)(M:l.length<=500000)(P:0<xs.length)(X:xs.length<=1000)(i:w.ownsRow b0 5 1 v l.length (QaL l))
  (Y:g<w.heap.size) (V:∀j (hj:j<xs.length),w.cell? (Ja g j)=some (Ji xs[j])) :
  Calls prog 117 #[v,Jl g xs.length c] w (QdV (l++xs.flatMap (fun x=>leB 4 (Qa8 x))) w):=by
 obtain⟨f,hf⟩:∃f:Nat->JL,f=fun k=>(xs.take k).flatMap (fun x=>leB 4 (Qa8 x)):=⟨_,rfl⟩
 have A:∀k,(f k).length<=8000:=by
  intro k;rw[hf];show ((xs.take k).flatMap (fun x=>leB 4 (Qa8 x))).length<=_
  have J:∀E:List Int,(E.flatMap (fun x=>leB 4 (Qa8 x))).length=4*E.length:=by
   intro E
   induction E with
   |nil=>simp
   |cons x r ih=>rw[List.flatMap_cons,qG,Qb7,ih,qH];omega
  rw[J,qW];omega
 have m:f 0 = []:=by rw[hf];rfl
 have t:∀k x,xs[k]?=some x->f (k+1)=f k++leB 4 (Qa8 x):=by intro k x h;rw[hf];exact Qof _ _ _ _ h
 have C:f xs.length=xs.flatMap (fun x=>leB 4 (Qa8 x)):=by rw[hf];show (xs.take xs.length).flatMap _=_;rw[List.take_length]
 rw[<-C];have HP:=Z (fun (H x:Nat) (d:JL) (v:Value) (W:World) (O:∃a c,v=.slice a d.length c) hx M i=>Qk7 H 4 x d v W O (by decide) (by decide) hx M i)
 have HX:=Z s;have HC:=Z V;have R:=Z (qE A t);obtain⟨a0,c0,rfl⟩:=O;obtain⟨L,hL⟩:∃L,l.length=L:=⟨_,rfl⟩;have HO:Hi (QEm f l w 0 (.slice a0 L c0) w):=Z ⟨b0,a0,c0,by rw[m,qT,hL],by rw[m,qT];exact i,fun h=>JN h (qR _),qF _ _⟩
 have HL:=Z hL;rw[hL] at M ⊢;clear i s V hf A m t C hL;go_enter func117,ntmps117;go_wp2_with fail;go_loopw [0,11] (fun u0 u11 wr=>Hi (∃k:Nat,k<=xs.length/\u11 = Ji k/\QEm f l w k u0 wr)) (fun _ u11 _=>xs.length-(intOf u11).toNat)
 case atStart=>exact Z ⟨0,qL _,rfl,HO.o⟩
 case round=>
  obtain⟨k,hk,rfl,H,a,c1,rfl,i,hbb,hb⟩:=hrel.o;clear hrel
  by_cases b:k<xs.length
  ·have t1:decide (k<xs.length)=true:=qA b
   have G:decide ((k:Int)<(xs.length:Int))=true:=qA (by omega)
   have cx:=(hb.cell (p:=(Ja g k)) Y).trans (HC.o k b);have N:=R.o.1 k;have U:=Z (R.o.2 k xs[k] (qU b));have n:=HX.o _ (JG b);have K:=QfW xs[k];have HU:=Z (fun W=>QjA xs[k] W n.1 n.2)
   have I:=Z (HP.o H (Qa8 xs[k]) (l++f k) (.slice a (l++f k).length c1) wr ⟨a,c1,rfl⟩ (by have:(256:Nat) ^ 4=4294967296:=rfl;omega) (by rw[qG,HL.o];omega) i)
   rw[qP,<-U.o] at I;have S:=Z hb;generalize xs[k]=x at *;generalize Qa8 x=y at *;obtain⟨d,hd⟩:∃d,l++f k=d:=⟨_,rfl⟩;rw[hd] at I ⊢;clear i hbb hb hd N U n K;go_wp2_with fail;refine (HU.o _).mono ?_;rintro e w1 ⟨rfl,T⟩;obtain rfl:=T.symm;clear T;go_wp2_with fail;refine I.o.mono ?_;rintro e w2 ⟨a2,c2,rfl,D,B⟩;have z:=Z (qE D B);clear D B;go_wp2_with fail;refine⟨Z ⟨k+1,b,by go_num,wr.heap.size,a2,c2,by rw[qG],z.o.1,fun _=>S.o.size,Qaa S.o z.o.2⟩,?_⟩
   simp[intOf];omega
  ·have t1:decide (k<xs.length)=false:=qB b
   have G:decide ((k:Int)<(xs.length:Int))=false:=qB (by omega)
   obtain rfl:k=xs.length:=by omega
   have q:=Z (qE (QaM i (hbb P)) hb);clear i hb hbb;obtain⟨d,hd⟩:∃d,l++f xs.length=d:=⟨_,rfl⟩;rw[hd] at q ⊢;have HD:=Z hd;clear hd;go_wp2;go_ret;rw[HD.o];exact⟨a,c1,rfl,q.o.1,q.o.2⟩
end
section
theorem Ql6(b0 n:Nat)(l:JL)(xs:List Nat)(v:Value)(W:World)(q:∃a c,v=.slice a l.length c)(h:1<=n)(p:n<=8)(i:∀x∈xs,x<18446744073709551616)(r:l.length<=500000)(f:0<xs.length)(d:xs.length<=1000)(k:W.ownsRow b0 5 1 v l.length (QaL l)) :
  Calls prog 116 #[v,Ji n,Jl W.heap.size xs.length xs.length] (W.alloc (.cells (QAH xs).toArray 43)) (QdV (l++xs.flatMap (leB n)) W):=by
 have b:Jw W (W.alloc (.cells (QAH xs).toArray 43)):=(qF _ _).alloc (qC _) _;have m:=JI W (.cells (QAH xs).toArray 43);refine (Qtj b0 n W.heap.size xs.length l xs v _ q h p i r f d (Qac k (fun g hg=>b.block g (k.lt g hg).2)) (by rw[qJ];omega) (fun j hj=>?_)).mono ?_
 ·unfold World.cell?
  rw[m];show (QAH xs).toArray[j]?=_;unfold QAH;rw[List.getElem?_toArray,List.getElem?_map,qU hj];rfl
 ·rintro e w' ⟨a,c,rfl,h,s⟩
  exact⟨a,c,rfl,QaM h b.size,b.trans (s.mono b.size)⟩
theorem Qw4(b0:Nat)(l:JL)(xs:List Int)(v:Value)(W:World)(m:∃a c,v=.slice a l.length c)(h:∀x∈xs,-2147483648<=x/\x<2147483648)(n:l.length<=500000)(f:0<xs.length)(d:xs.length<=1000)(i:W.ownsRow b0 5 1 v l.length (QaL l)) :
  Calls prog 117 #[v,Jl W.heap.size xs.length xs.length] (W.alloc (.cells (xs.map (Value.int .i64)).toArray 3)) (QdV (l++xs.flatMap (fun x=>leB 4 (Qa8 x))) W):=by
 have b:Jw W (W.alloc (.cells (xs.map (Value.int .i64)).toArray 3)):=(qF _ _).alloc (qC _) _;have k:=JI W (.cells (xs.map (Value.int .i64)).toArray 3);refine (QkC b0 W.heap.size xs.length l xs v _ m h n f d (Qac i (fun g hg=>b.block g (i.lt g hg).2)) (by rw[qJ];omega) (fun j hj=>?_)).mono ?_
 ·unfold World.cell?
  rw[k];show (xs.map (Value.int .i64)).toArray[j]?=_;rw[List.getElem?_toArray,List.getElem?_map,qU hj];rfl
 ·rintro e w' ⟨a,c,rfl,q,p⟩
  exact⟨a,c,rfl,QaM q b.size,b.trans (p.mono b.size)⟩
theorem Qv4(w:World)(b0:Nat)(h:JT)(m:b0<=w.heap.size):∃g c w',(Builtin.append_ #[169,169] h #[Jl w.heap.size 7 7,.slice (some (Ja (w.heap.size+1) 0)) 1 1]).run prog ((w.alloc (.cells #[Jb 80,Jb 77,Jb 84,Jb 105,Jb 108,Jb 101,Jb 115] 5 (7,8))).alloc (.cells #[Jb 3] 5))=.ok (Jl g 8 c) w'/\w'.ownsRow b0 5 1 (Jl g 8 c) 8 (QaL QjW)/\Below b0 w w':=by
 obtain⟨i0,hi,hz0,hz1,hz2⟩:=info_parts QjI;obtain⟨W7,hW7⟩:∃W7,w.alloc (.cells #[Jb 80,Jb 77,Jb 84,Jb 105,Jb 108,Jb 101,Jb 115] 5 (7,8))=W7:=⟨_,rfl⟩;have b:W7.heap.size=w.heap.size+1:=by rw[<-hW7,qJ]
 have d:Jw w W7:=by rw[<-hW7];exact (qF _ _).alloc (qC _) _
 have l:W7.heap[w.heap.size]?=some (.cells #[Jb 80,Jb 77,Jb 84,Jb 105,Jb 108,Jb 101,Jb 115] 5 (7,8)):=by rw[<-hW7];exact JI w _
 rw[hW7];have f:=JI W7 (.cells #[Jb 3] 5);rw[b] at f;have a:=(JQ W7 (.cells #[Jb 3] 5) w.heap.size (by omega)).trans l
 have i:∀g j:Nat,((Ja g 0):Addr).add j=(Ja g j):=fun g j=>by unfold Addr.add;split<;>simp_all
 obtain⟨v',w',QFc,QE2,hgr⟩:=run_append_arg_grows (P:=prog) (W7.alloc (.cells #[Jb 3] 5)) 169 h 5 i0 (Jb 0) 1 1 underlying169 hi hz0 hz1 hz2 rfl (by decide)
  (Ja w.heap.size 0) 7 7 [Jb 80,Jb 77,Jb 84,Jb 105,Jb 108,Jb 101,Jb 115] rfl (fun j u hj=>by rw[i];unfold World.cell?;rw[a];simpa using hj)
  (Ja (w.heap.size+1) 0) 1 1 [Jb 3] rfl (fun j u hj=>by rw[i];unfold World.cell?;rw[f];simpa using hj) (by decide) (by decide) (by decide)
 rcases id QE2.2 with⟨-,h0⟩|⟨g,c,cur,rfl,-⟩
 ·exact JN h0 (by decide)
 ·refine⟨g,c,w',QFc,QaM QE2 (by rw[qJ];omega),?_⟩
  refine (d.mono m).trans ⟨hgr.os,hgr.tape,hgr.output,qD (by simp) hgr.size,fun k hk=>(hgr.block k (by rw[qJ];omega) (by simp)).trans (JQ _ _ _ (by omega))⟩
def Qpd(h:Hdr):List (Nat×Nat):=[(h.rf,h.rl),(h.mf,h.ml),(h.lf,h.ll),(h.df,h.dl)]
def Qbr(h:Hdr)(k:Nat):JL:=QjW++((Qpd h).take k).flatMap (fun p=>leB 8 p.1++leB 8 p.2)
def HeR(B:Nat)(w:World)(l:JL)(u5:Value)(wr:World):Prop:=∃a c,u5=.slice a l.length c/\wr.ownsRow B 5 1 (.slice a l.length c) l.length (QaL l)/\Below B w wr
theorem HeR.below{B:Nat}{w wr b:World}{l:JL}{u:Value}(h:HeR B w l u wr)(d:Jw wr b)(f:B<=w.heap.size):HeR B w l u b:=by
 obtain⟨a,c,rfl,h1,h2⟩:=h;exact⟨a,c,rfl,Qac h1 (fun g hg=>d.block g (h1.lt g hg).2),h2.trans (d.mono (qD f h2.size))⟩
theorem Qgn(h:Hdr)(k:Nat)(a:k<=4):(Qbr h k).length<=1000:=by
 rcases (by omega:k=0\/k=1\/k=2\/k=3\/k=4) with rfl|rfl|rfl|rfl|rfl<;>simp[Qbr,Qpd,QjW,Qb7]
theorem QBp(h:Hdr):Qbr h 0++(leB 8 h.rf++leB 8 h.rl)=Qbr h 1:=by simp[Qbr,Qpd]
theorem QBo(h:Hdr):Qbr h 1++(leB 8 h.mf++leB 8 h.ml)=Qbr h 2:=by simp[Qbr,Qpd]
theorem QBn(h:Hdr):Qbr h 2++(leB 8 h.lf++leB 8 h.ll)=Qbr h 3:=by simp[Qbr,Qpd]
theorem QBm(h:Hdr):Qbr h 3++(leB 8 h.df++leB 8 h.dl)=Qbr h 4:=by simp[Qbr,Qpd]
section
variable (b0:Nat) (l:JL) (v:Value) (W:World) (hv:∃a c,v=.slice a l.length c) (hl:l.length<=500000) (ho:W.ownsRow b0 5 1 v l.length (QaL l))
include hv hl ho
theorem Qvg(x:Nat)(hx:x<18446744073709551616):Calls prog 116 #[v,Ji 1,Jl W.heap.size 1 1] (W.alloc (.cells #[Ju x] 43)) (QdV (l++leB 1 x) W):=by
 have h:=Ql6 b0 1 l [x] v W hv (by decide) (by decide) (by simp[hx]) hl (by simp) (by simp) ho
 simp only[List.flatMap_cons,List.flatMap_nil,qT] at h;exact h
theorem Qve(x y z:Nat)(hx:x<18446744073709551616)(b:y<18446744073709551616)(d:z<18446744073709551616):Calls prog 116 #[v,Ji 8,Jl W.heap.size 3 3] (W.alloc (.cells #[Ju x,Ju y,Ju z] 43)) (QdV (l++(leB 8 x++(leB 8 y++leB 8 z))) W):=by
 have h:=Ql6 b0 8 l [x,y,z] v W hv (by decide) (by decide) (by simp[hx,b,d]) hl (by simp) (by simp) ho
 simp only[List.flatMap_cons,List.flatMap_nil,qT] at h;exact h
theorem Qvf(b f i g d j:Nat)(q:b<18446744073709551616)(n:f<18446744073709551616)(k:i<18446744073709551616)(r:g<18446744073709551616)(m:d<18446744073709551616)(p:j<18446744073709551616):Calls prog 116 #[v,Ji 1,Jl W.heap.size 6 6] (W.alloc (.cells #[Ju b,Ju f,Ju i,Ju g,Ju d,Ju j] 43)) (QdV (l++(leB 1 b++(leB 1 f++(leB 1 i++(leB 1 g++(leB 1 d++leB 1 j)))))) W):=by
 have h:=Ql6 b0 1 l [b,f,i,g,d,j] v W hv (by decide) (by decide) (by simp[q,n,k,r,m,p]) hl (by simp) (by simp) ho
 simp only[List.flatMap_cons,List.flatMap_nil,qT] at h;exact h
theorem Ql5(x y:Nat)(hx:x<18446744073709551616)(b:y<18446744073709551616):Calls prog 116 #[v,Ji 8,Jl W.heap.size 2 2] (W.alloc (.cells #[Ju x,Ju y] 43)) (QdV (l++(leB 8 x++leB 8 y)) W):=by
 have h:=Ql6 b0 8 l [x,y] v W hv (by decide) (by decide) (by simp[hx,b]) hl (by simp) (by simp) ho
 simp only[List.flatMap_cons,List.flatMap_nil,qT] at h;exact h
theorem Qw3(x y:Int)(hx : -2147483648<=x/\x<2147483648)(d : -2147483648<=y/\y<2147483648):Calls prog 117 #[v,Jl W.heap.size 2 2] (W.alloc (.cells #[Ji x,Ji y] 3)) (QdV (l++(leB 4 (Qa8 x)++leB 4 (Qa8 y))) W):=by
 have h:=Qw4 b0 l [x,y] v W hv (by intro z b;simp at b;rcases b with rfl|rfl<;>assumption) hl (by simp) (by simp) ho
 simp only[List.flatMap_cons,List.flatMap_nil,qT] at h;exact h
theorem QrK(x y z u:Int)(hx : -2147483648<=x/\x<2147483648)(f : -2147483648<=y/\y<2147483648)(g : -2147483648<=z/\z<2147483648)(d : -2147483648<=u/\u<2147483648):Calls prog 117 #[v,Jl W.heap.size 4 4] (W.alloc (.cells #[Ji x,Ji y,Ji z,Ji u] 3)) (QdV (l++(leB 4 (Qa8 x)++(leB 4 (Qa8 y)++(leB 4 (Qa8 z)++leB 4 (Qa8 u))))) W):=by
 have h:=Qw4 b0 l [x,y,z,u] v W hv (by intro q b;simp at b;rcases b with rfl|rfl|rfl|rfl<;>assumption) hl (by simp) (by simp) ho
 simp only[List.flatMap_cons,List.flatMap_nil,qT] at h;exact h
end
theorem HeR.next{B:Nat}{w wr f:World}{l d:JL}{u:Value}(h:HeR B w l u wr){e:Ending}(g:QdV d wr e f)(b:B<=w.heap.size):∃v,e=.returned v/\HeR B w d v f:=by
 obtain⟨a,c,-,-,hb⟩:=h;obtain⟨a2,c2,rfl,h1,h2⟩:=g;exact⟨_,rfl,a2,c2,rfl,QaM h1 (qD b hb.size),hb.trans (h2.mono (qD b hb.size))⟩
theorem QmC(h:Hdr)(E:HdrOk h)(hc:QkG h=0)(w:World):Calls prog 69 #[.agg #[Ju h.rf,Ju h.rl,Ju h.mf,Ju h.ml,Ju h.lf,Ju h.ll,Ju h.df,Ju h.dl,Ju h.ad,Ju h.en,Ju h.co,.bool h.cl,Jb h.inn,Jb h.out,Jb h.kd,Ji h.z0,Ji h.z1,Ji h.x0,Ji h.y0,Ji h.x1,Ji h.y1,Ji h.zo,Ji h.lo,Ji h.la]] w (JB (.tuple #[Jt (bs (Qkq h)),Ji 0]) w):=by
 have qg:=QgZ w h 47;have X:=QmF w h 47;have qr:=Z (fun W=>Qh0 h E W)
 rw[hc] at qr;have zb:=Z (fun W=>Qfc h W)
 obtain⟨W0,hW0⟩:∃W0,w.alloc (.cells #[Ju h.rf,Ju h.rl,Ju h.mf,Ju h.ml,Ju h.lf,Ju h.ll,Ju h.df,Ju h.dl,Ju h.ad,Ju h.en,Ju h.co,.bool h.cl,Jb h.inn,Jb h.out,Jb h.kd,Ji h.z0,Ji h.z1,Ji h.x0,Ji h.y0,Ji h.x1,Ji h.y1,Ji h.zo,Ji h.lo,Ji h.la] 47)=W0:=⟨_,rfl⟩;obtain⟨b0,hb0⟩:∃b0,w.heap.size=b0:=⟨_,rfl⟩;rw[hW0] at qg X;rw[hb0] at X;have V:=Z qg;have qf:=Z X;clear qg X;go_enter func69,ntmps69;go_wp2_with (refine wpList_load_row rfl 47 (.tmp 1) rfl b0 rfl 47 #[Ju h.rf,Ju h.rl,Ju h.mf,Ju h.ml,Ju h.lf,Ju h.ll,Ju h.df,Ju h.dl,Ju h.ad,Ju h.en,Ju h.co,.bool h.cl,Jb h.inn,Jb h.out,Jb h.kd,Ji h.z0,Ji h.z1,Ji h.x0,Ji h.y0,Ji h.x1,Ji h.y1,Ji h.zo,Ji h.lo,Ji h.la] (0,0) _ qf.o underlying47 rfl (by kernel_rfl) ?_)
 refine (qr.o _).mono ?_;rintro e w1 ⟨rfl,f⟩;have zg:=Z f;obtain⟨g8,c8,w2,QFc,ho2,hb2⟩:=Qv4 w1 W0.heap.size 169 f.size;have qw:=fun (w:World) (C:JW) (n c:Nat)=>Lib.run_convert_bytes_const (P:=prog) w 169 5 C n c underlying169 underlying5
 have qv:b0<W0.heap.size:=(gsi qf.o).1;have m:Hi (∀W,Jw W0 W->Jh W b0 (Qby h) 47):=Z (fun W hb=>(hb.block b0 qv).trans qf.o)
 have qp:HeR W0.heap.size W0 (Qbr h 0) (Jl g8 8 c8) w2:=⟨_,c8,rfl,ho2,f.trans hb2⟩;have qx:=Z qp;have HU:=Z QFc;have qs:=Z (m.o w2 (f.trans hb2));clear f QFc ho2 hb2 qp;go_wp2_with (first|(at_builtin;go_loud (refine Lib.wpList_append_run _ rfl _ _ _ _ rfl _ _ rfl rfl _ _ HU.o ?_))|(refine wpList_load_row rfl 47 (.tmp 1) rfl b0 rfl 47 #[Ju h.rf,Ju h.rl,Ju h.mf,Ju h.ml,Ju h.lf,Ju h.ll,Ju h.df,Ju h.dl,Ju h.ad,Ju h.en,Ju h.co,.bool h.cl,Jb h.inn,Jb h.out,Jb h.kd,Ji h.z0,Ji h.z1,Ji h.x0,Ji h.y0,Ji h.x1,Ji h.y1,Ji h.zo,Ji h.lo,Ji h.la] (0,0) _ qs.o underlying47 rfl (by kernel_rfl) ?_))
 refine (zb.o _).mono ?_;rintro e w3 ⟨rfl,p⟩;have za:=Z (qx.o.below p (qC _));clear p qw HU qs;have i0:=Qrx h;have i1:=Qrw h;have i2:=Qrv h;have i3:=Qru h;go_wp2_with fail;go_loopw [5,20] (fun u5 u20 wr=>Hi (∃k:Nat,k<=4/\u20 = Ji k/\HeR W0.heap.size W0 (Qbr h k) u5 wr)) (fun _ u20 _=>4-(intOf u20).toNat)
 case atStart=>exact Z ⟨0,by decide,rfl,za.o⟩
 case round=>
  obtain⟨k,hk,rfl,hst⟩:=hrel.o;clear hrel;rcases (by omega:k=0\/k=1\/k=2\/k=3\/k=4) with rfl|rfl|rfl|rfl|rfl
  ·obtain⟨a,c,rfl,ho,hb⟩:=hst
   have hlen:=Qgn h 0 (by decide)
   obtain⟨W1,hW1⟩:∃W1,wr.alloc (.cells #[Ju h.rf,Ju h.rl] 45)=W1:=⟨_,rfl⟩;obtain⟨s0,s1⟩:=QaK wr (Ju h.rf) (Ju h.rl) 45;rw[hW1] at s0 s1;have g:Jw W0 W1:=by rw[<-hW1];exact hb.alloc hb.size _
   have d:W1.ownsRow W0.heap.size 5 1 (.slice a (Qbr h 0).length c) (Qbr h 0).length (QaL (Qbr h 0)):=by
    rw[<-hW1];exact ho.alloc _
   have D:=Z (Ql5 W0.heap.size (Qbr h 0) _ W1 ⟨a,c,rfl⟩ (by omega) d h.rf h.rl E.rf E.rl)
   have j:Qbr h 0++(leB 8 h.rf++leB 8 h.rl)=Qbr h 1:=QBp h;rw[j] at D;have S:Hi (HeR W0.heap.size W0 (Qbr h 0) (.slice a (Qbr h 0).length c) W1):=Z ⟨a,c,rfl,d,g⟩;clear ho hb g d j;obtain⟨L,hL⟩:∃L,(Qbr h 0).length=L:=⟨_,rfl⟩;rw[hL] at D S ⊢;clear hL hlen;go_wp2_with fail;refine D.o.mono ?_;intro e w4 b;obtain⟨v,rfl,hn⟩:=S.o.next b (qC _);obtain⟨a2,c2,rfl,hn1⟩:=id hn;have i:=Z hn;clear b hn hn1;go_wp2_with fail;refine⟨Z ⟨1,by decide,by go_num,i.o⟩,?_⟩
   simp[intOf]
  ·obtain⟨a,c,rfl,ho,hb⟩:=hst
   have hlen:=Qgn h 1 (by decide)
   obtain⟨W1,hW1⟩:∃W1,wr.alloc (.cells #[Ju h.mf,Ju h.ml] 45)=W1:=⟨_,rfl⟩;obtain⟨s0,s1⟩:=QaK wr (Ju h.mf) (Ju h.ml) 45;rw[hW1] at s0 s1;have g:Jw W0 W1:=by rw[<-hW1];exact hb.alloc hb.size _
   have d:W1.ownsRow W0.heap.size 5 1 (.slice a (Qbr h 1).length c) (Qbr h 1).length (QaL (Qbr h 1)):=by
    rw[<-hW1];exact ho.alloc _
   have D:=Z (Ql5 W0.heap.size (Qbr h 1) _ W1 ⟨a,c,rfl⟩ (by omega) d h.mf h.ml E.mf E.ml)
   have j:Qbr h 1++(leB 8 h.mf++leB 8 h.ml)=Qbr h 2:=QBo h;rw[j] at D;have S:Hi (HeR W0.heap.size W0 (Qbr h 1) (.slice a (Qbr h 1).length c) W1):=Z ⟨a,c,rfl,d,g⟩;clear ho hb g d j;obtain⟨L,hL⟩:∃L,(Qbr h 1).length=L:=⟨_,rfl⟩;rw[hL] at D S ⊢;clear hL hlen;go_wp2_with fail;refine D.o.mono ?_;intro e w4 b;obtain⟨v,rfl,hn⟩:=S.o.next b (qC _);obtain⟨a2,c2,rfl,hn1⟩:=id hn;have i:=Z hn;clear b hn hn1;go_wp2_with fail;refine⟨Z ⟨2,by decide,by go_num,i.o⟩,?_⟩
   simp[intOf]
  ·obtain⟨a,c,rfl,ho,hb⟩:=hst
   have hlen:=Qgn h 2 (by decide)
   obtain⟨W1,hW1⟩:∃W1,wr.alloc (.cells #[Ju h.lf,Ju h.ll] 45)=W1:=⟨_,rfl⟩;obtain⟨s0,s1⟩:=QaK wr (Ju h.lf) (Ju h.ll) 45;rw[hW1] at s0 s1;have g:Jw W0 W1:=by rw[<-hW1];exact hb.alloc hb.size _
   have d:W1.ownsRow W0.heap.size 5 1 (.slice a (Qbr h 2).length c) (Qbr h 2).length (QaL (Qbr h 2)):=by
    rw[<-hW1];exact ho.alloc _
   have D:=Z (Ql5 W0.heap.size (Qbr h 2) _ W1 ⟨a,c,rfl⟩ (by omega) d h.lf h.ll E.lf E.ll)
   have j:Qbr h 2++(leB 8 h.lf++leB 8 h.ll)=Qbr h 3:=QBn h;rw[j] at D;have S:Hi (HeR W0.heap.size W0 (Qbr h 2) (.slice a (Qbr h 2).length c) W1):=Z ⟨a,c,rfl,d,g⟩;clear ho hb g d j;obtain⟨L,hL⟩:∃L,(Qbr h 2).length=L:=⟨_,rfl⟩;rw[hL] at D S ⊢;clear hL hlen;go_wp2_with fail;refine D.o.mono ?_;intro e w4 b;obtain⟨v,rfl,hn⟩:=S.o.next b (qC _);obtain⟨a2,c2,rfl,hn1⟩:=id hn;have i:=Z hn;clear b hn hn1;go_wp2_with fail;refine⟨Z ⟨3,by decide,by go_num,i.o⟩,?_⟩
   simp[intOf]
  ·obtain⟨a,c,rfl,ho,hb⟩:=hst
   have hlen:=Qgn h 3 (by decide)
   obtain⟨W1,hW1⟩:∃W1,wr.alloc (.cells #[Ju h.df,Ju h.dl] 45)=W1:=⟨_,rfl⟩;obtain⟨s0,s1⟩:=QaK wr (Ju h.df) (Ju h.dl) 45;rw[hW1] at s0 s1;have g:Jw W0 W1:=by rw[<-hW1];exact hb.alloc hb.size _
   have d:W1.ownsRow W0.heap.size 5 1 (.slice a (Qbr h 3).length c) (Qbr h 3).length (QaL (Qbr h 3)):=by
    rw[<-hW1];exact ho.alloc _
   have D:=Z (Ql5 W0.heap.size (Qbr h 3) _ W1 ⟨a,c,rfl⟩ (by omega) d h.df h.dl E.df E.dl)
   have j:Qbr h 3++(leB 8 h.df++leB 8 h.dl)=Qbr h 4:=QBm h;rw[j] at D;have S:Hi (HeR W0.heap.size W0 (Qbr h 3) (.slice a (Qbr h 3).length c) W1):=Z ⟨a,c,rfl,d,g⟩;clear ho hb g d j;obtain⟨L,hL⟩:∃L,(Qbr h 3).length=L:=⟨_,rfl⟩;rw[hL] at D S ⊢;clear hL hlen;go_wp2_with fail;refine D.o.mono ?_;intro e w4 b;obtain⟨v,rfl,hn⟩:=S.o.next b (qC _);obtain⟨a2,c2,rfl,hn1⟩:=id hn;have i:=Z hn;clear b hn hn1;go_wp2_with fail;refine⟨Z ⟨4,by decide,by go_num,i.o⟩,?_⟩
   simp[intOf]
  ·have qu:=Z hst
   clear hst i0 i1 i2 i3;obtain⟨-,⟨hinn,hout,hkd⟩,⟨⟨hz00,hz01⟩,⟨hz10,hz11⟩,⟨hzo0,hzo1⟩⟩,hx⟩:=Qxf h hc;obtain⟨Z0,hZ0⟩:∃Zq:Nat,h.z0=(Zq:Int):=⟨h.z0.toNat,by omega⟩
   obtain⟨Z1,hZ1⟩:∃Zq:Nat,h.z1=(Zq:Int):=⟨h.z1.toNat,by omega⟩
   obtain⟨Zo,hZo⟩:∃Zq:Nat,h.zo=(Zq:Int):=⟨h.zo.toNat,by omega⟩
   have ze:Z0<=26:=by omega
   have zc:Z1<=26:=by omega
   have zd:Zo<=26:=by omega
   obtain⟨CLB,hCLB⟩:∃C:Nat,(if h.cl=true then 1 else 0)=C:=⟨_,rfl⟩
   have zf:CLB<=1:=by rw[<-hCLB];split<;>omega
   have qi:Hi ((((((Qbr h 4++(leB 8 h.ad++(leB 8 h.en++leB 8 h.co)))++(leB 1 CLB++(leB 1 h.inn++(leB 1 h.out++(leB 1 h.kd++(leB 1 Z0++leB 1 Z1))))))++(leB 4 (Qa8 h.x0)++(leB 4 (Qa8 h.y0)++(leB 4 (Qa8 h.x1)++leB 4 (Qa8 h.y1)))))++leB 1 Zo)++(leB 4 (Qa8 h.lo)++leB 4 (Qa8 h.la)))=Qkq h):=Z (by
    unfold Qkq QwA Qbr Qpd;rw[hZ0,hZ1,hZo,<-hCLB];simp[Int.toNat_natCast])
   have qt:=Z hCLB;have qz:=Qgn h 4 (by decide)
   obtain⟨⟨hx00,hx01⟩,⟨hx10,hx11⟩,⟨hlo0,hlo1⟩⟩:=hx.1;obtain⟨⟨hy00,hy01⟩,⟨hy10,hy11⟩,⟨hla0,hla1⟩⟩:=hx.2;have qm:=E.ad;have qn:=E.en;have qj:=E.co;clear hx;obtain⟨a0,e0,rfl,ho0,hb0⟩:=qu.o;have qq:(Qbr h 4).length<=1000:=by exact qz
   have qb:=Z (Qve W0.heap.size (Qbr h 4) _ wr ⟨a0,e0,rfl⟩ (by omega) ho0 h.ad h.en h.co qm qn qj)
   have qe:Hi (HeR W0.heap.size W0 (Qbr h 4) (.slice a0 (Qbr h 4).length e0) wr):=Z ⟨a0,e0,rfl,ho0,hb0⟩;have ql:=Z (m.o wr hb0);clear ho0 hb0;obtain⟨l0,hl0⟩:∃l,(Qbr h 4).length=l:=⟨_,rfl⟩;rw[hl0] at qb qe ⊢;obtain⟨-,-,-,-,-,-,-,-,c8,c9,c10,-,-,-,-,-,-,-,-,-,-,-,-,-⟩:=Qdc ql.o;have Y:=Z (qE hl0 qq);clear hl0 qq;go_wp2_with fail;refine qb.o.mono ?_;intro e v1 b;obtain⟨v,rfl,hn⟩:=qe.o.next b (qC _);have qo:=Z hn;clear b hn qb qe ql c8 c9 c10;have qa:(h.cl=true/\CLB=1)\/(h.cl=false/\CLB=0):=by rw[<-qt.o];cases h.cl<;>simp
   clear qt;rcases qa with⟨hcl,rfl⟩|⟨hcl,rfl⟩
   ·obtain⟨a1,e1,rfl,d,f⟩:=qo.o
    have O:((Qbr h 4++(leB 8 h.ad++(leB 8 h.en++leB 8 h.co)))).length<=1100:=by rw[qG];have:=Y.out;simp only[qG,Qb7] at *;omega
    have B:=Z (Qvf W0.heap.size (Qbr h 4++(leB 8 h.ad++(leB 8 h.en++leB 8 h.co))) _ v1 ⟨a1,e1,rfl⟩ (by omega) d 1 h.inn h.out h.kd Z0 Z1 (by omega) (by omega) (by omega) (by omega) (by omega) (by omega))
    have z:Hi (HeR W0.heap.size W0 (Qbr h 4++(leB 8 h.ad++(leB 8 h.en++leB 8 h.co))) (.slice a1 ((Qbr h 4++(leB 8 h.ad++(leB 8 h.en++leB 8 h.co)))).length e1) v1):=Z ⟨a1,e1,rfl,d,f⟩;have J:=Z (m.o v1 f);clear d f;obtain⟨l1,hl1⟩:∃l,((Qbr h 4++(leB 8 h.ad++(leB 8 h.en++leB 8 h.co)))).length=l:=⟨_,rfl⟩;rw[hl1] at B z ⊢;obtain⟨-,-,-,-,-,-,-,-,-,-,-,c11,c12,c13,c14,c15,c16,-,-,-,-,-,-,-⟩:=Qdc J.o;rw[hcl] at c11;rw[hZ0] at c15;rw[hZ1] at c16;have G:=Z (qE hl1 O);clear hl1 O;go_wp2_with fail;refine B.o.mono ?_;intro e v2 b;obtain⟨v,rfl,hn⟩:=z.o.next b (qC _);have i:=Z hn;clear b hn B z J c11 c12 c13 c14 c15 c16;obtain⟨a2,e2,rfl,ho2,hb2⟩:=i.o;have M:(((Qbr h 4++(leB 8 h.ad++(leB 8 h.en++leB 8 h.co)))++(leB 1 1++(leB 1 h.inn++(leB 1 h.out++(leB 1 h.kd++(leB 1 Z0++leB 1 Z1))))))).length<=1200:=by rw[qG];have:=G.out;simp only[qG,Qb7] at *;omega
    have q:=Z (QrK W0.heap.size ((Qbr h 4++(leB 8 h.ad++(leB 8 h.en++leB 8 h.co)))++(leB 1 1++(leB 1 h.inn++(leB 1 h.out++(leB 1 h.kd++(leB 1 Z0++leB 1 Z1)))))) _ v2 ⟨a2,e2,rfl⟩ (by omega) ho2 h.x0 h.y0 h.x1 h.y1 (by omega) (by omega) (by omega) (by omega))
    have A:Hi (HeR W0.heap.size W0 ((Qbr h 4++(leB 8 h.ad++(leB 8 h.en++leB 8 h.co)))++(leB 1 1++(leB 1 h.inn++(leB 1 h.out++(leB 1 h.kd++(leB 1 Z0++leB 1 Z1)))))) (.slice a2 (((Qbr h 4++(leB 8 h.ad++(leB 8 h.en++leB 8 h.co)))++(leB 1 1++(leB 1 h.inn++(leB 1 h.out++(leB 1 h.kd++(leB 1 Z0++leB 1 Z1))))))).length e2) v2):=Z ⟨a2,e2,rfl,ho2,hb2⟩;have N:=Z (m.o v2 hb2);clear ho2 hb2;obtain⟨l2,hl2⟩:∃l,(((Qbr h 4++(leB 8 h.ad++(leB 8 h.en++leB 8 h.co)))++(leB 1 1++(leB 1 h.inn++(leB 1 h.out++(leB 1 h.kd++(leB 1 Z0++leB 1 Z1))))))).length=l:=⟨_,rfl⟩;rw[hl2] at q A ⊢;obtain⟨-,-,-,-,-,-,-,-,-,-,-,-,-,-,-,-,-,c17,c18,c19,c20,-,-,-⟩:=Qdc N.o;have T:=Z (qE hl2 M);clear hl2 M;go_wp2_with fail;refine q.o.mono ?_;intro e v3 b;obtain⟨v,rfl,hn⟩:=A.o.next b (qC _);have qd:=Z hn;clear b hn q A N c17 c18 c19 c20;obtain⟨a3,e3,rfl,ho3,p⟩:=qd.o;have R:((((Qbr h 4++(leB 8 h.ad++(leB 8 h.en++leB 8 h.co)))++(leB 1 1++(leB 1 h.inn++(leB 1 h.out++(leB 1 h.kd++(leB 1 Z0++leB 1 Z1))))))++(leB 4 (Qa8 h.x0)++(leB 4 (Qa8 h.y0)++(leB 4 (Qa8 h.x1)++leB 4 (Qa8 h.y1)))))).length<=1300:=by rw[qG];have:=T.out;simp only[qG,Qb7] at *;omega
    have s:=Z (Qvg W0.heap.size (((Qbr h 4++(leB 8 h.ad++(leB 8 h.en++leB 8 h.co)))++(leB 1 1++(leB 1 h.inn++(leB 1 h.out++(leB 1 h.kd++(leB 1 Z0++leB 1 Z1))))))++(leB 4 (Qa8 h.x0)++(leB 4 (Qa8 h.y0)++(leB 4 (Qa8 h.x1)++leB 4 (Qa8 h.y1))))) _ v3 ⟨a3,e3,rfl⟩ (by omega) ho3 Zo (by omega))
    have x:Hi (HeR W0.heap.size W0 (((Qbr h 4++(leB 8 h.ad++(leB 8 h.en++leB 8 h.co)))++(leB 1 1++(leB 1 h.inn++(leB 1 h.out++(leB 1 h.kd++(leB 1 Z0++leB 1 Z1))))))++(leB 4 (Qa8 h.x0)++(leB 4 (Qa8 h.y0)++(leB 4 (Qa8 h.x1)++leB 4 (Qa8 h.y1))))) (.slice a3 ((((Qbr h 4++(leB 8 h.ad++(leB 8 h.en++leB 8 h.co)))++(leB 1 1++(leB 1 h.inn++(leB 1 h.out++(leB 1 h.kd++(leB 1 Z0++leB 1 Z1))))))++(leB 4 (Qa8 h.x0)++(leB 4 (Qa8 h.y0)++(leB 4 (Qa8 h.x1)++leB 4 (Qa8 h.y1)))))).length e3) v3):=Z ⟨a3,e3,rfl,ho3,p⟩;have K:=Z (m.o v3 p);clear ho3 p;obtain⟨l3,hl3⟩:∃l,((((Qbr h 4++(leB 8 h.ad++(leB 8 h.en++leB 8 h.co)))++(leB 1 1++(leB 1 h.inn++(leB 1 h.out++(leB 1 h.kd++(leB 1 Z0++leB 1 Z1))))))++(leB 4 (Qa8 h.x0)++(leB 4 (Qa8 h.y0)++(leB 4 (Qa8 h.x1)++leB 4 (Qa8 h.y1)))))).length=l:=⟨_,rfl⟩;rw[hl3] at s x ⊢;obtain⟨-,-,-,-,-,-,-,-,-,-,-,-,-,-,-,-,-,-,-,-,-,c21,-,-⟩:=Qdc K.o;rw[hZo] at c21;have I:=Z (qE hl3 R);clear hl3 R;go_wp2_with fail;refine s.o.mono ?_;intro e v4 b;obtain⟨v,rfl,hn⟩:=x.o.next b (qC _);have qc:=Z hn;clear b hn s x K c21;obtain⟨a4,e4,rfl,ho4,hb4⟩:=qc.o;have U:(((((Qbr h 4++(leB 8 h.ad++(leB 8 h.en++leB 8 h.co)))++(leB 1 1++(leB 1 h.inn++(leB 1 h.out++(leB 1 h.kd++(leB 1 Z0++leB 1 Z1))))))++(leB 4 (Qa8 h.x0)++(leB 4 (Qa8 h.y0)++(leB 4 (Qa8 h.x1)++leB 4 (Qa8 h.y1)))))++leB 1 Zo)).length<=1400:=by rw[qG];have:=I.out;simp only[qG,Qb7] at *;omega
    have y:=Z (Qw3 W0.heap.size ((((Qbr h 4++(leB 8 h.ad++(leB 8 h.en++leB 8 h.co)))++(leB 1 1++(leB 1 h.inn++(leB 1 h.out++(leB 1 h.kd++(leB 1 Z0++leB 1 Z1))))))++(leB 4 (Qa8 h.x0)++(leB 4 (Qa8 h.y0)++(leB 4 (Qa8 h.x1)++leB 4 (Qa8 h.y1)))))++leB 1 Zo) _ v4 ⟨a4,e4,rfl⟩ (by omega) ho4 h.lo h.la (by omega) (by omega))
    have t:Hi (HeR W0.heap.size W0 ((((Qbr h 4++(leB 8 h.ad++(leB 8 h.en++leB 8 h.co)))++(leB 1 1++(leB 1 h.inn++(leB 1 h.out++(leB 1 h.kd++(leB 1 Z0++leB 1 Z1))))))++(leB 4 (Qa8 h.x0)++(leB 4 (Qa8 h.y0)++(leB 4 (Qa8 h.x1)++leB 4 (Qa8 h.y1)))))++leB 1 Zo) (.slice a4 (((((Qbr h 4++(leB 8 h.ad++(leB 8 h.en++leB 8 h.co)))++(leB 1 1++(leB 1 h.inn++(leB 1 h.out++(leB 1 h.kd++(leB 1 Z0++leB 1 Z1))))))++(leB 4 (Qa8 h.x0)++(leB 4 (Qa8 h.y0)++(leB 4 (Qa8 h.x1)++leB 4 (Qa8 h.y1)))))++leB 1 Zo)).length e4) v4):=Z ⟨a4,e4,rfl,ho4,hb4⟩;have H:=Z (m.o v4 hb4);clear ho4 hb4;obtain⟨l4,hl4⟩:∃l,(((((Qbr h 4++(leB 8 h.ad++(leB 8 h.en++leB 8 h.co)))++(leB 1 1++(leB 1 h.inn++(leB 1 h.out++(leB 1 h.kd++(leB 1 Z0++leB 1 Z1))))))++(leB 4 (Qa8 h.x0)++(leB 4 (Qa8 h.y0)++(leB 4 (Qa8 h.x1)++leB 4 (Qa8 h.y1)))))++leB 1 Zo)).length=l:=⟨_,rfl⟩;rw[hl4] at y t ⊢;obtain⟨-,-,-,-,-,-,-,-,-,-,-,-,-,-,-,-,-,-,-,-,-,-,c22,c23⟩:=Qdc H.o;have qk:=Z (qE hl4 U);clear hl4 U;go_wp2_with fail;refine y.o.mono ?_;intro e v5 b;obtain⟨v,rfl,hn⟩:=t.o.next b (qC _);have r:=Z hn;clear b hn y t H c22 c23;rw[qi.o] at r;obtain⟨a5,e5,rfl,ho5,hb5⟩:=r.o;have qy:=Qfq ho5;have qh:=Z hb5;clear ho5 hb5 r;go_wp2;go_ret2;exact⟨rfl,V.o.trans (qh.o.mono V.o.size)⟩
   ·obtain⟨a1,e1,rfl,d,f⟩:=qo.o
    have O:((Qbr h 4++(leB 8 h.ad++(leB 8 h.en++leB 8 h.co)))).length<=1100:=by rw[qG];have:=Y.out;simp only[qG,Qb7] at *;omega
    have B:=Z (Qvf W0.heap.size (Qbr h 4++(leB 8 h.ad++(leB 8 h.en++leB 8 h.co))) _ v1 ⟨a1,e1,rfl⟩ (by omega) d 0 h.inn h.out h.kd Z0 Z1 (by omega) (by omega) (by omega) (by omega) (by omega) (by omega))
    have z:Hi (HeR W0.heap.size W0 (Qbr h 4++(leB 8 h.ad++(leB 8 h.en++leB 8 h.co))) (.slice a1 ((Qbr h 4++(leB 8 h.ad++(leB 8 h.en++leB 8 h.co)))).length e1) v1):=Z ⟨a1,e1,rfl,d,f⟩;have J:=Z (m.o v1 f);clear d f;obtain⟨l1,hl1⟩:∃l,((Qbr h 4++(leB 8 h.ad++(leB 8 h.en++leB 8 h.co)))).length=l:=⟨_,rfl⟩;rw[hl1] at B z ⊢;obtain⟨-,-,-,-,-,-,-,-,-,-,-,c11,c12,c13,c14,c15,c16,-,-,-,-,-,-,-⟩:=Qdc J.o;rw[hcl] at c11;rw[hZ0] at c15;rw[hZ1] at c16;have G:=Z (qE hl1 O);clear hl1 O;go_wp2_with fail;refine B.o.mono ?_;intro e v2 b;obtain⟨v,rfl,hn⟩:=z.o.next b (qC _);have i:=Z hn;clear b hn B z J c11 c12 c13 c14 c15 c16;obtain⟨a2,e2,rfl,ho2,hb2⟩:=i.o;have M:(((Qbr h 4++(leB 8 h.ad++(leB 8 h.en++leB 8 h.co)))++(leB 1 0++(leB 1 h.inn++(leB 1 h.out++(leB 1 h.kd++(leB 1 Z0++leB 1 Z1))))))).length<=1200:=by rw[qG];have:=G.out;simp only[qG,Qb7] at *;omega
    have q:=Z (QrK W0.heap.size ((Qbr h 4++(leB 8 h.ad++(leB 8 h.en++leB 8 h.co)))++(leB 1 0++(leB 1 h.inn++(leB 1 h.out++(leB 1 h.kd++(leB 1 Z0++leB 1 Z1)))))) _ v2 ⟨a2,e2,rfl⟩ (by omega) ho2 h.x0 h.y0 h.x1 h.y1 (by omega) (by omega) (by omega) (by omega))
    have A:Hi (HeR W0.heap.size W0 ((Qbr h 4++(leB 8 h.ad++(leB 8 h.en++leB 8 h.co)))++(leB 1 0++(leB 1 h.inn++(leB 1 h.out++(leB 1 h.kd++(leB 1 Z0++leB 1 Z1)))))) (.slice a2 (((Qbr h 4++(leB 8 h.ad++(leB 8 h.en++leB 8 h.co)))++(leB 1 0++(leB 1 h.inn++(leB 1 h.out++(leB 1 h.kd++(leB 1 Z0++leB 1 Z1))))))).length e2) v2):=Z ⟨a2,e2,rfl,ho2,hb2⟩;have N:=Z (m.o v2 hb2);clear ho2 hb2;obtain⟨l2,hl2⟩:∃l,(((Qbr h 4++(leB 8 h.ad++(leB 8 h.en++leB 8 h.co)))++(leB 1 0++(leB 1 h.inn++(leB 1 h.out++(leB 1 h.kd++(leB 1 Z0++leB 1 Z1))))))).length=l:=⟨_,rfl⟩;rw[hl2] at q A ⊢;obtain⟨-,-,-,-,-,-,-,-,-,-,-,-,-,-,-,-,-,c17,c18,c19,c20,-,-,-⟩:=Qdc N.o;have T:=Z (qE hl2 M);clear hl2 M;go_wp2_with fail;refine q.o.mono ?_;intro e v3 b;obtain⟨v,rfl,hn⟩:=A.o.next b (qC _);have qd:=Z hn;clear b hn q A N c17 c18 c19 c20;obtain⟨a3,e3,rfl,ho3,p⟩:=qd.o;have R:((((Qbr h 4++(leB 8 h.ad++(leB 8 h.en++leB 8 h.co)))++(leB 1 0++(leB 1 h.inn++(leB 1 h.out++(leB 1 h.kd++(leB 1 Z0++leB 1 Z1))))))++(leB 4 (Qa8 h.x0)++(leB 4 (Qa8 h.y0)++(leB 4 (Qa8 h.x1)++leB 4 (Qa8 h.y1)))))).length<=1300:=by rw[qG];have:=T.out;simp only[qG,Qb7] at *;omega
    have s:=Z (Qvg W0.heap.size (((Qbr h 4++(leB 8 h.ad++(leB 8 h.en++leB 8 h.co)))++(leB 1 0++(leB 1 h.inn++(leB 1 h.out++(leB 1 h.kd++(leB 1 Z0++leB 1 Z1))))))++(leB 4 (Qa8 h.x0)++(leB 4 (Qa8 h.y0)++(leB 4 (Qa8 h.x1)++leB 4 (Qa8 h.y1))))) _ v3 ⟨a3,e3,rfl⟩ (by omega) ho3 Zo (by omega))
    have x:Hi (HeR W0.heap.size W0 (((Qbr h 4++(leB 8 h.ad++(leB 8 h.en++leB 8 h.co)))++(leB 1 0++(leB 1 h.inn++(leB 1 h.out++(leB 1 h.kd++(leB 1 Z0++leB 1 Z1))))))++(leB 4 (Qa8 h.x0)++(leB 4 (Qa8 h.y0)++(leB 4 (Qa8 h.x1)++leB 4 (Qa8 h.y1))))) (.slice a3 ((((Qbr h 4++(leB 8 h.ad++(leB 8 h.en++leB 8 h.co)))++(leB 1 0++(leB 1 h.inn++(leB 1 h.out++(leB 1 h.kd++(leB 1 Z0++leB 1 Z1))))))++(leB 4 (Qa8 h.x0)++(leB 4 (Qa8 h.y0)++(leB 4 (Qa8 h.x1)++leB 4 (Qa8 h.y1)))))).length e3) v3):=Z ⟨a3,e3,rfl,ho3,p⟩;have K:=Z (m.o v3 p);clear ho3 p;obtain⟨l3,hl3⟩:∃l,((((Qbr h 4++(leB 8 h.ad++(leB 8 h.en++leB 8 h.co)))++(leB 1 0++(leB 1 h.inn++(leB 1 h.out++(leB 1 h.kd++(leB 1 Z0++leB 1 Z1))))))++(leB 4 (Qa8 h.x0)++(leB 4 (Qa8 h.y0)++(leB 4 (Qa8 h.x1)++leB 4 (Qa8 h.y1)))))).length=l:=⟨_,rfl⟩;rw[hl3] at s x ⊢;obtain⟨-,-,-,-,-,-,-,-,-,-,-,-,-,-,-,-,-,-,-,-,-,c21,-,-⟩:=Qdc K.o;rw[hZo] at c21;have I:=Z (qE hl3 R);clear hl3 R;go_wp2_with fail;refine s.o.mono ?_;intro e v4 b;obtain⟨v,rfl,hn⟩:=x.o.next b (qC _);have qc:=Z hn;clear b hn s x K c21;obtain⟨a4,e4,rfl,ho4,hb4⟩:=qc.o;have U:(((((Qbr h 4++(leB 8 h.ad++(leB 8 h.en++leB 8 h.co)))++(leB 1 0++(leB 1 h.inn++(leB 1 h.out++(leB 1 h.kd++(leB 1 Z0++leB 1 Z1))))))++(leB 4 (Qa8 h.x0)++(leB 4 (Qa8 h.y0)++(leB 4 (Qa8 h.x1)++leB 4 (Qa8 h.y1)))))++leB 1 Zo)).length<=1400:=by rw[qG];have:=I.out;simp only[qG,Qb7] at *;omega
    have y:=Z (Qw3 W0.heap.size ((((Qbr h 4++(leB 8 h.ad++(leB 8 h.en++leB 8 h.co)))++(leB 1 0++(leB 1 h.inn++(leB 1 h.out++(leB 1 h.kd++(leB 1 Z0++leB 1 Z1))))))++(leB 4 (Qa8 h.x0)++(leB 4 (Qa8 h.y0)++(leB 4 (Qa8 h.x1)++leB 4 (Qa8 h.y1)))))++leB 1 Zo) _ v4 ⟨a4,e4,rfl⟩ (by omega) ho4 h.lo h.la (by omega) (by omega))
    have t:Hi (HeR W0.heap.size W0 ((((Qbr h 4++(leB 8 h.ad++(leB 8 h.en++leB 8 h.co)))++(leB 1 0++(leB 1 h.inn++(leB 1 h.out++(leB 1 h.kd++(leB 1 Z0++leB 1 Z1))))))++(leB 4 (Qa8 h.x0)++(leB 4 (Qa8 h.y0)++(leB 4 (Qa8 h.x1)++leB 4 (Qa8 h.y1)))))++leB 1 Zo) (.slice a4 (((((Qbr h 4++(leB 8 h.ad++(leB 8 h.en++leB 8 h.co)))++(leB 1 0++(leB 1 h.inn++(leB 1 h.out++(leB 1 h.kd++(leB 1 Z0++leB 1 Z1))))))++(leB 4 (Qa8 h.x0)++(leB 4 (Qa8 h.y0)++(leB 4 (Qa8 h.x1)++leB 4 (Qa8 h.y1)))))++leB 1 Zo)).length e4) v4):=Z ⟨a4,e4,rfl,ho4,hb4⟩;have H:=Z (m.o v4 hb4);clear ho4 hb4;obtain⟨l4,hl4⟩:∃l,(((((Qbr h 4++(leB 8 h.ad++(leB 8 h.en++leB 8 h.co)))++(leB 1 0++(leB 1 h.inn++(leB 1 h.out++(leB 1 h.kd++(leB 1 Z0++leB 1 Z1))))))++(leB 4 (Qa8 h.x0)++(leB 4 (Qa8 h.y0)++(leB 4 (Qa8 h.x1)++leB 4 (Qa8 h.y1)))))++leB 1 Zo)).length=l:=⟨_,rfl⟩;rw[hl4] at y t ⊢;obtain⟨-,-,-,-,-,-,-,-,-,-,-,-,-,-,-,-,-,-,-,-,-,-,c22,c23⟩:=Qdc H.o;have qk:=Z (qE hl4 U);clear hl4 U;go_wp2_with fail;refine y.o.mono ?_;intro e v5 b;obtain⟨v,rfl,hn⟩:=t.o.next b (qC _);have r:=Z hn;clear b hn y t H c22 c23;rw[qi.o] at r;obtain⟨a5,e5,rfl,ho5,hb5⟩:=r.o;have qy:=Qfq ho5;have qh:=Z hb5;clear ho5 hb5 r;go_wp2;go_ret2;exact⟨rfl,V.o.trans (qh.o.mono V.o.size)⟩
end
section
theorem Qzh(d b c a:JA):(∀w,(Instr.index 48 (.agg #[Jt d,Jt b,Jt c,Jt a]) (Ji 0)).run prog w=.ok (Jt d) w)/\(∀w,(Instr.index 48 (.agg #[Jt d,Jt b,Jt c,Jt a]) (Ji 1)).run prog w=.ok (Jt b) w)/\(∀w,(Instr.index 48 (.agg #[Jt d,Jt b,Jt c,Jt a]) (Ji 2)).run prog w=.ok (Jt c) w)/\(∀w,(Instr.index 48 (.agg #[Jt d,Jt b,Jt c,Jt a]) (Ji 3)).run prog w=.ok (Jt a) w):=
 ⟨fun _=>by kernel_rfl,fun _=>by kernel_rfl,fun _=>by kernel_rfl,fun _=>by kernel_rfl⟩
def QnV(p0 p1 p2 p3:JA):Nat->JW
 |0=>#[Ju 0,Ju 0,Ju 0,Ju 0]
 |1=>#[Ju p0.size,Ju 0,Ju 0,Ju 0]
 |2=>#[Ju p0.size,Ju p1.size,Ju 0,Ju 0]
 |3=>#[Ju p0.size,Ju p1.size,Ju p2.size,Ju 0]
 |_=>#[Ju p0.size,Ju p1.size,Ju p2.size,Ju p3.size]
def GlSt(p0 p1 p2 p3:JA)(w W:World)(k:Nat)(wr:World):Prop:=wr.heap[w.heap.size+1+1]?=some (.cells (QnV p0 p1 p2 p3 k) 176 (0,0))/\wr.heap[w.heap.size]?=W.heap[w.heap.size]?/\wr.heap[w.heap.size+1]?=W.heap[w.heap.size+1]?/\Jw w wr
theorem QeX{w wr:World}{b:Nat}{cs cs':JW}{T:JT}(c:wr.heap[b]?=some (.cells cs T (0,0)))(i:Nat)(v:Value)(a:cs.set! i v=cs'):(wr.setCell (Ja b i) v).heap[b]?=some (.cells cs' T (0,0)):=by
 subst a;exact Qaz c i v
theorem Qwn(d c f a:JA)(b:Nat)(w:World)(k:w.heap[b]?=some (.cells #[Jt d,Jt c,Jt f,Jt a] 48 (0,0)))(n:d.size+c.size+f.size+a.size<=1000000) :
  Calls prog 71 #[Jl b 4 4,Jt ⟨#[]⟩] w (JB (Jt (bs (d.data.toList++(c.data.toList++(f.data.toList++a.data.toList))))) w):=by
 have g:Lib.join ([d,c,f,a].map (·.data.toList)) (⟨#[]⟩:JA).data.toList=d.data.toList++(c.data.toList++(f.data.toList++a.data.toList)):=by
  simp[Lib.join]
 have h:=Tryz.strings_Join b 0 4 [d,c,f,a] ⟨#[]⟩ w (fun j x hx=>by
  rw[Nat.zero_add,QaJ k]
  match j,hx with
  |0,hx=>simpa using hx
  |1,hx=>simpa using hx
  |2,hx=>simpa using hx
  |3,hx=>simpa using hx
  |j+4,hx=>simp at hx) (gsi k).1 (by simp) (by simp) (by
   rw[g];simp only[qG];have i:=Qab d;have l:=Qab c;have p:=Qab f;have m:=Qab a;omega)
 rw[g] at h;exact h
theorem QpW(h H:Hdr)(b c f d:JA)(w:World)(B:b.size+c.size+f.size+d.size<=1000000)(n:H=QiN h 127 b.size (127+b.size) c.size (127+b.size+c.size) f.size (127+b.size+c.size+f.size) d.size)(G:HdrOk H)(E:QkG H=0) :
  Calls prog 28 #[.agg #[Ju h.rf,Ju h.rl,Ju h.mf,Ju h.ml,Ju h.lf,Ju h.ll,Ju h.df,Ju h.dl,Ju h.ad,Ju h.en,Ju h.co,.bool h.cl,Jb h.inn,Jb h.out,Jb h.kd,Ji h.z0,Ji h.z1,Ji h.x0,Ji h.y0,Ji h.x1,Ji h.y1,Ji h.zo,Ji h.lo,Ji h.la],.agg #[Jt b,Jt c,Jt f,Jt d]] w fun e w'=>e=.returned (.tuple #[Jt (bs (Qkq H++(b.data.toList++(c.data.toList++(f.data.toList++d.data.toList))))),Ji 0])/\Jw w w':=by
 obtain⟨j0,j1,j2,j3⟩:=Qzh b c f d;obtain⟨W,hW⟩:∃W,((w.alloc (.cells #[Ju h.rf,Ju h.rl,Ju h.mf,Ju h.ml,Ju h.lf,Ju h.ll,Ju h.df,Ju h.dl,Ju h.ad,Ju h.en,Ju h.co,.bool h.cl,Jb h.inn,Jb h.out,Jb h.kd,Ji h.z0,Ji h.z1,Ji h.x0,Ji h.y0,Ji h.x1,Ji h.y1,Ji h.zo,Ji h.lo,Ji h.la] 47)).alloc (.cells #[Jt b,Jt c,Jt f,Jt d] 48)).alloc (.cells #[Ju 0,Ju 0,Ju 0,Ju 0] 176)=W:=⟨_,rfl⟩;have hB:Jw w W:=by rw[<-hW];exact (((qF _ _).alloc (qC _) _).alloc (by simp) _).alloc (by simp;omega) _
 have k2:W.heap[w.heap.size]?=some (.cells (Qby h) 47 (0,0)):=by
  rw[<-hW];exact (JQ _ _ _ (by rw[qJ,qJ];omega)).trans ((JQ _ _ _ (by rw[qJ];omega)).trans (JI w _))
 have L:W.heap[w.heap.size+1]?=some (.cells #[Jt b,Jt c,Jt f,Jt d] 48 (0,0)):=by
  have:=JI (w.alloc (.cells #[Ju h.rf,Ju h.rl,Ju h.mf,Ju h.ml,Ju h.lf,Ju h.ll,Ju h.df,Ju h.dl,Ju h.ad,Ju h.en,Ju h.co,.bool h.cl,Jb h.inn,Jb h.out,Jb h.kd,Ji h.z0,Ji h.z1,Ji h.x0,Ji h.y0,Ji h.x1,Ji h.y1,Ji h.zo,Ji h.lo,Ji h.la] 47)) (.cells #[Jt b,Jt c,Jt f,Jt d] 48);rw[qJ] at this;rw[<-hW];exact (JQ _ _ _ (by rw[qJ,qJ];omega)).trans this
 have X:W.heap[w.heap.size+1+1]?=some (.cells #[Ju 0,Ju 0,Ju 0,Ju 0] 176 (0,0)):=by
  have:=JI ((w.alloc (.cells #[Ju h.rf,Ju h.rl,Ju h.mf,Ju h.ml,Ju h.lf,Ju h.ll,Ju h.df,Ju h.dl,Ju h.ad,Ju h.en,Ju h.co,.bool h.cl,Jb h.inn,Jb h.out,Jb h.kd,Ji h.z0,Ji h.z1,Ji h.x0,Ji h.y0,Ji h.x1,Ji h.y1,Ji h.zo,Ji h.lo,Ji h.la] 47)).alloc (.cells #[Jt b,Jt c,Jt f,Jt d] 48)) (.cells #[Ju 0,Ju 0,Ju 0,Ju 0] 176);rw[qJ,qJ] at this;rw[<-hW];exact this
 obtain⟨⟨c0,c1,c2,c3⟩,-⟩:=QaC L;have HS:Hi (GlSt b c f d w W 0 W):=Z ⟨X,rfl,rfl,hB⟩;have Y:=Z (qE k2 L);have R:=Z (qE B (qE n (qE G E)));have q0:b.size<=1000000:=by omega
 have q1:c.size<=1000000:=by omega
 have q2:f.size<=1000000:=by omega
 have q3:d.size<=1000000:=by omega
 clear hB k2 L X B n G E;go_enter func28,ntmps28;go_wp2_with fail;go_loopw [14] (fun u14 wr=>Hi (∃k:Nat,k<=4/\u14 = Ji k/\GlSt b c f d w W k wr)) (fun u14 _=>4-(intOf u14).toNat)
 case atStart=>exact Z ⟨0,by decide,rfl,HS.o⟩
 case round=>
  obtain⟨k,hk,rfl,hr,hx2,hx3,hb⟩:=hrel.o;clear hrel c0 c1 c2 c3;rcases (by omega:k=0\/k=1\/k=2\/k=3\/k=4) with rfl|rfl|rfl|rfl|rfl
  ·obtain⟨x0,f0⟩:=Qak hr 0 (Ju 0) rfl
   have g:=Z (qE (QeX (w:=w) (cs':=QnV b c f d 1) hr 0 (Ju b.size) rfl) (qE ((Qal (show w.heap.size≠w.heap.size+1+1 by omega) 0 (Ju b.size)).trans hx2) (qE ((Qal (show w.heap.size+1≠w.heap.size+1+1 by omega) 0 (Ju b.size)).trans hx3) (hb.setCell (p:=(Ja (w.heap.size+1+1) 0)) (by show w.heap.size<=w.heap.size+1+1;omega) (Ju b.size)))))
   clear hr hx2 hx3 hb;go_wp2_with fail;refine⟨Z ⟨1,by decide,by go_num,g.o.1,g.o.2.1,g.o.2.2.1,g.o.2.2.2⟩,?_⟩
   simp[intOf]
  ·obtain⟨x0,f0⟩:=Qak hr 1 (Ju 0) rfl
   have g:=Z (qE (QeX (w:=w) (cs':=QnV b c f d 2) hr 1 (Ju c.size) rfl) (qE ((Qal (show w.heap.size≠w.heap.size+1+1 by omega) 1 (Ju c.size)).trans hx2) (qE ((Qal (show w.heap.size+1≠w.heap.size+1+1 by omega) 1 (Ju c.size)).trans hx3) (hb.setCell (p:=(Ja (w.heap.size+1+1) 1)) (by show w.heap.size<=w.heap.size+1+1;omega) (Ju c.size)))))
   clear hr hx2 hx3 hb;go_wp2_with fail;refine⟨Z ⟨2,by decide,by go_num,g.o.1,g.o.2.1,g.o.2.2.1,g.o.2.2.2⟩,?_⟩
   simp[intOf]
  ·obtain⟨x0,f0⟩:=Qak hr 2 (Ju 0) rfl
   have g:=Z (qE (QeX (w:=w) (cs':=QnV b c f d 3) hr 2 (Ju f.size) rfl) (qE ((Qal (show w.heap.size≠w.heap.size+1+1 by omega) 2 (Ju f.size)).trans hx2) (qE ((Qal (show w.heap.size+1≠w.heap.size+1+1 by omega) 2 (Ju f.size)).trans hx3) (hb.setCell (p:=(Ja (w.heap.size+1+1) 2)) (by show w.heap.size<=w.heap.size+1+1;omega) (Ju f.size)))))
   clear hr hx2 hx3 hb;go_wp2_with fail;refine⟨Z ⟨3,by decide,by go_num,g.o.1,g.o.2.1,g.o.2.2.1,g.o.2.2.2⟩,?_⟩
   simp[intOf]
  ·obtain⟨x0,f0⟩:=Qak hr 3 (Ju 0) rfl
   have g:=Z (qE (QeX (w:=w) (cs':=QnV b c f d 4) hr 3 (Ju d.size) rfl) (qE ((Qal (show w.heap.size≠w.heap.size+1+1 by omega) 3 (Ju d.size)).trans hx2) (qE ((Qal (show w.heap.size+1≠w.heap.size+1+1 by omega) 3 (Ju d.size)).trans hx3) (hb.setCell (p:=(Ja (w.heap.size+1+1) 3)) (by show w.heap.size<=w.heap.size+1+1;omega) (Ju d.size)))))
   clear hr hx2 hx3 hb;go_wp2_with fail;refine⟨Z ⟨4,by decide,by go_num,g.o.1,g.o.2.1,g.o.2.2.1,g.o.2.2.2⟩,?_⟩
   simp[intOf]
  ·obtain⟨B,n,G,E⟩:=R.o
   obtain⟨a1,ha1⟩:∃a,127+b.size=a:=⟨_,rfl⟩;rw[ha1] at n;obtain⟨a2,ha2⟩:∃a,a1+c.size=a:=⟨_,rfl⟩;rw[ha2] at n;obtain⟨a3,ha3⟩:∃a,a2+f.size=a:=⟨_,rfl⟩;rw[ha3] at n;have T:Hi (∀W,Calls prog 68 #[.agg #[Ju b.size,Ju c.size,Ju f.size,Ju d.size]] W (JB (.tuple #[.agg #[Ju 127,Ju b.size,Ju a1,Ju c.size,Ju a2,Ju f.size,Ju a3,Ju d.size],Ju (a3+d.size:Nat),Ji 0]) W)):=Z (fun W=>QjD b.size c.size f.size d.size 127 a1 a2 a3 (a3+d.size) W rfl ha1.symm ha2.symm ha3.symm rfl (by omega))
   have J:Hi (∀W,Calls prog 70 #[.agg #[Ju h.rf,Ju h.rl,Ju h.mf,Ju h.ml,Ju h.lf,Ju h.ll,Ju h.df,Ju h.dl,Ju h.ad,Ju h.en,Ju h.co,.bool h.cl,Jb h.inn,Jb h.out,Jb h.kd,Ji h.z0,Ji h.z1,Ji h.x0,Ji h.y0,Ji h.x1,Ji h.y1,Ji h.zo,Ji h.lo,Ji h.la],.agg #[Ju 127,Ju b.size,Ju a1,Ju c.size,Ju a2,Ju f.size,Ju a3,Ju d.size]] W (JB (.agg #[Ju 127,Ju b.size,Ju a1,Ju c.size,Ju a2,Ju f.size,Ju a3,Ju d.size,Ju h.ad,Ju h.en,Ju h.co,.bool h.cl,Jb h.inn,Jb h.out,Jb h.kd,Ji h.z0,Ji h.z1,Ji h.x0,Ji h.y0,Ji h.x1,Ji h.y1,Ji h.zo,Ji h.lo,Ji h.la]) W)):=Z (fun W=>QpV h 127 b.size a1 c.size a2 f.size a3 d.size W)
   have N:Hi (∀W,Calls prog 69 #[.agg #[Ju 127,Ju b.size,Ju a1,Ju c.size,Ju a2,Ju f.size,Ju a3,Ju d.size,Ju h.ad,Ju h.en,Ju h.co,.bool h.cl,Jb h.inn,Jb h.out,Jb h.kd,Ji h.z0,Ji h.z1,Ji h.x0,Ji h.y0,Ji h.x1,Ji h.y1,Ji h.zo,Ji h.lo,Ji h.la]] W (JB (.tuple #[Jt (bs (Qkq H)),Ji 0]) W)):=Z (fun W=>by
    have:=QmC H G E W;subst n;exact this)
   obtain⟨n0,n1,n2,n3⟩:(wr.cell? (Ja (w.heap.size+1+1) 0)=some (Ju b.size))/\(wr.cell? (Ja (w.heap.size+1+1) 1)=some (Ju c.size))/\(wr.cell? (Ja (w.heap.size+1+1) 2)=some (Ju f.size))/\(wr.cell? (Ja (w.heap.size+1+1) 3)=some (Ju d.size)):=(QaC (show wr.heap[w.heap.size+1+1]?=some (.cells #[Ju b.size,Ju c.size,Ju f.size,Ju d.size] 176 (0,0)) from hr)).1;have t:=Z (hx2.trans Y.o.1);have s:=Z (hx3.trans Y.o.2);have V:=Z hb;have O:=B;clear hr hx2 hx3 hb B n ha1 ha2 ha3 E;go_wp2_with fail;refine (T.o _).mono ?_;rintro e I ⟨rfl,x⟩;have A:=(gsi t.o).1;have D:=(gsi s.o).1;obtain⟨W9,hW9⟩:∃W9,I.alloc (.cells #[Ju 127,Ju b.size,Ju a1,Ju c.size,Ju a2,Ju f.size,Ju a3,Ju d.size] 95)=W9:=⟨_,rfl⟩;obtain⟨b9,hb9⟩:∃b9,I.heap.size=b9:=⟨_,rfl⟩;have U:W9.heap[b9]?=some (.cells #[Ju 127,Ju b.size,Ju a1,Ju c.size,Ju a2,Ju f.size,Ju a3,Ju d.size] 95 (0,0)):=by rw[<-hW9,<-hb9];exact JI I _
   have j:Jw wr W9:=by rw[<-hW9];exact x.alloc x.size _
   have z:=Z ((j.block _ A).trans t.o);have m:=Z ((j.block _ D).trans s.o);have M:=Z (Qaa V.o j);obtain⟨d0,d1,d2,d3,d4,d5,d6,d7⟩:=QrI U;clear x j U A D t s V n0 n1 n2 n3;go_wp2_with (refine wpList_load_row rfl 47 (.tmp 2) rfl w.heap.size rfl 47 #[Ju h.rf,Ju h.rl,Ju h.mf,Ju h.ml,Ju h.lf,Ju h.ll,Ju h.df,Ju h.dl,Ju h.ad,Ju h.en,Ju h.co,.bool h.cl,Jb h.inn,Jb h.out,Jb h.kd,Ji h.z0,Ji h.z1,Ji h.x0,Ji h.y0,Ji h.x1,Ji h.y1,Ji h.zo,Ji h.lo,Ji h.la] (0,0) _ z.o underlying47 rfl (by kernel_rfl) ?_)
   refine (J.o _).mono ?_;rintro e w2 ⟨rfl,v⟩;have P:=Z (Qaa M.o v);have q:=Z ((v.block _ (gsi m.o).1).trans m.o);clear v;go_wp2_with fail;refine (N.o _).mono ?_;rintro e w3 ⟨rfl,y⟩;have K:=Z (Qaa P.o y);have i:=(y.block _ (gsi q.o).1).trans q.o;have HJ:=Z (Qwn b c f d (w.heap.size+1) w3 i O);obtain⟨⟨y0,y1,y2,y3⟩,-⟩:=QaC i;clear y i;go_wp2_with fail;refine HJ.o.mono ?_;rintro e w4 ⟨rfl,C⟩;have S:=Z (Qaa K.o C);clear C y0 y1 y2 y3;have z1:(bs (Qkq H)).size=127:=by rw[Qaq,QdQ]
   have z2:(bs (b.data.toList++(c.data.toList++(f.data.toList++d.data.toList)))).size<=1000000:=by
    rw[Qaq];simp only[qG];have e0:=Qab b;have e1:=Qab c;have e2:=Qab f;have e3:=Qab d;omega
   generalize r:b.data.toList++(c.data.toList++(f.data.toList++d.data.toList))=Q;have l:bs (Qkq H)++bs Q=bs (Qkq H++Q):=by
    apply ByteArray.ext;simp[bs]
   have HA:=Z l;have z3:(bs (Qkq H)).size+(bs Q).size<=9223372036854775807:=by rw[r] at z2;omega
   have HQ:=Z r;clear l r;go_wp2;go_ret2;rw[HQ.o,<-HA.o];exact⟨rfl,S.o⟩
end
section
open PoolPlain
theorem QhC(x:Nat)(a:x≠0)(h:x<18446744073709551616):2 ^ (Lib.bitLen x-1)<=x/\x<2 ^ Lib.bitLen x/\1<=Lib.bitLen x:=by
 obtain⟨h1,h2,h3⟩:=Lib.bitLenAux_bounds 64 x h a;exact⟨h2,h3,h1⟩
theorem QAj(a b:Nat)(c:a≠0)(h:a<=b)(d:b<18446744073709551616):Lib.bitLen a<=Lib.bitLen b:=by
 obtain⟨a1,-,-⟩:=QhC a c (by omega)
 obtain⟨-,b2,-⟩:=QhC b (by omega) d
 refine Classical.byContradiction fun hh=>?_
 have:2 ^ Lib.bitLen b<=2 ^ (Lib.bitLen a-1):=Nat.pow_le_pow_right (by decide) (by omega)
 omega
theorem Quf(a b:Nat)(h:a<=b)(c:b<6004799503160661):Qh9 a<=Qh9 b:=by
 have:=QAj (3*a+1) (3*b+1) (by omega) (by omega) (by omega)
 unfold Qh9;omega
theorem QA4(a:Nat)(h:a<6004799503160661):Qh9 a<=26:=by
 obtain⟨h1,-,-⟩:=QhC (3*a+1) (by omega) (by omega)
 have b:Lib.bitLen (3*a+1)<=54:=by
  refine Classical.byContradiction fun hh=>?_
  have:2 ^ 54<=2 ^ (Lib.bitLen (3*a+1)-1):=Nat.pow_le_pow_right (by decide) (by omega)
  have e:(2:Nat) ^ 54=18014398509481984:=by decide
  omega
 unfold Qh9;omega
structure SplitOk(B:Nat)(R:List Ent)(T:JL):Prop where
 root:SmRow R
 enc:(Qb3 R).length<=B
 txt:T.length<=4000
 ptr:∀e∈R,e.2.2.2=0->e.2.1+e.2.2.1<=T.length/\∃ch,SmRow ch/\(∀x∈ch,0<x.2.2.2)/\(T.drop e.2.1).take e.2.2.1=Qb3 ch
theorem Qnl:SmRow []:=⟨fun e he=>JN he (by simp),List.Pairwise.nil,qL _⟩
theorem QuJ(l:List Ent)(B:Nat)(c:SmRow l)(d:∀e∈l,0<e.2.2.2)(i:64<=B):∀f size,0<size->SplitOk B (Qd3 l B f size).1 (Qd3 l B f size).2.1:=by
 intro f
 induction f with
 |zero=>
  intro size _;refine⟨Qnl,?_,qL _,fun e he=>JN he (by simp[Qd3])⟩
  have:=Qnl.size.1;rw[List.length_nil] at this;exact qD this (by omega)
 |succ f ih=>
  intro size g;unfold Qd3
  by_cases h:(Qb3 (QeN 0 (Qgg l size))).length<=B
  ·rw[JK h]
   have a:=QmR l size g;refine⟨a.root c,h,a.txt c,fun e he h0=>?_⟩
   have b:∀ch∈Qgg l size,ch≠[]/\SmRow ch:=fun ch b=>⟨a.ne ch b,c.sub (a.sub ch b)⟩
   obtain⟨-,-,-,g4,ch,g5,-,g7⟩:=Qvn (Qgg l size) b 0 e he;exact⟨by rw[Nat.zero_add] at g4;exact g4,ch,(b ch g5).2,fun x hx=>d x ((a.sub ch g5).subset hx),g7⟩
  ·rw[JJ h]
   exact ih _ (by omega)
theorem Qd2(l:List Ent)(B:Nat)(a:SmRow l)(b:∀e∈l,0<e.2.2.2)(c:64<=B):SplitOk B (QaS l B).1 (QaS l B).2.1:=by
 unfold QaS
 by_cases h:(Qb3 l).length<=B
 ·rw[JK h]
  exact⟨a,h,qL _,fun e he h0=>JN (b e he) (by omega)⟩
 ·rw[JJ h]
  exact QuJ l B a b c 9 1 (by decide)
theorem Qhf(L:List Itm)(h:ItmsOk L):SmRow (rwM L).2/\(∀e∈(rwM L).2,0<e.2.2.2)/\(rwM L).1.flatten.length<=4000:=by
 have a:=QBs L h L.length (qC _);rw[List.take_length] at a;have b:=h.len;have d:=h.sz;have c:=a.flat;have f:QfV=6004799503160661:=rfl;refine⟨⟨fun e he=>?_,a.up,qD a.len b⟩,fun e he=>(a.ent e he).2.1,by omega⟩
 obtain⟨g1,g2,g3,g4,g5⟩:=a.ent e he;exact⟨⟨by omega,by omega,by omega,by omega⟩,g1⟩
def hPr(n en m z y:Nat):Hdr:=⟨0,0,0,0,0,0,0,0,n,en,m,true,1,1,0,(z:Nat),(y:Nat),-1800000000,-850511287,1800000000,850511287,(z:Nat),0,0⟩
def QfQ(L:List Itm)(B:Nat):Hdr:=QiN (hPr L.length (rwM L).2.length (QfK (rwM L).2).length (zLo L) (zHi L)) 127 (Qb3 (QaS (rwM L).2 B).1).length (127+(Qb3 (QaS (rwM L).2 B).1).length) 2 (127+(Qb3 (QaS (rwM L).2 B).1).length+2) (QaS (rwM L).2 B).2.1.length (127+(Qb3 (QaS (rwM L).2 B).1).length+2+(QaS (rwM L).2 B).2.1.length) (rwM L).1.flatten.length
def Qgy(L:List Itm)(B:Nat):JL:=Qkq (QfQ L B)++(Qb3 (QaS (rwM L).2 B).1++([123,125]++((QaS (rwM L).2 B).2.1++(rwM L).1.flatten)))
theorem Qvo(L:List Itm)(B:Nat)(h:ItmsOk L)(k:64<=B)(i:B<=16257):HdrOk (QfQ L B)/\QkG (QfQ L B)=0:=by
 obtain⟨g1,g2,g3⟩:=Qhf L h;obtain⟨s1,s2,s3,-⟩:=Qd2 (rwM L).2 B g1 g2 k;have v:=h.len;have c:=g1.len;have f:(QfK (rwM L).2).length<=80:=qD (QrP _ []) (by simpa using c)
 have q:zLo L<=zHi L/\zHi L<=26:=by
  unfold zLo zHi;cases L with
  |nil=>exact⟨qC _,qL _⟩
  |cons x r=>
   have j:(x :: r).getLast?=some ((x :: r).getLast (by simp)):=List.getLast?_eq_some_getLast (by simp)
   rw[j];have b:(x :: r).getLast (by simp)∈x :: r:=List.getLast_mem _
   obtain⟨y,hy⟩:∃y,(x :: r).getLast (by simp)=y:=⟨_,rfl⟩
   rw[hy] at b ⊢;have s:=(h.ok y b).1;have l:QfV=6004799503160661:=rfl;refine⟨Quf _ _ ?_ (by omega),QA4 _ (by omega)⟩
   rcases List.mem_cons.1 b with rfl|f
   ·exact qC _
   ·exact Nat.le_of_lt ((List.pairwise_cons.1 h.up).1 y f)
 unfold QfQ;obtain⟨a,ha⟩:∃a,(Qb3 (QaS (rwM L).2 B).1).length=a:=⟨_,rfl⟩;obtain⟨t,ht⟩:∃t,(QaS (rwM L).2 B).2.1.length=t:=⟨_,rfl⟩;obtain⟨d,hd⟩:∃d,(rwM L).1.flatten.length=d:=⟨_,rfl⟩;rw[ha] at s2 ⊢;rw[ht] at s3 ⊢;rw[hd] at g3 ⊢;generalize (QfK (rwM L).2).length=m at *;generalize (rwM L).2.length=en at *;generalize L.length=n at *;obtain⟨hz1,hz2⟩:=q;generalize zLo L=z at *;generalize zHi L=y at *;refine⟨?_,?_⟩
 ·constructor<;>(unfold QiN hPr)<;>simp<;>omega
 ·have l:Qds=1099511627776:=rfl
  have g:Qd5 (QiN (hPr n en m z y) 127 a (127+a) 2 (127+a+2) t (127+a+2+t) d)=true:=by
   unfold Qd5 Qnn QiN hPr;simp only[JD,qO];omega
  have p:(inB 0 26 (z:Nat)&&(inB 0 26 (y:Nat)&&inB 0 26 (z:Nat)))=true:=by
   unfold inB;simp only[JD,qO];omega
  unfold QkG;rw[g,JJ (by decide),JJ (by unfold QiN hPr;dsimp only;omega),JJ (by unfold QiN hPr;dsimp only;rw[p];simp;omega),JJ (by unfold QiN hPr inB;simp),JJ (by unfold QiN hPr inB;simp)]
end
section
theorem QlJ(L:List Ent)(i:Nat)(a:i<L.length)(e:Ent):(L.set i e).take (i+1)=L.take i++[e]:=by
 rw[qV (by rw[List.length_set];exact a),List.getElem_set_self,List.take_set_of_le (qC _)]
theorem QmN(L:List Ent)(i:Nat)(e:Ent):(L.set i e).drop (i+1)=L.drop (i+1):=List.drop_set_of_lt (Nat.lt_succ_self _)
theorem Qf7(s:JA)(w:World)(hs:s.size<=1000000) :
  Calls prog 10 #[Jt s] w (QqL (QcL s.data.toList) w):=by
 have qd:s.data.toList.length=s.size:=Qab s;obtain⟨R,hR⟩:∃R,QcL s.data.toList=R:=⟨_,rfl⟩;rw[hR];unfold QcL at hR;rw[qd] at hR
 by_cases h1:65536<s.size
 ·rw[JK h1] at hR
  have t:=Z hR;have t1:decide (65536<s.size)=true:=qA h1;have zz:decide ((s.size:Int)>65536)=true:=qA (by omega)
  clear hR h1;go_enter func10,ntmps10;go_wp2;go_ret3;exact Qcw 0 5 t.o.symm (by decide) (qF _ _)
 have t1:decide (65536<s.size)=false:=qB h1;have zz:decide ((s.size:Int)>65536)=false:=qB (by omega)
 rw[JJ h1] at hR;have HG:=Z (fun W=>QkN s 0 W (qL _) hs)
 by_cases h2:vE s.data.toList≠0
 ·rw[JK h2] at hR
  obtain⟨E,hE⟩:∃E,vE s.data.toList=E:=⟨_,rfl⟩;rw[hE] at hR h2;have hV:QA0 s 0=.tuple #[Ju 0,.agg #[Jt s,Ji 0,Ji (E:Nat)]]:=QlC s 0 E hE h2;rw[hV] at HG;have t:=Z hR;have t2:((E:Int) != 0)=true:=by rw[bne_iff_ne];omega
  clear hR h1 hE hV;go_enter func10,ntmps10;go_wp2_with fail;refine (HG.o _).mono ?_;rintro e y ⟨rfl,v⟩;have H1:=Z (Qaa v (Qcp y (Jt s) (Ji 0) (Ji E) 98));obtain⟨⟨c0,c1,c2⟩,-⟩:=Qbz (JI y (.cells #[Jt s,Ji 0,Ji E] 98));clear v;go_wp2_with fail;go_quiet (fail);go_wp2;go_ret3;exact Qcw 0 E t.o.symm h2 (Qaa H1.o (QeG _ _))
 have qe:vE s.data.toList=0:=Classical.not_not.1 h2;rw[JJ h2] at hR;obtain⟨n,hn⟩:∃n,vX s.data.toList=n:=⟨_,rfl⟩;have zI:n<18446744073709551616:=by rw[<-hn];exact QA9 _ qe
 obtain⟨m,hm⟩:∃m,vN s.data.toList=m:=⟨_,rfl⟩;have zG:m<=s.size:=by rw[<-hm,<-qd];exact QDb _ qe
 have hV:QA0 s 0=.tuple #[Ju n,.agg #[Jt s,Ji ((0+m:Nat):Int),Ji 0]]:=QoY s 0 n m qe hn hm;rw[Nat.zero_add] at hV;rw[hV] at HG;rw[hn,hm] at hR;clear h2 qe hn hm hV
 by_cases h3:4096<n
 ·rw[JK h3] at hR
  have t:=Z hR;have t3:decide (4096<n)=true:=qA h3;have zy:decide ((n:Int)>4096)=true:=qA (by omega)
  clear hR h1 h3;go_enter func10,ntmps10;go_wp2_with fail;refine (HG.o _).mono ?_;rintro e y ⟨rfl,v⟩;have H1:=Z (Qaa v (Qcp y (Jt s) (Ji m) (Ji 0) 98));obtain⟨⟨c0,c1,c2⟩,-⟩:=Qbz (JI y (.cells #[Jt s,Ji m,Ji 0] 98));clear v;go_wp2;go_ret3;exact Qcw 0 21 t.o.symm (by decide) H1.o
 have t3:decide (4096<n)=false:=qB h3;have zy:decide ((n:Int)>4096)=false:=qB (by omega)
 rw[JJ h3] at hR;have t:=Z hR;have zC:=Qv3 n (by omega)
 clear hR h1;go_enter func10,ntmps10;go_wp2_with fail;refine (HG.o _).mono ?_;rintro e y ⟨rfl,v⟩;have H1:=Z (Qaa v (Qcp y (Jt s) (Ji m) (Ji 0) 98));have qp:=JI y (.cells #[Jt s,Ji m,Ji 0] 98);obtain⟨⟨c0,c1,c2⟩,-⟩:=Qbz qp;have p:Hi (DW w ((y.alloc (.cells #[Jt s,Ji m,Ji 0] 98)).alloc (.cells (Qan (List.replicate n Qa7)).toArray 61)) s y.heap.size (y.heap.size+1) m (List.replicate n Qa7)):=Z (by
  have zj:Below (y.alloc (.cells #[Jt s,Ji m,Ji 0] 98)).heap.size (y.alloc (.cells #[Jt s,Ji m,Ji 0] 98)) ((y.alloc (.cells #[Jt s,Ji m,Ji 0] 98)).alloc (.cells (Qan (List.replicate n Qa7)).toArray 61)):=(qF _ _).alloc (qC _) _;have hA:=JI (y.alloc (.cells #[Jt s,Ji m,Ji 0] 98)) (.cells (Qan (List.replicate n Qa7)).toArray 61);rw[qJ] at hA;exact⟨Qaa H1.o zj,Qad qp zj,hA,v.size,qD v.size (Nat.le_succ _)⟩)
 clear v qp;go_wp2_with fail;generalize (y.alloc (.cells #[Jt s,Ji m,Ji 0] 98)).alloc (.cells (Qan (List.replicate n Qa7)).toArray 61)=W at p ⊢;have qz:y.heap.size<y.heap.size+1:=Nat.lt_succ_self _;generalize y.heap.size+1=bA at p qz ⊢;generalize y.heap.size=b6 at p qz ⊢;clear c0 c1 c2 zC HG;have b:Hi ((List.replicate n Qa7).length=n):=Z List.length_replicate;have r:Hi (∀e∈List.replicate n Qa7,Qbt e):=Z (fun e he=>by rw[List.eq_of_mem_replicate he];exact Qlz)
 generalize List.replicate n Qa7=L0 at p t b r;go_loopw [35] (fun c wr=>∃(k a:Nat) (L:List Ent),k<=4/\c = Ji k/\a<=s.size/\Hi (L.length=n)/\Hi (∀e∈L,Qbt e)/\Hi (QeC (4-k) k L (s.data.toList.drop a)=R)/\Hi (DW w wr s b6 bA a L)) (fun c _=>4-(intOf c).toNat)
 case atStart=>exact⟨0,m,L0,by omega,rfl,zG,b,r,t,p⟩
 case round=>
  clear p t b r;obtain⟨k,a,L,hk,rfl,ha,b,r,t,p⟩:=hrel
  by_cases zA:k<4
  ·have tk:decide ((k:Int)<4)=true:=qA (by omega)
   have zq:Hi (QpK (3-k) k 0 Qa7 [] L (s.data.toList.drop a)=R):=Z (by rw[<-t.o,show 4-k=(3-k)+1 by omega,Qz3])
   have qn:=Z (p.o.step (QaV wr (Ju 0) (Ju 0) (Jd 0) (Jd 0) 61));have H9:=Z (JI wr (.cells #[Ju 0,Ju 0,Jd 0,Jd 0] 61));have zF:bA<wr.heap.size:=(gsi p.o.sA).1;have zD:b6<wr.heap.size:=(gsi p.o.s6).1;have qt:w.heap.size<=wr.heap.size:=p.o.b.size;clear t p;go_wp2_with fail;generalize wr.alloc (.cells #[Ju 0,Ju 0,Jd 0,Jd 0] 61)=Wi at qn H9 ⊢;generalize wr.heap.size=b9 at H9 zF zD qt ⊢;go_loopw [40] (fun i wi=>∃(j x U Y T V:Nat) (L':List Ent),j<=n/\i = Ji j/\x<=s.size/\Hi (L'.length=n)/\Hi (∀e∈L',Qbt e)/\Hi (Qbt (U,Y,T,V))/\Hi (QpK (3-k) k j (U,Y,T,V) (L'.take j) (L'.drop j) (s.data.toList.drop x)=R)/\Hi (DW w wi s b6 bA x L')/\Hi (wi.heap[b9]?=some (.cells #[Ju U,Ju Y,Jd T,Jd V] 61 (0,0)))) (fun i _=>n-(intOf i).toNat)
   case atStart=>exact⟨0,a,0,0,0,0,L,by omega,rfl,ha,b,r,Z Qlz,zq,qn,H9⟩
   case round=>
    clear zq qn H9 b r;obtain⟨j,x,U,Y,T,V,L',hj,rfl,ha',b,r,HXo,t,p,H9⟩:=hrel
    by_cases ql:j<n
    ·have tj:decide (j<n)=true:=qA ql
     have I:=Z (fun W=>QkN s x W ha' hs)
     have B:j<L'.length:=by rw[b.o];exact ql
     have qs:L'.drop j=L'[j] :: L'.drop (j+1):=List.drop_eq_getElem_cons B;have H:=t.o;rw[qs] at H;have qk:L'.getD j Qa7=L'[j]:=Qcv B;obtain⟨E,hE⟩:∃E,vE (s.data.toList.drop x)=E:=⟨_,rfl⟩;have zB:=Z (Qbz p.o.s6);obtain⟨⟨c0,c1,c2⟩,q0,q1,q2⟩:=zB.o
     by_cases f:E=0
     ·have G:vE (s.data.toList.drop x)=0:=hE.trans f
      obtain⟨X,hX⟩:∃X,vX (s.data.toList.drop x)=X:=⟨_,rfl⟩;obtain⟨M,hM⟩:∃M,vN (s.data.toList.drop x)=M:=⟨_,rfl⟩;have zv:X<18446744073709551616:=by rw[<-hX];exact QA9 _ G
      have zc:x+M<=s.size:=by
       have:=QDb _ G;rw[hM,JC,qd] at this;omega
      rw[QoY s x X M G hX hM] at I;obtain⟨a2,ha2⟩:∃a2,x+M=a2:=⟨_,rfl⟩;rw[ha2] at I zc;have zn:(s.data.toList.drop x).drop M=s.data.toList.drop a2:=by rw[List.drop_drop,ha2]
      obtain⟨Q,hQ⟩:∃Q,QeM k j (U,Y,T,V) L'[j] X=Q:=⟨_,rfl⟩;have qx:Hi (Q.1=0->Qbt Q.2):=Z (fun h=>by
       rw[<-hQ] at h ⊢;exact QuN k j _ _ X HXo.o (r.o _ (JG B)) zv h)
      have zh:Hi (Q.1≠0->R=(Q.1,[])):=Z (fun h=>by
       rw[<-H,Qx3 _ _ _ _ _ _ _ _ G (by rw[hX,hQ];exact h),hX,hQ])
      have zf:Hi (Q.1=0->QpK (3-k) k (j+1) Q.2 (L'.take j++[Q.2]) (L'.drop (j+1)) (s.data.toList.drop a2)=R):=Z (fun h=>by
       rw[<-H,QyR _ _ _ _ _ _ _ _ G (by rw[hX,hQ];exact h),hX,hM,hQ,zn])
      have qi:=Z (fun W (hW:W.heap[bA]?=some (.cells (Qan L').toArray 61 (0,0)))=>(by
       have h:=QzX k j U Y T V X zA W bA L' j 61 B hW HXo.o zv;unfold Qgc at h;rw[qk,hQ] at h;exact h:Calls prog 33 #[Ji k,Ji j,.agg #[Ju U,Ju Y,Jd T,Jd V],.pointer (some (Ja bA (j*4))),Ju X] W fun e w'=>∃L2,e=.returned (Ji Q.1)/\w'.heap[bA]?=some (.cells (Qan L2).toArray 61 (0,0))/\L2.length=L'.length/\(Q.1=0->L2=L'.set j Q.2)/\Touch (fun g=>g=bA) W w'))
      have HJ:=Z B;clear H qs qk hE f G hX hM ha2 zn hQ t B;go_wp2_with fail;refine (I.o _).mono ?_;rintro e A ⟨rfl,d⟩;have D:=Qaa d (Qcp A (Jt s) (Ji a2) (Ji 0) 98);have q:=Z (p.o.step D);have qb:=Z (Qad H9.o D);have K:=Z (JI A (.cells #[Jt s,Ji a2,Ji 0] 98));have zx:bA<A.heap.size:=qK (gsi p.o.sA).1 d.size;have zb:b9<A.heap.size:=qK (gsi H9.o).1 d.size;have zu:b6<A.heap.size:=qK (gsi p.o.s6).1 d.size;have zt:w.heap.size<=A.heap.size:=qD p.o.b.size d.size;clear d D p H9 c0 c1 c2 q0 q1 q2;obtain⟨⟨u0,u1,u2⟩,-⟩:=Qbz K.o;obtain⟨⟨g0,g1,g2,g3⟩,-⟩:=QaC qb.o;go_wp2_with fail;generalize A.alloc (.cells #[Jt s,Ji a2,Ji 0] 98)=W3 at q qb K u0 u1 u2 g0 g1 g2 g3 ⊢;generalize A.heap.size=b12 at K zx zb zu zt u0 u1 u2 ⊢;have qy:Hi (Jx W3.drew b9 0 (Ju U)/\Jx W3.drew b9 1 (Ju Y)/\Jx W3.drew b9 2 (Jd T)/\Jx W3.drew b9 3 (Jd V)):=Z ⟨g0,g1,g2,g3⟩;have qo:Hi (DW w W3.drew s b6 bA x L'):=Z (q.o.step (qF _ _).drew);have qr:Hi (Jh W3.drew b9 #[Ju U,Ju Y,Jd T,Jd V] 61):=Z qb.o;have S:Hi (Jh W3.drew b12 #[Jt s,Ji a2,Ji 0] 98):=Z K.o;go_region_held3 (fun w'=>Jx w' b9 0 (Ju U)/\Jx w' b9 1 (Ju Y)/\Jx w' b9 2 (Jd T)/\Jx w' b9 3 (Jd V)) (first|with_reducible exact qy.o|with_reducible exact zo.o)
       (first
        |(go_at_call 33;refine (qi.o _ qo.o.sA).mono ?_;rintro e w4 ⟨L2,rfl,zw,zp,qu,qg⟩;have C:=Z (qo.o.touch qg zw);have qc:=Z ((qg.block b9 (gsi qr.o).1 (by show b9≠bA;omega)).trans qr.o);have qj:=Z ((qg.block b12 (gsi S.o).1 (by show b12≠bA;omega)).trans S.o);have zo:=Z (QaC qc.o).1;have qm:=Z (qE zp qu);clear zw zp qu qg))
      all_goals
       clear qy qo qr S q qb K g0 g1 g2 g3 u0 u1 u2 qi I;obtain⟨E,hE⟩:∃E,Q.1=E:=⟨_,rfl⟩;have HE:=Z hE;rw[hE]
       by_cases f:E=0
       ·have qa:=qm.o.2 (hE.trans f)
        have qf:=Z (zf.o (hE.trans f));have zs:=qx.o (hE.trans f);have zd:=Z (qm.o.1.trans b.o);obtain⟨Q1,y0,y1,y2,y3⟩:=Q;have zk:Hi (Qbt (y0,y1,y2,y3)):=Z zs;have zE:Hi (QpK (3-k) k (j+1) (y0,y1,y2,y3) (L2.take (j+1)) (L2.drop (j+1)) (s.data.toList.drop a2)=R):=Z (by
         have h:=qf.o;rw[qa,QlJ L' j HJ.o,QmN];exact h)
        have zi:Hi (∀e∈L2,Qbt e):=Z (fun e he=>by
         rw[qa] at he;rcases List.mem_or_eq_of_mem_set he with h|h
         ·exact r.o e h
         ·rw[h];exact zk.o)
        have qh:j<L2.length:=by rw[zd.o];exact ql
        have zr:L2[j]=(y0,y1,y2,y3):=by
         simp only[qa,List.getElem_set_self]
        have zm:=QhM C.o.sA j qh;rw[zr] at zm;obtain⟨⟨c0,c1,c2,c3⟩,-⟩:=zm;obtain⟨⟨u0,u1,u2⟩,-⟩:=Qbz qj.o;obtain⟨⟨g0,g1,g2,g3⟩,p0,p1,p2,p3⟩:=QaC qc.o;obtain⟨⟨v0,v1,v2⟩,q0,q1,q2⟩:=Qbz C.o.s6;have ze:b6≠b9:=by omega
        have zH:bA≠b9:=by omega
        subst f;clear hE HE zh zf qf qa zs zr qh qx qm;go_wp2_with fail;go_region
        all_goals
         have zg:=Z (((C.o.other b9 qt ze zH (Ju y0) (Ju y1) (Jd y2) (Jd y3)).scan a2).step (qF _ _).drew);have qw:=Z (Qad ((Qi8 ((((w4.setCell (Ja b9 0) (Ju y0)).setCell (Ja b9 1) (Ju y1)).setCell (Ja b9 2) (Jd y2)).setCell (Ja b9 3) (Jd y3)) b6 b9 (fun e=>ze e.symm) (Jt s) (Ji a2) (Ji 0)).trans (Qec qc.o (Ju y0) (Ju y1) (Jd y2) (Jd y3))) (qF _ _).drew)
         generalize (((((((w4.setCell (Ja b9 0) (Ju y0)).setCell (Ja b9 1) (Ju y1)).setCell (Ja b9 2) (Jd y2)).setCell (Ja b9 3) (Jd y3)).setCell (Ja b6 0) (Jt s)).setCell (Ja b6 1) (Ji a2)).setCell (Ja b6 2) (Ji 0)).drew=Wn at zg qw ⊢;clear C qc qj zo c0 c1 c2 c3 u0 u1 u2 g0 g1 g2 g3 p0 p1 p2 p3 v0 v1 v2 q0 q1 q2;go_wp2_with fail;go_roundw
         case rel=>
          refine⟨j+1,a2,y0,y1,y2,y3,L2,by omega,by go_num,zc,zd,zi,zk,zE,?_,?_⟩
          ·exact zg
          ·exact qw
         case measure=>simp[intOf];omega
       ·have qq:=Z (zh.o (fun h=>f (hE.symm.trans h)))
        have tE:((E:Int) != 0)=true:=by rw[bne_iff_ne];omega
        have J:=Z f;obtain⟨⟨c0,c1,c2⟩,-⟩:=Qbz C.o.s6;clear hE f;go_wp2_with fail;go_quiet (fail);go_wp2;go_ret3;exact Qcw _ E (by rw[qq.o,HE.o]) J.o (Qaa C.o.b (QeG _ _))
     ·have qv:vE (s.data.toList.drop x)≠0:=fun h=>f (hE.symm.trans h)
      rw[QlC s x E hE f] at I;have qq:Hi (R=(E,[])):=Z (by rw[<-H,QB4 _ _ _ _ _ _ _ _ qv,hE])
      have tE:((E:Int) != 0)=true:=by rw[bne_iff_ne];omega
      have J:=Z f;clear H qs qk hE f qv t;go_wp2_with fail;refine (I.o _).mono ?_;rintro e A ⟨rfl,d⟩;have D:=Qaa d (Qcp A (Jt s) (Ji x) (Ji E) 98);have q:=Z (p.o.step D);obtain⟨⟨u0,u1,u2⟩,-⟩:=Qbz (JI A (.cells #[Jt s,Ji x,Ji E] 98));clear d D c0 c1 c2 q0 q1 q2;obtain⟨⟨c0,c1,c2⟩,-⟩:=Qbz q.o.s6;go_wp2_with fail;go_quiet (fail);go_wp2;go_ret3;exact Qcw _ E qq.o J.o (Qaa q.o.b (QeG _ _))
    ·obtain rfl:j=n:=by omega
     have qf:Hi (QeC (4-(k+1)) (k+1) L' (s.data.toList.drop x)=R):=Z (by
      have h:=t.o;rw[List.drop_of_length_le (by rw[b.o];exact qC _),qX (by rw[b.o];exact qC _),QB2] at h
      rw[<-h,show 4-(k+1)=3-k by omega])
     go_wp2_with fail;go_roundw
     case rel=>exact⟨k+1,x,L',by omega,by go_num,ha',b,r,qf,p⟩
     case measure=>simp[intOf];omega
  ·obtain rfl:k=4:=by omega
   have l:=t.o;rw[Nat.sub_self] at l;unfold QeC at l;have N:(s.data.toList.drop a).length=s.size-a:=by rw[JC,qd]
   obtain⟨⟨c0,c1,c2⟩,-⟩:=Qbz p.o.s6
   by_cases zl:a<s.size
   ·have hne:s.data.toList.drop a≠[]:=fun e=>by rw[e] at N;simp at N;omega
    rw[JK hne] at l;have O:=Z l;have ta:decide (a<s.size)=true:=qA zl;clear l N hne t;go_wp2_with fail;go_quiet (fail);go_wp2;go_ret3;exact Qcw _ 4 O.o.symm (by decide) (Qaa p.o.b (QeG _ _))
   ·have he:s.data.toList.drop a = []:=List.length_eq_zero_iff.1 (by omega)
    rw[JJ (fun h=>h he)] at l
    have ta:decide (a<s.size)=false:=qB zl;have P:=Z (fun W (hW:Jw wr W)=>QdE (Jl bA L.length L.length) L W (Qn6 (Qad p.o.sA hW) (by rw[b.o];omega)) r.o (by rw[b.o];omega))
    by_cases z:QeZ L=0
    ·rw[JJ (fun h=>h z)] at l
     rw[z,b.o] at P;have O:=Z l;clear l N he t z;go_wp2_with fail;refine (P.o _ (qF _ _)).mono ?_;rintro e A ⟨rfl,d⟩;have q:=Z (p.o.step d);clear d;go_wp2;go_ret3;have za:=QtJ (R:=R) (w:=w) (w':=A) (L:=L) (s.size:Int) bA O.o.symm q.o.b (by rw[b.o];omega) q.o.lA q.o.sA
     rw[b.o] at za;exact za
    ·rw[JK z] at l
     obtain⟨E,hE⟩:∃E,QeZ L=E:=⟨_,rfl⟩;rw[hE] at l z P;rw[b.o] at P;have O:=Z l;have J:=Z z;have tE:((E:Int) != 0)=true:=by rw[bne_iff_ne];omega
     clear l N he t z hE;go_wp2_with fail;refine (P.o _ (qF _ _)).mono ?_;rintro e A ⟨rfl,d⟩;have q:=Z (p.o.step d);clear d;go_wp2;go_ret3;exact Qcw _ E O.o.symm J.o q.o.b
end
section
def Qsa(w0 w:World)(b lb mb rb most nx:Nat)(Zq:List (Key×Nat×List Ent))(a:Key)(R:Nat×List Ent)(e:Ending)(w':World):Prop:=
 ∃v Z' nx',e=.returned (.tuple #[v,Ji R.1])/\(R.1≠0->v=.slice none 0 0/\Z'=Zq)/\(R.1=0->w'.ownsRow w.heap.size 61 4 v R.2.length (Qan R.2))/\ShZ w0 w' b lb mb rb most nx' Z'/\nx'<=nx+1/\nx<=nx'/\(∀z∈Z',z∈Zq\/(z.1=a/\z.2.2=R.2/\R.1=0))/\Touch (ShS b lb mb rb) w w'
section
variable {w0 w:World} {b lb mb rb most nx:Nat} {Zq:List (Key×Nat×List Ent)}
theorem ShZ.next(h:ShZ w0 w b lb mb rb most nx Zq):ShZ w0 (w.setCell (Ja b 2) (Ji ((nx+1:Nat):Int))) b lb mb rb most (nx+1) Zq:=by
 obtain⟨a1,a2,a3,-,-,a6⟩:=h.apart;have a:∀j,j≠b->(w.setCell (Ja b 2) (Ji ((nx+1:Nat):Int))).heap[j]?=w.heap[j]?:=fun j hj=>JO _ _ _ _ hj
 refine⟨?_,h.lru.keep (a _ a1.symm) (a _ a2.symm),?_,h.nm,fun z hz=>Nat.le_succ_of_le (h.nx z hz),h.small,h.len,h.mst,h.ne,h.lo⟩
 ·obtain⟨p,q,hb⟩:=h.blk
  exact⟨p,q,Qtu hb _⟩
 ·obtain⟨gr,n,k,kk⟩:=h.map
  exact⟨gr,n,k.keep (a _ a3.symm),fun z hz=>let ⟨v,hv,ho⟩:=kk z hz;⟨v,hv,Qac ho (fun g hg=>let ⟨C,hC⟩:=Qa5 ho g hg;a g (a6 g C hC).1)⟩⟩
theorem Qgh{S:Nat->Prop}{w a c:World}{e:JT}{k n:Nat}{v:Value}{xs:JV}(h:a.ownsRow w.heap.size e k v n xs)(f:Touch S a c)(d:∀i,S i->i<w.heap.size):c.ownsRow w.heap.size e k v n xs:=
 Qq7 h f (fun g hg hs=>by have l:=d g hs;have j:=(h.lt g hg).1;omega)
structure KeepMid(w0 w w':World)(b lb mb rb most nx:Nat)(Zq:List (Key×Nat×List Ent))(l:List Ent):Prop where
 blk:∃hi mi,ShB w' b lb rb (nx+1) hi mi
 lru:LruAt w' lb most mb (Zq.map fun z=>(z.1,(z.2.1:Int)))
 map:∃g n v,MapF (QcE .i64) (fun v:Value=>v) w' rb g n/\g (nx+1)=some v/\w'.ownsRow w0.heap.size 61 4 v l.length (Qan l)/\∀z∈Zq,∃v,g z.2.1=some v/\w'.ownsRow w0.heap.size 61 4 v z.2.2.length (Qan z.2.2)
 t:Touch (ShS b lb mb rb) w w'
theorem Qy9{a d:World}{q:Nat->Option Value}{n J:Nat}{m:List (Key×Nat×List Ent)}{l:List Ent}{v:Value}{h B:Int}(D:MapF (QcE .i64) (fun v:Value=>v) a rb q n)(x:ShB a b lb rb (nx+1) h B)(A:LruAt a lb most mb (m.map fun z=>(z.1,(z.2.1:Int))))
  (G:∀z∈m,∃v,q z.2.1=some v/\a.ownsRow w0.heap.size 61 4 v z.2.2.length (Qan z.2.2)) (E:b≠lb/\b≠mb/\b≠rb/\lb≠mb/\lb≠rb/\(∀(i:Nat) (C:JW),a.heap[i]?=some (.cells C 61 (0,0))->i≠b/\i≠lb/\i≠mb/\i≠rb)) (s:mb≠rb) (r:∀z∈m,z.2.1<=nx) (I:w0.heap.size<=rb)
  (y:d.ownsRow w0.heap.size 61 4 v l.length (Qan l)) (t:Jw a d) (f:Obj) (H:MapF (QcE .i64) (fun v:Value=>v) (Qar d rb f) rb (fun c=>if c=nx+1 then some v else q c) J):KeepMid w0 a (Qar d rb f) b lb mb rb most nx m l:=by
 obtain⟨a1,a2,a3,-,a5,a6⟩:=E;have k:=A.lt;have p:∀j,j<a.heap.size->j≠rb->(Qar d rb f).heap[j]?=a.heap[j]?:=fun j hj hne=>(Qam d rb f j hne).trans (t.block j hj)
 refine⟨⟨h,B,(p b (gsi x).1 a3).trans x⟩,A.keep (p lb k.1 a5) (p mb k.2 s),⟨_,_,v,H,JK rfl,Qac y (fun g hg=>?_),fun z hz=>?_⟩,?_⟩
 ·obtain⟨C,hC⟩:=Qa5 y g hg
  refine Qam d rb f g (fun e=>?_)
  subst e;obtain⟨es,ck,hmm⟩:=D.blk;rw[t.block _ D.lt,hmm] at hC;cases hC
 ·obtain⟨u,hu1,hu2⟩:=G z hz
  refine⟨u,?_,Qac hu2 (fun g hg=>?_)⟩
  ·show (if z.2.1=nx+1 then some v else q z.2.1)=some u
   rw[JJ (by have:=r z hz;omega)];exact hu1
  ·obtain⟨C,hC⟩:=Qa5 hu2 g hg
   exact p g (hu2.lt g hg).2 (a6 g C hC).2.2.2
 ·exact (Touch.of_below t).trans (S':=fun i=>i=rb) ⟨rfl,rfl,rfl,by rw[QdA];exact qC _,fun i _ h=>Qam d rb f i h⟩ (fun i h=>.inl (.inr (.inr h)))
theorem QkT(h:ShZ w0 w b lb mb rb most nx Zq)(zi:w0.heap.size<=w.heap.size)(a:Key)(ha:a∉Zq.map (·.1))(s:JA)(hs:s.size<=1000000)(qx:nx<=1000000):Calls prog 89 #[Jp b,.agg #[Ju a.1,Ju a.2],Jt s] w (Qsa w0 w b lb mb rb most nx Zq a (QcL s.data.toList)):=by
 have M:=Z (fun W=>Qf7 s W hs)
 have H:=Qqp s.data.toList;obtain⟨R,hR⟩:∃R,QcL s.data.toList=R:=⟨_,rfl⟩;rw[hR] at M H ⊢;obtain⟨E,l⟩:=R;have qh:=Z H;have qo:=Qao w (Ju a.1) (Ju a.2) 58;have HK:=Z (JI w (.cells #[Ju a.1,Ju a.2] 58));have H0:=Z (h.below qo);have I:=Z (qE h.lts (qE zi qx));have p:Hi (∀i,ShS b lb mb rb i->i<w.heap.size):=Z (fun i hi=>by
  have:=h.lts;rcases hi with e|(e|e)|e<;>omega)
 have t:=Z qo;have HA:=Z ha;obtain⟨k0,k1⟩:=QaK w (Ju a.1) (Ju a.2) 58;clear h qo hR H zi ha hs qx
 by_cases hE:E≠0
 ·have t1:((E:Int) != 0)=true:=by rw[bne_iff_ne];omega
  have HE:=Z hE;clear hE;go_enter func89,ntmps89;go_wp2_with fail;refine (M.o _).mono ?_;rintro e w1 ⟨zj,v,rfl,c,ze,-⟩;obtain rfl:=ze HE.o;have j:=Z c;clear c ze k0 k1;go_wp2;go_ret2;exact⟨_,Zq,nx,rfl,fun _=>⟨rfl,rfl⟩,fun e=>JN e HE.o,H0.o.below j.o,by omega,qC _,fun z d=>.inl d,Touch.of_below (Qaa t.o j.o)⟩
 obtain rfl:E=0:=Classical.not_not.1 hE;clear hE;obtain⟨r1,r2,r3⟩:=qh.o rfl;have qr:=Z (qE r1 r2);clear r1 r2 r3 qh
 by_cases qk:most=0
 ·have t1:((most:Int)==0)=true:=by rw[beq_iff_eq];omega
  have t2:(most==0)=true:=by rw[beq_iff_eq];omega
  clear qk;go_enter func89,ntmps89;go_wp2_with fail;refine (M.o _).mono ?_;rintro e w1 ⟨zj,v,rfl,c,-,G⟩;obtain⟨g,hv,ho⟩:=G rfl;subst hv;have j:=Z c;have HO:=Z ho;have T:=Z (H0.o.below c);obtain⟨hi,mi,hbk⟩:=T.o.blk;have V:=Z (Qhc hbk T.o.lru);clear c G k0 k1 ho hbk;go_wp2_with fail;refine V.o.mono ?_;rintro e w2 ⟨rfl,N⟩;obtain rfl:=N.symm;clear N;go_wp2;go_ret2;exact⟨_,Zq,nx,rfl,fun e=>JN rfl e,fun _=>QaM HO.o t.o.size,T.o,by omega,qC _,fun z d=>.inl d,Touch.of_below (Qaa t.o j.o)⟩
 have t1:((most:Int)==0)=false:=by rw[qI];omega
 have t2:(most==0)=false:=by rw[qI];omega
 have zv:=Z qk;clear qk;go_enter func89,ntmps89;go_wp2_with fail;refine (M.o _).mono ?_;rintro e w1 ⟨zj,v,rfl,c,-,G⟩;obtain⟨g,hv,ho⟩:=G rfl;subst hv;have j:=Z c;have HO:=Z ho;have T:=Z (H0.o.below c);have qi:=Z (Qad HK.o c);obtain⟨hi,mi,hbk⟩:=T.o.blk;have V:=Z (Qhc hbk T.o.lru);obtain⟨⟨k0',k1'⟩,-⟩:=Qax qi.o;clear c G k0 k1 ho hbk M;go_wp2_with fail;refine V.o.mono ?_;rintro e w2 ⟨rfl,N⟩;obtain rfl:=N.symm;clear N;go_wp2_with fail;refine (QlT T.o a HA.o).mono ?_;rintro e w2 ⟨rfl,L⟩;have H2:=Z (T.o.below L);have qy:=Z (Qaa j.o L);have X:=Z (Qad qi.o L);have qw:=Z (Qac HO.o (fun g hg=>L.block g (HO.o.lt g hg).2))
 obtain⟨hi2,mi2,hbk⟩:=H2.o.blk;have qf:=Z (Qhc hbk H2.o.lru);have ql:=QuM hbk H2.o.lru;rw[qQ] at ql;have qg:=Z ql;clear L k0' k1' V T qi HO j hbk ql;have zr:=H2.o.len;go_upto_region 9 with fail
 go_cut [33] (fun s33 wx=>s33=.bool (decide (Zq.length=most))/\w2=wx)
 case first=>
  go_wp2_with fail;refine qg.o.mono ?_;rintro e w3 ⟨rfl,N⟩;obtain rfl:=N.symm;clear N;go_wp2_with fail;refine qf.o.mono ?_;rintro e w3 ⟨rfl,N⟩;obtain rfl:=N.symm;clear N;go_wp2_with fail;go_meet;exact⟨by congr 1;rw[qN];simp;omega,rfl⟩
 obtain⟨rfl,rfl⟩:=hcut;go_upto_if 33 with fail
 go_cut [] (fun wx=>∃Z2,ShZ w0 wx b lb mb rb most nx Z2/\Z2.length<most/\(∀z∈Z2,z∈Zq)/\a∉Z2.map (·.1)/\Touch (ShS b lb mb rb) w2 wx)
 case first=>
  by_cases hf:Zq.length=most
  ·obtain⟨z0,Z2,hZ⟩:∃z0 Z2,Zq=z0 :: Z2:=by
    cases hZ:Zq with
    |nil=>rw[hZ] at hf;exact JN hf.symm zv.o
    |cons z0 Z2=>exact⟨z0,Z2,rfl⟩
   have zb:decide (Zq.length=most)=true:=qA hf;rw[zb];have zq:=Z (QkS H2.o);have HZ:=Z hZ;have HF:=Z hf;clear zb hf hZ;go_wp2_with fail;refine zq.o.mono ?_;rintro e w3 ⟨v3,rfl,h3,qm⟩;rw[HZ.o] at h3;obtain⟨b3,o3,c3,hv3,hle3,hlt3,hce3⟩:=h3.at (by simp)
   subst hv3;have y0:Jx w3 b3 o3 (Ju z0.1.1):=hce3 0 _ rfl;have y1:Jx w3 b3 (o3+1) (Ju z0.1.2):=hce3 1 _ rfl;have H3:=Z (H2.o.below qm);have zu:=Z qm;clear h3 hle3 hlt3 hce3 qm;go_wp2_with fail;refine (Qsr (A:=[]) (z:=z0) (B:=Z2) (by have:=H3.o;rwa[HZ.o] at this)).mono ?_
   rintro e w4 ⟨rfl,h4,zm⟩;have H4:=Z h4;have zy:=Z zm;clear h4 zm y0 y1;go_wp2_with fail;go_meet;refine⟨Z2,H4.o,?_,fun z d=>by rw[HZ.o];exact JY _ d,fun hm=>HA.o ?_,(Touch.of_below (S:=ShS b lb mb rb) zu.o).trans zy.o (fun i hi=>.inl hi)⟩
   ·have:=HF.o
    rw[HZ.o,qH] at this;omega
   ·rw[HZ.o,J0]
    exact JY _ hm
  ·have qu:decide (Zq.length=most)=false:=qB hf
   rw[qu];have HF:=Z hf;clear qu hf;go_wp2_with fail;go_meet;exact⟨Zq,H2.o,by have:=HF.o;omega,fun z d=>d,HA.o,Touch.refl _ _⟩
 obtain⟨Z2,h5,hl5,hs5,ha5,ht5⟩:=hcut;generalize hK:w.heap.size=K at HK I p X;have J:=Z hK;clear hK;have H5:=Z h5;have zh:=Z ((ht5.block K (gsi X.o).1 (fun hs=>by have:=p.o K hs;omega)).trans X.o)
 have qs:=Z (Qgh (S:=ShS b lb mb rb) (QaM qw.o t.o.size) ht5 (fun i hi=>by rw[J.o];exact p.o i hi))
 have qz:Hi (Touch (ShS b lb mb rb) w wc):=Z ((Touch.of_below (Qaa t.o qy.o)).trans ht5 (fun i hi=>.inl hi))
 have qd:=Z (qE hl5 (qE hs5 ha5));have qn:=Z h5.nx;have zA:nx<=1000000:=I.o.2.2;clear h5 hl5 hs5 ha5 ht5 zr qf qg H2 X qw qy H0 t HA HK;obtain⟨hi5,mi5,hb5⟩:=H5.o.blk;obtain⟨⟨-,-,P,-,-⟩,-,-,f2,-,-⟩:=Qap hb5;have q:Hi (ShZ w0 (wc.setCell (Ja b 2) (Ji ((nx:Int)+1))) b lb mb rb most (nx+1) Z2):=Z (by
  have:=H5.o.next
  rwa[show ((nx+1:Nat):Int)=(nx:Int)+1 by omega] at this)
 have qe:=Z (Qaj (a:=(Ja b 2)) (Ji ((nx:Int)+1)) qz.o (.inl (.inl rfl)));have zn:K≠b:=by have:=I.o.1;omega
 have qc:=Z ((JO wc (Ja b 2) (Ji ((nx:Int)+1)) K zn).trans zh.o);have qa:=Z (Qgh (S:=ShS b lb mb rb) qs.o (Qaj (a:=(Ja b 2)) (Ji ((nx:Int)+1)) (Touch.refl (ShS b lb mb rb) wc) (.inl (.inl rfl))) (fun i hi=>by rw[J.o];exact p.o i hi))
 clear hb5 zn;go_upto_region 12 with fail
 generalize wc.setCell (Ja b 2) (Ji ((nx:Int)+1))=W6 at q qe qc qa ⊢;clear P f2 H5 qz zh qs;obtain⟨hi6,mi6,hb6⟩:=q.o.blk;obtain⟨⟨c0,c1,P,-,-⟩,-⟩:=Qap hb6;have P:Jx W6 b 2 (Ji ((nx:Int)+1)):=P;have U:=Z hb6;obtain⟨gr,n,hm,hr⟩:=q.o.map;have Y:=Z hm;have qq:=Z hr;have O:=Z q.o.apart;have HD:Hi (Jw W6 W6.drew):=Z (qF _ _).drew;have HC:=Z (QhA _ _ l W6.drew (Qac qa.o (fun _ _=>rfl)) (by have:=qr.o.2;omega))
 have qb:Hi (Jx W6.drew b 1 (.map (some rb))/\Jx W6.drew b 2 (Ji ((nx:Int)+1))):=Z ⟨c1,P⟩;clear hb6 hm hr;go_cut [] (fun wx=>KeepMid w0 W6 wx b lb mb rb most nx Z2 l)
 case first=>
  go_region_held3 (fun w'=>Jx w' b 1 (.map (some rb))/\Jx w' b 2 (Ji ((nx:Int)+1))) (first|exact qb.o|exact qj.o|exact zo.o)
   (first
    |(go_at_call 64;refine HC.o.mono ?_;rintro e f ⟨a1,zk,rfl,zf,c⟩;have m:Hi (Jw W6 f):=Z (Qaa HD.o c);have zp:=Z zf;have qj:Hi (Jx f b 1 (.map (some rb))/\Jx f b 2 (Ji ((nx:Int)+1))):=Z (by have:=Qap (Qad U.o m.o);exact⟨this.1.2.1,this.1.2.2.1⟩);obtain⟨ob,zl,hmu⟩:=(Y.o.keep (m.o.block rb Y.o.lt)).put Qmz underlying203 (nx+1) (.slice a1 l.length zk);have zl:(Instr.mapUpdate 203 (.map (some rb)) (Ji ((nx:Int)+1)) (.slice a1 l.length zk)).run prog f=.ok () (Qar f rb ob):=zl;have zx:=Z hmu;have zo:Hi ((Qar f rb ob).cell? (Ja b 1)=some (.map (some rb))/\(Qar f rb ob).cell? (Ja b 2)=some (Ji ((nx:Int)+1))):=Z (by have:=Qap ((Qam f rb ob b O.o.2.2.1).trans (Qad U.o m.o));exact⟨this.1.2.1,this.1.2.2.1⟩);clear zf c hmu))
  all_goals
   go_wp2_with fail;go_meet;exact Qy9 Y.o U.o q.o.lru qq.o O.o q.o.ne qn.o q.o.lo.2.2.2 (QaM zp.o (qD (by rw[J.o];exact I.o.2.1) qe.o.size)) m.o _ zx.o
 have HM:=Z hcut;have qp:=Z ((hcut.t.block K (gsi qc.o).1 (fun hs=>by have:=p.o K hs;omega)).trans qc.o)
 have zs:=Z (Qgh (S:=ShS b lb mb rb) qa.o hcut.t (fun i hi=>by rw[J.o];exact p.o i hi))
 have zw:=Z (qe.o.trans hcut.t (fun i hi=>.inl hi))
 have zz:=Z q.o.len;have r:=Z (qE q.o.nm (qE q.o.small (qE q.o.mst (qE q.o.ne q.o.lo))));clear hcut c0 c1 P q qe qc qa U Y qq HC qb HD;obtain⟨hi7,mi7,hb7⟩:=HM.o.blk;have zd:=Z hb7;obtain⟨⟨c0,-,P,-,-⟩,-⟩:=Qap hb7;have P:Jx wc b 2 (Ji ((nx:Int)+1)):=P;obtain⟨⟨q0,q1⟩,-⟩:=Qax qp.o;have qv:a∉(Z2.map fun z=>(z.1,(z.2.1:Int))).map (·.1):=by rw[List.map_map];exact qd.o.2.2
 have HC:=Z (QpN (w:=wc.drew) (HM.o.lru.keep rfl rfl) a ((nx:Int)+1) qv (by rw[qQ];exact qd.o.1))
 have qb:Hi (Jx wc.drew b 0 (Jp lb)/\Jx wc.drew b 2 (Ji ((nx:Int)+1))/\Jx wc.drew K 0 (Ju a.1)/\Jx wc.drew K 1 (Ju a.2)):=Z ⟨c0,P,q0,q1⟩;have HD:Hi (Jw wc wc.drew):=Z (qF _ _).drew;clear hb7 qv;go_upto_region 13 with fail
 go_region_held3 (fun w'=>Jx w' b 0 (Jp lb)/\Jx w' b 2 (Ji ((nx:Int)+1))/\Jx w' K 0 (Ju a.1)/\Jx w' K 1 (Ju a.2)) (first|exact qb.o|exact qj.o)
  (first
   |(go_at_call 139;refine HC.o.mono ?_;rintro e f ⟨rfl,zg,za⟩;have zt:=Z zg;have D:=Z ((Touch.of_below (S:=fun i=>i=lb\/i=mb) HD.o).trans za (fun i hi=>.inl hi));have m:Hi (ShB f b lb rb (nx+1) hi7 mi7):=Z ((D.o.block b (gsi zd.o).1 (by rintro (e|e);exact O.o.1 e;exact O.o.2.1 e)).trans zd.o);have qj:Hi (Jx f b 0 (Jp lb)/\Jx f b 2 (Ji ((nx:Int)+1))/\Jx f K 0 (Ju a.1)/\Jx f K 1 (Ju a.2)):=Z (by have:=Qap m.o;have hk:=Qax ((D.o.block K (gsi qp.o).1 (by have:=I.o.1;rintro (e|e)<;>omega)).trans qp.o);exact⟨this.1.1,this.1.2.2.1,hk.1⟩);clear zg za))
 all_goals
  go_wp2;go_ret2;obtain⟨g,n,v,hm,hv,ho,hr⟩:=HM.o.map;have zc:Touch (ShS b lb mb rb) wc f:=D.o.mono (fun i hi=>.inr (.inl hi))
  have qt:∀ {k:Nat} {u:Value} {xs:JV},wc.ownsRow w0.heap.size 61 4 u k xs->f.ownsRow w0.heap.size 61 4 u k xs:=fun {k u xs} hu=>Qac hu (fun gg hg=>by
   obtain⟨C,hC⟩:=Qa5 hu gg hg;refine D.o.block gg (hu.lt gg hg).2 ?_;obtain⟨g',old,new,hl1,hm1,-⟩:=HM.o.lru;unfold LruB at hl1;rintro (e|e)
   ·rw[e,hl1] at hC;simp only[J8,Obj.cells.injEq] at hC;exact JN hC.2.1 (by decide)
   ·obtain⟨es,ck,hmm⟩:=hm1.blk
    rw[e,hmm] at hC;cases hC)
  refine⟨_,Z2++[(a,nx+1,l)],nx+1,rfl,fun e=>JN rfl e,fun _=>Qgh (S:=ShS b lb mb rb) zs.o zc (fun i hi=>by rw[J.o];exact p.o i hi),⟨⟨hi7,mi7,m.o⟩,?_,⟨g,n,hm.keep (D.o.block rb hm.lt ?_),fun z d=>?_⟩,?_,?_,?_,?_,r.o.2.2.1,r.o.2.2.2.1,r.o.2.2.2.2⟩,qC _,by omega,fun z d=>?_,zw.o.trans zc (fun i hi=>.inl hi)⟩
  ·rw[qY]
   exact zt.o
  ·rintro (e|e)
   ·exact O.o.2.2.2.2.1 e.symm
   ·exact r.o.2.2.2.1 e.symm
  ·rcases List.mem_append.1 d with h1|h1
   ·obtain⟨u,hu1,hu2⟩:=hr z h1
    exact⟨u,hu1,qt hu2⟩
   ·rw[List.mem_singleton.1 h1]
    exact⟨v,hv,qt ho⟩
  ·rw[qY,List.nodup_append]
   refine⟨r.o.1,by simp,fun x hx y hy=>?_⟩
   obtain⟨z,d,rfl⟩:=List.mem_map.1 hx;have zB:y=nx+1:=by simpa using hy
   have:=qn.o z d;omega
  ·intro z d
   rcases List.mem_append.1 d with h1|h1
   ·exact Nat.le_succ_of_le (qn.o z h1)
   ·rw[List.mem_singleton.1 h1];exact qC _
  ·intro z d
   rcases List.mem_append.1 d with h1|h1
   ·exact r.o.2.1 z h1
   ·rw[List.mem_singleton.1 h1];exact qr.o.2
  ·rw[qG]
   exact qd.o.1
  ·rcases List.mem_append.1 d with h1|h1
   ·exact .inl (qd.o.2.1 z h1)
   ·rw[List.mem_singleton.1 h1];exact .inr ⟨rfl,rfl,rfl⟩
end
end
end Go.Proofs.YtlpecalodphalaaGreatDoor
