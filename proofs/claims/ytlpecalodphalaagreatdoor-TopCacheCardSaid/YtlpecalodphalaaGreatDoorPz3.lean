/- What parts of the program compute: packed for TopCache. Conditions: none. -/
import Derived.Test.YtlpecalodphalaaGreatDoorPz2
set_option linter.all false
set_option maxRecDepth 100000
set_option maxHeartbeats 16000000
open Go.Proofs.Tryz Go.RowKit
namespace Go.Proofs.YtlpecalodphalaaGreatDoor
section
theorem Qe8(a c:Key)(B:Bool)(b:decide (a=c)=B)(w:World):(binOp .eql 58 (.agg #[Ju a.1,Ju a.2]) (.agg #[Ju c.1,Ju c.2])).run prog w=.ok (.bool B) w:=by
 have e:(decide ((a.1:Int)=(c.1:Int))&&decide ((a.2:Int)=(c.2:Int)))=decide (a=c):=by
  rw[qN,JD,qO,qO,qO,Prod.ext_iff];constructor
  ·rintro⟨h1,h2⟩;exact⟨by omega,by omega⟩
  ·rintro⟨h1,h2⟩;exact⟨by omega,by omega⟩
 rw[run_eql_struct,show (10000:Nat)=9998+2 from rfl,QjF,e,b];rfl
theorem QgJ(a:BinOp)(x y:Operand)(xs b:JW)(w:World):(eqGuard a 58 x y (.agg xs) (.agg b)).run prog w=.ok () w:=
 run_eqGuard_agg w a 58 x y xs b (by kernel_rfl)
structure CutS(w W:World)(b most mb:Nat)(old new a:Key)(nd:Qdl)(g:Key->Option Qdl)(n:Nat):Prop where
 o:LruB W b most mb old new
 k:W.heap[w.heap.size]?=some (.cells #[Ju a.1,Ju a.2] 58 (0,0))
 x:W.heap[w.heap.size+1]?=some (.cells #[Ji nd.1,Ju nd.2.1.1,Ju nd.2.1.2,Ju nd.2.2.1,Ju nd.2.2.2] 268 (0,0))
 m:MapF QhZ QcR W mb g n
 t:Touch (fun i=>i=b\/i=mb) w W
 lb:b<w.heap.size
 lm:mb<w.heap.size
 ne:b≠mb
section
variable {w W:World} {b most mb n:Nat} {old new a:Key} {nd:Qdl} {g:Key->Option Qdl}
theorem CutS.lt(h:CutS w W b most mb old new a nd g n):w.heap.size+1<W.heap.size:=(gsi h.x).1
theorem CutS.drewN(h:CutS w W b most mb old new a nd g n)(m:Nat):CutS w (W.drewN m) b most mb old new a nd g n:=
 ⟨h.o,h.k,h.x,h.m.keep rfl,h.t.trans (S':=fun i=>i=b\/i=mb) ⟨rfl,rfl,rfl,qC _,fun _ _ _=>rfl⟩ (fun g hg=>.inl hg),h.lb,h.lm,h.ne⟩
theorem CutS.drew(h:CutS w W b most mb old new a nd g n):CutS w W.drew b most mb old new a nd g n:=
 ⟨h.o,h.k,h.x,h.m.keep rfl,QbY h.t,h.lb,h.lm,h.ne⟩
theorem CutS.alloc(h:CutS w W b most mb old new a nd g n)(c:Obj):CutS w (W.alloc c) b most mb old new a nd g n:=by
 have d:=h.lt;have f:=h.lb;have j:=h.lm;exact⟨(J5 W c (by omega)).trans h.o,(J5 W c (by omega)).trans h.k,(J5 W c d).trans h.x,h.m.keep (J5 W c (by omega)),h.t.trans (Touch.of_below (S:=fun i=>i=b\/i=mb) ((qF _ _).alloc (qC _) c)) (fun g hg=>.inl hg),h.lb,h.lm,h.ne⟩
theorem CutS.set23(h:CutS w W b most mb old new a nd g n)(q:Key):CutS w ((W.setCell (Ja b 2) (Ju q.1)).setCell (Ja b 3) (Ju q.2)) b most mb q new a nd g n:=by
 have c:=h.lb;exact⟨Qnm h.o _ _,(QbH (by omega)).trans h.k,(QbH (by omega)).trans h.x,h.m.keep (QbH (fun e=>h.ne e.symm)),Qaj (a:=(Ja b 3)) _ (Qaj (a:=(Ja b 2)) _ h.t (.inl (.inl rfl))) (.inl (.inl rfl)),h.lb,h.lm,h.ne⟩
theorem CutS.set45(h:CutS w W b most mb old new a nd g n)(q:Key):CutS w ((W.setCell (Ja b 4) (Ju q.1)).setCell (Ja b 5) (Ju q.2)) b most mb old q a nd g n:=by
 have c:=h.lb;exact⟨Qi4 h.o _ _,(QbH (by omega)).trans h.k,(QbH (by omega)).trans h.x,h.m.keep (QbH (fun e=>h.ne e.symm)),Qaj (a:=(Ja b 5)) _ (Qaj (a:=(Ja b 4)) _ h.t (.inl (.inl rfl))) (.inl (.inl rfl)),h.lb,h.lm,h.ne⟩
theorem CutS.map(h:CutS w W b most mb old new a nd g n)(c:Obj)(f:Key->Option Qdl)(d:Nat)(i:MapF QhZ QcR (Qar W mb c) mb f d):CutS w (Qar W mb c) b most mb old new a nd f d:=by
 have j:=h.lm;exact⟨(Qam W mb c b h.ne).trans h.o,(Qam W mb c _ (by omega)).trans h.k,(Qam W mb c _ (by omega)).trans h.x,i,Qgi c h.t (.inr rfl),h.lb,h.lm,h.ne⟩
theorem CutS.far2(h:CutS w W b most mb old new a nd g n)(B i j:Nat)(f:w.heap.size+1<B)(u v:Value):CutS w ((W.setCell (Ja B i) u).setCell (Ja B j) v) b most mb old new a nd g n:=by
 have c:=h.lb;have d:=h.lm;exact⟨(QbH (by omega)).trans h.o,(QbH (by omega)).trans h.k,(QbH (by omega)).trans h.x,h.m.keep (QbH (by omega)),Qaj (a:=(Ja B j)) _ (Qaj (a:=(Ja B i)) _ h.t (.inr (by show w.heap.size<=B;omega))) (.inr (by show w.heap.size<=B;omega)),h.lb,h.lm,h.ne⟩
theorem CutS.look(h:CutS w W b most mb old new a nd g n)(q:Key)(c:Qdl)(f:g q=some c):(Instr.lookup 264 (.map (some mb)) (.agg #[Ju q.1,Ju q.2]) false).run prog W=.ok (.agg #[Ji c.1,Ju c.2.1.1,Ju c.2.1.2,Ju c.2.2.1,Ju c.2.2.2]) W:=by
 have d:=Qb2 (W:=W) h.m q false rfl;rw[f] at d;exact d
end
theorem Qlj{w:World}{b:Nat}{a i h d c:Value}{t:JT}(k:w.heap[b]?=some (.cells #[a,i,h,d,c] t (0,0)))(f g:Value):((w.setCell (Ja b 1) f).setCell (Ja b 2) g).heap[b]?=some (.cells #[a,f,g,d,c] t (0,0)):=by
 simp[World.setCell,J6,k]
def QgP(g:Key->Option Qdl)(a:Key):Key->Option Qdl:=fun c=>if c=a then none else g c
def Qz2(g:Key->Option Qdl)(q:Key)(ln:Qdl)(nx:Key):Key->Option Qdl:=fun c=>if c=q then some (ln.1,ln.2.1,nx) else g c
def QEi(g:Key->Option Qdl)(q:Key)(ln:Qdl)(ol:Key):Key->Option Qdl:=fun c=>if c=q then some (ln.1,ol,ln.2.2) else g c
theorem Qmo{w W:World}{b c d n:Nat}{f new a:Key}{i:Qdl}{g:Key->Option Qdl}(h:CutS w W b c d f new a i g n)(k:g a=some i)(j:JT) :
  ∃ob,(Builtin.delete_ #[264,58] j #[.map (some d),.agg #[Ju a.1,Ju a.2]]).run prog W=.ok (.tuple #[]) (Qar W d ob)/\CutS w (Qar W d ob) b c d f new a i (QgP g a) (n-1):=by
 obtain⟨ob,h1,h2⟩:=h.m.drop Qmx underlying264 a j;rw[k] at h2;exact⟨ob,h1,h.map ob _ _ h2⟩
theorem Qmn{w W:World}{b d i n:Nat}{j new a:Key}{k:Qdl}{g:Key->Option Qdl}(h:CutS w W b d i j new a k g n)(q:Key)(l:Qdl)(m:g q=some l)(f:Qdl) :
  ∃ob,(Instr.mapUpdate 264 (.map (some i)) (.agg #[Ju q.1,Ju q.2]) (.agg #[Ji f.1,Ju f.2.1.1,Ju f.2.1.2,Ju f.2.2.1,Ju f.2.2.2])).run prog W=.ok () (Qar W i ob)/\CutS w (Qar W i ob) b d i j new a k (fun c=>if c=q then some f else g c) n:=by
 obtain⟨ob,h1,h2⟩:=Qrf h.m q f (W:=W) rfl;rw[m] at h2;exact⟨ob,h1,h.map ob _ _ h2⟩
theorem Qs2{w:World}{b d f n:Nat}{k new:Key}{g:Key->Option Qdl}(h:LruB w b d f k new)(H:MapF QhZ QcR w f g n)(a:Key)(c:Qdl)(K:g a=some c)(R:a=k)(T:a=new):Calls prog 178 #[Jp b,.agg #[Ju a.1,Ju a.2]] w fun e w'=>e=.returned (Ji c.1)/\LruB w' b d f (c.2.2) (c.2.1)/\MapF QhZ QcR w' f (QgP g a) (n-1)/\Touch (fun i=>i=b\/i=f) w w':=by
 have hne:=h.ne H;have r:=Qao w (Ju a.1) (Ju a.2) 58;have C:=Z (JI w (.cells #[Ju a.1,Ju a.2] 58));have B:=Z (Qad h r);have A:=Z (H.keep (r.block f H.lt));have O:Hi (Touch (fun i=>i=b\/i=f) w (w.alloc (.cells #[Ju a.1,Ju a.2] 58))):=Z (Touch.of_below r)
 have J:b<w.heap.size:=(gsi h).1;have G:f<w.heap.size:=H.lt;have E:(w.alloc (.cells #[Ju a.1,Ju a.2] 58)).heap.size=w.heap.size+1:=qJ _ _;have v:=Z E;obtain⟨⟨-,c1,-,-,-,-⟩,-⟩:=Qay B.o;obtain⟨⟨k0,k1⟩,-⟩:=Qax C.o;have M:=Z K;have q:=fun W=>Qe8 a k true (qA R) W
 have s:=fun W=>Qe8 a new true (qA T) W
 have j:=QgJ;have P:=Z (qE q (qE s j));have x:=Z (qE J (qE G hne));clear h H r K R T E q s j J G hne;go_enter func178,ntmps178;go_wp2_with fail;generalize w.alloc (.cells #[Ju a.1,Ju a.2] 58)=W0 at C B A O c1 k0 k1 v ⊢;have L:w.heap.size<W0.heap.size:=(gsi C.o).1;have y:b<W0.heap.size:=(gsi B.o).1;have N:f<W0.heap.size:=A.o.lt;have X:(Instr.lookup 264 (.map (some f)) (.agg #[Ju a.1,Ju a.2]) false).run prog ((W0.alloc (.cells #[Ji 0,Ju 0,Ju 0,Ju 0,Ju 0] 268)).drew)=.ok (.agg #[Ji c.1,Ju c.2.1.1,Ju c.2.1.2,Ju c.2.2.1,Ju c.2.2.2]) ((W0.alloc (.cells #[Ji 0,Ju 0,Ju 0,Ju 0,Ju 0] 268)).drew):=by
  have h:=Qb2 (W:=(W0.alloc (.cells #[Ji 0,Ju 0,Ju 0,Ju 0,Ju 0] 268)).drew) A.o a false (J5 W0 (.cells #[Ji 0,Ju 0,Ju 0,Ju 0,Ju 0] 268) N);rw[M.o] at h;exact h
 have U:(Instr.lookup 264 (.map (some f)) (.agg #[Ju a.1,Ju a.2]) false).run prog W0.drew=.ok (.agg #[Ji c.1,Ju c.2.1.1,Ju c.2.1.2,Ju c.2.2.1,Ju c.2.2.2]) W0.drew:=by
  have h:=Qb2 (W:=W0.drew) A.o a false rfl;rw[M.o] at h;exact h
 obtain⟨⟨-,d1,-,-,-,-⟩,-⟩:=Qay ((J5 W0 (.cells #[Ji 0,Ju 0,Ju 0,Ju 0,Ju 0] 268) y).trans B.o);obtain⟨⟨d4,d5⟩,-⟩:=Qax ((J5 W0 (.cells #[Ji 0,Ju 0,Ju 0,Ju 0,Ju 0] 268) L).trans C.o);go_upto_region 1 with fail
 go_cut [5] (fun s5 wx=>s5 = Jp (w.heap.size+1)/\CutS w wx b d f k new a c g n)
 case first=>
  go_region
  all_goals
   go_wp2_with fail;go_meet;refine⟨by rw[v.o],(J5 W0 (.cells #[Ji c.1,Ju c.2.1.1,Ju c.2.1.2,Ju c.2.2.1,Ju c.2.2.2] 268) y).trans B.o,(J5 W0 (.cells #[Ji c.1,Ju c.2.1.1,Ju c.2.1.2,Ju c.2.2.1,Ju c.2.2.2] 268) L).trans C.o,?_,A.o.keep (J5 W0 (.cells #[Ji c.1,Ju c.2.1.1,Ju c.2.1.2,Ju c.2.2.1,Ju c.2.2.2] 268) N),QbY (O.o.trans (Touch.of_below (S:=fun i=>i=b\/i=f) ((qF _ _).alloc (qC _) (.cells #[Ji c.1,Ju c.2.1.1,Ju c.2.1.2,Ju c.2.2.1,Ju c.2.2.2] 268))) (fun g K=>.inl K)),x.o.1,x.o.2.1,x.o.2.2⟩
   have:=JI W0 (.cells #[Ji c.1,Ju c.2.1.1,Ju c.2.1.2,Ju c.2.2.1,Ju c.2.2.2] 268);rw[v.o] at this;exact this
 obtain⟨rfl,hS1⟩:=hcut;have I:=Z hS1;clear hS1 d1 d4 d5 X U c1 k0 k1 L y N C B A O;revert wc;intro Y I;obtain⟨⟨-,c1,-,-,-,-⟩,-⟩:=Qay I.o.o;obtain⟨⟨k0,k1⟩,-⟩:=Qax I.o.k;obtain⟨ob1,hd1,S2'⟩:=Qmo I.o.drew M.o 0;have t:=Z S2';clear S2';go_upto_region 2 with fail
 go_cut [] (fun wx=>CutS w wx b d f k new a c (QgP g a) (n-1))
 case first=>
  go_region
  all_goals
   go_wp2_with fail;go_meet;exact t.o
 have t:=Z hcut;clear hcut hd1 c1 k0 k1 I;revert wc;intro V t;obtain⟨⟨-,-,c2,c3,-,-⟩,-⟩:=Qay t.o.o;obtain⟨⟨k0,k1⟩,-⟩:=Qax t.o.k;obtain⟨q,-,j⟩:=P.o;go_wp2_with fail;go_quiet (fail);generalize m:V.drewN _=W3;have D:Hi (CutS w W3 b d f k new a c (QgP g a) (n-1)):=Z (by rw[<-m];exact t.o.drewN _)
 clear m c2 c3 k0 k1 q j t;obtain⟨⟨-,-,-,-,-,-⟩,-,-,f2,f3,f4,f5⟩:=Qay D.o.o;obtain⟨⟨-,-,-,-,-,-⟩,-⟩:=Qay D.o.o;obtain⟨⟨-,-,c2,c3,c4,c5⟩,-⟩:=Qay D.o.o;obtain⟨⟨x0,x1,x2,x3,x4⟩,-⟩:=Qap D.o.x;go_wp2_with fail;have l:=Z (D.o.set23 c.2.2);generalize (W3.setCell (Ja b 2) (Ju c.2.2.1)).setCell (Ja b 3) (Ju c.2.2.2)=W3b at l ⊢;clear f2 f3 f4 f5 c2 c3 c4 c5 x0 x1 x2 x3 x4 D;obtain⟨⟨-,-,-,-,c4,c5⟩,-⟩:=Qay l.o.o;obtain⟨⟨k0,k1⟩,-⟩:=Qax l.o.k;obtain⟨-,s,j⟩:=P.o;go_wp2_with fail;go_quiet (fail);generalize m:W3b.drewN _=V3;have z:Hi (CutS w V3 b d f (c.2.2) new a c (QgP g a) (n-1)):=Z (by rw[<-m];exact l.o.drewN _)
 clear m c4 c5 k0 k1 s j l;obtain⟨⟨-,-,-,-,-,-⟩,-,-,f2,f3,f4,f5⟩:=Qay z.o.o;obtain⟨⟨-,-,-,-,-,-⟩,-⟩:=Qay z.o.o;obtain⟨⟨-,-,c2,c3,c4,c5⟩,-⟩:=Qay z.o.o;obtain⟨⟨x0,x1,x2,x3,x4⟩,-⟩:=Qap z.o.x;go_wp2_with fail;have p:=Z (z.o.set45 c.2.1);generalize (V3.setCell (Ja b 4) (Ju c.2.1.1)).setCell (Ja b 5) (Ju c.2.1.2)=V3b at p ⊢;clear f2 f3 f4 f5 c2 c3 c4 c5 x0 x1 x2 x3 x4 z;obtain⟨⟨x0,x1,x2,x3,x4⟩,-⟩:=Qap p.o.x;go_wp2;go_ret;exact⟨rfl,p.o.o,p.o.m,p.o.t⟩
theorem Qs3{w:World}{b d j n:Nat}{m new:Key}{g:Key->Option Qdl}(h:LruB w b d j m new)(U:MapF QhZ QcR w j g n)(a:Key)(c:Qdl)(Y:g a=some c)(ho:a=m)(hn:a≠new)(f:Qdl)(P:g c.2.2=some f)(M:c.2.2≠a):Calls prog 178 #[Jp b,.agg #[Ju a.1,Ju a.2]] w fun e w'=>e=.returned (Ji c.1)/\LruB w' b d j (c.2.2) (new)/\MapF QhZ QcR w' j (QEi (QgP g a) c.2.2 f c.2.1) (n-1)/\Touch (fun i=>i=b\/i=j) w w':=by
 have hne:=h.ne U;have x:=Qao w (Ju a.1) (Ju a.2) 58;have J:=Z (JI w (.cells #[Ju a.1,Ju a.2] 58));have I:=Z (Qad h x);have H:=Z (U.keep (x.block j U.lt));have HT:Hi (Touch (fun i=>i=b\/i=j) w (w.alloc (.cells #[Ju a.1,Ju a.2] 58))):=Z (Touch.of_below x)
 have X:b<w.heap.size:=(gsi h).1;have T:j<w.heap.size:=U.lt;have O:(w.alloc (.cells #[Ju a.1,Ju a.2] 58)).heap.size=w.heap.size+1:=qJ _ _;have D:=Z O;obtain⟨⟨-,c1,-,-,-,-⟩,-⟩:=Qay I.o;obtain⟨⟨k0,k1⟩,-⟩:=Qax J.o;have HG:=Z Y;have L:=Z (qE P M);have v:=fun W=>Qe8 a m true (qA ho) W
 have B:=fun W=>Qe8 a new false (qB hn) W
 have l:=QgJ;have HQ:=Z (qE v (qE B l));have E:=Z (qE X (qE T hne));clear h U x Y ho hn P M O v B l X T hne;go_enter func178,ntmps178;go_wp2_with fail;generalize w.alloc (.cells #[Ju a.1,Ju a.2] 58)=W0 at J I H HT c1 k0 k1 D ⊢;have lk:w.heap.size<W0.heap.size:=(gsi J.o).1;have G:b<W0.heap.size:=(gsi I.o).1;have lm:j<W0.heap.size:=H.o.lt;have l2:(Instr.lookup 264 (.map (some j)) (.agg #[Ju a.1,Ju a.2]) false).run prog ((W0.alloc (.cells #[Ji 0,Ju 0,Ju 0,Ju 0,Ju 0] 268)).drew)=.ok (.agg #[Ji c.1,Ju c.2.1.1,Ju c.2.1.2,Ju c.2.2.1,Ju c.2.2.2]) ((W0.alloc (.cells #[Ji 0,Ju 0,Ju 0,Ju 0,Ju 0] 268)).drew):=by
  have h:=Qb2 (W:=(W0.alloc (.cells #[Ji 0,Ju 0,Ju 0,Ju 0,Ju 0] 268)).drew) H.o a false (J5 W0 (.cells #[Ji 0,Ju 0,Ju 0,Ju 0,Ju 0] 268) lm);rw[HG.o] at h;exact h
 have l3:(Instr.lookup 264 (.map (some j)) (.agg #[Ju a.1,Ju a.2]) false).run prog W0.drew=.ok (.agg #[Ji c.1,Ju c.2.1.1,Ju c.2.1.2,Ju c.2.2.1,Ju c.2.2.2]) W0.drew:=by
  have h:=Qb2 (W:=W0.drew) H.o a false rfl;rw[HG.o] at h;exact h
 obtain⟨⟨-,d1,-,-,-,-⟩,-⟩:=Qay ((J5 W0 (.cells #[Ji 0,Ju 0,Ju 0,Ju 0,Ju 0] 268) G).trans I.o);obtain⟨⟨d4,d5⟩,-⟩:=Qax ((J5 W0 (.cells #[Ji 0,Ju 0,Ju 0,Ju 0,Ju 0] 268) lk).trans J.o);go_upto_region 1 with fail
 go_cut [5] (fun s5 wx=>s5 = Jp (w.heap.size+1)/\CutS w wx b d j m new a c g n)
 case first=>
  go_region
  all_goals
   go_wp2_with fail;go_meet;refine⟨by rw[D.o],(J5 W0 (.cells #[Ji c.1,Ju c.2.1.1,Ju c.2.1.2,Ju c.2.2.1,Ju c.2.2.2] 268) G).trans I.o,(J5 W0 (.cells #[Ji c.1,Ju c.2.1.1,Ju c.2.1.2,Ju c.2.2.1,Ju c.2.2.2] 268) lk).trans J.o,?_,H.o.keep (J5 W0 (.cells #[Ji c.1,Ju c.2.1.1,Ju c.2.1.2,Ju c.2.2.1,Ju c.2.2.2] 268) lm),QbY (HT.o.trans (Touch.of_below (S:=fun i=>i=b\/i=j) ((qF _ _).alloc (qC _) (.cells #[Ji c.1,Ju c.2.1.1,Ju c.2.1.2,Ju c.2.2.1,Ju c.2.2.2] 268))) (fun g Y=>.inl Y)),E.o.1,E.o.2.1,E.o.2.2⟩
   have:=JI W0 (.cells #[Ji c.1,Ju c.2.1.1,Ju c.2.1.2,Ju c.2.2.1,Ju c.2.2.2] 268);rw[D.o] at this;exact this
 obtain⟨rfl,hS1⟩:=hcut;have V:=Z hS1;clear hS1 d1 d4 d5 l2 l3 c1 k0 k1 lk G lm J I H HT;revert wc;intro W1 V;obtain⟨⟨-,c1,-,-,-,-⟩,-⟩:=Qay V.o.o;obtain⟨⟨k0,k1⟩,-⟩:=Qax V.o.k;obtain⟨ob1,hd1,S2'⟩:=Qmo V.o.drew HG.o 0;have C:=Z S2';clear S2';go_upto_region 2 with fail
 go_cut [] (fun wx=>CutS w wx b d j m new a c (QgP g a) (n-1))
 case first=>
  go_region
  all_goals
   go_wp2_with fail;go_meet;exact C.o
 have C:=Z hcut;clear hcut hd1 c1 k0 k1 V;revert wc;intro W2 C;obtain⟨⟨-,-,c2,c3,-,-⟩,-⟩:=Qay C.o.o;obtain⟨⟨k0,k1⟩,-⟩:=Qax C.o.k;obtain⟨v,-,l⟩:=HQ.o;go_wp2_with fail;go_quiet (fail);generalize s:W2.drewN _=W3;have K:Hi (CutS w W3 b d j m new a c (QgP g a) (n-1)):=Z (by rw[<-s];exact C.o.drewN _)
 clear s c2 c3 k0 k1 v l C;obtain⟨⟨-,-,-,-,-,-⟩,-,-,f2,f3,f4,f5⟩:=Qay K.o.o;obtain⟨⟨-,-,-,-,-,-⟩,-⟩:=Qay K.o.o;obtain⟨⟨-,-,c2,c3,c4,c5⟩,-⟩:=Qay K.o.o;obtain⟨⟨x0,x1,x2,x3,x4⟩,-⟩:=Qap K.o.x;go_wp2_with fail;have r:=Z (K.o.set23 c.2.2);generalize (W3.setCell (Ja b 2) (Ju c.2.2.1)).setCell (Ja b 3) (Ju c.2.2.2)=W3b at r ⊢;clear f2 f3 f4 f5 c2 c3 c4 c5 x0 x1 x2 x3 x4 K;obtain⟨⟨-,-,-,-,c4,c5⟩,-⟩:=Qay r.o.o;obtain⟨⟨k0,k1⟩,-⟩:=Qax r.o.k;obtain⟨-,B,l⟩:=HQ.o;go_wp2_with fail;go_quiet (fail);generalize s:W3b.drewN _=V3;have p:Hi (CutS w V3 b d j (c.2.2) new a c (QgP g a) (n-1)):=Z (by rw[<-s];exact r.o.drewN _)
 clear s c4 c5 k0 k1 B l r;have A:(QgP g a) c.2.2=some f:=by show (if c.2.2=a then none else g c.2.2)=_;rw[JJ L.o.2];exact L.o.1
 have R:=Z A;have qa:b<V3.heap.size:=by have:=p.o.lt;have:=p.o.lb;omega
 have l2:=(p.o.alloc (.cells #[Ji 0,Ju 0,Ju 0,Ju 0,Ju 0] 268)).drew.look c.2.2 f A;have l3:=p.o.drew.look c.2.2 f A;obtain⟨⟨-,d1,-,-,-,-⟩,-⟩:=Qay (p.o.alloc (.cells #[Ji 0,Ju 0,Ju 0,Ju 0,Ju 0] 268)).o;obtain⟨⟨y0,y1,y2,y3,y4⟩,-⟩:=Qap (p.o.alloc (.cells #[Ji 0,Ju 0,Ju 0,Ju 0,Ju 0] 268)).x;obtain⟨⟨-,c1,-,-,-,-⟩,-⟩:=Qay p.o.o;obtain⟨⟨x0,x1,x2,x3,x4⟩,-⟩:=Qap p.o.x;clear A;go_upto_region 10 with fail
 go_cut [7] (fun s6 wx=>∃q,s6 = Jp q/\w.heap.size+1<q/\CutS w wx b d j (c.2.2) new a c (QgP g a) (n-1)/\wx.heap[q]?=some (.cells #[Ji f.1,Ju f.2.1.1,Ju f.2.1.2,Ju f.2.2.1,Ju f.2.2.2] 268 (0,0)))
 case first=>
  go_region
  all_goals
   go_wp2_with fail;go_meet;exact⟨V3.heap.size,rfl,p.o.lt,(p.o.alloc _).drew,JI V3 (.cells #[Ji f.1,Ju f.2.1.1,Ju f.2.1.2,Ju f.2.2.1,Ju f.2.2.2] 268)⟩
 obtain⟨qV3,rfl,QGH,hSc,hNc⟩:=hcut;have y:=Z hSc;have z:=Z hNc;have N:=Z QGH;clear hSc hNc QGH c1 d1 x0 x1 x2 x3 x4 y0 y1 y2 y3 y4 l2 l3 qa p;revert wc;intro qb y z;obtain⟨⟨x0,x1,x2,x3,x4⟩,-⟩:=Qap y.o.x;obtain⟨⟨n0,n1,n2,n3,n4⟩,f0,f1,f2,f3,f4⟩:=Qap z.o;go_upto_region 12 with fail
 have t:=Z (y.o.far2 qV3 1 2 N.o (Ju c.2.1.1) (Ju c.2.1.2));have Nd:=Z (Qlj z.o (Ju c.2.1.1) (Ju c.2.1.2));generalize (qb.setCell (Ja qV3 1) (Ju c.2.1.1)).setCell (Ja qV3 2) (Ju c.2.1.2)=V3d at t Nd ⊢;clear x0 x1 x2 x3 x4 n0 n1 n2 n3 n4 f0 f1 f2 f3 f4 y z;obtain⟨⟨-,c1,-,-,-,-⟩,-⟩:=Qay t.o.o;obtain⟨⟨x0,x1,x2,x3,x4⟩,-⟩:=Qap t.o.x;obtain⟨⟨n0,n1,n2,n3,n4⟩,-⟩:=Qap Nd.o;obtain⟨obp,hup,Sp⟩:=Qmn t.o.drew c.2.2 f R.o (f.1,c.2.1,f.2.2);have k:=Z Sp;clear Sp R;go_cut [] (fun wx=>CutS w wx b d j (c.2.2) new a c (QEi (QgP g a) c.2.2 f c.2.1) (n-1))
 case first=>
  go_region
  all_goals
   go_wp2_with fail;go_meet;exact k.o
 have k:=Z hcut;clear hcut hup c1 x0 x1 x2 x3 x4 n0 n1 n2 n3 n4 t Nd;revert wc;intro qc k;obtain⟨⟨x0,x1,x2,x3,x4⟩,-⟩:=Qap k.o.x;go_wp2;go_ret;exact⟨rfl,k.o.o,k.o.m,k.o.t⟩
theorem Qs4{w:World}{b d k n:Nat}{f new:Key}{g:Key->Option Qdl}(h:LruB w b d k f new)(T:MapF QhZ QcR w k g n)(a:Key)(c:Qdl)(Y:g a=some c)(ho:a≠f)(j:Qdl)(U:g c.2.1=some j)(L:c.2.1≠a)(hn:a=new):Calls prog 178 #[Jp b,.agg #[Ju a.1,Ju a.2]] w fun e w'=>e=.returned (Ji c.1)/\LruB w' b d k (f) (c.2.1)/\MapF QhZ QcR w' k (Qz2 (QgP g a) c.2.1 j c.2.2) (n-1)/\Touch (fun i=>i=b\/i=k) w w':=by
 have hne:=h.ne T;have y:=Qao w (Ju a.1) (Ju a.2) 58;have K:=Z (JI w (.cells #[Ju a.1,Ju a.2] 58));have J:=Z (Qad h y);have I:=Z (T.keep (y.block k T.lt));have HT:Hi (Touch (fun i=>i=b\/i=k) w (w.alloc (.cells #[Ju a.1,Ju a.2] 58))):=Z (Touch.of_below y)
 have X:b<w.heap.size:=(gsi h).1;have P:k<w.heap.size:=T.lt;have M:(w.alloc (.cells #[Ju a.1,Ju a.2] 58)).heap.size=w.heap.size+1:=qJ _ _;have D:=Z M;obtain⟨⟨-,c1,-,-,-,-⟩,-⟩:=Qay J.o;obtain⟨⟨k0,k1⟩,-⟩:=Qax K.o;have HG:=Z Y;have R:=Z (qE U L);have v:=fun W=>Qe8 a f false (qB ho) W
 have A:=fun W=>Qe8 a new true (qA hn) W
 have m:=QgJ;have HQ:=Z (qE v (qE A m));have E:=Z (qE X (qE P hne));clear h T y Y ho hn U L M v A m X P hne;go_enter func178,ntmps178;go_wp2_with fail;generalize w.alloc (.cells #[Ju a.1,Ju a.2] 58)=W0 at K J I HT c1 k0 k1 D ⊢;have lk:w.heap.size<W0.heap.size:=(gsi K.o).1;have G:b<W0.heap.size:=(gsi J.o).1;have lm:k<W0.heap.size:=I.o.lt;have l2:(Instr.lookup 264 (.map (some k)) (.agg #[Ju a.1,Ju a.2]) false).run prog ((W0.alloc (.cells #[Ji 0,Ju 0,Ju 0,Ju 0,Ju 0] 268)).drew)=.ok (.agg #[Ji c.1,Ju c.2.1.1,Ju c.2.1.2,Ju c.2.2.1,Ju c.2.2.2]) ((W0.alloc (.cells #[Ji 0,Ju 0,Ju 0,Ju 0,Ju 0] 268)).drew):=by
  have h:=Qb2 (W:=(W0.alloc (.cells #[Ji 0,Ju 0,Ju 0,Ju 0,Ju 0] 268)).drew) I.o a false (J5 W0 (.cells #[Ji 0,Ju 0,Ju 0,Ju 0,Ju 0] 268) lm);rw[HG.o] at h;exact h
 have l3:(Instr.lookup 264 (.map (some k)) (.agg #[Ju a.1,Ju a.2]) false).run prog W0.drew=.ok (.agg #[Ji c.1,Ju c.2.1.1,Ju c.2.1.2,Ju c.2.2.1,Ju c.2.2.2]) W0.drew:=by
  have h:=Qb2 (W:=W0.drew) I.o a false rfl;rw[HG.o] at h;exact h
 obtain⟨⟨-,d1,-,-,-,-⟩,-⟩:=Qay ((J5 W0 (.cells #[Ji 0,Ju 0,Ju 0,Ju 0,Ju 0] 268) G).trans J.o);obtain⟨⟨d4,d5⟩,-⟩:=Qax ((J5 W0 (.cells #[Ji 0,Ju 0,Ju 0,Ju 0,Ju 0] 268) lk).trans K.o);go_upto_region 1 with fail
 go_cut [5] (fun s5 wx=>s5 = Jp (w.heap.size+1)/\CutS w wx b d k f new a c g n)
 case first=>
  go_region
  all_goals
   go_wp2_with fail;go_meet;refine⟨by rw[D.o],(J5 W0 (.cells #[Ji c.1,Ju c.2.1.1,Ju c.2.1.2,Ju c.2.2.1,Ju c.2.2.2] 268) G).trans J.o,(J5 W0 (.cells #[Ji c.1,Ju c.2.1.1,Ju c.2.1.2,Ju c.2.2.1,Ju c.2.2.2] 268) lk).trans K.o,?_,I.o.keep (J5 W0 (.cells #[Ji c.1,Ju c.2.1.1,Ju c.2.1.2,Ju c.2.2.1,Ju c.2.2.2] 268) lm),QbY (HT.o.trans (Touch.of_below (S:=fun i=>i=b\/i=k) ((qF _ _).alloc (qC _) (.cells #[Ji c.1,Ju c.2.1.1,Ju c.2.1.2,Ju c.2.2.1,Ju c.2.2.2] 268))) (fun g Y=>.inl Y)),E.o.1,E.o.2.1,E.o.2.2⟩
   have:=JI W0 (.cells #[Ji c.1,Ju c.2.1.1,Ju c.2.1.2,Ju c.2.2.1,Ju c.2.2.2] 268);rw[D.o] at this;exact this
 obtain⟨rfl,hS1⟩:=hcut;have V:=Z hS1;clear hS1 d1 d4 d5 l2 l3 c1 k0 k1 lk G lm K J I HT;revert wc;intro W1 V;obtain⟨⟨-,c1,-,-,-,-⟩,-⟩:=Qay V.o.o;obtain⟨⟨k0,k1⟩,-⟩:=Qax V.o.k;obtain⟨ob1,hd1,S2'⟩:=Qmo V.o.drew HG.o 0;have C:=Z S2';clear S2';go_upto_region 2 with fail
 go_cut [] (fun wx=>CutS w wx b d k f new a c (QgP g a) (n-1))
 case first=>
  go_region
  all_goals
   go_wp2_with fail;go_meet;exact C.o
 have C:=Z hcut;clear hcut hd1 c1 k0 k1 V;revert wc;intro W2 C;obtain⟨⟨-,-,c2,c3,-,-⟩,-⟩:=Qay C.o.o;obtain⟨⟨k0,k1⟩,-⟩:=Qax C.o.k;obtain⟨v,-,m⟩:=HQ.o;go_wp2_with fail;go_quiet (fail);generalize r:W2.drewN _=W3;have s:Hi (CutS w W3 b d k f new a c (QgP g a) (n-1)):=Z (by rw[<-r];exact C.o.drewN _)
 clear r c2 c3 k0 k1 v m C;have z:(QgP g a) c.2.1=some j:=by show (if c.2.1=a then none else g c.2.1)=_;rw[JJ R.o.2];exact R.o.1
 have O:=Z z;have qb:b<W3.heap.size:=by have:=s.o.lt;have:=s.o.lb;omega
 have l2:=(s.o.alloc (.cells #[Ji 0,Ju 0,Ju 0,Ju 0,Ju 0] 268)).drew.look c.2.1 j z;have l3:=s.o.drew.look c.2.1 j z;obtain⟨⟨-,d1,-,-,-,-⟩,-⟩:=Qay (s.o.alloc (.cells #[Ji 0,Ju 0,Ju 0,Ju 0,Ju 0] 268)).o;obtain⟨⟨y0,y1,y2,y3,y4⟩,-⟩:=Qap (s.o.alloc (.cells #[Ji 0,Ju 0,Ju 0,Ju 0,Ju 0] 268)).x;obtain⟨⟨-,c1,-,-,-,-⟩,-⟩:=Qay s.o.o;obtain⟨⟨x0,x1,x2,x3,x4⟩,-⟩:=Qap s.o.x;clear z;go_upto_region 5 with fail
 go_cut [6] (fun s6 wx=>∃q,s6 = Jp q/\w.heap.size+1<q/\CutS w wx b d k (f) new a c (QgP g a) (n-1)/\wx.heap[q]?=some (.cells #[Ji j.1,Ju j.2.1.1,Ju j.2.1.2,Ju j.2.2.1,Ju j.2.2.2] 268 (0,0)))
 case first=>
  go_region
  all_goals
   go_wp2_with fail;go_meet;exact⟨W3.heap.size,rfl,s.o.lt,(s.o.alloc _).drew,JI W3 (.cells #[Ji j.1,Ju j.2.1.1,Ju j.2.1.2,Ju j.2.2.1,Ju j.2.2.2] 268)⟩
 obtain⟨qW3,rfl,QGG,hSc,hNc⟩:=hcut;have x:=Z hSc;have B:=Z hNc;have N:=Z QGG;clear hSc hNc QGG c1 d1 x0 x1 x2 x3 x4 y0 y1 y2 y3 y4 l2 l3 qb s;revert wc;intro qc x B;obtain⟨⟨x0,x1,x2,x3,x4⟩,-⟩:=Qap x.o.x;obtain⟨⟨n0,n1,n2,n3,n4⟩,f0,f1,f2,f3,f4⟩:=Qap B.o;go_upto_region 7 with fail
 have p:=Z (x.o.far2 qW3 3 4 N.o (Ju c.2.2.1) (Ju c.2.2.2));have Nd:=Z (Qhv B.o (Ju c.2.2.1) (Ju c.2.2.2));generalize (qc.setCell (Ja qW3 3) (Ju c.2.2.1)).setCell (Ja qW3 4) (Ju c.2.2.2)=W3d at p Nd ⊢;clear x0 x1 x2 x3 x4 n0 n1 n2 n3 n4 f0 f1 f2 f3 f4 x B;obtain⟨⟨-,c1,-,-,-,-⟩,-⟩:=Qay p.o.o;obtain⟨⟨x0,x1,x2,x3,x4⟩,-⟩:=Qap p.o.x;obtain⟨⟨n0,n1,n2,n3,n4⟩,-⟩:=Qap Nd.o;obtain⟨obp,hup,Sp⟩:=Qmn p.o.drew c.2.1 j O.o (j.1,j.2.1,c.2.2);have l:=Z Sp;clear Sp O;go_cut [] (fun wx=>CutS w wx b d k (f) new a c (Qz2 (QgP g a) c.2.1 j c.2.2) (n-1))
 case first=>
  go_region
  all_goals
   go_wp2_with fail;go_meet;exact l.o
 have l:=Z hcut;clear hcut hup c1 x0 x1 x2 x3 x4 n0 n1 n2 n3 n4 p Nd;revert wc;intro qa l;obtain⟨⟨-,-,-,-,c4,c5⟩,-⟩:=Qay l.o.o;obtain⟨⟨k0,k1⟩,-⟩:=Qax l.o.k;obtain⟨-,A,m⟩:=HQ.o;go_wp2_with fail;go_quiet (fail);generalize r:qa.drewN _=V3;have H:Hi (CutS w V3 b d k (f) new a c (Qz2 (QgP g a) c.2.1 j c.2.2) (n-1)):=Z (by rw[<-r];exact l.o.drewN _)
 clear r c4 c5 k0 k1 A m l;obtain⟨⟨-,-,-,-,-,-⟩,-,-,f2,f3,f4,f5⟩:=Qay H.o.o;obtain⟨⟨-,-,-,-,-,-⟩,-⟩:=Qay H.o.o;obtain⟨⟨-,-,c2,c3,c4,c5⟩,-⟩:=Qay H.o.o;obtain⟨⟨x0,x1,x2,x3,x4⟩,-⟩:=Qap H.o.x;go_wp2_with fail;have t:=Z (H.o.set45 c.2.1);generalize (V3.setCell (Ja b 4) (Ju c.2.1.1)).setCell (Ja b 5) (Ju c.2.1.2)=V3b at t ⊢;clear f2 f3 f4 f5 c2 c3 c4 c5 x0 x1 x2 x3 x4 H;obtain⟨⟨x0,x1,x2,x3,x4⟩,-⟩:=Qap t.o.x;go_wp2;go_ret;exact⟨rfl,t.o.o,t.o.m,t.o.t⟩
theorem Qs5{w:World}{b d k n:Nat}{f new:Key}{g:Key->Option Qdl}(h:LruB w b d k f new)(hm:MapF QhZ QcR w k g n)(a:Key)(c:Qdl)(hg:g a=some c)(ho:a≠f)(j:Qdl)(qg:g c.2.1=some j)(qa:c.2.1≠a)(hn:a≠new)(l:Qdl)(qd:g c.2.2=some l)(V:c.2.2≠a)(Y:c.2.2≠c.2.1):Calls prog 178 #[Jp b,.agg #[Ju a.1,Ju a.2]] w fun e w'=>e=.returned (Ji c.1)/\LruB w' b d k (f) (new)/\MapF QhZ QcR w' k (QEi (Qz2 (QgP g a) c.2.1 j c.2.2) c.2.2 l c.2.1) (n-1)/\Touch (fun i=>i=b\/i=k) w w':=by
 have hne:=h.ne hm;have D:=Qao w (Ju a.1) (Ju a.2) 58;have T:=Z (JI w (.cells #[Ju a.1,Ju a.2] 58));have R:=Z (Qad h D);have P:=Z (hm.keep (D.block k hm.lt));have HT:Hi (Touch (fun i=>i=b\/i=k) w (w.alloc (.cells #[Ju a.1,Ju a.2] 58))):=Z (Touch.of_below D)
 have qh:b<w.heap.size:=(gsi h).1;have qe:k<w.heap.size:=hm.lt;have qb:(w.alloc (.cells #[Ju a.1,Ju a.2] 58)).heap.size=w.heap.size+1:=qJ _ _;have L:=Z qb;obtain⟨⟨-,c1,-,-,-,-⟩,-⟩:=Qay R.o;obtain⟨⟨k0,k1⟩,-⟩:=Qax T.o;have HG:=Z hg;have qf:=Z (qE qg qa);have U:=Z (qE qd V);have qi:=Z Y;have B:=fun W=>Qe8 a f false (qB ho) W
 have H:=fun W=>Qe8 a new false (qB hn) W
 have s:=QgJ;have HQ:=Z (qE B (qE H s));have N:=Z (qE qh (qE qe hne));clear h hm D hg ho hn qg qa qd V Y qb B H s qh qe hne;go_enter func178,ntmps178;go_wp2_with fail;generalize w.alloc (.cells #[Ju a.1,Ju a.2] 58)=W0 at T R P HT c1 k0 k1 L ⊢;have lk:w.heap.size<W0.heap.size:=(gsi T.o).1;have O:b<W0.heap.size:=(gsi R.o).1;have lm:k<W0.heap.size:=P.o.lt;have l2:(Instr.lookup 264 (.map (some k)) (.agg #[Ju a.1,Ju a.2]) false).run prog ((W0.alloc (.cells #[Ji 0,Ju 0,Ju 0,Ju 0,Ju 0] 268)).drew)=.ok (.agg #[Ji c.1,Ju c.2.1.1,Ju c.2.1.2,Ju c.2.2.1,Ju c.2.2.2]) ((W0.alloc (.cells #[Ji 0,Ju 0,Ju 0,Ju 0,Ju 0] 268)).drew):=by
  have h:=Qb2 (W:=(W0.alloc (.cells #[Ji 0,Ju 0,Ju 0,Ju 0,Ju 0] 268)).drew) P.o a false (J5 W0 (.cells #[Ji 0,Ju 0,Ju 0,Ju 0,Ju 0] 268) lm);rw[HG.o] at h;exact h
 have l3:(Instr.lookup 264 (.map (some k)) (.agg #[Ju a.1,Ju a.2]) false).run prog W0.drew=.ok (.agg #[Ji c.1,Ju c.2.1.1,Ju c.2.1.2,Ju c.2.2.1,Ju c.2.2.2]) W0.drew:=by
  have h:=Qb2 (W:=W0.drew) P.o a false rfl;rw[HG.o] at h;exact h
 obtain⟨⟨-,d1,-,-,-,-⟩,-⟩:=Qay ((J5 W0 (.cells #[Ji 0,Ju 0,Ju 0,Ju 0,Ju 0] 268) O).trans R.o);obtain⟨⟨d4,d5⟩,-⟩:=Qax ((J5 W0 (.cells #[Ji 0,Ju 0,Ju 0,Ju 0,Ju 0] 268) lk).trans T.o);go_upto_region 1 with fail
 go_cut [5] (fun s5 wx=>s5 = Jp (w.heap.size+1)/\CutS w wx b d k f new a c g n)
 case first=>
  go_region
  all_goals
   go_wp2_with fail;go_meet;refine⟨by rw[L.o],(J5 W0 (.cells #[Ji c.1,Ju c.2.1.1,Ju c.2.1.2,Ju c.2.2.1,Ju c.2.2.2] 268) O).trans R.o,(J5 W0 (.cells #[Ji c.1,Ju c.2.1.1,Ju c.2.1.2,Ju c.2.2.1,Ju c.2.2.2] 268) lk).trans T.o,?_,P.o.keep (J5 W0 (.cells #[Ji c.1,Ju c.2.1.1,Ju c.2.1.2,Ju c.2.2.1,Ju c.2.2.2] 268) lm),QbY (HT.o.trans (Touch.of_below (S:=fun i=>i=b\/i=k) ((qF _ _).alloc (qC _) (.cells #[Ji c.1,Ju c.2.1.1,Ju c.2.1.2,Ju c.2.2.1,Ju c.2.2.2] 268))) (fun g hg=>.inl hg)),N.o.1,N.o.2.1,N.o.2.2⟩
   have:=JI W0 (.cells #[Ji c.1,Ju c.2.1.1,Ju c.2.1.2,Ju c.2.2.1,Ju c.2.2.2] 268);rw[L.o] at this;exact this
 obtain⟨rfl,hS1⟩:=hcut;have S1:=Z hS1;clear hS1 d1 d4 d5 l2 l3 c1 k0 k1 lk O lm T R P HT;revert wc;intro W1 S1;obtain⟨⟨-,c1,-,-,-,-⟩,-⟩:=Qay S1.o.o;obtain⟨⟨k0,k1⟩,-⟩:=Qax S1.o.k;obtain⟨ob1,hd1,S2'⟩:=Qmo S1.o.drew HG.o 0;have J:=Z S2';clear S2';go_upto_region 2 with fail
 go_cut [] (fun wx=>CutS w wx b d k f new a c (QgP g a) (n-1))
 case first=>
  go_region
  all_goals
   go_wp2_with fail;go_meet;exact J.o
 have J:=Z hcut;clear hcut hd1 c1 k0 k1 S1;revert wc;intro W2 J;obtain⟨⟨-,-,c2,c3,-,-⟩,-⟩:=Qay J.o.o;obtain⟨⟨k0,k1⟩,-⟩:=Qax J.o.k;obtain⟨B,-,s⟩:=HQ.o;go_wp2_with fail;go_quiet (fail);generalize x:W2.drewN _=W3;have A:Hi (CutS w W3 b d k f new a c (QgP g a) (n-1)):=Z (by rw[<-x];exact J.o.drewN _)
 clear x c2 c3 k0 k1 B s J;have m:(QgP g a) c.2.1=some j:=by show (if c.2.1=a then none else g c.2.1)=_;rw[JJ qf.o.2];exact qf.o.1
 have y:=Z m;have M:b<W3.heap.size:=by have:=A.o.lt;have:=A.o.lb;omega
 have l2:=(A.o.alloc (.cells #[Ji 0,Ju 0,Ju 0,Ju 0,Ju 0] 268)).drew.look c.2.1 j m;have l3:=A.o.drew.look c.2.1 j m;obtain⟨⟨-,d1,-,-,-,-⟩,-⟩:=Qay (A.o.alloc (.cells #[Ji 0,Ju 0,Ju 0,Ju 0,Ju 0] 268)).o;obtain⟨⟨y0,y1,y2,y3,y4⟩,-⟩:=Qap (A.o.alloc (.cells #[Ji 0,Ju 0,Ju 0,Ju 0,Ju 0] 268)).x;obtain⟨⟨-,c1,-,-,-,-⟩,-⟩:=Qay A.o.o;obtain⟨⟨x0,x1,x2,x3,x4⟩,-⟩:=Qap A.o.x;clear m;go_upto_region 5 with fail
 go_cut [6] (fun s6 wx=>∃q,s6 = Jp q/\w.heap.size+1<q/\CutS w wx b d k (f) new a c (QgP g a) (n-1)/\wx.heap[q]?=some (.cells #[Ji j.1,Ju j.2.1.1,Ju j.2.1.2,Ju j.2.2.1,Ju j.2.2.2] 268 (0,0)))
 case first=>
  go_region
  all_goals
   go_wp2_with fail;go_meet;exact⟨W3.heap.size,rfl,A.o.lt,(A.o.alloc _).drew,JI W3 (.cells #[Ji j.1,Ju j.2.1.1,Ju j.2.1.2,Ju j.2.2.1,Ju j.2.2.2] 268)⟩
 obtain⟨qW3,rfl,QGG,hSc,hNc⟩:=hcut;have C:=Z hSc;have I:=Z hNc;have qc:=Z QGG;clear hSc hNc QGG c1 d1 x0 x1 x2 x3 x4 y0 y1 y2 y3 y4 l2 l3 M A;revert wc;intro qk C I;obtain⟨⟨x0,x1,x2,x3,x4⟩,-⟩:=Qap C.o.x;obtain⟨⟨n0,n1,n2,n3,n4⟩,f0,f1,f2,f3,f4⟩:=Qap I.o;go_upto_region 7 with fail
 have t:=Z (C.o.far2 qW3 3 4 qc.o (Ju c.2.2.1) (Ju c.2.2.2));have K:=Z (Qhv I.o (Ju c.2.2.1) (Ju c.2.2.2));generalize (qk.setCell (Ja qW3 3) (Ju c.2.2.1)).setCell (Ja qW3 4) (Ju c.2.2.2)=W3d at t K ⊢;clear x0 x1 x2 x3 x4 n0 n1 n2 n3 n4 f0 f1 f2 f3 f4 C I;obtain⟨⟨-,c1,-,-,-,-⟩,-⟩:=Qay t.o.o;obtain⟨⟨x0,x1,x2,x3,x4⟩,-⟩:=Qap t.o.x;obtain⟨⟨n0,n1,n2,n3,n4⟩,-⟩:=Qap K.o;obtain⟨obp,hup,Sp⟩:=Qmn t.o.drew c.2.1 j y.o (j.1,j.2.1,c.2.2);have p:=Z Sp;clear Sp y;go_cut [] (fun wx=>CutS w wx b d k (f) new a c (Qz2 (QgP g a) c.2.1 j c.2.2) (n-1))
 case first=>
  go_region
  all_goals
   go_wp2_with fail;go_meet;exact p.o
 have p:=Z hcut;clear hcut hup c1 x0 x1 x2 x3 x4 n0 n1 n2 n3 n4 t K;revert wc;intro qj p;obtain⟨⟨-,-,-,-,c4,c5⟩,-⟩:=Qay p.o.o;obtain⟨⟨k0,k1⟩,-⟩:=Qax p.o.k;obtain⟨-,H,s⟩:=HQ.o;go_wp2_with fail;go_quiet (fail);generalize x:qj.drewN _=V3;have v:Hi (CutS w V3 b d k (f) new a c (Qz2 (QgP g a) c.2.1 j c.2.2) (n-1)):=Z (by rw[<-x];exact p.o.drewN _)
 clear x c4 c5 k0 k1 H s p;have m:(Qz2 (QgP g a) c.2.1 j c.2.2) c.2.2=some l:=by show (if c.2.2=c.2.1 then _ else (if c.2.2=a then none else g c.2.2))=_;rw[JJ qi.o,JJ U.o.2];exact U.o.1
 have y:=Z m;have M:b<V3.heap.size:=by have:=v.o.lt;have:=v.o.lb;omega
 have l2:=(v.o.alloc (.cells #[Ji 0,Ju 0,Ju 0,Ju 0,Ju 0] 268)).drew.look c.2.2 l m;have l3:=v.o.drew.look c.2.2 l m;obtain⟨⟨-,d1,-,-,-,-⟩,-⟩:=Qay (v.o.alloc (.cells #[Ji 0,Ju 0,Ju 0,Ju 0,Ju 0] 268)).o;obtain⟨⟨y0,y1,y2,y3,y4⟩,-⟩:=Qap (v.o.alloc (.cells #[Ji 0,Ju 0,Ju 0,Ju 0,Ju 0] 268)).x;obtain⟨⟨-,c1,-,-,-,-⟩,-⟩:=Qay v.o.o;obtain⟨⟨x0,x1,x2,x3,x4⟩,-⟩:=Qap v.o.x;clear m;go_upto_region 10 with fail
 go_cut [7] (fun s6 wx=>∃q,s6 = Jp q/\w.heap.size+1<q/\CutS w wx b d k (f) new a c (Qz2 (QgP g a) c.2.1 j c.2.2) (n-1)/\wx.heap[q]?=some (.cells #[Ji l.1,Ju l.2.1.1,Ju l.2.1.2,Ju l.2.2.1,Ju l.2.2.2] 268 (0,0)))
 case first=>
  go_region
  all_goals
   go_wp2_with fail;go_meet;exact⟨V3.heap.size,rfl,v.o.lt,(v.o.alloc _).drew,JI V3 (.cells #[Ji l.1,Ju l.2.1.1,Ju l.2.1.2,Ju l.2.2.1,Ju l.2.2.2] 268)⟩
 obtain⟨qV3,rfl,QGH,hSc,hNc⟩:=hcut;have E:=Z hSc;have G:=Z hNc;have X:=Z QGH;clear hSc hNc QGH c1 d1 x0 x1 x2 x3 x4 y0 y1 y2 y3 y4 l2 l3 M v;revert wc;intro ql E G;obtain⟨⟨x0,x1,x2,x3,x4⟩,-⟩:=Qap E.o.x;obtain⟨⟨n0,n1,n2,n3,n4⟩,f0,f1,f2,f3,f4⟩:=Qap G.o;go_upto_region 12 with fail
 have z:=Z (E.o.far2 qV3 1 2 X.o (Ju c.2.1.1) (Ju c.2.1.2));have K:=Z (Qlj G.o (Ju c.2.1.1) (Ju c.2.1.2));generalize (ql.setCell (Ja qV3 1) (Ju c.2.1.1)).setCell (Ja qV3 2) (Ju c.2.1.2)=V3d at z K ⊢;clear x0 x1 x2 x3 x4 n0 n1 n2 n3 n4 f0 f1 f2 f3 f4 E G;obtain⟨⟨-,c1,-,-,-,-⟩,-⟩:=Qay z.o.o;obtain⟨⟨x0,x1,x2,x3,x4⟩,-⟩:=Qap z.o.x;obtain⟨⟨n0,n1,n2,n3,n4⟩,-⟩:=Qap K.o;obtain⟨obp,hup,Sp⟩:=Qmn z.o.drew c.2.2 l y.o (l.1,c.2.1,l.2.2);have r:=Z Sp;clear Sp y;go_cut [] (fun wx=>CutS w wx b d k (f) new a c (QEi (Qz2 (QgP g a) c.2.1 j c.2.2) c.2.2 l c.2.1) (n-1))
 case first=>
  go_region
  all_goals
   go_wp2_with fail;go_meet;exact r.o
 have r:=Z hcut;clear hcut hup c1 x0 x1 x2 x3 x4 n0 n1 n2 n3 n4 z K;revert wc;intro qm r;obtain⟨⟨x0,x1,x2,x3,x4⟩,-⟩:=Qap r.o.x;go_wp2;go_ret;exact⟨rfl,r.o.o,r.o.m,r.o.t⟩
end
section
theorem Qwa{w:World}{b s M:Nat}{A B:List (Key×Int)}{p:Key×Int}(h:LruAt w b s M (A++p :: B)):Calls prog 178 #[Jp b,.agg #[Ju p.1.1,Ju p.1.2]] w fun e w'=>e=.returned (Ji p.2)/\LruAt w' b s M (A++B)/\Touch (fun i=>i=b\/i=M) w w':=by
 obtain⟨g,old,new,hb,hm,hl⟩:=h;obtain⟨o,n,hg,ho,hn⟩:=hl.mid A p B rfl;have hlen:(A++p :: B).length-1=(A++B).length:=by
  rw[qG,qG,qH];omega
 have H:A = []->p.1=old:=fun e=>by subst e;exact (hl.first p rfl).symm
 have I:B = []->p.1=new:=fun e=>by subst e;exact (hl.last p (by simp)).symm
 have K:∀q,A.getLast?=some q->p.1≠old/\o=q.1/\q.1≠p.1/\∃qo qn,g q.1=some (q.2,qo,qn):=by
  intro q d;obtain⟨ys,hys⟩:=List.getLast?_eq_some_iff.1 d;have N:q∈A:=Qet d;obtain⟨qo,qn,hgq,-,-⟩:=hl.mid ys q (p :: B) (by rw[hys];simp)
  refine⟨?_,ho q d,QdP hl.nd rfl (.inl N),qo,qn,hgq⟩;cases A with
  |nil=>cases d
  |cons x r=>
   have e:=hl.first x rfl;rw[e];exact fun e2=>QdP hl.nd rfl (.inl (JF (a:=x) (l:=r))) e2.symm
 have G:∀r,B.head?=some r->p.1≠new/\n=r.1/\r.1≠p.1/\∃ro rn,g r.1=some (r.2,ro,rn):=by
  intro r j;cases B with
  |nil=>cases j
  |cons x t=>
   obtain rfl:=qS j;obtain⟨ro,rn,hgr,-,-⟩:=hl.mid (A++[p]) x t (by simp)
   refine⟨?_,hn x rfl,QdP hl.nd rfl (.inr (JF (a:=x) (l:=t))),ro,rn,hgr⟩;obtain⟨z,hz⟩:∃z,(x :: t).getLast?=some z:=by
    cases d:(x :: t).getLast? with
    |none=>exact JN (List.getLast?_eq_none_iff.1 d) (by simp)
    |some z=>exact⟨z,rfl⟩
   have e:=hl.last z (by rw[Qeu _ (by simp),List.getLast?_cons_cons];exact hz)
   rw[e];exact fun e2=>QdP hl.nd rfl (.inr (Qet hz)) e2.symm
 have L:∀q r,A.getLast?=some q->B.head?=some r->r.1≠q.1:=by
  intro q r d j;obtain⟨ys,hys⟩:=List.getLast?_eq_some_iff.1 d;exact QdP (ks:=A++p :: B) hl.nd (A:=ys) (B:=p :: B) (p:=q) (q:=r) (by rw[hys];simp) (.inr (JY _ (QmD j)))
 have hcut:=fun (O:Key->Option Qdl) (old' J:Key)=>@LinkOk.cut A B p g O old new old' J o n hl hg
 rcases hAq:A.getLast? with _|q
 ·have k:A = []:=List.getLast?_eq_none_iff.1 hAq
  rcases hBr:B.head? with _|r
  ·have f:B = []:=List.head?_eq_none_iff.1 hBr
   refine (Qs2 hb hm p.1 (p.2,o,n) hg (H k) (I f)).mono ?_;rintro e w' ⟨D,y,m,C⟩;rw[hlen] at m;refine⟨D,⟨_,_,_,y,m,hcut _ _ _ (JK rfl) (fun q d=>?_) (fun r j=>?_) (fun c hc _ _=>JJ hc) (fun _=>rfl) (fun e=>JN k e) (fun _=>rfl) (fun e=>JN f e)⟩,C⟩
   ·rw[hAq] at d;cases d
   ·rw[hBr] at j;cases j
  ·obtain⟨n1,n2,n3,ro,rn,n4⟩:=G r hBr
   have f:B≠[]:=by intro e;subst e;cases hBr
   subst n2;refine (Qs3 hb hm p.1 (p.2,o,r.1) hg (H k) n1 (r.2,ro,rn) n4 n3).mono ?_;rintro e w' ⟨D,y,m,C⟩;rw[hlen] at m;refine⟨D,⟨_,_,_,y,m,hcut _ _ _ ?_ (fun q d=>?_) (fun r' j v ro' rn' hgr=>?_) (fun c hc _ hcr=>?_) (fun _=>rfl) (fun e=>JN k e) (fun e=>JN e f) (fun _=>rfl)⟩,C⟩
   ·show (if p.1=r.1 then _ else (if p.1=p.1 then none else _))=none
    rw[JJ (fun e=>n3 e.symm),JK rfl]
   ·rw[hAq] at d;cases d
   ·rw[hBr] at j
    obtain rfl:=qS j;rw[n4] at hgr;cases hgr;exact JK rfl
   ·show (if c=r.1 then _ else (if c=p.1 then none else g c))=g c
    rw[JJ (hcr r hBr),JJ hc]
 ·obtain⟨m1,m2,m3,qo,qn,m4⟩:=K q hAq
  have k:A≠[]:=by intro e;subst e;cases hAq
  subst m2;rcases hBr:B.head? with _|r
  ·have f:B = []:=List.head?_eq_none_iff.1 hBr
   refine (Qs4 hb hm p.1 (p.2,q.1,n) hg m1 (q.2,qo,qn) m4 m3 (I f)).mono ?_;rintro e w' ⟨D,y,m,C⟩;rw[hlen] at m;refine⟨D,⟨_,_,_,y,m,hcut _ _ _ ?_ (fun q' d v qo' qn' hgq=>?_) (fun r j=>?_) (fun c hc hcq _=>?_) (fun e=>JN e k) (fun _=>rfl) (fun _=>rfl) (fun e=>JN f e)⟩,C⟩
   ·show (if p.1=q.1 then _ else (if p.1=p.1 then none else _))=none
    rw[JJ (fun e=>m3 e.symm),JK rfl]
   ·rw[hAq] at d
    obtain rfl:=qS d;rw[m4] at hgq;cases hgq;exact JK rfl
   ·rw[hBr] at j;cases j
   ·show (if c=q.1 then _ else (if c=p.1 then none else g c))=g c
    rw[JJ (hcq q hAq),JJ hc]
  ·obtain⟨n1,n2,n3,ro,rn,n4⟩:=G r hBr
   have f:B≠[]:=by intro e;subst e;cases hBr
   have E:=L q r hAq hBr;subst n2;refine (Qs5 hb hm p.1 (p.2,q.1,r.1) hg m1 (q.2,qo,qn) m4 m3 n1 (r.2,ro,rn) n4 n3 E).mono ?_;rintro e w' ⟨D,y,m,C⟩;rw[hlen] at m;refine⟨D,⟨_,_,_,y,m,hcut _ _ _ ?_ (fun q' d v qo' qn' hgq=>?_) (fun r' j v ro' rn' hgr=>?_) (fun c hc hcq hcr=>?_) (fun e=>JN e k) (fun _=>rfl) (fun e=>JN e f) (fun _=>rfl)⟩,C⟩
   ·show (if p.1=r.1 then _ else (if p.1=q.1 then _ else (if p.1=p.1 then none else _)))=none
    rw[JJ (fun e=>n3 e.symm),JJ (fun e=>m3 e.symm),JK rfl]
   ·rw[hAq] at d
    obtain rfl:=qS d;rw[m4] at hgq;cases hgq;show (if q.1=r.1 then _ else (if q.1=q.1 then _ else _))=_
    rw[JJ (fun e=>E e.symm),JK rfl]
   ·rw[hBr] at j
    obtain rfl:=qS j;rw[n4] at hgr;cases hgr;exact JK rfl
   ·show (if c=r.1 then _ else (if c=q.1 then _ else (if c=p.1 then none else g c)))=g c
    rw[JJ (hcr r hBr),JJ (hcq q hAq),JJ hc]
end
section
section
variable {w:World} {b most mb:Nat} {ks:List (Key×Int)}
theorem LruAt.below{w':World}(h:LruAt w b most mb ks)(a:Jw w w'):LruAt w' b most mb ks:=by
 obtain⟨g,old,new,h1,h2,h3⟩:=h;exact⟨g,old,new,Qad h1 a,h2.keep (a.block mb h2.lt),h3⟩
theorem LruAt.lt(h:LruAt w b most mb ks):b<w.heap.size/\mb<w.heap.size:=by
 obtain⟨g,old,new,h1,h2,h3⟩:=h;exact⟨(gsi h1).1,h2.lt⟩
theorem LruAt.nodup(h:LruAt w b most mb ks):(ks.map (·.1)).Nodup:=by
 obtain⟨g,old,new,h1,h2,h3⟩:=h;exact h3.nd
theorem Qjz{A B:List (Key×Int)}{p:Key×Int}(h:LruAt w b most mb (A++p :: B)):Calls prog 177 #[Jp b,.agg #[Ju p.1.1,Ju p.1.2]] w (JB (.bool true) w):=by
 obtain⟨g,old,new,h1,h2,h3⟩:=h;obtain⟨o,n,hg,-⟩:=h3.mid A p B rfl;have:=QpQ h1 h2 p.1;rw[hg] at this;exact this
theorem Qk5(h:LruAt w b most mb ks)(a:Key)(c:a∉ks.map (·.1)):Calls prog 177 #[Jp b,.agg #[Ju a.1,Ju a.2]] w (JB (.bool false) w):=by
 obtain⟨g,old,new,h1,h2,h3⟩:=h;have:=QpQ h1 h2 a;rw[h3.out a c] at this;exact this
theorem QnQ{A B:List (Key×Int)}{p:Key×Int}(h:LruAt w b most mb (A++p :: B)):Calls prog 181 #[Jp b,.agg #[Ju p.1.1,Ju p.1.2]] w (JB (.tuple #[Ji p.2,.bool true]) w):=by
 obtain⟨g,old,new,h1,h2,h3⟩:=h;obtain⟨o,n,hg,-⟩:=h3.mid A p B rfl;have:=Qrh h1 h2 p.1;rw[hg] at this;exact this
theorem QpO(h:LruAt w b most mb ks)(a:Key)(c:a∉ks.map (·.1)):Calls prog 181 #[Jp b,.agg #[Ju a.1,Ju a.2]] w (JB (.tuple #[Ji 0,.bool false]) w):=by
 obtain⟨g,old,new,h1,h2,h3⟩:=h;have:=Qrh h1 h2 a;rw[h3.out a c] at this;exact this
end
theorem QyV{w:World}{b c j:Nat}{A B:List (Key×Int)}{p:Key×Int}(h:LruAt w b c j (A++p :: B)):Calls prog 182 #[Jp b,.agg #[Ju p.1.1,Ju p.1.2]] w fun e w'=>e=.returned (.bool true)/\LruAt w' b c j (A++B)/\Touch (fun i=>i=b\/i=j) w w':=by
 have d:=Qao w (Ju p.1.1) (Ju p.1.2) 58;obtain⟨k0,k1⟩:=QaK w (Ju p.1.1) (Ju p.1.2) 58;have s:=Z (JI w (.cells #[Ju p.1.1,Ju p.1.2] 58));have m:=Z (h.below d);have f:=Z d;clear h d;go_enter func182,ntmps182;go_wp2_with fail;refine (Qjz m.o).mono ?_;rintro e v ⟨rfl,a⟩;have r:=Z (m.o.below a);have k:=Z (Qaa f.o a);obtain⟨⟨p0,p1⟩,-⟩:=Qax (Qad s.o a);clear a k0 k1;go_wp2_with fail;refine (Qwa r.o).mono ?_;rintro e x ⟨rfl,n,l⟩;have q:=Z n;have t:=Z l;clear n l;go_wp2;go_ret;exact⟨rfl,q.o,(Touch.of_below k.o).trans t.o (fun g hg=>.inl hg)⟩
theorem Qs1{w:World}{b f k:Nat}{ks:List (Key×Int)}(h:LruAt w b f k ks)(a:Key)(j:a∉ks.map (·.1)):Calls prog 135 #[Jp b,.agg #[Ju a.1,Ju a.2]] w (JB (.tuple #[Ji 0,.bool false]) w):=by
 have c:=Qao w (Ju a.1) (Ju a.2) 58;obtain⟨k0,k1⟩:=QaK w (Ju a.1) (Ju a.2) 58;have l:=Z (Qk5 (h.below c) a j);have g:=Z c;clear h j c;go_enter func135,ntmps135;go_wp2_with fail;refine l.o.mono ?_;rintro e m ⟨rfl,d⟩;have i:=Z (Qaa g.o d);clear d k0 k1;go_wp2;go_ret2;exact⟨rfl,i.o⟩
theorem QB7{w:World}{b c l:Nat}{A B:List (Key×Int)}{p:Key×Int}(h:LruAt w b c l (A++p :: B)):Calls prog 135 #[Jp b,.agg #[Ju p.1.1,Ju p.1.2]] w fun e w'=>e=.returned (.tuple #[Ji p.2,.bool true])/\LruAt w' b c l (A++B++[p])/\Touch (fun i=>i=b\/i=l) w w':=by
 have f:=Qao w (Ju p.1.1) (Ju p.1.2) 58;obtain⟨k0,k1⟩:=QaK w (Ju p.1.1) (Ju p.1.2) 58;have G:=Z (JI w (.cells #[Ju p.1.1,Ju p.1.2] 58));have r:Hi (p.1∉(A++B).map (·.1)/\(b<w.heap.size/\l<w.heap.size)):=Z ⟨by
  have z:=h.nodup;intro j;rw[qY,J1] at j;rcases j with j|j
  ·obtain⟨q,hq,e⟩:=List.mem_map.1 j
   exact QdP z rfl (.inl hq) e
  ·obtain⟨q,hq,e⟩:=List.mem_map.1 j
   exact QdP z rfl (.inr hq) e,h.lt⟩
 have v:=Z (h.below f);have n:=Z f;clear h f;go_enter func135,ntmps135;go_wp2_with fail;refine (Qjz v.o).mono ?_;rintro e J ⟨rfl,a⟩;have E:=Z (v.o.below a);have s:=Z (Qaa n.o a);have d:=Z (Qad G.o a);obtain⟨⟨p0,p1⟩,-⟩:=Qax d.o;clear a k0 k1;go_wp2_with fail;refine (Qwa E.o).mono ?_;rintro e L ⟨rfl,x,m⟩;have H:=Z x;have I:=Z m;have k:=(m.block w.heap.size (gsi d.o).1 (by rintro (e|e);exact JN r.o.2.1 (by omega);exact JN r.o.2.2 (by omega))).trans d.o
 obtain⟨⟨q0,q1⟩,-⟩:=Qax k;clear x m p0 p1 k;go_wp2_with fail;refine (Qrg H.o p.1 p.2 r.o.1).mono ?_;rintro e K ⟨rfl,y,t⟩;have C:=Z y;have D:=Z t;clear y t;go_wp2;go_ret2;exact⟨rfl,C.o,((Touch.of_below s.o).trans I.o (fun g hg=>.inl hg)).trans D.o (fun g hg=>.inl hg)⟩
theorem QpN{w:World}{b c B:Nat}{ks:List (Key×Int)}(h:LruAt w b c B ks)(a:Key)(v:Int)(O:a∉ks.map (·.1))(W:ks.length<c):Calls prog 139 #[Jp b,.agg #[Ju a.1,Ju a.2],Ji v] w fun e w'=>e=.returned (.tuple #[.agg #[Ju 0,Ju 0],.bool false])/\LruAt w' b c B (ks++[(a,v)])/\Touch (fun i=>i=b\/i=B) w w':=by
 have n:Jw w ((w.alloc (.cells #[Ju a.1,Ju a.2] 58)).alloc (.cells #[Ju 0,Ju 0] 58)):=((qF _ _).alloc (qC _) _).alloc (by simp) _
 have E:Hi (((w.alloc (.cells #[Ju a.1,Ju a.2] 58)).alloc (.cells #[Ju 0,Ju 0] 58)).heap[w.heap.size]?=some (.cells #[Ju a.1,Ju a.2] 58 (0,0))):=Z ((J5 _ _ (by simp)).trans (JI w _))
 have H:Hi (((w.alloc (.cells #[Ju a.1,Ju a.2] 58)).alloc (.cells #[Ju 0,Ju 0] 58)).heap[w.heap.size+1]?=some (.cells #[Ju 0,Ju 0] 58 (0,0))):=Z (by
  have:=JI (w.alloc (.cells #[Ju a.1,Ju a.2] 58)) (.cells #[Ju 0,Ju 0] 58)
  rwa[qJ] at this)
 have p:=Z h.lt;have r:=Z (h.below n);have j:=Z n;have HA:=Z O;have t1:((c:Int)==0)=false:=by rw[qI];omega
 have q:(c==0)=false:=by rw[qI];omega
 have X:decide (((ks.length+1:Nat):Int)<=(c:Int))=true:=qA (by omega)
 have Y:decide ((ks.length:Int)+1<=(c:Int))=true:=qA (by omega)
 have t5:decide (ks.length+1<=c)=true:=qA (by omega)
 have t6:decide (ks.length<c)=true:=qA (by omega)
 have x:Hi ((ks++[(a,v)]).length=ks.length+1):=Z (by simp)
 clear h n O W;obtain⟨⟨k0,k1⟩,-⟩:=Qax E.o;obtain⟨g0,old0,new0,hb0,-,-⟩:=id r.o;have G:=Z (Qri hb0);clear hb0;go_enter func139,ntmps139;go_wp2_with fail;generalize (w.alloc (.cells #[Ju a.1,Ju a.2] 58)).alloc (.cells #[Ju 0,Ju 0] 58)=W0 at E H r j G k0 k1 ⊢;refine G.o.mono ?_;rintro e S ⟨rfl,M⟩;obtain rfl:=M.symm;clear M;go_wp2_with fail;refine (Qk5 r.o a HA.o).mono ?_;rintro e S ⟨rfl,d⟩;have V:=Z (r.o.below d);have I:=Z (Qaa j.o d);have k:=Z (Qad E.o d);have C:=Z (Qad H.o d);obtain⟨⟨p0,p1⟩,-⟩:=Qax k.o;clear d k0 k1 E H G r j;go_wp2_with fail;refine (Qrg V.o a v HA.o).mono ?_;rintro e K ⟨rfl,L,q⟩;have N:=Z L;have R:=Z q;have t:=(q.block w.heap.size (gsi k.o).1 (by rintro (e|e);exact JN p.o.1 (by omega);exact JN p.o.2 (by omega))).trans k.o
 have l:=Z ((q.block (w.heap.size+1) (gsi C.o).1 (by rintro (e|e);exact JN p.o.1 (by omega);exact JN p.o.2 (by omega))).trans C.o)
 obtain⟨⟨q0,q1⟩,-⟩:=Qax t;obtain⟨⟨r0,r1⟩,fr0,fr1⟩:=Qax l.o;obtain⟨g2,old2,new2,hb2,hm2,-⟩:=L;obtain⟨⟨d0,d1,-⟩,-⟩:=Qay hb2;have y:=hm2.len (P:=prog) 3 264 underlying264;have D:=(hm2.keep (w':=K.drew) rfl).len (P:=prog) 3 264 underlying264;rw[x.o] at y D;clear q p0 p1 t hb2 hm2;go_upto_region 6 with fail
 go_cut [32] (fun s wx=>s=.bool true/\wx=K.drew)
 case first=>
  go_region
  all_goals
   go_wp2_with fail;go_meet;exact⟨rfl,rfl⟩
 obtain⟨rfl,m⟩:=hcut;revert m;generalize f:K.drew=W3;intro m;obtain rfl:=m;have T:Hi (LruAt wc b c B (ks++[(a,v)])):=Z (by rw[<-f];exact N.o.keep rfl rfl)
 have U:Hi (Touch (fun i=>i=b\/i=B) w wc):=Z (by rw[<-f];exact QbY ((Touch.of_below I.o).trans R.o (fun g hg=>.inl hg)))
 have z:Hi (Jh wc (w.heap.size+1) #[Ju 0,Ju 0] 58):=Z (by rw[<-f];exact l.o)
 clear f N R l r0 r1 fr0 fr1 d0 d1 y D q0 q1;obtain⟨⟨r0,r1⟩,fr0,fr1⟩:=Qax z.o;have J:=Z (QqP z.o (Ju 0) (Ju 0));go_wp2_with fail;refine Qau (A:=(Ja (w.heap.size+1) 0)) rfl (Qrk _ _ _ _ _ J.o) rfl rfl rfl ?_;exact⟨rfl,T.o.keep (QbH (by have:=p.o.1;omega)) (QbH (by have:=p.o.2;omega)),Qaj (a:=(Ja (w.heap.size+1) 1)) _ (Qaj (a:=(Ja (w.heap.size+1) 0)) _ U.o (.inr (by show w.heap.size<=w.heap.size+1;omega))) (.inr (by show w.heap.size<=w.heap.size+1;omega))⟩
end
section
def QdB(l:List Key):JV:=l.flatMap fun k=>[Ju (k.1:Nat),Ju (k.2:Nat)]
theorem QhX(l:List Key):(QdB l).length=l.length*2:=by
 induction l with
 |nil=>rfl
 |cons x r ih=>
  unfold QdB at ih ⊢;rw[List.flatMap_cons,qG,ih,qH,qH,qH,List.length_nil];omega
theorem QhY(a b:List Key):QdB (a++b)=QdB a++QdB b:=by unfold QdB;rw[List.flatMap_append]
theorem QnX(l:List Key)(j:Nat)(h:j<l.length):(QdB l)[j*2]?=some (Ju l[j].1)/\(QdB l)[j*2+1]?=some (Ju l[j].2):=by
 have a:l=l.take j++l[j] :: l.drop (j+1):=by rw[<-List.drop_eq_getElem_cons h,List.take_append_drop]
 have hlen:(QdB (l.take j)).length=j*2:=by rw[QhX,qW,Nat.min_eq_left (Nat.le_of_lt h)]
 have e:QdB l=QdB (l.take j)++([Ju l[j].1,Ju l[j].2]++QdB (l.drop (j+1))):=by
  conv=>lhs;rw[a]
  rw[QhY];rfl
 rw[e];refine⟨?_,?_⟩
 ·rw[List.getElem?_append_right (by omega),hlen,Nat.sub_self];rfl
 ·rw[List.getElem?_append_right (by omega),hlen,Nat.add_sub_cancel_left];rfl
theorem Qrq:(prog.info? 58).map (fun i=>(i.zero,i.size,i.bytes))=some (some (.agg #[Ju 0,Ju 0]),2,16):=by kernel_rfl
theorem QsU(c d f b a:Int)(w:World):(Instr.field 268 (.agg #[Ji c,Ju d,Ju f,Ju b,Ju a]) 2).run prog w=.ok (.agg #[Ju b,Ju a]) w:=by kernel_rfl
theorem Qwh(v:Value)(n b:Nat)(a:Option Addr)(c:v=.slice a n b)(d:n<=b)(w:World):Calls prog 141 #[v] w (JS (.slice a n n) w):=by
 subst c;have f:(n:Int)<=(b:Int):=by omega
 go_enter func141,ntmps141;go_wp2;go_ret;exact⟨rfl,rfl⟩
theorem QxI{w:World}{b0 n:Nat}{v:Value}{l:List Key}(h:w.ownsRow b0 58 2 v n (QdB l))(k:Nat)(b:k<l.length):∃g c,v = Jl g n c/\b0<=g/\g<w.heap.size/\w.cell? (Ja g (k*2))=some (Ju l[k].1)/\w.cell? (Ja g (k*2+1))=some (Ju l[k].2):=by
 rcases id h.2 with⟨-,h0⟩|⟨g,cap,cur,rfl,-⟩
 ·have:=h.1;rw[QhX] at this;omega
 ·obtain⟨x,y⟩:=QnX l k b
  have a:∀i,((Ja g 0):Addr).add i=(Ja g i):=fun i=>by unfold Addr.add;split<;>simp_all
  have key:∀i u,(QdB l)[i]?=some u->w.cell? (Ja g i)=some u:=fun i u hu=>by
   have:=h.cells (g:=g) rfl i u hu
   rwa[a] at this
  exact⟨g,cap,rfl,(h.lt g rfl).1,(h.lt g rfl).2,key _ _ x,key _ _ y⟩
theorem Qy8{ks:List (Key×Int)}{g:Key->Option Qdl}{b new:Key}(h:LinkOk ks g b new)(j:Nat)(c:j+1<ks.length):∃x o,g (ks[j]'(by omega)).1=some (x,o,ks[j+1].1):=by
 have a:j<ks.length:=by omega
 obtain⟨o,n,h1,-,h3⟩:=h.mid (ks.take j) (ks[j]'a) (ks.drop (j+1)) (by rw[<-List.drop_eq_getElem_cons a,List.take_append_drop])
 have:=h3 ks[j+1] (by rw[List.head?_drop,qU c])
 rw[this] at h1;exact⟨_,o,h1⟩
theorem Qs8{ks:List (Key×Int)}{g:Key->Option Qdl}{a new:Key}(h:LinkOk ks g a new)(b:0<ks.length):a=ks[0].1:=h.first ks[0] (by rw[List.head?_eq_getElem?,qU b])
theorem QyU{w:World}{b H l:Nat}{ks:List (Key×Int)}(h:LruAt w b H l ks)(hn:ks.length<=1000):Calls prog 90 #[Jp b] w fun e w'=>∃v,e=.returned v/\HoldsR 2 w' v ks.length (QdB (ks.map (·.1)))/\Jw w w':=by
 obtain⟨g,old,new,h1,h2,h3⟩:=h;have HC:=Z (fun (W:World) (a:Jw w W)=>Qv9 (Qad h1 a) (h2.keep (a.block l h2.lt)))
 have HB:=Z h1;have O:=Z h2;have HL:=Z h3;have qc:=QsU;obtain⟨K,hK⟩:∃K,ks.map (·.1)=K:=⟨_,rfl⟩
 have J:K.length=ks.length:=by rw[<-hK,qQ]
 have D:∀j (hj:j<ks.length) (S:j<K.length),K[j]=ks[j].1:=fun j hj S=>by subst hK;rw[List.getElem_map]
 have G:=Z D;rw[hK];have c:=Z J;clear h1 h2 h3 J D hK;have C:=HC.o w (qF _ _);go_enter func90,ntmps90;go_wp2_with fail;refine C.mono ?_;rintro e M ⟨rfl,E⟩;obtain rfl:=E.symm;clear E C;go_wp2_with fail;go_loopw [3,8] (fun u i wr=>∃k:Nat,k<=ks.length/\i = Ji k/\wr.ownsRow w.heap.size 58 2 u k (QdB (K.take k))/\Jw w wr) (fun _ i _=>ks.length-(intOf i).toNat)
 case atStart=>exact⟨0,by omega,rfl,JZ _ _ _ _,qF _ _⟩
 case round=>
  obtain⟨k,hk,rfl,QE2,a⟩:=hrel
  by_cases m:k<ks.length
  ·have d:QdB (K.take (k+1))=QdB (K.take k)++[Ju ((K[k]'(by have:=c.o;omega)).1:Nat),Ju ((K[k]'(by have:=c.o;omega)).2:Nat)]:=by rw[qV (by have:=c.o;omega),QhY];rfl
   rw[G.o k m (by have:=c.o;omega)] at d
   obtain⟨X,hX⟩:∃X,ks[k].1=X:=⟨_,rfl⟩;rw[hX] at d;have A:=Z d;have n:=Z (Qad HB.o a);obtain⟨⟨-,c1,c2,c3,-⟩,-⟩:=Qay n.o;have N:=Z (a.block l O.o.lt);cases k with
   |zero=>
    have U:=Qs8 HL.o m;rw[hX] at U;obtain rfl:=U;obtain⟨n0,n1⟩:=QaK wr (Ju old.1) (Ju old.2) 58;have f:Hi (Jw w (wr.alloc (.cells #[Ju old.1,Ju old.2] 58))):=Z (a.alloc a.size _);have L:Hi ((wr.alloc (.cells #[Ju old.1,Ju old.2] 58)).ownsRow w.heap.size 58 2 u3 0 (QdB (K.take 0))):=Z (QE2.alloc _);clear d hX QE2 a;go_upto_region 8 with fail
    generalize wr.alloc (.cells #[Ju old.1,Ju old.2] 58)=W1 at n0 n1 f L ⊢;go_wp2_with (at_builtin;go_loud (refine Qdd 56 58 _ 2 16 underlying56 Qrq rfl (by decide) (by decide) W1 [Ju old.1,Ju old.2] rfl (by simp[Value.oneCell']) (by rfl) _ _ (by rfl) w.heap.size _ 0 _ (by rfl) L.o (by rfl) (by omega) f.o.size ?_);intro g' P M y r R)
    go_roundw
    case rel=>exact⟨1,by omega,by go_num,by rw[A.out];exact y,Qbu f.o r L.o (qC _) f.o.size⟩
    case measure=>simp[intOf];omega
   |succ j=>
    obtain⟨x,o,hgj⟩:=Qy8 HL.o j m;rw[hX] at hgj;obtain⟨Y,hY⟩:∃Y,(ks[j]'(by omega)).1=Y:=⟨_,rfl⟩
    rw[hY] at hgj;obtain⟨gk,ck,hv,hgk,hgl,y0,y1⟩:=QxI QE2 j (by rw[qW,c.o];omega)
    subst hv;rw[List.getElem_take,G.o j (by omega) (by have:=c.o;omega),hY] at y0 y1
    have L:Hi (wr.ownsRow w.heap.size 58 2 (Jl gk (j+1) ck) (j+1) (QdB (K.take (j+1)))):=Z QE2;have qb:=Z a;have HY:=Z hY;obtain⟨B,hB⟩:∃B,wr.heap.size=B:=⟨_,rfl⟩;have HN:Hi ((wr.alloc (.cells #[Ju old.1,Ju old.2] 58)).heap[wr.heap.size]?=some (.cells #[Ju old.1,Ju old.2] 58 (0,0))):=Z (JI wr _);have hne:gk≠wr.heap.size:=by omega
    have qa:=Z hne;have a0:(wr.alloc (.cells #[Ju old.1,Ju old.2] 58)).cell? (Ja gk (j*2))=some (Ju Y.1):=(((qF wr.heap.size wr).alloc (qC _) _).cell (p:=(Ja gk (j*2))) hgl).trans y0;have a1:(wr.alloc (.cells #[Ju old.1,Ju old.2] 58)).cell? (Ja gk (j*2+1))=some (Ju Y.2):=(((qF wr.heap.size wr).alloc (qC _) _).cell (p:=(Ja gk (j*2+1))) hgl).trans y1;have t:∀W:World,W.heap[l]?=wr.heap[l]?->(Instr.lookup 264 (.map (some l)) (.agg #[Ju Y.1,Ju Y.2]) false).run prog W=.ok (.agg #[Ji x,Ju o.1,Ju o.2,Ju X.1,Ju X.2]) W:=fun W hW=>by
     have V:=Qb2 O.o Y false (hW.trans N);rw[hgj] at V;exact V
    have s:(wr.alloc (.cells #[Ju old.1,Ju old.2] 58)).heap[l]?=wr.heap[l]?:=J5 wr _ (qK O.o.lt a.size);have b0:=t _ s;have b1:=t ((wr.alloc (.cells #[Ju old.1,Ju old.2] 58)).drew) s;obtain⟨⟨-,e1,-⟩,-⟩:=Qay ((J5 wr (.cells #[Ju old.1,Ju old.2] 58) (gsi n.o).1).trans n.o);obtain⟨⟨n0,n1⟩,fn0,fn1⟩:=Qax HN.o;have i0:(0:Int)<=(j:Int):=by omega
    have i1:(j:Int)<(j:Int)+1:=by omega
    have i2:IntKind.i64.wrap ((j:Int)+1-1)=(j:Int):=by rw[JR];omega
    have f:Hi (Jw w (((wr.alloc (.cells #[Ju X.1,Ju X.2] 58)).drew))):=Z (a.alloc a.size _).drew;have q:Hi (((wr.alloc (.cells #[Ju X.1,Ju X.2] 58)).drew).ownsRow w.heap.size 58 2 (Jl gk (j+1) ck) (j+1) (QdB (K.take (j+1)))):=Z (Qac (QE2.alloc (.cells #[Ju X.1,Ju X.2] 58)) (fun _ _=>rfl))
    clear d hX QE2 a hgj hY hB t s hne y0 y1;go_wp2_with fail;go_region
    all_goals
     have z:Hi (((wr.alloc (.cells #[Ju X.1,Ju X.2] 58)).drew).heap[wr.heap.size]?=some (.cells #[Ju X.1,Ju X.2] 58 (0,0))):=Z (JI wr _);generalize (wr.alloc (.cells #[Ju X.1,Ju X.2] 58)).drew=W1 at f q z ⊢;clear n0 n1 fn0 fn1 a0 a1 b0 b1 e1 c1 c2 c3 i0 i1 i2;obtain⟨⟨n0,n1⟩,-⟩:=Qax z.o;go_wp2_with (at_builtin;go_loud (refine Qdd 56 58 _ 2 16 underlying56 Qrq rfl (by decide) (by decide) W1 [Ju X.1,Ju X.2] rfl (by simp[Value.oneCell']) (by rfl) _ _ (by rfl) w.heap.size _ (j+1) _ (by rfl) q.o (by rfl) (by omega) f.o.size ?_);intro g' P M y r R)
     go_roundw
     case rel=>exact⟨j+1+1,by omega,by go_num,by rw[A.out];exact y,Qbu f.o r q.o (qC _) f.o.size⟩
     case measure=>simp[intOf];omega
  ·obtain rfl:k=ks.length:=by omega
   rw[qX (by rw[c.o];exact qC _)] at QE2
   have HH:=Z (HoldsR.of_own QE2);obtain⟨a',c',rfl⟩:=Qat QE2;have I:=Qwh (.slice a' ks.length c') ks.length c' a' rfl (by obtain⟨a2,c2,e1,e2⟩:=HH.o.len;cases e1;exact e2)
   have T:=Z a;clear QE2 a;go_wp2_with fail;refine (I _).mono ?_;rintro e M ⟨rfl,E⟩;obtain rfl:=E.symm;clear E I;go_wp2;go_ret;refine⟨_,rfl,?_,T.o⟩;obtain⟨g1,a2,c2,e1,e2,e3⟩:=HH.o;cases e1;exact⟨g1,_,_,rfl,qC _,e3⟩
end
section
structure ShZ(w0 w:World)(b lb mb rb most nx:Nat)(Zq:List (Key×Nat×List Ent)):Prop where
 blk:∃hi mi,ShB w b lb rb nx hi mi
 lru:LruAt w lb most mb (Zq.map fun z=>(z.1,(z.2.1:Int)))
 map:∃gr n,MapF (QcE .i64) (fun v:Value=>v) w rb gr n/\∀z∈Zq,∃v,gr z.2.1=some v/\w.ownsRow w0.heap.size 61 4 v z.2.2.length (Qan z.2.2)
 nm:(Zq.map (·.2.1)).Nodup
 nx:∀z∈Zq,z.2.1<=nx
 small:∀z∈Zq,z.2.2.length<=4096
 len:Zq.length<=most
 mst:most<=64
 ne:mb≠rb
 lo:w0.heap.size<=b/\w0.heap.size<=lb/\w0.heap.size<=mb/\w0.heap.size<=rb
def ShS(b lb mb rb i:Nat):Prop:=i=b\/(i=lb\/i=mb)\/i=rb
section
variable {w0 w w':World} {b lb mb rb most nx:Nat} {Zq:List (Key×Nat×List Ent)}
theorem ShZ.lts(h:ShZ w0 w b lb mb rb most nx Zq):b<w.heap.size/\lb<w.heap.size/\mb<w.heap.size/\rb<w.heap.size:=by
 obtain⟨hi,mi,hb⟩:=h.blk;obtain⟨gr,n,hm,-⟩:=h.map;exact⟨(gsi hb).1,h.lru.lt.1,h.lru.lt.2,hm.lt⟩
theorem ShZ.keep(h:ShZ w0 w b lb mb rb most nx Zq)(d:w'.heap[b]?=w.heap[b]?)(c:w'.heap[lb]?=w.heap[lb]?)(a:w'.heap[mb]?=w.heap[mb]?)(f:w'.heap[rb]?=w.heap[rb]?)(hx:∀(i:Nat) (C:JW),w.heap[i]?=some (.cells C 61 (0,0))->w'.heap[i]?=w.heap[i]?):ShZ w0 w' b lb mb rb most nx Zq where
 blk:=let ⟨hi,mi,k⟩:=h.blk;⟨hi,mi,d.trans k⟩
 lru:=h.lru.keep c a
 map:=let ⟨gr,n,k,kk⟩:=h.map;⟨gr,n,k.keep f,fun z hz=>let ⟨v,hv,ho⟩:=kk z hz;⟨v,hv,Qac ho (fun g hg=>let ⟨C,hC⟩:=Qa5 ho g hg;hx g C hC)⟩⟩
 nm:=h.nm
 nx:=h.nx
 small:=h.small
 len:=h.len
 mst:=h.mst
 ne:=h.ne
 lo:=h.lo
theorem ShZ.below(h:ShZ w0 w b lb mb rb most nx Zq)(a:Jw w w'):ShZ w0 w' b lb mb rb most nx Zq:=by
 obtain⟨l1,l2,l3,l4⟩:=h.lts;exact h.keep (a.block _ l1) (a.block _ l2) (a.block _ l3) (a.block _ l4) (fun i C hC=>a.block i (gsi hC).1)
theorem ShZ.far{S:Nat->Prop}(h:ShZ w0 w b lb mb rb most nx Zq)(a:Touch S w w')(f:¬S b)(c:¬S lb)(g:¬S mb)(d:¬S rb)(hx:∀(i:Nat) (C:JW),w.heap[i]?=some (.cells C 61 (0,0))->¬S i):ShZ w0 w' b lb mb rb most nx Zq:=by
 obtain⟨l1,l2,l3,l4⟩:=h.lts;exact h.keep (a.block _ l1 f) (a.block _ l2 c) (a.block _ l3 g) (a.block _ l4 d) (fun i C hC=>a.block i (gsi hC).1 (hx i C hC))
theorem ShZ.apart(h:ShZ w0 w b lb mb rb most nx Zq):b≠lb/\b≠mb/\b≠rb/\lb≠mb/\lb≠rb/\(∀(i:Nat) (C:JW),w.heap[i]?=some (.cells C 61 (0,0))->i≠b/\i≠lb/\i≠mb/\i≠rb):=by
 obtain⟨hi,mi,hb⟩:=h.blk;obtain⟨gr,n,hm,-⟩:=h.map;obtain⟨es,ck,hr⟩:=hm.blk;obtain⟨g,old,new,hl,hmm,-⟩:=h.lru;obtain⟨es2,ck2,hm2⟩:=hmm.blk;unfold ShB at hb;unfold LruB at hl;refine⟨fun e=>?_,fun e=>?_,fun e=>?_,fun e=>?_,fun e=>?_,fun i C hC=>⟨fun e=>?_,fun e=>?_,fun e=>?_,fun e=>?_⟩⟩
 ·rw[e,hl] at hb;simp only[J8,Obj.cells.injEq] at hb;exact JN hb.2.1 (by decide)
 ·rw[e,hm2] at hb;cases hb
 ·rw[e,hr] at hb;cases hb
 ·rw[e,hm2] at hl;cases hl
 ·rw[e,hr] at hl;cases hl
 ·rw[e,hb] at hC;simp only[J8,Obj.cells.injEq] at hC;exact JN hC.2.1 (by decide)
 ·rw[e,hl] at hC;simp only[J8,Obj.cells.injEq] at hC;exact JN hC.2.1 (by decide)
 ·rw[e,hm2] at hC;cases hC
 ·rw[e,hr] at hC;cases hC
end
theorem QmL(w:World)(a:Option Addr)(n c b d:Nat):(binOp .eql 51 (.slice a n c) (.slice none b d)).run prog w=.ok (.bool a.isNone) w:=Lib.run_eql_slice_nil w _ _ a n c b d underlying51
theorem QkF(w:World):Calls prog 64 #[.slice none 0 0] w (JS (.slice none 0 0) w):=by
 have q:=QmL;go_enter func64,ntmps64;go_wp2;go_ret;exact⟨rfl,rfl⟩
def Qm0(l:List Ent)(w:World)(e:Ending)(w':World):Prop:=
 ∃a c,e=.returned (.slice a l.length c)/\w'.ownsRow w.heap.size 61 4 (.slice a l.length c) l.length (Qan l)/\Jw w w'
theorem QhA(v:Value)(b0:Nat)(l:List Ent)(w:World)(h:w.ownsRow b0 61 4 v l.length (Qan l))(x:l.length<=1000000) :
  Calls prog 64 #[v] w (Qm0 l w):=by
 rcases id h.2 with⟨rfl,h0⟩|⟨g,cap,cur,rfl,-⟩
 ·refine (QkF w).mono ?_
  rintro e w' ⟨rfl,p⟩;subst p;obtain rfl:l = []:=List.length_eq_zero_iff.1 h0;exact⟨_,_,rfl,JZ _ _ _ _,qF _ _⟩
 ·have q:=QmL
  obtain⟨i0,hi,hz0,hz1,hz2⟩:=info_parts QmA;have n:=Z (h.cells (g:=g) rfl);have i:=Z (Qbg l);have m:=Z (Qon l);obtain⟨E,hE⟩:∃E,Qan l=E:=⟨_,rfl⟩;rw[hE] at n i m;have A:=Z hE;obtain⟨N,hN⟩:∃N,l.length=N:=⟨_,rfl⟩;rw[hN] at i x ⊢;have y:=Z hN;clear h hE hN;go_enter func64,ntmps64;go_wp2_with (at_builtin;refine wpList_append_own _ rfl _ _ 51 rfl w.heap.size 61 i0 (.agg #[Ju 0,Ju 0,Jd 0,Jd 0]) 4 24 underlying51 hi hz0 hz1 hz2 rfl (by decide) _ _ _ rfl (World.ownsRow_made w #[] 0 (qC _) (qL _) rfl) (Ja g 0) N cap E rfl ?qc1 ?qc2 ?qc3 ?qc4 ?qc5 ?qc6 ?_)
  case qc1=>exact i.o
  case qc2=>exact fun j u hj=>Lib.cell?_alloc_some _ (n.o j u hj)
  case qc3=>exact m.o
  case qc4=>unfold maxLen;omega
  case qc5=>omega
  case qc6=>simp
  intro t r d f z;have b:r.ownsRow w.heap.size 61 4 t N E:=by simpa using d
  go_wp2;go_ret;obtain⟨a,c,hv⟩:=Qat b;subst hv;unfold Qm0;rw[y.o,A.o];exact⟨a,c,rfl,b,((qF _ w).alloc (qC _) _).grown f (by simp) (by intro k s;simp[Value.ownBlock] at s;omega)⟩
theorem QkS{w0 w:World}{b lb i j a k:Nat}{d:List (Key×Nat×List Ent)}(h:ShZ w0 w b lb i j a k d):Calls prog 41 #[Jp b] w fun e w'=>∃v,e=.returned v/\HoldsR 2 w' v d.length (QdB (d.map (·.1)))/\Jw w w':=by
 obtain⟨hi,mi,hb⟩:=h.blk;obtain⟨⟨c0,-⟩,-⟩:=Qap hb;have c:=QyU h.lru (by rw[qQ];have:=h.len;have:=h.mst;omega)
 rw[qQ,List.map_map] at c;have c:=Z c;clear h hb;go_enter func41,ntmps41;go_wp2_with fail;refine c.o.mono ?_;rintro e l ⟨v,rfl,g,f⟩;have H:=Z (qE g f);clear g f c0;go_wp2;go_ret;exact⟨v,rfl,H.out.1,H.out.2⟩
end
section
theorem Qmz:KeyT prog 3 (QcE .i64):=Qrc .i64 .i64 underlying3
section
variable {w0 w:World} {b lb mb rb most nx:Nat} {Zq:List (Key×Nat×List Ent)}
theorem ShZ.cellL(h:ShZ w0 w b lb mb rb most nx Zq){W:World}(a:Jw w W):W.cell? (Ja b 0)=some (Jp lb):=by
 obtain⟨hi,mi,hb⟩:=(h.below a).blk;exact (Qap hb).1.1
theorem Qiy{w c:World}{a:Key}{b lb:Nat}(h:∀W,Jw w W->Jx W b 0 (Jp lb))(d:Jw w c){k:Nat}(g:c.heap[k]?=some (.cells #[Ju a.1,Ju a.2] 58 (0,0))){W:World}(f:Jw c W) :
  W.cell? (Ja b 0)=some (Jp lb)/\W.cell? (Ja k 0)=some (Ju a.1)/\W.cell? (Ja k 1)=some (Ju a.2):=
 ⟨h W (Qaa d f),(Qax (Qad g f)).1⟩
theorem QlT(h:ShZ w0 w b lb mb rb most nx Zq)(a:Key)(m:a∉Zq.map (·.1)):Calls prog 137 #[Jp b,.agg #[Ju a.1,Ju a.2]] w (JB (.tuple #[]) w):=by
 have k:a∉(Zq.map fun z=>(z.1,(z.2.1:Int))).map (·.1):=by rw[List.map_map];exact m
 have q:=Z (fun (W:World) (c:Jw w W)=>QpO (h.lru.below c) a k)
 have r:=Z (fun (W:World) (c:Jw w W)=>h.cellL c)
 have f:=Qao w (Ju a.1) (Ju a.2) 58;obtain⟨k0,k1⟩:=QaK w (Ju a.1) (Ju a.2) 58;have i:=Z (fun (W:World) (c:Below (w.alloc (.cells #[Ju a.1,Ju a.2] 58)).heap.size (w.alloc (.cells #[Ju a.1,Ju a.2] 58)) W)=>Qiy (a:=a) (fun W c=>h.cellL c) f (JI w (.cells #[Ju a.1,Ju a.2] 58)) c)
 have d:=Z f;clear h m k f;have t:=(i.o _ (qF _ _)).1;go_enter func137,ntmps137;go_wp2_with fail;generalize w.alloc (.cells #[Ju a.1,Ju a.2] 58)=W0 at i d t k0 k1 ⊢;have l:=Z (q.o _ (Qaa d.o (qF _ W0).drew));generalize p:w.heap.size=K at i k0 k1 ⊢;have s:=Z p;have n:Hi (Jw W0 W0.drew):=Z (qF _ _).drew;clear p q r;go_region_held3 (fun w'=>Jx w' b 0 (Jp lb)/\Jx w' K 0 (Ju a.1)/\Jx w' K 1 (Ju a.2)) (first|exact i.o _ n.o|exact i.o _ j.o)
  (first
   |(go_at_call 181;refine l.o.mono ?_;rintro e v ⟨rfl,g⟩;have j:Hi (Jw W0 v):=Z (Qaa n.o g);clear g))
 all_goals
  go_wp2_with fail
  first|go_end0|refine bodyPost_ret (results_none rfl _ _ _) rfl ?_
  exact⟨rfl,Qaa d.o j.o⟩
theorem Qsr{A B:List (Key×Nat×List Ent)}{z:Key×Nat×List Ent}(h:ShZ w0 w b lb mb rb most nx (A++z :: B)):Calls prog 137 #[Jp b,.agg #[Ju z.1.1,Ju z.1.2]] w fun e w'=>e=.returned (.tuple #[])/\ShZ w0 w' b lb mb rb most nx (A++B)/\Touch (ShS b lb mb rb) w w':=by
 obtain⟨a,s,la⟩:=z;have R:∀(W:World),ShZ w0 W b lb mb rb most nx (A++(a,s,la) :: B)->LruAt W lb most mb (A.map (fun z=>(z.1,(z.2.1:Int)))++(a,(s:Int)) :: B.map (fun z=>(z.1,(z.2.1:Int))))  :=fun W k=>by
  have:=k.lru
  rwa[qY,J0] at this
 have p:=Qao w (Ju a.1) (Ju a.2) 58;obtain⟨k0,k1⟩:=QaK w (Ju a.1) (Ju a.2) 58;have I:=Z (fun (W:World) (hW:Below (w.alloc (.cells #[Ju a.1,Ju a.2] 58)).heap.size (w.alloc (.cells #[Ju a.1,Ju a.2] 58)) W)=>Qiy (a:=a) (fun W hW=>h.cellL hW) p (JI w (.cells #[Ju a.1,Ju a.2] 58)) hW)
 have HK:=Z (JI w (.cells #[Ju a.1,Ju a.2] 58));have H0:=Z (h.below p);have t:=Z h.lts;have M:=Z p;have HL:=Z R;clear h p R;have J:=(I.o _ (qF _ _)).1;go_enter func137,ntmps137;go_wp2_with fail;generalize w.alloc (.cells #[Ju a.1,Ju a.2] 58)=W0 at I M HK H0 J k0 k1 ⊢;have L:Hi (Jw W0 W0.drew):=Z (qF _ _).drew;have Y:=Z (QnQ (HL.o _ (H0.o.below L.o)));generalize hK:w.heap.size=K at I HK t k0 k1 ⊢;have qk:=Z hK;clear hK;go_upto_region 1 with fail
 go_cut [4,5] (fun s4 s5 wx=>s4 = Ji s/\s5=.bool true/\Jw W0 wx)
 case first=>
  go_region_held3 (fun w'=>Jx w' b 0 (Jp lb)/\Jx w' K 0 (Ju a.1)/\Jx w' K 1 (Ju a.2)) (first|exact I.o _ L.o|exact I.o _ qa.o)
   (first
    |(go_at_call 181;refine Y.o.mono ?_;rintro e H ⟨rfl,O⟩;have qa:Hi (Jw W0 H):=Z (Qaa L.o O);clear O))
  all_goals
   go_wp2_with fail;go_meet;exact⟨rfl,rfl,qa.o⟩
 obtain⟨rfl,rfl,hX⟩:=hcut;have j:=Z (H0.o.below hX);have y:=Z (Qad HK.o hX);have qd:=Z hX;clear hX Y J k0 k1 L I HK;obtain⟨f,mi,hb1⟩:=j.o.blk;obtain⟨⟨J,c1,-⟩,-⟩:=Qap hb1;obtain⟨⟨k0,k1⟩,-⟩:=Qax y.o;obtain⟨gr,n,hm,QE8⟩:=j.o.map;obtain⟨ob,G,hm2⟩:=hm.drop Qmz underlying203 s 0;have G:(Builtin.delete_ #[203,3] 0 #[.map (some rb),Ji s]).run prog wc=.ok (.tuple #[]) (Qar wc rb ob):=G;have l:=Z hm2;have HR:=Z QE8;have U:=Z hb1;have d:=Z j.o.apart;clear hb1 hm QE8 hm2;have c:=Z (qE j.o.nm (qE j.o.nx (qE j.o.small (qE j.o.len (qE j.o.mst (qE j.o.ne j.o.lo))))));have V:=Z (HL.o _ j.o);go_upto_region 4 with fail
 have q:=Z ((Qam wc rb ob b (fun e=>d.o.2.2.1 e)).trans U.o)
 have N:=Z (V.o.keep (Qam wc rb ob lb (fun e=>d.o.2.2.2.2.1 e)) (Qam wc rb ob mb (fun e=>c.o.2.2.2.2.2.1 e)))
 have qf:K≠rb:=by have:=t.o;omega
 have m:=Z ((Qam wc rb ob K qf).trans y.o);have P:Hi (∀z∈A++B,∃v,(if z.2.1=s then none else gr z.2.1)=some v/\(Qar wc rb ob).ownsRow w0.heap.size 61 4 v z.2.2.length (Qan z.2.2)):=Z (fun z hz=>by
  have qi:z∈A++(a,s,la) :: B:=by
   rcases List.mem_append.1 hz with h1|h1
   ·exact List.mem_append_left _ h1
   ·exact List.mem_append_right _ (JY _ h1)
  obtain⟨v,hv,ho⟩:=HR.o z qi;have hne:z.2.1≠s:=by
   have E:=c.o.1;rw[qY,J0,List.nodup_append,List.nodup_cons] at E;rcases List.mem_append.1 hz with h1|h1
   ·exact E.2.2 _ (List.mem_map.2 ⟨z,h1,rfl⟩) _ JF
   ·exact fun e=>E.2.1.1 (by rw[<-e];exact List.mem_map.2 ⟨z,h1,rfl⟩)
  exact⟨v,by rw[JJ hne];exact hv,Qac ho (fun g hg=>by
   obtain⟨C,hC⟩:=Qa5 ho g hg;exact Qam wc rb ob g (d.o.2.2.2.2.2 g C hC).2.2.2)⟩)
 have qb:Hi (Touch (ShS b lb mb rb) w (Qar wc rb ob)):=Z ((Touch.of_below (Qaa M.o qd.o)).trans (S':=fun i=>i=rb) ⟨rfl,rfl,rfl,by rw[QdA];exact qC _,fun i _ f=>Qam wc rb ob i f⟩ (fun i f=>.inl (.inr (.inr f))))
 have D:Hi (∀i C,(Qar wc rb ob).heap[i]?=some (.cells C 61 (0,0))->i≠lb/\i≠mb):=Z (fun i C hC=>by
  by_cases f:i=rb
  ·rw[f] at hC
   obtain⟨es,ck,hm⟩:=l.o.blk;rw[hm] at hC;cases hC
  ·rw[Qam wc rb ob i f] at hC
   exact⟨(d.o.2.2.2.2.2 i C hC).2.1,(d.o.2.2.2.2.2 i C hC).2.2.1⟩)
 generalize Qar wc rb ob=W2 at l q N m P qb D ⊢;clear G J c1 k0 k1 j y U V HR;obtain⟨⟨J,c1,-⟩,-⟩:=Qap q.o;obtain⟨⟨k0,k1⟩,-⟩:=Qax m.o;have L:Hi (Jw W2 W2.drew):=Z (qF _ _).drew;have HC:=Z (QyV (w:=W2.drew) (N.o.keep rfl rfl));have qj:Hi (Jx W2.drew b 0 (Jp lb)/\Jx W2.drew K 0 (Ju a.1)/\Jx W2.drew K 1 (Ju a.2)):=Z ⟨J,k0,k1⟩;go_region_held3 (fun w'=>Jx w' b 0 (Jp lb)/\Jx w' K 0 (Ju a.1)/\Jx w' K 1 (Ju a.2)) (first|exact qj.o|exact qe.o)
  (first
   |(go_at_call 182;refine HC.o.mono ?_;rintro e H ⟨rfl,T,r⟩;have qh:=Z T;have qc:=Z r;have X:Hi (ShB H b lb rb nx f mi):=Z ((r.block b (gsi q.o).1 (by rintro (e|e);exact d.o.1 e;exact d.o.2.1 e)).trans q.o);have qg:=Z ((r.block K (gsi m.o).1 (by have:=t.o;rintro (e|e)<;>omega)).trans m.o);have qe:Hi (Jx H b 0 (Jp lb)/\Jx H K 0 (Ju a.1)/\Jx H K 1 (Ju a.2)):=Z ⟨(Qap X.o).1.1,(Qax qg.o).1⟩;clear T r))
 all_goals
  go_wp2_with fail
  first|go_end0|refine bodyPost_ret (results_none rfl _ _ _) rfl ?_
  have x:Touch (fun i=>i=lb\/i=mb) W2 H:=(Touch.of_below (S:=fun i=>i=lb\/i=mb) L.o).trans qc.o (fun i f=>.inl f)
  refine⟨rfl,⟨⟨f,mi,X.o⟩,?_,⟨_,_,l.o.keep (x.block rb l.o.lt ?_),fun z hz=>?_⟩,?_,?_,?_,?_,c.o.2.2.2.2.1,c.o.2.2.2.2.2.1,c.o.2.2.2.2.2.2⟩,qb.o.trans x (fun i f=>.inl (.inr (.inl f)))⟩
  ·have:=qh.o
   rw[<-qY] at this;exact this
  ·rintro (e|e)
   ·exact d.o.2.2.2.2.1 e.symm
   ·exact c.o.2.2.2.2.2.1 e.symm
  ·obtain⟨v,hv,ho⟩:=P.o z hz
   exact⟨v,hv,Qac ho (fun g hg=>by
    obtain⟨C,hC⟩:=Qa5 ho g hg;exact x.block g (ho.lt g hg).2 (by rintro (e|e);exact (D.o g C hC).1 e;exact (D.o g C hC).2 e))⟩
  ·have:=c.o.1
   rw[qY,J0] at this;rw[qY];exact this.sublist ((List.Sublist.refl _).append (List.sublist_cons_self _ _))
  ·exact fun z hz=>c.o.2.1 z (by rcases List.mem_append.1 hz with h1|h1;exact List.mem_append_left _ h1;exact List.mem_append_right _ (JY _ h1))
  ·exact fun z hz=>c.o.2.2.1 z (by rcases List.mem_append.1 hz with h1|h1;exact List.mem_append_left _ h1;exact List.mem_append_right _ (JY _ h1))
  ·have:=c.o.2.2.2.1
   rw[qG,qH] at this;rw[qG];omega
end
end
section
theorem Quh(w:World):(zeroValue 51).run prog w=.ok (.slice none 0 0) w:=by kernel_rfl
theorem Qtt{w:World}{b:Nat}{a f g h d:Value}{t:JT}(k:w.heap[b]?=some (.cells #[a,f,g,h,d] t (0,0)))(c:Value):(w.setCell (Ja b 3) c).heap[b]?=some (.cells #[a,f,g,c,d] t (0,0)):=by
 simp[World.setCell,J6,k]
theorem Qts{w:World}{b:Nat}{a d c f h:Value}{t:JT}(k:w.heap[b]?=some (.cells #[a,d,c,f,h] t (0,0)))(g:Value):(w.setCell (Ja b 4) g).heap[b]?=some (.cells #[a,d,c,f,g] t (0,0)):=by
 simp[World.setCell,J6,k]
theorem Qtu{w:World}{b:Nat}{a d h f c:Value}{t:JT}(k:w.heap[b]?=some (.cells #[a,d,h,f,c] t (0,0)))(g:Value):(w.setCell (Ja b 2) g).heap[b]?=some (.cells #[a,d,g,f,c] t (0,0)):=by
 simp[World.setCell,J6,k]
theorem QaM{w:World}{c a:Nat}{e:JT}{s n:Nat}{v:Value}{x:JV}(h:w.ownsRow c e s v n x)(d:a<=c):w.ownsRow a e s v n x:=by
 refine⟨h.1,?_⟩;rcases h.2 with h0|⟨b,cap,cur,e1,e2,e3⟩
 ·exact .inl h0
 ·exact .inr ⟨b,cap,cur,e1,qD d e2,e3⟩
section
variable {w0 w:World} {b lb mb rb most nx:Nat} {Zq:List (Key×Nat×List Ent)}
theorem ShZ.count(h:ShZ w0 w b lb mb rb most nx Zq)(i:Nat)(x:Int)(c:i=3\/i=4):ShZ w0 (w.setCell (Ja b i) (Ji x)) b lb mb rb most nx Zq:=by
 obtain⟨a1,a2,a3,-,-,a6⟩:=h.apart;have a:∀j,j≠b->(w.setCell (Ja b i) (Ji x)).heap[j]?=w.heap[j]?:=fun j hj=>JO _ _ _ _ hj
 refine⟨?_,h.lru.keep (a _ a1.symm) (a _ a2.symm),?_,h.nm,h.nx,h.small,h.len,h.mst,h.ne,h.lo⟩
 ·obtain⟨p,q,hb⟩:=h.blk
  rcases c with rfl|rfl
  ·exact⟨x,q,Qtt hb _⟩
  ·exact⟨p,x,Qts hb _⟩
 ·obtain⟨gr,n,k,kk⟩:=h.map
  exact⟨gr,n,k.keep (a _ a3.symm),fun z hz=>let ⟨v,hv,ho⟩:=kk z hz;⟨v,hv,Qac ho (fun g hg=>let ⟨C,hC⟩:=Qa5 ho g hg;a g (a6 g C hC).1)⟩⟩
theorem QlS(h:ShZ w0 w b lb mb rb most nx Zq)(a:Key)(r:a∉Zq.map (·.1)):Calls prog 88 #[Jp b,.agg #[Ju a.1,Ju a.2]] w fun e w'=>e=.returned (.tuple #[.slice none 0 0,.bool false])/\ShZ w0 w' b lb mb rb most nx Zq/\Touch (ShS b lb mb rb) w w':=by
 have k:a∉(Zq.map fun z=>(z.1,(z.2.1:Int))).map (·.1):=by rw[List.map_map];exact r
 have c:=Qao w (Ju a.1) (Ju a.2) 58;obtain⟨k0,k1⟩:=QaK w (Ju a.1) (Ju a.2) 58;have d:=Z (fun (W:World) (m:Below (w.alloc (.cells #[Ju a.1,Ju a.2] 58)).heap.size (w.alloc (.cells #[Ju a.1,Ju a.2] 58)) W)=>Qiy (a:=a) (fun W m=>h.cellL m) c (JI w (.cells #[Ju a.1,Ju a.2] 58)) m)
 have n:=Z (h.below c);have HA:=Z k;have i:=Z c;clear h r k c;have q:=(d.o _ (qF _ _)).1;go_enter func88,ntmps88;go_wp2_with fail;generalize w.alloc (.cells #[Ju a.1,Ju a.2] 58)=W0 at d i n q k0 k1 ⊢;have l:Hi (Jw W0 W0.drew):=Z (qF _ _).drew;have g:=Z (Qs1 (w:=W0.drew) (n.o.below l.o).lru a HA.o);generalize s:w.heap.size=K at d k0 k1 ⊢;clear s;go_upto_region 3 with fail
 go_cut [6,7] (fun s6 s7 wx=>s6 = Ji 0/\s7=.bool false/\Jw W0 wx)
 case first=>
  go_region_held3 (fun w'=>Jx w' b 0 (Jp lb)/\Jx w' K 0 (Ju a.1)/\Jx w' K 1 (Ju a.2)) (first|exact d.o _ l.o|exact d.o _ j.o)
   (first
    |(go_at_call 135;refine g.o.mono ?_;rintro e t ⟨rfl,f⟩;have j:Hi (Jw W0 t):=Z (Qaa l.o f);clear f))
  all_goals
   go_wp2_with fail;go_meet;exact⟨rfl,rfl,j.o⟩
 obtain⟨rfl,rfl,hX⟩:=hcut;have p:=Z (n.o.below hX);have v:=Z (Touch.of_below (S:=ShS b lb mb rb) (Qaa i.o hX));clear hX g q k0 k1 l d;obtain⟨hi,mi,hb1⟩:=p.o.blk;obtain⟨⟨-,-,-,-,c4⟩,-,-,-,-,f4⟩:=Qap hb1;clear hb1;go_wp2;go_ret2;exact⟨rfl,p.o.count 4 _ (.inr rfl),Qaj (a:=(Ja b 4)) _ v.o (.inl (.inl rfl))⟩
def QAA(w0 w:World)(b lb mb rb most nx:Nat)(Zq:List (Key×Nat×List Ent))(l:List Ent)(e:Ending)(w':World):Prop:=
 ∃a c,e=.returned (.tuple #[.slice a l.length c,.bool true])/\w'.ownsRow w.heap.size 61 4 (.slice a l.length c) l.length (Qan l)/\ShZ w0 w' b lb mb rb most nx Zq/\Touch (ShS b lb mb rb) w w'
theorem Qsq{A B:List (Key×Nat×List Ent)}{z:Key×Nat×List Ent}(h:ShZ w0 w b lb mb rb most nx (A++z :: B))(O:w0.heap.size<=w.heap.size):Calls prog 88 #[Jp b,.agg #[Ju z.1.1,Ju z.1.2]] w (QAA w0 w b lb mb rb most nx (A++B++[z]) z.2.2):=by
 obtain⟨a,f,la⟩:=z;have G:∀(W:World),ShZ w0 W b lb mb rb most nx (A++(a,f,la) :: B)->LruAt W lb most mb (A.map (fun z=>(z.1,(z.2.1:Int)))++(a,(f:Int)) :: B.map (fun z=>(z.1,(z.2.1:Int)))):=fun W k=>by
  have:=k.lru
  rwa[qY,J0] at this
 have E:∀x,x∈A++B++[(a,f,la)]->x∈A++(a,f,la) :: B:=fun x hx=>by
  rw[qP,J1,J1,J2] at hx;rw[J1,List.mem_cons];rcases hx with l|l|l
  ·exact .inl l
  ·exact .inr (.inr l)
  ·exact .inr (.inl l)
 have r:=Z E;have m:=Qao w (Ju a.1) (Ju a.2) 58;obtain⟨k0,k1⟩:=QaK w (Ju a.1) (Ju a.2) 58;have I:=Z (fun (W:World) (X:Below (w.alloc (.cells #[Ju a.1,Ju a.2] 58)).heap.size (w.alloc (.cells #[Ju a.1,Ju a.2] 58)) W)=>Qiy (a:=a) (fun W X=>h.cellL X) m (JI w (.cells #[Ju a.1,Ju a.2] 58)) X)
 have L:=Z (JI w (.cells #[Ju a.1,Ju a.2] 58));have c:=Z (h.below m);have D:=Z (qE h.lts O);have y:=Z m;have HL:=Z G;have qc:la.length<=4096:=h.small (a,f,la) (by simp)
 clear h m G E O;have c0:=(I.o _ (qF _ _)).1;go_enter func88,ntmps88;go_wp2_with fail;generalize w.alloc (.cells #[Ju a.1,Ju a.2] 58)=W0 at I y L c c0 k0 k1 ⊢;have T:Hi (Jw W0 W0.drew):=Z (qF _ _).drew;have M:=Z (QB7 (w:=W0.drew) (HL.o _ (c.o.below T.o)));generalize hK:w.heap.size=K at I L D k0 k1 ⊢;have qb:=Z hK;clear hK;have d:=Z c.o.apart;go_upto_region 3 with fail
 go_cut [6,7] (fun s6 s7 wx=>s6 = Ji f/\s7=.bool true/\LruAt wx lb most mb (A.map (fun z=>(z.1,(z.2.1:Int)))++B.map (fun z=>(z.1,(z.2.1:Int)))++[(a,(f:Int))])/\Touch (fun i=>i=lb\/i=mb) W0 wx)
 case first=>
  go_region_held3 (fun w'=>Jx w' b 0 (Jp lb)/\Jx w' K 0 (Ju a.1)/\Jx w' K 1 (Ju a.2)) (first|exact I.o _ T.o|exact Y.o)
   (first
    |(go_at_call 135;refine M.o.mono ?_;rintro e wa ⟨rfl,H,N⟩;have qa:=Z H;have q:=Z ((Touch.of_below (S:=fun i=>i=lb\/i=mb) T.o).trans N (fun i hi=>.inl hi));have Y:Hi (Jx wa b 0 (Jp lb)/\Jx wa K 0 (Ju a.1)/\Jx wa K 1 (Ju a.2)):=Z (by obtain⟨hi,mi,hb⟩:=c.o.blk;exact⟨(Qap ((q.o.block b (gsi hb).1 (by rintro (e|e);exact d.o.1 e;exact d.o.2.1 e)).trans hb)).1.1,(Qax ((q.o.block K (gsi L.o).1 (by have:=D.o;rintro (e|e)<;>omega)).trans L.o)).1⟩);clear H N))
  all_goals
   go_wp2_with fail;go_meet;exact⟨rfl,rfl,qa.o,q.o⟩
 obtain⟨rfl,rfl,hX,hT⟩:=hcut;have H1:Hi (ShZ w0 wc b lb mb rb most nx (A++B++[(a,f,la)])):=Z (by
  obtain⟨hi,mi,hb⟩:=c.o.blk;obtain⟨gr,n,hm,hr⟩:=c.o.map;have s:∀j,j<W0.heap.size->j≠lb->j≠mb->wc.heap[j]?=W0.heap[j]?:=fun j hj l P=>hT.block j hj (by rintro (e|e);exact l e;exact P e)
  refine⟨⟨hi,mi,(s b (gsi hb).1 d.o.1 d.o.2.1).trans hb⟩,?_,⟨gr,n,hm.keep (s rb hm.lt (fun e=>d.o.2.2.2.2.1 e.symm) (fun e=>c.o.ne e.symm)),fun z hz=>?_⟩,?_,fun z hz=>c.o.nx z (r.o z hz),fun z hz=>c.o.small z (r.o z hz),?_,c.o.mst,c.o.ne,c.o.lo⟩
  ·rw[qY,qY]
   exact hX
  ·obtain⟨v,hv,ho⟩:=hr z (r.o z hz)
   exact⟨v,hv,Qac ho (fun g hg=>by
    obtain⟨C,hC⟩:=Qa5 ho g hg;exact s g (ho.lt g hg).2 (d.o.2.2.2.2.2 g C hC).2.1 (d.o.2.2.2.2.2 g C hC).2.2.1)⟩
  ·have J:=c.o.nm
   rw[qY,J0] at J;rw[qY,qY,qP];refine (List.Perm.nodup_iff ?_).1 J;refine List.Perm.append_left _ ?_;show ((a,f,la).2.1 :: B.map (·.2.1)).Perm (B.map (·.2.1)++[(a,f,la).2.1])
   exact (List.perm_append_singleton _ _).symm
  ·have:=c.o.len
   simp only[qG,qH,List.length_nil] at this ⊢;omega)
 have HT:=Z (((Touch.of_below (S:=ShS b lb mb rb) y.o).trans hT (fun i hi=>.inl (.inr (.inl hi)))))
 clear hX hT M c0 k0 k1 T I L c;obtain⟨hi,mi,hb1⟩:=H1.o.blk;obtain⟨⟨-,-,-,c3,-⟩,-,-,-,f3,-⟩:=Qap hb1;clear hb1;go_upto_region 8 with fail
 have R:=Z (H1.o.count 3 (wrap64 (hi+1)) (.inl rfl));have t:=Z (Qaj (a:=(Ja b 3)) (Ji (wrap64 (hi+1))) HT.o (.inl (.inl rfl)));generalize wc.setCell (Ja b 3) (Ji (wrap64 (hi+1)))=W3 at R t ⊢;clear c3 f3 H1 HT;obtain⟨hi3,mi3,hb3⟩:=R.o.blk;obtain⟨⟨-,c1,-,-,-⟩,-⟩:=Qap hb3;obtain⟨gr,n,hm,hr⟩:=R.o.map;obtain⟨v,hv,ho⟩:=hr (a,f,la) (by simp)
 have p:=hm.look Qmz underlying203 Quh f false;rw[hv] at p;have p:(Instr.lookup 203 (.map (some rb)) (Ji f) false).run prog W3=.ok v W3:=p;have HC:=Z (QhA v _ la W3 ho (by omega))
 clear hb3 hm hr hv ho;go_wp2_with fail;refine HC.o.mono ?_;rintro e w1 ⟨a1,U,rfl,l,P⟩;have V:=Z (qE l P);clear l P c1 p;go_wp2;go_ret2;refine⟨a1,U,rfl,QaM V.o.1 t.o.size,R.o.below V.o.2,t.o.trans (Touch.of_below V.o.2) (fun i hi=>.inl hi)⟩
end
end
section
theorem QlD:KeyT prog 43 (QcE .u64):=Qrc .u64 .u64 underlying43
theorem Qil(w:World):(zeroValue 3).run prog w=.ok (Ji 0) w:=by kernel_rfl
theorem QgE:(prog.info? 67).map (fun i=>(i.zero,i.size,i.bytes))=some (some (.agg #[Ju 0,Jt ⟨#[]⟩]),2,24):=by kernel_rfl
theorem QcS(w:World)(b:Nat)(t:JT)(a:Value)(h:w.heap[b]?=some (.cells #[a] t (0,0))):(loadVar 31 (Ja b 0)).run prog w=.ok (.agg #[a]) w:=
 run_loadVar_row w b t 31 #[a] (0,0) _ h underlying31 rfl (by kernel_rfl)
theorem QaF{w:World}{b:Nat}{a:Value}{t:JT}(k:w.heap[b]?=some (.cells #[a] t (0,0))):w.cell? (Ja b 0)=some a/\w.frozen? (Ja b 0)=false:=by
 refine⟨?_,?_⟩
 ·unfold World.cell?;rw[k];rfl
 ·unfold World.frozen?;rw[k];rfl
theorem Qcd{w:World}{b:Nat}{a:Value}{t:JT}(k:w.heap[b]?=some (.cells #[a] t (0,0)))(y:Value):(w.setCell (Ja b 0) y).heap[b]?=some (.cells #[y] t (0,0)):=by
 simp[World.setCell,J6,k]
def Qkl(i:Nat)(t:JA)(w:World)(e:Ending)(w':World):Prop:=
 ∃g c,e=.returned (.tuple #[.agg #[Jl g 1 c],Ji 0])/\w'.ownsRow w.heap.size 67 2 (Jl g 1 c) 1 [Ju i,Jt t]/\Jw w w'
def OfSt(i:Nat)(t:JA)(w W0:World)(u5 u12:Value)(wr:World):Prop:=
 (u5=.slice none 0 0/\u12 = Ji 0/\wr=W0)\/(∃g c,u5 = Jl g 1 c/\u12 = Ji 1/\wr.ownsRow (w.heap.size+1) 67 2 (Jl g 1 c) 1 [Ju i,Jt t]/\wr.heap[w.heap.size]?=some (.cells #[.slice none 0 0] 31 (0,0))/\Jw w wr)
theorem Qh6(i:Nat)(t:JA)(M:i<6004799503160661)(K:0<t.size)(L:t.size<=65536)(b o c:Nat)(w:World)(r:b<w.heap.size)(C:Jx w b o (Ju i))(B:Jx w b (o+1) (Jt t)):Calls prog 13 #[.slice (some (Ja b o)) 1 c] w (Qkl i t w):=by
 have G:=Z (fun W=>Qui i t M K L W)
 have T:∀(t:JT) (W:World),(Instr.makeMap t none).run prog W=.ok (.map (some W.heap.size)) (W.alloc (.map #[] 0)):=fun _ _=>rfl
 have d:Hi (Jw w ((w.alloc (.cells #[.slice none 0 0] 31)).alloc (.map #[] 0))):=Z (((qF _ _).alloc (qC _) _).alloc (by simp) _)
 have s:Hi (((w.alloc (.cells #[.slice none 0 0] 31)).alloc (.map #[] 0)).heap[w.heap.size]?=some (.cells #[.slice none 0 0] 31 (0,0))):=Z ((J5 _ _ (by simp)).trans (JI w _))
 have m:Hi (MapF (QcE .u64) (QcE .i64) ((w.alloc (.cells #[.slice none 0 0] 31)).alloc (.map #[] 0)) (w.heap.size+1) (fun _=>none) 0):=Z (by
  have:=Qre (QcE .u64) (QcE .i64) (w.alloc (.cells #[.slice none 0 0] 31))
  rwa[qJ] at this)
 have R:=Z (qE r (qE C B));clear M K L r C B;go_enter func13,ntmps13;go_wp2_with fail;generalize x:(w.alloc (.cells #[.slice none 0 0] 31)).alloc (.map #[] 0)=W0 at d s m ⊢;have n:Hi (W0.heap.size=w.heap.size+2):=Z (by rw[<-x];simp)
 clear x;go_loopw [5,12] (fun u5 u12 wr=>Hi (OfSt i t w W0 u5 u12 wr)) (fun _ u12 _=>1-(intOf u12).toNat)
 case atStart=>exact Z (.inl ⟨rfl,rfl,rfl⟩)
 case round=>
  rcases hrel.o with⟨rfl,rfl,rfl⟩|⟨g,cc,rfl,rfl,ho,hr,r⟩
  ·clear hrel
   obtain⟨hbl,d0,d1⟩:=R.o;have C:=(d.o.cell (p:=(Ja b o)) hbl).trans d0;have B:=(d.o.cell (p:=(Ja b (o+1))) hbl).trans d1;have z:=JI wr (.cells #[Ju i,Jt t] 67);have j:=m.o.keep (J5 wr (.cells #[Ju i,Jt t] 67) m.o.lt);have H:(Instr.lookup 117 (.map (some (w.heap.size+1))) (Ju i) false).run prog (wr.alloc (.cells #[Ju i,Jt t] 67))=.ok (Ji 0) (wr.alloc (.cells #[Ju i,Jt t] 67)):=j.look QlD underlying117 Qil i false;obtain⟨ob,h,hm2⟩:=j.put QlD underlying117 i 1;have h:(Instr.mapUpdate 117 (.map (some (w.heap.size+1))) (Ju i) (Ji 1)).run prog (wr.alloc (.cells #[Ju i,Jt t] 67))=.ok () (Qar (wr.alloc (.cells #[Ju i,Jt t] 67)) (w.heap.size+1) ob):=h;have v:(Instr.lookup 117 (.map (some (w.heap.size+1))) (Ju i) false).run prog (Qar (wr.alloc (.cells #[Ju i,Jt t] 67)) (w.heap.size+1) ob)=.ok (Ji 1) (Qar (wr.alloc (.cells #[Ju i,Jt t] 67)) (w.heap.size+1) ob):=by
    have:=hm2.look QlD underlying117 Qil i false;rw[JK rfl] at this;exact this
   obtain⟨⟨x0,x1⟩,-⟩:=Qax z;have hne:wr.heap.size≠w.heap.size+1:=by have:=n.o;omega
   obtain⟨⟨y0,y1⟩,-⟩:=Qax ((Qam (wr.alloc (.cells #[Ju i,Jt t] 67)) (w.heap.size+1) ob wr.heap.size hne).trans z);have N:=Z ((Qam (wr.alloc (.cells #[Ju i,Jt t] 67)) (w.heap.size+1) ob wr.heap.size hne).trans z);have l:Hi ((Qar (wr.alloc (.cells #[Ju i,Jt t] 67)) (w.heap.size+1) ob).heap[w.heap.size]?=some (.cells #[.slice none 0 0] 31 (0,0))):=Z ((Qam _ _ _ _ (by omega)).trans ((J5 _ _ (by have:=n.o;omega)).trans s.o))
   have q:Hi (Jw w (Qar (wr.alloc (.cells #[Ju i,Jt t] 67)) (w.heap.size+1) ob)):=Z ((d.o.alloc d.o.size _).trans ⟨rfl,rfl,rfl,by rw[QdA];exact qC _,fun k hk=>Qam _ _ _ _ (by omega)⟩)
   clear hbl d0 d1 z j hm2 hne;go_upto_region 9 with fail
   generalize Qar (wr.alloc (.cells #[Ju i,Jt t] 67)) (w.heap.size+1) ob=W2 at N l q v y0 y1 ⊢;clear H v h x0 x1 C B;go_wp2_with fail;refine (G.o _).mono ?_;rintro e O ⟨rfl,y⟩;obtain rfl:=y.symm;clear y;go_wp2_with (at_builtin;go_loud (refine Qdd 29 67 _ 2 24 underlying29 QgE rfl (by decide) (by decide) W2 [Ju i,Jt t] rfl (by simp[Value.oneCell']) (by rfl) _ _ (by rfl) (w.heap.size+1) _ 0 _ (by rfl) (JZ _ _ _ _) (by rfl) (by omega) (by have:=(gsi N.o).1;have:=n.o;omega) ?_);intro P D U J a S)
   go_roundw
   case rel=>
    refine Z (.inr ⟨P,D,rfl,rfl,J,?_,?_⟩)
    ·exact (a.block _ (gsi l.o).1 (by intro e;cases e)).trans l.o
    ·exact q.o.trans ⟨a.os,a.tape,a.output,a.size,fun k hk=>a.block k (qK hk q.o.size) (by intro e;cases e)⟩
   case measure=>simp[intOf]
  ·have f:=Z (qE ho (qE hr r))
   have I:=Z (fun W=>Qx8 (Jl g 1 cc) (.func (.func 44) #[] #[]) (some (Ja g 0)) cc rfl W)
   clear hrel ho hr r;obtain⟨r0,rf⟩:=QaF f.o.2.1;go_wp2_with fail;refine (I.o _).mono ?_;rintro e O ⟨rfl,y⟩;obtain rfl:=y.symm;clear y;have E:=Z (Qcd f.o.2.1 (Jl g 1 cc));go_wp2_with fail;refine Qau (A:=(Ja w.heap.size 0)) rfl (QcS _ _ _ _ E.o) rfl rfl rfl ?_;exact⟨g,cc,rfl,QaM (Qac f.o.1 (fun k hk=>JO _ _ _ _ (by have:=(f.o.1.lt k hk).1;show k≠w.heap.size;omega))) (by omega),f.o.2.2.trans ((qF _ _).setCell (p:=(Ja w.heap.size 0)) (qC _) _)⟩
theorem QqD(w:World)(v:Value)(t:JT):(w.alloc (.cells #[v] t)).cell? (Ja w.heap.size 0)=some v/\Jw w (w.alloc (.cells #[v] t)):=by
 refine⟨?_,(qF _ _).alloc (qC _) _⟩;unfold World.cell?;rw[JI];rfl
theorem Qxh(a:Option Addr)(n c:Nat)(w:World):Calls prog 72 #[.agg #[.slice a n c]] w (JB (Ji n) w):=by
 obtain⟨c0,hb⟩:=QqD w (.slice a n c) 31;have b:=Z hb;clear hb;go_enter func72,ntmps72;go_wp2;go_ret;exact⟨rfl,b.o⟩
def Qh9(i:Nat):Nat:=(Lib.bitLen (3*i+1)-1)/2
theorem Qo2(i:Nat)(l:i<6004799503160661)(w:World):Calls prog 122 #[Ju i] w (JS (Ji (Qh9 i:Nat)) w):=by
 have a:=Tryz.bits_Len64 ((3:Int)*(i:Int)+1) w (by omega) (by omega)
 have d:((3:Int)*(i:Int)+1).toNat=3*i+1:=by omega
 rw[d] at a;have f:1<=Lib.bitLen (3*i+1):=by
  rcases Nat.eq_zero_or_pos (Lib.bitLen (3*i+1)) with h0|h0
  ·exfalso
   rw[Lib.bitLen_half (3*i+1) (by omega) (by omega)] at h0
   omega
  ·exact h0
 have g:Lib.bitLen (3*i+1)<=64:=Lib.bitLen_le _ 64 (qC _) (by omega)
 have b:Hi (Qh9 i=(Lib.bitLen (3*i+1)-1)/2):=Z rfl;have k:decide ((6004799503160661:Int)<=(i:Int))=false:=qB (by omega)
 obtain⟨n,hn⟩:∃n,Lib.bitLen (3*i+1)=n:=⟨_,rfl⟩;rw[hn] at a f g b;obtain⟨Zq,hZ⟩:∃Zq,Qh9 i=Zq:=⟨_,rfl⟩;rw[hZ] at b ⊢;have h:=Z a;clear a hn d hZ;go_enter func122,ntmps122;go_wp2_with fail;refine h.o.mono ?_;rintro e j ⟨rfl,c⟩;obtain rfl:=c.symm;clear c;go_wp2;go_ret;refine⟨QbS ?_,rfl⟩;have:=b.o;omega
end
section
open Go.RowKit Go.Shelf
attribute [local go_sem] Oper.semAt_some
def TCh(t:JT):Prop:=t=67\/t=31
end
section
open Go.RowKit Go.Shelf
attribute [local go_sem] Oper.semAt_some
abbrev Itm:=Nat×JA
def QaZ(L:List Itm):JV:=L.flatMap fun x=>[Ju (x.1:Nat),Jt x.2]
theorem Qb8(l:List Itm):(QaZ l).length=l.length*2:=by
 induction l with
 |nil=>rfl
 |cons x r ih=>
  unfold QaZ at ih ⊢;rw[List.flatMap_cons,qG,ih,qH];simp;omega
theorem Qfa(a b:List Itm):QaZ (a++b)=QaZ a++QaZ b:=by unfold QaZ;rw[List.flatMap_append]
theorem Qe9(l:List Itm)(j:Nat)(h:j<l.length):(QaZ l)[j*2]?=some (Ju l[j].1)/\(QaZ l)[j*2+1]?=some (Jt l[j].2):=by
 have a:l=l.take j++l[j] :: l.drop (j+1):=by rw[<-List.drop_eq_getElem_cons h,List.take_append_drop]
 have hlen:(QaZ (l.take j)).length=j*2:=by rw[Qb8,qW,Nat.min_eq_left (Nat.le_of_lt h)]
 have e:QaZ l=QaZ (l.take j)++([Ju l[j].1,Jt l[j].2]++QaZ (l.drop (j+1))):=by
  conv=>lhs;rw[a]
  rw[Qfa];rfl
 rw[e];refine⟨?_,?_⟩
 ·rw[List.getElem?_append_right (by omega),hlen,Nat.sub_self];rfl
 ·rw[List.getElem?_append_right (by omega),hlen,Nat.add_sub_cancel_left];rfl
def ItmB(W:World)(v:Value)(L:List Itm):Prop:=∃a c,v=.slice a L.length c/\(L≠[]->∃g cs m,a=some (Ja g 0)/\W.heap[g]?=some (.cells cs 67 m)/\∀(i:Nat) (x:Value),(QaZ L)[i]?=some x->cs[i]?=some x)
theorem ItmB.kept{W W':World}{v:Value}{L:List Itm}(h:ItmB W v L)(b:KeptC TCh W W'):ItmB W' v L:=by
 obtain⟨a,c,hv,h1⟩:=h;refine⟨a,c,hv,fun hn=>?_⟩
 obtain⟨g,cs,m,h2,h3,h4⟩:=h1 hn;exact⟨g,cs,m,h2,b.cl g cs _ m h3 (.inl rfl),h4⟩
theorem ItmB.below{W W':World}{v:Value}{L:List Itm}(h:ItmB W v L)(a:Jw W W'):ItmB W' v L:=h.kept (KeptC.of_below a)
theorem ItmB.at{W:World}{v:Value}{L:List Itm}(h:ItmB W v L)(d:L≠[]):∃g c,v = Jl g L.length c/\g<W.heap.size/\∀j (b:j<L.length),W.cell? (Ja g (j*2))=some (Ju L[j].1)/\W.cell? (Ja g (j*2+1))=some (Jt L[j].2):=by
 obtain⟨a,c,hv,h1⟩:=h;obtain⟨g,cs,m,rfl,h3,h4⟩:=h1 d;refine⟨g,c,hv,(gsi h3).1,fun j b=>?_⟩
 obtain⟨x,y⟩:=Qe9 L j b;exact⟨(QaJ h3 _).trans (h4 _ _ x),(QaJ h3 _).trans (h4 _ _ y)⟩
theorem ItmB.of_own{w:World}{b0:Nat}{v:Value}{L:List Itm}(h:w.ownsRow b0 67 2 v L.length (QaZ L)):ItmB w v L:=by
 have a:=fun g hg=>h.cells (g:=g) hg
 rcases h.2 with⟨rfl,h0⟩|⟨g,cap,cur,rfl,-,hg,hle,-⟩
 ·exact⟨none,0,by rw[h0],fun hn=>JN (List.length_eq_zero_iff.1 h0) hn⟩
 ·refine⟨_,cap,rfl,fun _=>⟨g,cur,(0,0),rfl,hg,fun i x hx=>?_⟩⟩
  have:=a g rfl i x hx;have b:((Ja g 0):Addr).add i=(Ja g i):=by unfold Addr.add;split<;>simp_all
  rw[b] at this;exact (QaJ hg i).symm.trans this
def EaG(L:List Itm)(pre:List Itm)(x:Itm):Prop:=∃h:pre.length<L.length,pre=L.take pre.length/\x=L[pre.length]
def EaSt(J:List Itm->World->Prop)(L:List Itm)(W:World)(k:Nat)(wr:World):Prop:=J (L.take k) wr/\KeptC TCh W wr
theorem QzW(L:List Itm)(N:L.length<=1000000)(a:Option Addr)(c q:Nat)(m:Nat×Nat)(w:World)(y:w.heap[q]?=some (.cells #[.slice a L.length c] 31 m))(z:ItmB w (.slice a L.length c) L) :
  QE0 Fence.wide 3 prog 105 #[Jp q] (fun x:Itm=>#[Value.int .u64 x.1,Jt x.2]) TCh (EaG L) (fun xs=>xs=L) w:=fun lp J W hW hJ hY hj0=>by
 have f:KeptC TCh w W:=KeptC.of_below hW;have j:=f.cl q _ _ m y (.inr rfl);have I:=Z (z.kept f);have v:Hi (EaSt J L W 0 W):=Z ⟨hj0,KeptC.refl _ _⟩;have B:=Z hJ;have G:=Z hY;have D:Jx W q 0 (.slice a L.length c):=(QaJ j 0).trans rfl;clear y z hW f hj0 hJ hY j;refine callsIn_of_wp func105 rfl trivial ?_ rfl;simp only[ntmps105,List.size_toArray,qH,List.length_nil,Nat.reduceAdd,Nat.reduceSub,Array.replicate_succ,Array.replicate_zero,List.push_toArray,List.append_toArray,J3,J4];gi_wp2;gi_loopw [8] (fun u8 wr=>Hi (∃k:Nat,k<=L.length/\u8 = Ji k/\EaSt J L W k wr)) (fun u8 _=>L.length-(intOf u8).toNat)
 case atStart=>exact Z ⟨0,qL _,rfl,v.o⟩
 case round=>
  obtain⟨k,hk,rfl,hst⟩:=hrel.o;clear hrel D
  by_cases b:k<L.length
  ·have hne:L≠[]:=fun e=>by rw[e] at b;exact JN b (JH _)
   obtain⟨g,c',hvv,hgl,hcl⟩:=(I.o.kept hst.2).at hne;injection hvv with e1 e2 e3
   subst e1 e3;obtain⟨x0,x1⟩:=hcl k b;obtain⟨X,hX⟩:∃X,L[k]=X:=⟨_,rfl⟩;rw[hX] at x0 x1;have C:Hi (EaG L (L.take k) X):=Z (by
    have s:(L.take k).length=k:=by rw[qW];omega
    refine⟨by rw[s];exact b,by rw[s],?_⟩
    simp only[s];exact hX.symm)
   have K:Hi (L.take k++[X]=L.take (k+1)):=Z (by rw[qV b,hX])
   obtain⟨i,t⟩:=X;obtain⟨Wb,hWb⟩:∃Wb,wr.alloc (.cells #[Ju i,Jt t] 67)=Wb:=⟨_,rfl⟩;obtain⟨E,hEE⟩:∃E,wr.heap.size=E:=⟨_,rfl⟩;have A:Wb.heap[E]?=some (.cells #[Ju i,Jt t] 67 (0,0)):=by rw[<-hWb,<-hEE];exact JI wr _
   have d:=B.o.alloc (.cells #[Ju i,Jt t] 67) hst.1;rw[hWb] at d;have l:KeptC TCh W Wb:=by rw[<-hWb];exact hst.2.trans (KeptT.alloc _ _).toKeptC
   obtain⟨⟨y0,y1⟩,-⟩:=Qax A;obtain⟨fn,tmps,assign,Qa2,hy,hR⟩:=G.o _ (i,t) Wb d C.o;have H:=Z l;dsimp only at hy;clear hst A d l hcl hX;gi_wp2;refine hR.mono ?_;rintro e M ⟨rfl,h,n⟩;rw[K.o] at h;have p:=Z (qE h (H.o.trans n));clear hy hR h n y0 y1 x0 x1;gi_wp2;refine⟨Z ⟨k+1,by omega,by go_num,p.o.1,p.o.2⟩,?_⟩
   simp[intOf];omega
  ·obtain rfl:k=L.length:=by omega
   have r:=hst.1;rw[List.take_length] at r;have p:=Z r;clear hst r;gi_wp2;go_end0;exact⟨⟨_,rfl⟩,_,rfl,p.o⟩
end
section
def QrQ(a b:Nat):Int:=if a<b then -1 else if b<a then 1 else 0
theorem QB0(a:Nat)(w:World):Calls prog 93 #[Ju a] w (JS (.bool false) w):=by
 have b:((a:Int) != (a:Int))=false:=by simp
 go_enter func93,ntmps93;go_wp2;go_ret;exact⟨rfl,rfl⟩
theorem QCM(a b:Nat)(w:World):Calls prog 45 #[Ju a,Ju b] w (JS (Ji (QrQ a b)) w):=by
 have g:=Z (fun x W=>QB0 x W)
 have c:Hi (QrQ a b=if a<b then -1 else if b<a then 1 else 0):=Z rfl
 generalize QrQ a b=C at c ⊢
 by_cases f:a<b
 ·have d:C = -1:=by have:=c.o;rwa[JK f] at this
  subst d;clear c;go_enter func45,ntmps45;go_wp2_with (first|(go_at_call 93;refine (g.o _ _).mono ?_;rintro e h ⟨rfl,rfl⟩))
  go_ret;exact⟨rfl,rfl⟩
 ·by_cases i:b<a
  ·have d:C=1:=by have:=c.o;rwa[JJ f,JK i] at this
   subst d;clear c;go_enter func45,ntmps45;go_wp2_with (first|(go_at_call 93;refine (g.o _ _).mono ?_;rintro e h ⟨rfl,rfl⟩))
   go_ret;exact⟨rfl,rfl⟩
  ·have d:C=0:=by have:=c.o;rwa[JJ f,JJ i] at this
   subst d;clear c;go_enter func45,ntmps45;go_wp2_with (first|(go_at_call 93;refine (g.o _ _).mono ?_;rintro e h ⟨rfl,rfl⟩))
   go_ret;exact⟨rfl,rfl⟩
theorem Qz8(i:Nat)(t:JA)(id:Nat)(w:World):Calls prog 97 #[.agg #[Ju i,Jt t],Ju id] w (JB (Ji (QrQ i id)) w):=by
 obtain⟨W,hW⟩:∃W,w.alloc (.cells #[Ju i,Jt t] 67)=W:=⟨_,rfl⟩;have c:Hi (Jw w W):=Z (by rw[<-hW];exact (qF _ _).alloc (qC _) _)
 have b:W.heap[w.heap.size]?=some (.cells #[Ju i,Jt t] 67 (0,0)):=by rw[<-hW];exact JI w _
 obtain⟨⟨c0,c1⟩,-⟩:=Qax b;have a:=Z (fun W=>QCM i id W)
 generalize QrQ i id=C at a ⊢;clear b;go_enter func97,ntmps97;go_wp2_with (first|(go_at_call 45;refine (a.o _).mono ?_;rintro e d ⟨rfl,rfl⟩))
 go_ret;exact⟨rfl,c.o⟩
structure PlcAt(L:List Itm)(id p:Nat)(b:Bool):Prop where
 le:p<=L.length
 lo:∀k (h:k<L.length),k<p->L[k].1<id
 hi:∀k (h:k<L.length),p<=k->id<=L[k].1
 is:b=true↔∃h:p<L.length,L[p].1=id
structure PlcSt(L:List Itm)(id i j:Nat):Prop where
 le:i<=j
 le2:j<=L.length
 lo:∀k (h:k<L.length),k<i->L[k].1<id
 hi:∀k (h:k<L.length),j<=k->id<=L[k].1
theorem Qun{L:List Itm}(d:L.Pairwise (fun a b=>a.1<b.1))(a b:Nat)(c:a<L.length)(f:b<L.length)(h:a<b):L[a].1<L[b].1:=List.pairwise_iff_getElem.1 d a b c f h
theorem PlcSt.right{L:List Itm}{id i j h:Nat}(s:PlcSt L id i j)(f:L.Pairwise (fun a b=>a.1<b.1))(d:h<L.length)(l:h<j)(c:L[h].1<id):PlcSt L id (h+1) j:=
 ⟨by omega,s.le2,fun k hk hl=>by
  rcases Nat.lt_or_ge k h with g|g
  ·exact Nat.lt_trans (Qun f k h hk d g) c
  ·obtain rfl:k=h:=by omega
   exact c,s.hi⟩
theorem PlcSt.left{L:List Itm}{id i j h:Nat}(s:PlcSt L id i j)(d:L.Pairwise (fun a b=>a.1<b.1))(c:h<L.length)(f:i<=h)(l:¬L[h].1<id):PlcSt L id i h:=
 ⟨f,by omega,s.lo,fun k hk hl=>by
  rcases Nat.lt_or_ge h k with g|g
  ·have:=Qun d h k c hk g;omega
  ·obtain rfl:k=h:=by omega
   omega⟩
theorem QtX(L:List Itm)(id:Nat)(S:L.length<=1000000)(I:L.Pairwise (fun a b=>a.1<b.1))(a:Option Addr)(c:Nat)(w:World)(H:ItmB w (.slice a L.length c) L) :
  Calls prog 96 #[.slice a L.length c,Ju id,.func (.func 97) #[] #[]] w fun e w'=>(∃p b,e=.returned (.tuple #[Ji (p:Nat),.bool b])/\PlcAt L id p b)/\Jw w w':=by
 have K:=Z H;have J:=Z I;have z:=Z (fun i t W=>Qz8 i t id W)
 have A:Hi (PlcSt L id 0 L.length):=Z ⟨qL _,qC _,fun k _ h=>JN h (JH _),fun k h E=>by omega⟩
 clear H I;go_enter func96,ntmps96;go_wp2_with fail;go_loopw [9,10] (fun u9 u10 wr=>Hi (∃i j:Nat,u9 = Ji i/\u10 = Ji j/\PlcSt L id i j/\Jw w wr)) (fun u9 u10 _=>(intOf u10).toNat-(intOf u9).toNat)
 case atStart=>exact Z ⟨0,L.length,rfl,rfl,A.o,qF _ _⟩
 case round=>
  obtain⟨i,j,rfl,rfl,hs,hb⟩:=hrel.o;have O:=hs.le;have r:=hs.le2;have f:=Z (qE hs hb);clear hrel hs hb
  by_cases N:i<j
  ·have T:decide ((i:Int)<(j:Int))=true:=qA (by omega)
   obtain⟨h,hh⟩:∃h,(i+j)/2=h:=⟨_,rfl⟩;have U:((i:Int)+(j:Int))/2=(h:Int):=by omega
   have s:h<L.length:=by omega
   have E:i<=h:=by omega
   have R:h<j:=by omega
   obtain⟨g,c',hv,-,hx⟩:=(K.o.below f.o.2).at (fun e=>by rw[e] at s;exact JN s (JH _))
   injection hv with q1 q2 q3
   subst q1;obtain⟨x0,x1⟩:=hx h s;have G:=Z (f.o.1.right J.o s R);have v:=Z (f.o.1.left J.o s E);generalize L[h]=X at x0 x1 G v;obtain⟨xi,xt⟩:=X;clear hx q2 q3 hh
   by_cases x:xi<id
   ·have y:decide (QrQ xi id<0)=true:=qA (by unfold QrQ;rw[JK x];decide)
    have B:=Z (G.o x);generalize l:QrQ xi id=C at y;go_wp2_with (first|(go_at_call 97;refine (z.o xi xt _).mono ?_;rintro e D ⟨rfl,d⟩;rw[l]))
    have m:=Z (Qaa f.o.2 d);clear d;go_wp2_with fail;refine⟨Z ⟨h+1,j,by go_num,rfl,B.o,m.o⟩,?_⟩
    simp[intOf];omega
   ·have y:decide (QrQ xi id<0)=false:=qB (by unfold QrQ;rw[JJ x];split<;>decide)
    have B:=Z (v.o x);generalize l:QrQ xi id=C at y;go_wp2_with (first|(go_at_call 97;refine (z.o xi xt _).mono ?_;rintro e D ⟨rfl,d⟩;rw[l]))
    have m:=Z (Qaa f.o.2 d);clear d;go_wp2_with fail;refine⟨Z ⟨i,h,rfl,rfl,B.o,m.o⟩,?_⟩;simp[intOf];omega
  ·obtain rfl:i=j:=by omega
   by_cases n:i<L.length
   ·obtain⟨g,c',hv,-,hx⟩:=(K.o.below f.o.2).at (fun e=>by rw[e] at n;exact JN n (JH _))
    injection hv with q1 q2 q3
    subst q1;obtain⟨x0,x1⟩:=hx i n;have q:Hi (PlcAt L id i ((QrQ L[i].1 id)==0)):=Z ⟨r,f.o.1.lo,f.o.1.hi,by
     have M:=f.o.1.hi i n (qC _);rw[beq_iff_eq];unfold QrQ;constructor
     ·intro h
      refine⟨n,?_⟩;split at h
      ·cases h
      ·split at h
       ·cases h
       ·omega
     ·rintro⟨_,h⟩
      have P:L[i].1=id:=h;rw[P,JJ (qR _),JJ (qR _)]⟩
    generalize L[i]=X at x0 x1 q;obtain⟨xi,xt⟩:=X;obtain⟨C,l⟩:∃C,QrQ xi id=C:=⟨_,rfl⟩;simp only[l] at q;clear hx q2 q3;go_wp2_with (first|(go_at_call 97;refine (z.o xi xt _).mono ?_;rintro e D ⟨rfl,d⟩;rw[l];have m:=Z (Qaa f.o.2 d);clear d))
    go_ret2;exact⟨⟨i,_,rfl,q.o⟩,m.o⟩
   ·have q:Hi (PlcAt L id i false):=Z ⟨r,f.o.1.lo,f.o.1.hi,⟨(fun h=>by cases h),fun ⟨h,_⟩=>JN h n⟩⟩
    go_wp2;go_ret2;exact⟨⟨i,_,rfl,q.o⟩,f.o.2⟩
theorem Qqx(L:List Itm)(id:Nat)(k:L.length<=1000000)(j:L.Pairwise (fun a b=>a.1<b.1))(a:Option Addr)(c:Nat)(w:World)(g:ItmB w (.slice a L.length c) L) :
  Calls prog 49 #[.agg #[.slice a L.length c],Ju id] w fun e w'=>(∃p b,e=.returned (.tuple #[Ji (p:Nat),.bool b])/\PlcAt L id p b)/\Jw w w':=by
 obtain⟨c0,hb⟩:=QqD w (.slice a L.length c) 31;have m:=Z (fun W (h:Jw w W)=>QtX L id k j a c W (g.below h))
 have i:=Z hb;generalize L.length=n at *;clear hb g k j;go_enter func49,ntmps49;go_wp2_with (first|(go_at_call 96;refine (m.o _ i.o).mono ?_;rintro e q ⟨⟨p,b,rfl,f⟩,d⟩;have l:=Z (qE f (Qaa i.o d));clear f d))
 go_ret2;exact⟨⟨p,b,rfl,l.o.1⟩,l.o.2⟩
structure OwnOk(L:List Itm)(k T:Nat):Prop where
 ok:∀x∈L,x.1<QfV/\0<x.2.size/\x.2.size<=65536
 up:L.Pairwise (fun a b=>a.1<b.1)
 len:L.length<=k
 sz:(L.map (fun x=>x.2.size)).sum<=T
theorem OwnOk.nil:OwnOk [] 0 0:=⟨fun x hx=>JN hx (by simp),List.Pairwise.nil,qC _,qC _⟩
theorem OwnOk.mono{L:List Itm}{k T a b:Nat}(h:OwnOk L k T)(c:k<=a)(d:T<=b):OwnOk L a b:=⟨h.ok,h.up,qD h.len c,qD h.sz d⟩
theorem OwnOk.itms{L:List Itm}{k T:Nat}(h:OwnOk L k T)(a:k<=80)(b:T<=4000):ItmsOk L:=⟨h.ok,h.up,qD h.len a,qD h.sz b⟩
def Qvl(L:List Itm)(p:Nat)(b:Bool)(id:Nat)(s:JA):List Itm:=L.take p++(id,s) :: L.drop (p+b.toNat)
theorem Ql8(L:List Itm)(p:Nat)(b:Bool)(id:Nat)(s:JA)(h:p+b.toNat<=L.length):(Qvl L p b id s).length=p+1+(L.length-(p+b.toNat)):=by
 unfold Qvl;rw[qG,qH,qW,JC];omega
theorem PlcAt.fit{L:List Itm}{id p:Nat}{b:Bool}(h:PlcAt L id p b):p+b.toNat<=L.length:=by
 have:=h.le;cases b with
 |false=>simpa using this
 |true=>
  obtain⟨h1,-⟩:=h.is.1 rfl;simp;omega
theorem OwnOk.put{L:List Itm}{k T id p:Nat}{b:Bool}{s:JA}(h:OwnOk L k T)(c:PlcAt L id p b)(v:id<QfV)(r:0<s.size)(q:s.size<=65536):OwnOk (Qvl L p b id s) (k+1) (T+s.size):=by
 have i:=c.fit;refine⟨fun x hx=>?_,?_,?_,?_⟩
 ·unfold Qvl at hx
  rcases List.mem_append.1 hx with hx|hx
  ·exact h.ok x (List.mem_of_mem_take hx)
  ·rcases List.mem_cons.1 hx with rfl|hx
   ·exact⟨v,r,q⟩
   ·exact h.ok x (List.mem_of_mem_drop hx)
 ·have g:∀y∈L.drop (p+b.toNat),id<y.1:=fun y hy=>by
   obtain⟨j,hj,hyj⟩:=List.mem_iff_getElem.1 hy;rw[List.getElem_drop] at hyj;rw[JC] at hj;subst hyj;have a:p<L.length:=by cases b<;>simp at hj i<;>omega
   have m:=c.hi p a (qC _)
   by_cases d:p=p+b.toNat+j
   ·have l:b=false:=by cases b with
     |false=>rfl
     |true=>simp at d;omega
    have hne:L[p].1≠id:=fun e=>by
     have:=c.is.2 ⟨a,e⟩;rw[l] at this;cases this
    simp only[<-d];omega
   ·have:=Qun h.up p (p+b.toNat+j) a (by omega) (by omega)
    by_cases l:b=true
    ·obtain⟨n,t⟩:=c.is.1 l
     omega
    ·omega
  unfold Qvl;rw[List.pairwise_append];refine⟨h.up.sublist (List.take_sublist _ _),List.pairwise_cons.2 ⟨g,h.up.sublist (List.drop_sublist _ _)⟩,fun x hx y hy=>?_⟩
  have f:x.1<id:=by
   obtain⟨j,hj,hxj⟩:=List.mem_iff_getElem.1 hx;rw[List.getElem_take] at hxj;rw[qW] at hj;subst hxj;exact c.lo j (by omega) (by omega)
  rcases List.mem_cons.1 hy with rfl|hy
  ·exact f
  ·exact Nat.lt_trans f (g y hy)
 ·rw[Ql8 L p b id s i]
  have:=h.len;cases b<;>simp at i ⊢<;>omega
 ·have n:=h.sz
  have t:(L.map (fun x=>x.2.size)).sum=((L.take p).map (fun x=>x.2.size)).sum+((L.drop p).map (fun x=>x.2.size)).sum:=by
   rw[<-List.sum_append,<-qY,List.take_append_drop]
  have z:((L.drop (p+b.toNat)).map (fun x=>x.2.size)).sum<=((L.drop p).map (fun x=>x.2.size)).sum:=by
   have e:((L.drop p).map (fun x=>x.2.size)).sum=(((L.drop p).take b.toNat).map (fun x=>x.2.size)).sum+(((L.drop p).drop b.toNat).map (fun x=>x.2.size)).sum:=by
    rw[<-List.sum_append,<-qY,List.take_append_drop]
   rw[List.drop_drop] at e;omega
  unfold Qvl;rw[qY,J0,List.sum_append,List.sum_cons];show _+(s.size+_)<=_;omega
theorem Qlc(l:List Itm):∀i,QaZ (l.drop i)=(QaZ l).drop (i*2):=by
 induction l with
 |nil=>intro i;simp[QaZ]
 |cons e r ih=>
  intro i;cases i with
  |zero=>simp
  |succ i=>
   rw[List.drop_succ_cons,ih];have a:([Ju e.1,Jt e.2]:JV).drop ((i+1)*2) = []:=List.drop_eq_nil_of_le (by show 2<=(i+1)*2;omega)
   have b:(i+1)*2-([Ju e.1,Jt e.2]:JV).length=i*2:=by show (i+1)*2-2=i*2;omega
   unfold QaZ;rw[List.flatMap_cons,List.drop_append,a,b,J3]
theorem Qlb(l:List Itm):∀i,QaZ (l.take i)=(QaZ l).take (i*2):=by
 induction l with
 |nil=>intro i;simp[QaZ]
 |cons e r ih=>
  intro i;cases i with
  |zero=>simp[QaZ]
  |succ i=>
   rw[List.take_succ_cons];have h:=ih i;unfold QaZ at h ⊢;have a:([Ju e.1,Jt e.2]:JV).take ((i+1)*2) = [Ju e.1,Jt e.2]:=qX (by show 2<=(i+1)*2;omega)
   have b:(i+1)*2-([Ju e.1,Jt e.2]:JV).length=i*2:=by show (i+1)*2-2=i*2;omega
   rw[List.flatMap_cons,List.flatMap_cons,List.take_append,h,a,b]
theorem QjG(l:List Itm):∀v∈QaZ l,v.oneCell'=true:=by
 intro v a;unfold QaZ at a;obtain⟨x,-,hx⟩:=List.mem_flatMap.1 a;simp only[List.mem_cons,List.not_mem_nil,or_false] at hx;rcases hx with rfl|rfl<;>rfl
theorem QkX(L:List Itm)(p:Nat)(b:Bool)(id:Nat)(s:JA):QaZ (Qvl L p b id s)=QaZ (L.take p)++[Ju id,Jt s]++QaZ (L.drop (p+b.toNat)):=by
 unfold Qvl;rw[Qfa,qP];rfl
structure KeptD(T:Nat->Prop)(W W':World):Prop where
 sz:W.heap.size<=W'.heap.size
 cl:∀k,T k->W'.heap[k]?=W.heap[k]?
structure KeptE(T:Nat->Prop)(W W':World):Prop extends KeptD T W W' where
 od:∀(k:Nat) (o:Obj),W.heap[k]?=some o->Odd o->W'.heap[k]?=some o
theorem KeptD.refl(T:Nat->Prop)(W:World):KeptD T W W:=⟨qC _,fun _ _=>rfl⟩
theorem KeptD.trans{T:Nat->Prop}{A B C:World}(h:KeptD T A B)(k:KeptD T B C):KeptD T A C:=⟨qD h.sz k.sz,fun i x=>(k.cl i x).trans (h.cl i x)⟩
def AbN{β:Type}(J:β->World->Prop):Prop:=∀s W W',J s W->W.grownBy W' none->J s W'
def AbO{β:Type}(B:Nat)(J:β->World->Prop):Prop:=∀s W W' row,J s W->W.grownBy W' row->(∀r,row=some r->B<=r/\∃o,W.heap[r]?=some o/\Odd o)->J s W'
theorem AbO.putObj{β:Type}{B:Nat}{I:β->World->Prop}(h:AbO B I){s:β}{W:World}{l:Nat}{o:Obj}(a:Obj)(f:I s W)(d:B<=l)(c:W.heap[l]?=some o)(b:Odd o):I s (W.putObj l a):=
 h s W _ (some l) f (grownBy_putObj' W l a) (fun r e=>by cases e;exact⟨d,o,c,b⟩)
theorem AbO.alloc{β:Type}{B:Nat}{I:β->World->Prop}(h:AbO B I){s:β}{W:World}(o:Obj)(a:I s W):I s (W.alloc o):=
 h s W _ none a (World.grownBy_alloc W o none) (fun r e=>by cases e)
def SeqB{α:Type}(F:Fence)(n:Nat)(P:Program)(g:Nat)(lb:JW)(encs:α->JW)(T:Nat->Prop)(G:List α->α->Prop)(S:List α->Prop)(w:World):Prop:=
 ∀(l:Nat) (J:List α->World->Prop) (W:World),Jw w W->AbN J->
  (∀pre x W1,J pre W1->G pre x->YieldAt F (n-1) P l (encs x) W1 fun e W'=>e=.returned (.bool true)/\J (pre++[x]) W'/\KeptD T W1 W')->
  J [] W->CallsIn F n P g (#[.func (.yield l) #[] #[]]++lb) W fun e W'=>(∃v,e=.returned v)/\∃xs,S xs/\J xs W'
theorem QBz{α:Type}{F:Fence}{n:Nat}{P:Program}{g:Operand}{C:Array Tmp}{assign Qa2:Code}{Q:Exit->Act->World->Prop}{a:Act}{w:World}
  (N:F.round=none) (h1:1<=n) {gf:Nat} {lb:JW} (hg:a.eval g=.func (.func gf) #[] lb) (qg:F.fn gf) (eg:∀args w,(callFunc gf args).run P w=.ok (.enter gf args) w)
  {c:α->JW} (T:Nat->Prop) (hT:∀k,T k->k<w.heap.size) {G:List α->α->Prop} {S:List α->Prop} {w0:World} (O:SeqB F (n-1) P gf lb c T G S w0) (y:Jw w0 w) (qc:∀x,(c x).size=C.size)
  (I:List α->World->Prop) (m:AbO w.heap.size I) (h0:I [] w) (a₁:α->Act)
  (qb:∀(l:Nat) (x:α) (W:World) (K:Act->World->Prop),K (a₁ x) W->
   assign.wpIn (F.inRound l) (n-1-1) P (Exit.then K (fun _ _ _=>False)) { tmps:=(C.zip (c x)).foldl (fun t (p,v)=>t.setIfInBounds p v) a.tmps,defers:=[] } W)
  (qh:∀(l:Nat) (b:List α) (x:α) (W:World),I b W->G b x->Qa2.wpIn (F.inRound l) (n-1-1) P (fun e _ W'=>e=.normal/\KeptE T W W'/\I (b++[x]) W') (a₁ x) W)
  (M:∀(D:Nat) (xs:List α) (W:World),w.heap.size<=D->S xs->I xs W->W.heap[D]?=some (.deferred (some []))->Q .normal { a with defers:={ target:=.collected D,args:=#[] } :: a.defers } W) :
  (Code.rangeFunc g C assign Qa2).wpIn F n P Q a w:=by
 refine wpIn_rangeFunc ?_;intro fn qd;rw[N];obtain⟨rc,hrc⟩:∃rc:LoopState->Loop,rc=fun st=>{ state:=st,pending:=none,fn,tmps:=a.tmps,params:=C,assign,body:=Qa2,defers:=w.heap.size }:=⟨_,rfl⟩
 obtain⟨W1,hW1⟩:∃W1,(w.alloc (.deferred (some []))).alloc (.loop (rc .ready))=W1:=⟨_,rfl⟩;have Y:W1.heap[w.heap.size+1]?=some (.loop (rc .ready)):=by
  rw[<-hW1];have:=World.alloc_heap_new (w.alloc (.deferred (some []))) (.loop (rc .ready))
  rwa[qJ] at this
 have X:W1.heap[w.heap.size]?=some (.deferred (some [])):=by
  rw[<-hW1];exact (JQ _ _ _ (by simp)).trans (World.alloc_heap_new w _)
 have qi:W1.heap.size=w.heap.size+2:=by rw[<-hW1];simp
 have qa:I [] W1:=by rw[<-hW1];exact m.alloc _ (m.alloc _ h0)
 have qf:Jw w0 W1:=by
  rw[<-hW1];exact y.trans ((((qF _ w).alloc (qC _) _).alloc (by simp) _).mono y.size)
 refine⟨w.heap.size+1,[{ target:=.collected w.heap.size,args:=#[] }],W1,{ target:=.fn (.func gf) lb,args:=#[.func (.yield (w.heap.size+1)) #[] #[]] },W1,gf,#[.func (.yield (w.heap.size+1)) #[] #[]]++lb,W1,?_,?_,?_,?_,fun _=>h1,?_⟩
 ·rw[<-hW1,hrc];exact run_enterLoop_outer _ _ _ _ _
 ·simp only[resolve,hg]
  simp[go_sem]
 ·intro f' q;simp[Target.leads] at q;subst q;exact qg
 ·simp[invoke,go_sem,eg]
 ·refine (O (w.heap.size+1) (fun b W=>I b W/\W.heap[w.heap.size+1]?=some (.loop (rc .ready))/\W.heap[w.heap.size]?=some (.deferred (some []))) W1 qf
   (fun s A B hs hg'=>⟨m s A B none hs.1 hg' (fun r e=>by cases e),(hg'.block _ (gsi hs.2.1).1 (by intro e;cases e)).trans hs.2.1,(hg'.block _ (gsi hs.2.2).1 (by intro e;cases e)).trans hs.2.2⟩) ?_ ⟨qa,Y,X⟩).mono ?_
  ·rintro b x W ⟨hi,i,H⟩ hlen
   have J:w.heap.size+1<W.heap.size:=(gsi i).1;have hy:=run_yield (P:=P) (args:=c x) i (by rw[hrc];exact qc x)
   rw[hrc] at hy;refine⟨fn,_,assign,Qa2,hy,roundIn_of_wpIn qd (qb _ x W _ ?_)⟩;clear hy;obtain⟨f,hW2⟩:∃f,W.putObj (w.heap.size+1) (.loop { rc .ready with state:=.busy })=f:=⟨_,rfl⟩
   refine⟨f,by rw[<-hW2];exact run_beginRound i (by rw[hrc]),?_⟩
   have R:f.heap[w.heap.size+1]?=some (.loop { rc .ready with state:=.busy }):=by rw[<-hW2];exact World.putObj_heap_same J
   have E:f.heap[w.heap.size]?=some (.deferred (some [])):=by rw[<-hW2];exact (World.putObj_heap_other (by omega)).trans H
   have put:∀(A:World) (o o':Obj),A.heap[w.heap.size+1]?=some o->Odd o->KeptD T A (A.putObj (w.heap.size+1) o'):=fun A o o' h ho=>
    ⟨by simp,fun k hk=>World.putObj_heap_other (fun e=>by have:=hT k hk;omega)⟩
   have V:I b f:=by rw[<-hW2];exact m.putObj _ hi (by omega) i (Qce _)
   have L:KeptD T W f:=by rw[<-hW2];exact put W _ _ i (Qce _)
   refine wpIn_mono (qh _ b x f V hlen) ?_;rintro e a3 W3 ⟨rfl,j,qe⟩;have d:=j.od _ _ R (Qce _);have U:=j.od _ _ E (QpE _);have z:=run_endRound (P:=P) none d;rw[hrc] at z;refine⟨_,_,z,rfl,⟨?_,?_,?_⟩,?_⟩
   ·exact m.putObj _ qe (by omega) d (Qce _)
   ·rw[hrc];exact World.putObj_heap_same (gsi d).1
   ·exact (World.putObj_heap_other (by omega)).trans U
   ·exact L.trans (j.toKeptD.trans (put W3 _ _ d (Qce _)))
  ·rintro e f ⟨⟨v,rfl⟩,xs,hS,hi,i,H⟩
   have z:=run_endLoop (P:=P) i (by rw[hrc];simp)
   refine⟨none,_,by rw[hrc] at z;exact z,M _ xs _ (qC _) hS (m.putObj _ hi (by omega) i (Qce _)) ((World.putObj_heap_other (by omega)).trans H)⟩
end
section
open Go.RowKit Go.Shelf
attribute [local go_sem] Oper.semAt_some
def chK(n size:Nat):Nat:=(n+size-1)/size
def chL(n size k:Nat):List (Nat×Nat):=(List.range k).map fun j=>(j*size,min size (n-j*size))
theorem QrS(n size k:Nat):chL n size (k+1)=chL n size k++[(k*size,min size (n-k*size))]:=by unfold chL;rw[List.range_succ,qY];rfl
theorem Qqy(n size k:Nat):(chL n size k).length=k:=by simp[chL]
def CkG(n size:Nat)(pre:List (Nat×Nat))(x:Nat×Nat):Prop:=pre.length*size<n/\pre=chL n size pre.length/\x=(pre.length*size,min size (n-pre.length*size))
def CkSt(J:List (Nat×Nat)->World->Prop)(T:Nat->Prop)(n size:Nat)(W:World)(k:Nat)(wr:World):Prop:=J (chL n size k) wr/\KeptD T W wr/\(k=0\/(k-1)*size<n)
theorem QDY(n size k:Nat)(c:0<size)(a:n<=k*size)(b:k=0\/(k-1)*size<n):k=chK n size:=by
 unfold chK;have e:(n+size-1)/size=k:=by
  rw[Nat.div_eq_iff c];rcases b with rfl|b
  ·simp at a;omega
  ·cases k with
   |zero=>simp at a;omega
   |succ j=>
    rw[Nat.add_sub_cancel] at b;rw[Nat.succ_mul] at a ⊢;constructor<;>omega
 exact e.symm
theorem Qxd(g c n size f b:Nat)(w:World)(B:0<size)(R:size<=4096)(V:0<n)(G:n<=4096)(T:n<=c)(hc:c<=maxLen)(A:w.heap[f]?=some (.cells #[Jl g n c] 51 (0,0)))(m:w.heap[b]?=some (.cells #[Ji size] 3 (0,0))) :
  SeqB Fence.wide 3 prog 166 #[Jp f,Jp b] (fun x:Nat×Nat=>#[.slice (some (Ja g (x.1*4))) x.2 x.2]) (fun k=>k=f\/k=b) (CkG n size) (fun xs=>xs=chL n size (chK n size)) w:=fun lp J W hW hJ hY hj0=>by
 have s:=(gsi A).1;have y:=(gsi m).1;have v:=Z (qE ((hW.block _ s).trans A) ((hW.block _ y).trans m));have C:Hi (CkSt J (fun k=>k=f\/k=b) n size W 0 W):=Z ⟨hj0,KeptD.refl _ _,.inl rfl⟩
 have E:=Z hJ;have S:=Z hY;clear A m s y hW hj0 hJ hY;refine callsIn_of_wp func166 rfl trivial ?_ rfl;simp only[ntmps166,List.size_toArray,qH,List.length_nil,Nat.reduceAdd,Nat.reduceSub,Array.replicate_succ,Array.replicate_zero,List.push_toArray,List.append_toArray,J3,J4];gi_wp2;gi_loopw [4] (fun u4 wr=>Hi (∃k:Nat,u4 = Ji ((k*size:Nat):Int)/\CkSt J (fun k=>k=f\/k=b) n size W k wr)) (fun u4 _=>n+5000-(intOf u4).toNat)
 case atStart=>exact Z ⟨0,by rw[Nat.zero_mul];rfl,C.o⟩
 case round=>
  obtain⟨k,rfl,hst⟩:=hrel.o;have a:=Z hst;have Y:=(QaF ((hst.2.1.cl f (.inl rfl)).trans v.o.1)).1;have N:=(QaF ((hst.2.1.cl b (.inr rfl)).trans v.o.2)).1;clear hrel hst;obtain⟨i,hi⟩:∃i,k*size=i:=⟨_,rfl⟩;have r:=Z hi;rw[hi];have K:i<=9000:=by
   rcases a.o.2.2 with h|h
   ·rw[h,Nat.zero_mul] at hi;omega
   ·cases k with
    |zero=>rw[Nat.zero_mul] at hi;omega
    |succ j=>rw[Nat.add_sub_cancel] at h;rw[Nat.succ_mul] at hi;omega
  clear hi
  by_cases t:i<n
  ·obtain⟨z,m⟩:∃z,min size (n-i)=z:=⟨_,rfl⟩
   have M:min (size:Int) ((n-i:Nat):Int)=(z:Nat):=by omega
   have O:z<=n-i:=by omega
   have U:z<=size:=by omega
   have I:Hi (CkG n size (chL n size k) (i,z)):=Z (by
    refine⟨by rw[Qqy,r.o];exact t,by rw[Qqy],?_⟩
    rw[Qqy,r.o,m])
   have HT:Hi (chL n size k++[(i,z)]=chL n size (k+1)):=Z (by rw[QrS,r.o,m])
   clear m;obtain⟨wd,hwd⟩:∃wd,wr.drew=wd:=⟨_,rfl⟩;have l:wr.grownBy wd none:=by rw[<-hwd];exact⟨rfl,rfl,rfl,qC _,fun _ _ _=>rfl⟩
   have d:Hi (KeptD (fun k=>k=f\/k=b) W wd):=Z (a.o.2.1.trans ⟨l.size,fun j _=>by rw[<-hwd];rfl⟩)
   obtain⟨fn,tmps,assign,Qa2,hy,hR⟩:=S.o _ (i,z) wd (E.o _ _ _ a.o.1 l) I.o;dsimp only at hy;have P:=(QaF ((d.o.cl f (.inl rfl)).trans v.o.1)).1;have L:=(QaF ((d.o.cl b (.inr rfl)).trans v.o.2)).1;have X:i+z-i=z:=by omega
   clear l;gi_wp2;gi_region
   all_goals gi_wp2
   refine hR.mono ?_;rintro e w3 ⟨rfl,q,p⟩;rw[HT.o] at q;have D:=Z (qE q (d.o.trans p));have c2:=(QaF ((p.cl b (.inr rfl)).trans ((d.o.cl b (.inr rfl)).trans v.o.2))).1;clear hy hR q p Y N P L hwd;gi_wp2;refine⟨Z ⟨k+1,?_,D.o.1,D.o.2,?_⟩,?_⟩
   ·rw[Nat.succ_mul,r.o];go_num
   ·right;rw[Nat.add_sub_cancel,r.o];exact t
   ·simp[intOf];omega
  ·have H:=QDY n size k B (by rw[r.o];omega) a.o.2.2
   gi_wp2;go_end0;refine⟨⟨_,rfl⟩,_,rfl,?_⟩;rw[<-H];exact a.o.1
end
section
open Go.RowKit Go.Shelf
attribute [local go_sem] Oper.semAt_some
def NumG(l:List Ent)(pre:List Nat)(x:Nat):Prop:=pre++[x] <+: QeO l
def QxF(l:List Ent)(J:List Nat->World->Prop)(W:World)(pre:List Nat)(wx:World):Prop:=J pre wx/\KeptC QoV W wx
def QEb(l:List Ent)(J:List Nat->World->Prop)(W:World)(A:Nat)(pre:List Nat)(ah:Ent)(wx:World):Prop:=QxF l J W pre wx/\W.heap.size<=A/\wx.heap[A]?=some (.cells #[Ju ah.1,Ju ah.2.1,Jd ah.2.2.1,Jd ah.2.2.2] 61 (0,0))
theorem QqY:∀(l:List Ent) (a:Ent) (i:Nat),Qsy a.1 l->i<l.length->((a :: l).getD i Qa7).1<=(l.getD i Qa7).1
 |[],_,_,_,h=>JN h (JH _)
 |e :: r,a,0,h,_=>h.1
 |e :: r,a,i+1,h,hi=>QqY r e i h.2 (by simpa using hi)
theorem QAq(l:List Ent)(a:∀e∈l,Qbt e/\Qcj e=0)(i:Nat):((Qa7 :: l).getD i Qa7).2.2.1<4294967296:=by
 cases i with
 |zero=>exact (by decide:(0:Nat)<4294967296)
 |succ i=>
  show (l.getD i Qa7).2.2.1<_
  by_cases h:i<l.length
  ·rw[Qcv h];exact (a _ (JG h)).1.2.2.1
  ·rw[J9,List.getElem?_eq_none (by omega)];decide
theorem Qxe{e:Ent}(h:Qcj e=0):e.2.1<=1099511627776:=by
 unfold Qcj at h;split at h
 ·cases h
 ·split at h
  ·cases h
  ·split at h
   ·cases h
   ·rename_i a;unfold Qds at a;omega
theorem QDM(w:World)(A:Nat)(b d f c:Value):w.grownBy ((((w.setCell (Ja A 0) b).setCell (Ja A 1) d).setCell (Ja A 2) f).setCell (Ja A 3) c) (some A):=
 ⟨rfl,rfl,rfl,by simp[World.setCell],fun k _ hk=>by
  have a:k≠A:=fun e=>hk (by rw[e])
  exact (JO _ _ _ _ a).trans ((JO _ _ _ _ a).trans ((JO _ _ _ _ a).trans (JO _ _ _ _ a)))⟩
theorem QgA(l:List Ent)(v:Value)(N:Nat)(m:Nat×Nat)(w:World)(hl:l.length<=4096)(qc:∀e∈l,Qbt e/\Qcj e=0)(hr:Qsy 0 l)(hE:EntB w v l)(hb:w.heap[N]?=some (.cells #[v] 51 m)) :
  QE0 Fence.wide 3 prog 112 #[Jp N] (fun x:Nat=>#[Value.int .u64 x]) QoV (NumG l) (fun xs=>xs=QeO l) w:=fun lp J W hW hJ hY h0=>by
 have M:KeptC QoV w W:=KeptC.of_below hW;have H:=hE.kept M;have L:=M.cl N _ _ m hb (.inr rfl);have qg:Hi (QxF l J W [] W):=Z ⟨h0,KeptC.refl _ _⟩;have qb:=Z (qE H L);have HJ:=Z hJ;have HY:=Z hY;clear hE hb hW M h0 hJ hY;obtain⟨ab,c,rfl,hlc⟩:=H.len;have c0:Jx W N 0 (.slice ab l.length c):=(QaJ L 0).trans rfl;clear H L;refine callsIn_of_wp func112 rfl trivial ?_ rfl;simp only[ntmps112,List.size_toArray,qH,List.length_nil,Nat.reduceAdd,Nat.reduceSub,Array.replicate_succ,Array.replicate_zero,List.push_toArray,List.append_toArray,J3,J4];obtain⟨fn,tmps,assign,Qa2,hy,hR⟩:=HY.o [] l.length W qg.o.1 (by unfold NumG;rw[Qhl];exact⟨_,rfl⟩)
 have qi:IntKind.u64.wrap (l.length:Int)=(l.length:Int):=by rw[JU];omega
 gi_wp2;refine hR.mono ?_;rintro e W1 ⟨rfl,T,S⟩;have qd:Hi (QxF l J W [l.length] W1):=Z ⟨T,S⟩;clear hy hR T S c0;gi_wp2;gi_loopw [13] (fun u13 wr=>Hi (∃c:Nat,c<=4/\u13 = Ji c/\QxF l J W (l.length :: Qef l c) wr)) (fun u13 _=>4-(intOf u13).toNat)
 case atStart=>exact Z ⟨0,by decide,rfl,qd.o⟩
 case round=>
  obtain⟨f,hcc,rfl,hst⟩:=hrel.o;clear hrel
  by_cases R:f<4
  ·have t1:decide ((f:Int)<4)=true:=qA (by omega)
   obtain⟨W0,hW0⟩:∃W0,wr.alloc (.cells #[Ju 0,Ju 0,Jd 0,Jd 0] 61)=W0:=⟨_,rfl⟩;obtain⟨A,hA⟩:∃A,wr.heap.size=A:=⟨_,rfl⟩;have I:KeptC QoV W W0:=by rw[<-hW0];exact hst.2.trans (KeptT.alloc _ _).toKeptC
   have U:Hi (QEb l J W A (l.length :: Qef l f) Qa7 W0):=Z ⟨⟨by rw[<-hW0];exact HJ.o.alloc _ hst.1,I⟩,by rw[<-hA];exact hst.2.sz,by rw[<-hW0,<-hA];exact JI wr _⟩
   have c0:Jx W0 N 0 (.slice ab l.length c):=(QaJ (I.cl N _ _ m qb.o.2 (.inr rfl)) 0).trans rfl;clear hst I;gi_wp2;gi_loopw [18] (fun u18 wx=>Hi (∃i:Nat,i<=l.length/\u18 = Ji i/\QEb l J W A (l.length :: (Qef l f++(QdY f 0 Qa7 l).take i)) ((Qa7 :: l).getD i Qa7) wx)) (fun u18 _=>l.length-(intOf u18).toNat)
   case atStart=>exact Z ⟨0,qL _,rfl,by rw[List.take_zero,qT];exact U.o⟩
   case round=>
    obtain⟨i,hi,rfl,hst⟩:=hrel.o;clear hrel c0
    by_cases b:i<l.length
    ·have t2:decide ((i:Int)<(l.length:Int))=true:=qA (by omega)
     have qa:=qb.o.1.kept hst.1.2;obtain⟨b',c',he',-,hx'⟩:=qa.at (fun e=>by rw[e] at b;exact JN b (JH _))
     obtain⟨x0,x1,x2,x3⟩:=hx' i b;injection he' with q1 q2 q3
     subst q1;clear hx' qa q2 q3;have y:=(qc l[i] (JG b));have d:=Qz5 f l 0 Qa7 i b;rw[Nat.zero_add] at d;have z:l.getD i Qa7=l[i]:=Qcv b;rw[z] at d;have p:=QqY l Qa7 i hr b;have K:=QAq l qc i;rw[z] at p;obtain⟨ah,hah⟩:∃ah,(Qa7 :: l).getD i Qa7=ah:=⟨_,rfl⟩;obtain⟨e,he⟩:∃e,l[i]=e:=⟨_,rfl⟩;rw[hah] at hst d p K;rw[he] at y d p x0 x1 x2 x3;obtain⟨e0,e1,e2,e3⟩:=e;obtain⟨a0,a1,a2,a3⟩:=ah;have HL:Hi (l.getD i Qa7=(e0,e1,e2,e3)):=Z (z.trans he);have V:=Qxe y.2;have HN:=Z (fun W=>Qqk f i a0 a1 a2 a3 e0 e1 e2 e3 W R (by omega) K y.1 (.inl p) (by have:e1<=1099511627776:=V;omega))
     obtain⟨x,hx⟩:∃x,QpG f i (a0,a1,a2,a3) (e0,e1,e2,e3)=x:=⟨_,rfl⟩;rw[hx] at HN d;have HG:=Z (Qyu l f i x R d);have HT:=Z (Qnb d);obtain⟨Wb,hWb⟩:∃Wb,wr.alloc (.cells #[Ju e0,Ju e1,Jd e2,Jd e3] 61)=Wb:=⟨_,rfl⟩;obtain⟨E,hEE⟩:∃E,wr.heap.size=E:=⟨_,rfl⟩;have B:A<E:=by rw[<-hEE];exact (gsi hst.2.2).1
     have P:Wb.heap[A]?=_:=(by rw[<-hWb];exact JQ _ _ _ (show A<wr.heap.size by omega):Wb.heap[A]?=wr.heap[A]?).trans hst.2.2
     have O:Wb.heap[E]?=some (.cells #[Ju e0,Ju e1,Jd e2,Jd e3] 61 (0,0)):=by rw[<-hWb,<-hEE];exact JI wr _
     have n:=HJ.o.alloc (.cells #[Ju e0,Ju e1,Jd e2,Jd e3] 61) hst.1.1;rw[hWb] at n;have q:KeptC QoV W Wb:=by rw[<-hWb];exact hst.1.2.trans (KeptT.alloc _ _).toKeptC
     have D:Wb.heap.size=E+1:=by rw[<-hWb,qJ,hEE]
     have a:W.heap.size<=A:=hst.2.1;obtain⟨⟨y0,y1,y2,y3⟩,-⟩:=QaC P;obtain⟨⟨z0,z1,z2,z3⟩,-⟩:=QaC O;have HK:=Z (qE n (qE q (qE P (qE O (qE D (qE B a))))));clear hst K y p d hah he z hx V n q P O D B a;gi_wp2_with (refine⟨trivial,?_⟩;gi_at_call 113;refine (callsIn_wide.2 (HN.o _)).mono ?_;rintro e' w2 ⟨rfl,s⟩;obtain⟨fn2,tmps2,assign2,body2,hy,hR⟩:=HY.o _ x w2 (HJ.o.below HK.o.1 s) HG.o);refine hR.mono ?_;rintro e' w3 ⟨rfl,G,C⟩;obtain⟨n,q,P,O,D,B,a⟩:=HK.o;have j:=C.cl A _ _ _ ((s.block A (by omega)).trans P) (.inl rfl)
     have Y:=C.cl E _ _ _ ((s.block E (by omega)).trans O) (.inl rfl)
     obtain⟨⟨v0,v1,v2,v3⟩,f0,f1,f2,f3⟩:=QaC j;obtain⟨⟨u0,u1,u2,u3⟩,-⟩:=QaC Y;have g:KeptC QoV W w3:=q.trans ((KeptC.of_below s).trans C);have qh:=Z (qE G (qE g (qE j a)));clear hy hR G C n q P O D B a j Y g HK s y0 y1 y2 y3 z0 z1 z2 z3 x0 x1 x2 x3;gi_wp2;obtain⟨G,g,j,a⟩:=qh.o;have hg:=QDM w3 A (Ju e0) (Ju e1) (Jd e2) (Jd e3);refine⟨Z ⟨i+1,b,by go_num,⟨⟨?_,?_⟩,a,?_⟩⟩,?_⟩
     ·rw[HT.o,<-qP,<-J4]
      exact HJ.o _ _ _ _ G hg (fun r e=>by cases e;exact⟨a,_,_,_,j,.inl rfl⟩)
     ·exact⟨qD g.sz hg.size,fun k cs t m hk ht=>(hg.block k (gsi (g.cl k cs t m hk ht)).1 (fun e=>by cases e;have:=(gsi hk).1;omega)).trans (g.cl k cs t m hk ht)⟩
     ·have h4:=Qec j (Ju e0) (Ju e1) (Jd e2) (Jd e3)
      rw[show (Qa7 :: l).getD (i+1) Qa7=(e0,e1,e2,e3) from HL.o];exact h4
     ·simp[intOf];omega
    ·have t2:decide ((i:Int)<(l.length:Int))=false:=qB (by omega)
     obtain rfl:i=l.length:=by omega
     have X:QxF l J W (l.length :: Qef l (f+1)) wr:=by
      have h:=hst.1;rw[qX (by rw[QdF];exact qC _),<-Qbk] at h
      exact h
     have qe:=Z X;clear hst X;gi_wp2;refine⟨Z ⟨f+1,by omega,by go_num,qe.o⟩,?_⟩
     simp[intOf];omega
  ·have t1:decide ((f:Int)<4)=false:=qB (by omega)
   obtain rfl:f=4:=by omega
   have qf:=Z hst;clear hst;gi_wp2;go_end0;exact⟨⟨_,rfl⟩,_,(Qhl l).symm,qf.o.1⟩
end
section
open Go.RowKit Go.Shelf
attribute [local go_sem] Oper.semAt_some
theorem Qno(l:List Ent)(h:QeZ l=0):l.length<=4096/\(∀e∈l,Qcj e=0)/\Qsy 0 l:=by
 unfold QeZ at h
 by_cases i:4096<l.length
 ·rw[JK i] at h;cases h
 ·rw[JJ i] at h
  refine⟨by omega,?_,Ql1 l 0 0 (qC _) h⟩
  have g:∀(l:List Ent) (f:Nat),Qm1 f l=0->∀e∈l,Qcj e=0:=by
   intro l
   induction l with
   |nil=>intro f _ e c;cases c
   |cons a r ih=>
    intro f b e c;unfold Qm1 at b
    by_cases d:Qcj a=0
    ·rw[JJ (fun x=>x d)] at b
     split at b
     ·cases b
     ·rcases List.mem_cons.1 c with rfl|c
      ·exact d
      ·exact ih _ b e c
    ·rw[JK d] at b;exact JN b d
  exact g l 0 h
theorem EntB.holds{w:World}{v:Value}{l:List Ent}(h:EntB w v l):HoldsE w v l:=by
 obtain⟨a,c,h1,h2,h3⟩:=h;refine⟨Qbg l,a,c,h1,h2,fun hz=>?_⟩
 obtain⟨b,cs,m,rfl,h3,h4⟩:=h3 (fun e=>hz (by rw[e];rfl))
 refine⟨b,0,rfl,(gsi h3).1,fun i u hi=>?_⟩
 rw[Nat.zero_add];exact (QaJ h3 i).trans (h4 i u hi)
theorem EntB.below{w w':World}{v:Value}{l:List Ent}(h:EntB w v l)(a:Jw w w'):EntB w' v l:=h.kept (KeptC.of_below a)
theorem Qvk(k:Nat):∀x,x<128 ^ (k+1)->x<18446744073709551616->(QcJ k x).length=max 1 ((Lib.bitLen x+6)/7):=by
 have a:∀x,x<128->max 1 ((Lib.bitLen x+6)/7)=1:=by
  intro x hx;have h:∀z:Fin 128,max 1 ((Lib.bitLen z.val+6)/7)=1:=by decide +kernel
  exact h ⟨x,hx⟩
 induction k with
 |zero=>
  intro x hx _;rw[a x (by simpa using hx)];rfl
 |succ k ih=>
  intro x hx c;unfold QcJ
  by_cases b:x<128
  ·rw[JK b,a x b];rfl
  ·rw[JJ b,qH,ih (x/128) (by rw[Nat.div_lt_iff_lt_mul (by decide),<-Nat.pow_succ];exact hx) (by omega)]
   have f:=Lib.bitLen_shift 7 x (by show 128<=x;omega) c
   rw[f,show (2:Nat) ^ 7=128 from rfl];have g:1<=Lib.bitLen (x/128):=by
    rcases Nat.eq_zero_or_pos (Lib.bitLen (x/128)) with h0|h0
    ·exfalso
     have d:x/128≠0:=by omega
     rw[Lib.bitLen_half (x/128) d (by omega)] at h0
     omega
    ·exact h0
   omega
theorem QoX(x:Nat)(hx:x<18446744073709551616)(w:World):Calls prog 110 #[Ju x] w (JS (Ji ((QfP x).length:Nat)) w):=by
 have a:=Tryz.bits_Len64 (x:Int) w (by omega) (by omega)
 rw[Int.toNat_natCast] at a;have c:=Z (Qvk 9 x (by omega) hx)
 have g:Lib.bitLen x<=70:=by
  have:=(Ql7 x hx).2;unfold QfP at this;rw[c.o] at this
  by_cases h:Lib.bitLen x<=70
  ·exact h
  ·exfalso;omega
 generalize Lib.bitLen x=n at *;have d:=Z a;clear a;go_enter func110,ntmps110;go_wp2_with fail;refine d.o.mono ?_;rintro e f ⟨rfl,b⟩;obtain rfl:=b.symm;clear b;go_wp2_with fail
 all_goals
  go_ret;refine⟨QbS ?_,rfl⟩;unfold QfP;rw[c.o];omega
theorem Qh3(a:Option Addr)(n c:Nat)(w:World):Calls prog 66 #[.slice a n c] w fun e w'=>e=.returned (.func (.func 112) #[] #[Jp w.heap.size])/\w'=w.alloc (.cells #[.slice a n c] 51):=by
 have d:∀(fn:Fn) (first b:JW) (w:World),(Instr.makeFunc fn first b).run prog w=.ok (.func fn first b) w:=fun _ _ _ _=>rfl
 go_enter func66,ntmps66;go_wp2;go_ret;exact⟨rfl,rfl⟩
end
section
open Go.RowKit Go.Shelf
attribute [local go_sem] Oper.semAt_some
def QD8(B0 B1:Nat)(w:World)(pre:List Nat)(W:World):Prop:=W.heap[B1]?=some (.cells #[Ji ((Qa6 pre).length:Nat)] 3 (0,0))/\Below B0 w W
theorem QfB{T:JT->Prop}{b B:Nat}{w W W':World}{row:Option Nat}(c:Below b w W)(a:W.grownBy W' row)(d:∀r,row=some r->QAw T B W r)(g:b<=B)(f:b<=w.heap.size):Below b w W':=
 c.trans ⟨a.os,a.tape,a.output,a.size,fun k hk=>a.block k (by have:=c.size;omega) (fun e=>by rcases d k e.symm with⟨h,-⟩|⟨h,-⟩<;>omega)⟩
theorem QbN{T:JT->Prop}{B:Nat}{W W':World}{row:Option Nat}(b:W.grownBy W' row)(d:∀r,row=some r->QAw T B W r){k:Nat}{cs:JW}{t:JT}{m:Nat×Nat}(a:W.heap[k]?=some (.cells cs t m))(c:¬T t):W'.heap[k]?=some (.cells cs t m):=by
 refine (b.block k (gsi a).1 (fun e=>?_)).trans a
 rcases d k e.symm with⟨-,cs',t',m',h1,h2⟩|⟨-,o,h1,h2⟩
 ·rw[a] at h1
  injection h1 with h1
  injection h1 with _ h1 _
  subst h1;exact c h2
 ·rw[a] at h1
  obtain rfl:=qS h1;have:=h2.1;cases this
theorem QBS(c i:Nat)(b e:Ent)(a:Qbt e/\Qcj e=0):QpG c i b e<18446744073709551616:=by
 obtain⟨⟨h0,h1,h2,h3⟩,hc⟩:=a;have:=Qxe hc;unfold QpG;split
 ·omega
 ·split
  ·omega
  ·split
   ·omega
   ·split<;>omega
theorem QCK(c:Nat)(l:List Ent)(a:∀e∈l,Qbt e/\Qcj e=0):∀(i:Nat) (b:Ent),∀x∈QdY c i b l,x<18446744073709551616:=by
 induction l with
 |nil=>intro i b x hx;cases hx
 |cons e r ih=>
  intro i b x hx;unfold QdY at hx;rcases List.mem_cons.1 hx with rfl|hx
  ·exact QBS c i b e (a e (.head _))
  ·exact ih (fun e he=>a e (.tail _ he)) _ _ x hx
theorem QpF(l:List Ent)(b:l.length<=4096)(a:∀e∈l,Qbt e/\Qcj e=0):∀x∈QeO l,x<18446744073709551616:=by
 intro x hx;unfold QeO at hx;rcases List.mem_cons.1 hx with rfl|hx
 ·omega
 ·simp only[J1] at hx
  rcases hx with ((h|h)|h)|h<;>exact QCK _ l a _ _ x h
theorem Qrn{l:List Nat}{a:List Nat}{x:Nat}(h:a++[x] <+: l):(Qa6 (a++[x])).length=(Qa6 a).length+(QfP x).length/\(Qa6 (a++[x])).length<=(Qa6 l).length/\x∈l/\a.length<l.length:=by
 obtain⟨t,rfl⟩:=h;refine⟨?_,?_,by simp,by simp⟩
 ·rw[QcA,qG]
  have:Qa6 [x]=QfP x:=by unfold Qa6;simp
  rw[this]
 ·rw[QcA (a++[x]),qG];omega
theorem Qjv:¬QoV 3:=by unfold QoV;decide
theorem QjX(l:List Ent)(a:Option Addr)(c:Nat)(w:World)(z:EntB w (.slice a l.length c) l)(q:QeZ l=0)(k:∀e∈l,Qbt e)(hlen:(Qb3 l).length<=1000000) :
  Calls prog 63 #[.slice a l.length c] w (JB (Ji ((Qb3 l).length:Nat)) w):=by
 obtain⟨hl,hchk,QFL⟩:=Qno l q;have f:=Z (QdE _ l w z.holds k (by omega))
 rw[q] at f;have h:=Z (fun W=>Qh3 a l.length c W)
 refine (callsIn_wide (n:=4)).1 ?_;refine callsIn_of_wp_marks func63 rfl trivial ?_ rfl;simp only[ntmps63,List.size_toArray,qH,List.length_nil,Nat.reduceAdd,Nat.reduceSub,Array.replicate_succ,Array.replicate_zero,List.push_toArray,List.append_toArray,J3,J4];gi_wp2_with (refine⟨trivial,?_⟩;gi_at_call 34;refine (callsIn_wide.2 f.o).mono ?_;rintro e r ⟨rfl,d⟩);gi_wp2_with (refine⟨trivial,?_⟩;gi_at_call 66;refine (callsIn_wide.2 (h.o _)).mono ?_;rintro e S ⟨rfl,rfl⟩);obtain⟨B1,hB1⟩:∃B1,r.heap.size=B1:=⟨_,rfl⟩;obtain⟨W2,hW2⟩:∃W2,(r.alloc (.cells #[Ji 0] 3)).alloc (.cells #[.slice a l.length c] 51)=W2:=⟨_,rfl⟩;have J:W2.heap.size=B1+2:=by rw[<-hW2,<-hB1];simp
 have G:W2.heap[B1]?=some (.cells #[Ji 0] 3 (0,0)):=by
  rw[<-hW2,<-hB1];exact (JQ _ _ _ (by rw[qJ];omega)).trans (JI r _)
 have O:W2.heap[B1+1]?=some (.cells #[.slice a l.length c] 51 (0,0)):=by
  have:=JI (r.alloc (.cells #[Ji 0] 3)) (.cells #[.slice a l.length c] 51);rw[qJ,hB1] at this;rw[<-hW2];exact this
 have j:Jw w W2:=by rw[<-hW2];exact ((d.alloc d.size _).alloc (by rw[qJ];have:=d.size;omega) _)
 have A:EntB W2 (.slice a l.length c) l:=z.below j;have I:w.heap.size<=B1:=by rw[<-hB1];exact d.size
 have i:∀e∈l,Qbt e/\Qcj e=0:=fun e he=>⟨k e he,hchk e he⟩
 have y:=Z (QpF l hl i);have M:=Z (fun x hx W=>QoX x hx W)
 rw[hW2,hB1];clear hW2 hB1 d f h z;refine Qu2 rfl (by omega) (gf:=112) (lb:=#[Jp (B1+1)]) rfl trivial (enters_of func112 (by kernel_rfl) rfl) QoV (QgA l (.slice a l.length c) (B1+1) (0,0) W2 hl i QFL A O) (qF _ _) (fun _=>rfl)
  (QD8 w.heap.size B1 w) (fun s X Y row hs hg hr=>⟨QbN hg hr hs.1 Qjv,QfB hs.2 hg hr (by omega) (qC _)⟩) ⟨G,j⟩
  (fun x=>{ tmps:=#[.slice a l.length c,undef,Ji 0,Jp B1,Ju (x:Nat),.slice a l.length c,Ji 0,.bool false,.slice a l.length c,.func (.func 112) #[] #[Jp (B1+1)],Ju (x:Nat),undef,undef,undef,undef,undef],defers:=[] }) ?assign ?Qa2 ?done
 case assign=>
  intro B x W K v;gi_wp2;exact v
 case Qa2=>
  rintro B b x W ⟨g,t⟩ N;have H:prog.follows .mixedOrders=true:=by kernel_rfl
  obtain⟨g1,g2,g3,g4⟩:=Qrn N;have hx:=y.o x g3;have L:(Qa6 (b++[x])).length<=1000000:=qD g2 hlen;have C:Jx W B1 0 (Ji ((Qa6 b).length:Nat)):=(QaJ g 0).trans rfl;have R:W.frozen? (Ja B1 0)=false:=by unfold World.frozen?;rw[g];rfl
  have m:IntKind.i64.wrap (((Qa6 b).length:Int)+((QfP x).length:Int))=((Qa6 (b++[x])).length:Int):=by
   rw[IntWalk.i64_in _ (by omega)];omega
  have E:Hi (KeptT QoV W ((W.setCell (Ja B1 0) (Ji (IntKind.i64.wrap (((Qa6 b).length:Int)+((QfP x).length:Int))))).drew)/\QD8 w.heap.size B1 w (b++[x]) ((W.setCell (Ja B1 0) (Ji (IntKind.i64.wrap (((Qa6 b).length:Int)+((QfP x).length:Int))))).drew)):=Z (by
   rw[m];exact⟨(KeptT.setCell (a:=(Ja B1 0)) W _ g Qjv).trans (KeptT.drew _),Qcd g _,((t.setCell (p:=(Ja B1 0)) I _)).drew⟩)
  clear m g1 g2 g3 g4 g t;gi_wp2;gi_region_with_o (refine⟨trivial,?_⟩;gi_at_call 110;refine (CallsIn.inRound B (callsIn_wide.2 (M.o x hx _))).mono ?_;rintro e w' ⟨rfl,rfl⟩)
  all_goals gi_wp2
  all_goals exact E.o
 case done=>
  rintro D xs W P rfl ⟨g,t⟩ v;have C:Jx W B1 0 (Ji ((Qb3 l).length:Nat)):=(QaJ g 0).trans rfl;gi_wp2;refine⟨by simp,.inl ⟨_,_,rfl,run_takeDeferred v,?_⟩⟩
  exact⟨_,results_tmp rfl _ _ _,rfl,t.trans (belowK_b (w:=w) (qC _) W D _ _ (by omega) v rfl rfl)⟩
end
section
theorem QjI:(prog.info? 5).map (fun i=>(i.zero,i.size,i.bytes))=some (some (Jb 0),1,1):=by kernel_rfl
theorem QEy(y:Nat):bits BinOp.or IntKind.u8 ((y:Int)%256) 128=((y%128+128:Nat):Int):=by
 have h:∀z:Fin 256,bits BinOp.or IntKind.u8 ((z.val:Nat):Int) 128=((z.val%128+128:Nat):Int):=by decide +kernel
 have a:=h ⟨y%256,Nat.mod_lt _ (by decide)⟩
 have b:((y:Int)%256)=((y%256:Nat):Int):=by omega
 rw[b];refine a.trans ?_;show ((y%256%128+128:Nat):Int)=_;omega
theorem Qf4{B base:Nat}{w w0 b:World}{e:JT}{k n:Nat}{v:Value}{xs:JV}(c:Below B w w0)(a:w0.grownBy b v.ownBlock)(f:w0.ownsRow base e k v n xs)(g:B<=base)(d:base<=w.heap.size):Below B w b:=
 c.trans ⟨a.os,a.tape,a.output,a.size,fun i hi=>a.block i (by have:=c.size;omega) (fun e=>by have:=(f.lt i e.symm).1;omega)⟩
theorem Qga(d:JL)(c:Nat)(a:c<256):QaL (d++[UInt8.ofNat c])=QaL d++[Jb (c:Int)]:=by
 rw[QeF];show _++[Value.int .u8 ((UInt8.ofNat c).toNat:Int)]=_;rw[UInt8.toNat_ofNat',Nat.mod_eq_of_lt a]
def QEd(B base:Nat)(l:JL)(w:World)(e:Ending)(w':World):Prop:=
 ∃g c,e=.returned (Jl g l.length c)/\w'.ownsRow base 5 1 (Jl g l.length c) l.length (QaL l)/\Below B w w'
def LySt(B base x:Nat)(l:JL)(w:World)(u0 u1:Value)(wr:World):Prop:=
 ∃(k y:Nat) (d:JL) (a:Option Addr) (c:Nat),y<18446744073709551616/\y<128 ^ (k+1)/\k<=9/\d.length+k<=l.length+9/\d++QcJ k y=l++QfP x/\u0=.slice a d.length c/\u1 = Ju y/\wr.ownsRow base 5 1 (.slice a d.length c) d.length (QaL d)/\Below B w wr
theorem Qsc(B base x:Nat)(l:JL)(a:Option Addr)(c:Nat)(w:World)(hx:x<18446744073709551616)(H:l.length<=1000000)(v:B<=base)(m:base<=w.heap.size)(i:w.ownsRow base 5 1 (.slice a l.length c) l.length (QaL l)) :
  Calls prog 114 #[.slice a l.length c,Ju x] w (QEd B base (l++QfP x) w):=by
 have D:=Z i;clear i;go_enter func114,ntmps114;go_wp2_with fail;go_loopw [0,1] (fun u0 u1 wr=>Hi (LySt B base x l w u0 u1 wr)) (fun _ u1 _=>(intOf u1).toNat)
 case atStart=>exact Z ⟨9,x,l,a,c,hx,by omega,qC _,by omega,rfl,rfl,rfl,D.o,qF _ _⟩
 case round=>
  obtain⟨k,y,d,a,c,hy,hyk,hk,hdk,he,rfl,rfl,i,hb⟩:=hrel.o;clear hrel
  by_cases I:127<y
  ·have C:decide ((127:Int)<(y:Int))=true:=qA (by omega)
   have f:=Z i;have b:=Z hb;have s:=Z he;clear i hb he;have E:=QEy y;go_wp2_with (at_builtin;go_loud (refine Qdd 169 5 (Jb 0) 1 1 underlying169 QjI rfl (by decide) (by decide) wr [Jb ((y:Int)%128+128)] rfl (by simp[Value.oneCell']) (by rfl) _ _ (by rfl) base _ d.length (QaL d) (by rfl) f.o (by rfl) (by omega) (by have:=b.o.size;omega) ?_);intro t g z j h r)
   obtain⟨k',rfl⟩:∃k',k=k'+1:=by
    cases k with
    |zero=>omega
    |succ k'=>exact⟨k',rfl⟩
   have p:y/128<128 ^ (k'+1):=by
    rw[Nat.div_lt_iff_lt_mul (by decide),<-Nat.pow_succ];exact hyk
   refine⟨Z ⟨k',y/128,d++[UInt8.ofNat (y%128+128)],_,g,by omega,p,by omega,by rw[qG,List.length_singleton];omega,?_,by rw[qG,List.length_singleton],rfl,?_,Qf4 b.o h f.o v m⟩,?_⟩
   ·have n:=s.o
    unfold QcJ at n;rw[JJ (by omega)] at n
    rw[qP];exact n
   ·rw[qG,List.length_singleton,Qga _ _ (by omega)]
    exact j
   ·show ((y:Int)/128).toNat<(y:Int).toNat
    omega
  ·have C:decide ((127:Int)<(y:Int))=false:=qB (by omega)
   have f:=Z i;have b:=Z hb;have s:=Z he;clear i hb he;have A:(y:Int)%256=(y:Int):=by omega
   go_wp2_with (at_builtin;go_loud (refine Qdd 169 5 (Jb 0) 1 1 underlying169 QjI rfl (by decide) (by decide) wr [Jb (y:Int)] rfl (by simp[Value.oneCell']) (by rfl) _ _ (by rfl) base _ d.length (QaL d) (by rfl) f.o (by rfl) (by omega) (by have:=b.o.size;omega) ?_);intro t g z j h r)
   go_ret;have G:QcJ k y = [UInt8.ofNat y]:=by
    cases k with
    |zero=>rfl
    |succ k=>unfold QcJ;rw[JK (by omega)]
   have q:=s.o;rw[G] at q;refine⟨t,g,?_,?_,Qf4 b.o h f.o v m⟩
   ·rw[<-q,qG,List.length_singleton];rfl
   ·rw[<-q,qG,List.length_singleton,Qga _ _ (by omega)]
    exact j
theorem Qtd(l:List Nat)(k x:Nat)(h:l[k]?=some x):Qa6 (l.take (k+1))=Qa6 (l.take k)++QfP x:=by
 obtain⟨hk,rfl⟩:=List.getElem?_eq_some_iff.1 h;rw[qV hk,QcA];unfold Qa6;simp
def AlSt(l:List Nat)(w:World)(u3 u8:Value)(wr:World):Prop:=
 ∃(k:Nat) (a:Option Addr) (c:Nat),k<=l.length/\u8 = Ji k/\u3=.slice a (Qa6 (l.take k)).length c/\wr.ownsRow w.heap.size 5 1 (.slice a (Qa6 (l.take k)).length c) (Qa6 (l.take k)).length (QaL (Qa6 (l.take k)))/\Jw w wr
theorem Qwg(l:List Nat)(a:∀x∈l,x<18446744073709551616):(Qa6 l).length<=10*l.length:=by
 induction l with
 |nil=>exact qC _
 |cons x t ih=>
  have c:=(Ql7 x (a x (.head _))).2;have b:=ih (fun y hy=>a y (.tail _ hy))
  unfold Qa6 at b ⊢;rw[List.flatMap_cons,qG,qH];omega
theorem Qse(b c:Nat)(l:List Nat)(w:World)(H:l.length<=50000)(n:∀x∈l,x<18446744073709551616)(y:b<w.heap.size)(v:∀j (I:j<l.length),Jx w b j (Ju (l[j]:Nat))) :
  Calls prog 67 #[Jl b l.length c] w fun e w'=>∃a c',e=.returned (.slice a (Qa6 l).length c')/\w'.ownsRow w.heap.size 5 1 (.slice a (Qa6 l).length c') (Qa6 l).length (QaL (Qa6 l))/\Jw w w':=by
 have A:=Z v;have t:=Z n;clear v n;go_enter func67,ntmps67;go_wp2_with fail;go_loopw [3,8] (fun u3 u8 wr=>Hi (AlSt l w u3 u8 wr)) (fun _ u8 _=>l.length-(intOf u8).toNat)
 case atStart=>exact Z ⟨0,none,0,qL _,rfl,rfl,JZ _ _ _ _,qF _ _⟩
 case round=>
  obtain⟨k,a,c0,hk,rfl,rfl,ho,hbr⟩:=hrel.o;clear hrel
  by_cases f:k<l.length
  ·have C:decide ((k:Int)<(l.length:Int))=true:=qA (by omega)
   have hx:=t.o l[k] (JG f);have G:=(hbr.cell (p:=(Ja b k)) y).trans (A.o k f);have h:=Qtd l k l[k] (qU f);have hlen:=Qwg (l.take k) (fun x hx=>t.o x (List.mem_of_mem_take hx))
   rw[qW] at hlen;have q:=Z (Qsc w.heap.size w.heap.size l[k] (Qa6 (l.take k)) a c0 wr hx (by omega) (qC _) hbr.size ho)
   rw[<-h] at q;have z:=Z hbr;obtain⟨d,hd⟩:∃d,Qa6 (l.take k)=d:=⟨_,rfl⟩;rw[hd] at q ⊢;generalize l[k]=x at *;clear ho hbr h hlen hd hx;go_wp2_with fail;refine q.o.mono ?_;rintro e E ⟨g,B,rfl,i,m⟩;have s:=Z i;have r:=Z (z.o.trans m);clear i m;go_wp2_with fail;go_roundw
   case rel=>exact Z ⟨k+1,_,B,f,by go_num,rfl,s.o,r.o⟩
   case measure=>simp[intOf];omega
  ·have C:decide ((k:Int)<(l.length:Int))=false:=qB (by omega)
   obtain rfl:k=l.length:=by omega
   rw[List.take_length] at ho ⊢;have D:=Z ho;clear ho;go_wp2;go_ret;exact⟨a,c0,rfl,D.o,hbr⟩
theorem QEp(s b:Nat)(a:s<18446744073709551616)(d:b<256):bits BinOp.xor IntKind.u64 (s:Int) (b:Int)=((s ^^^ b:Nat):Int):=by
 have hx:=FnvPlain.xor_lt s b a (by omega)
 have c:(BitVec.ofInt IntKind.u64.bits (s:Int) ^^^ BitVec.ofInt IntKind.u64.bits (b:Int)).toNat=s ^^^ b:=by
  show (BitVec.ofInt 64 (s:Int) ^^^ BitVec.ofInt 64 (b:Int)).toNat=s ^^^ b;rw[BitVec.ofInt_natCast,BitVec.ofInt_natCast,BitVec.toNat_xor,BitVec.toNat_ofNat,BitVec.toNat_ofNat,Nat.mod_eq_of_lt (by omega),Nat.mod_eq_of_lt (by omega)]
 show IntKind.u64.wrap (((BitVec.ofInt IntKind.u64.bits (s:Int) ^^^ BitVec.ofInt IntKind.u64.bits (b:Int)).toNat:Nat):Int)=_;rw[c];exact IntWalk.u64_in _ (by omega)
theorem QEA(x:Nat):IntKind.u64.wrap ((x:Int)*1099511628211)=((x*1099511628211%18446744073709551616:Nat):Int):=by
 rw[JU];omega
theorem QCv(s b:Nat)(w:World)(c:s<18446744073709551616)(a:b<256) :
  Calls prog 202 #[Ju s,Jb b] w (JS (Ju (FnvPlain.add s b:Nat)) w):=by
 have hx:=QEp s b c a;have d:=Z hx;clear hx;go_enter func202,ntmps202;go_wp2;go_ret;refine⟨QbS ?_,rfl⟩;rw[d.o];exact QEA _
theorem Qtp(l:JL)(k:Nat)(c:UInt8)(a:Nat)(h:l[k]?=some c) :
  (l.take (k+1)).foldl (fun s c=>FnvPlain.add s c.toNat) a=FnvPlain.add ((l.take k).foldl (fun s c=>FnvPlain.add s c.toNat) a) c.toNat:=by
 obtain⟨hk,rfl⟩:=List.getElem?_eq_some_iff.1 h;rw[qV hk,List.foldl_append,List.foldl_cons,List.foldl_nil]
def Qtr(s0:Nat)(l:JL):Nat:=l.foldl (fun s c=>FnvPlain.add s c.toNat) s0
theorem QzH(a:Nat)(l:JL)(h:a<18446744073709551616):Qtr a l<18446744073709551616:=FnvPlain.foldl_lt l a h
theorem Qtq(s:JA)(k:Nat)(b:k<s.size)(a:Nat):Qtr a (s.data.toList.take (k+1))=FnvPlain.add (Qtr a (s.data.toList.take k)) s[k].toNat:=
 Qtp s.data.toList k s[k] a (by rw[qU (by simpa using b)];rfl)
theorem QzI(s:JA)(w:World)(f:s.size<=9223372036854775807) :
  Calls prog 203 #[.agg #[Ju 14695981039346656037,.func (.func 202) #[] #[]],Jt s] w (JB (Ju (FnvPlain.sum s.data.toList:Nat)) w):=by
 go_enter func203,ntmps203;go_wp2;go_loopw [8] (fun i w1=>∃k:Nat,k<=s.size/\i = Ji k/\w1.cell? (Ja w.heap.size 0)=some (Ju (Qtr 14695981039346656037 (s.data.toList.take k):Nat))/\w1.cell? (Ja w.heap.size 1)=some (.func (.func 202) #[] #[])/\w1.frozen? (Ja w.heap.size 0)=false/\w.heap.size<w1.heap.size/\Jw w w1) (fun i _=>s.size-(intOf i).toNat)
 case atStart=>exact⟨0,qL _,rfl,by simp[Qtr],by simp,by simp,by rw[qJ];omega,(qF _ _).alloc (qC _) _⟩
 case round=>
  obtain⟨k,hk,rfl,hc0,hc1,hf,hz,hb⟩:=hrel
  by_cases a:k<s.size
  ·have c:=QzH 14695981039346656037 (s.data.toList.take k) (by decide)
   have b:=Qtq s k a 14695981039346656037;generalize Qtr 14695981039346656037 (s.data.toList.take k)=S at *;have d:=Z b;clear b;go_wp2;go_still_tail 9,(by kernel_rfl)
   still_call (QCv S s[k].toNat _ c (by exact s[k].toNat_lt))
   repeat still_step
   refine wpStill_nil ?_;change wpList _ _ _ _ _ wr.drew;go_wp2;go_roundw
   case rel=>
    refine⟨k+1,by omega,by go_num,?_,?_,?_,?_,?_⟩
    ·rw[d.o];exact World.cell?_setCell_same (w:=wr) _ _ hc0
    ·show (wr.setCell _ _).cell? _=_;rw[World.cell?_setCell_other _ _ _ _ (by simp)];exact hc1
    ·show (wr.setCell _ _).frozen? _=_;rw[World.frozen?_setCell];exact hf
    ·rw[World.size_drew,World.size_setCell];exact hz
    ·exact (hb.setCell (qC _) _).drew
   case measure=>simp[intOf];omega
  ·go_wp2
   go_ret;refine⟨QbS ?_,hb⟩;rw[qX (by simp;omega)];rfl
theorem QwJ(s:JA)(w:World)(a:s.size<=9223372036854775807) :
  Calls prog 163 #[Jt s] w (JB (Ju (FnvPlain.sum s.data.toList:Nat)) w):=by
 go_enter func163,ntmps163;go_wp2_with (go_at_call 203;refine (QzI _ _ a).mono ?_;rintro e w' ⟨rfl,b⟩);go_ret;exact⟨rfl,by assumption⟩
end
section
open Go.RowKit Go.Maps PoolPlain
theorem QdC{H:Type}{P:Program}{k:JT}{w w':World}{base:Nat}{e:JT}{q:IntKind}{b n:Nat}{D:DataW H}{S:Nat->Prop}(h:w.ownsGroups P k base e q b n D)(l:w.Shuns b (fun g=>¬S g))(m:S b)
  (j:∀g,S g->g<w.heap.size->w'.heap[g]?=w.heap[g]?):w'.ownsGroups P k base e q b n D/\w'.Shuns b (fun g=>¬S g):=by
 obtain⟨es,clock,hbk,F,hsz,rfl,hbb,hlen,hap⟩:=h;have c:b<w.heap.size:=(gsi hbk).1;have i:∀x∈es.toList,∀g,x.val.ownBlock=some g->S g:=fun x hx g hg=>Classical.not_not.1 (l es clock hbk x hx g hg)
 have a:∀x∈es.toList,∀zs,w.ownsInts base e q x.val zs->w'.ownsInts base e q x.val zs:=fun x hx zs ho=>⟨Qac ho.1 (fun g hg=>j g (i x hx g hg) (ho.1.lt g hg).2),ho.2⟩
 have f:∀x∈es.toList,∀z,rowElem (H:=H) w base e q x.val=some z->rowElem w' base e q x.val=some z:=fun x hx z hz=>by
  obtain⟨zs,ho,rfl⟩:=rowElem_inv hz;exact rowElem_mk (a x hx zs ho)
 obtain⟨F1,hmap,_⟩:=F.stay f;have d:w'.heap[b]?=some (.map es clock):=(j b m c).trans hbk;refine⟨⟨es,clock,d,F1,hsz,by rw[hmap],hbb,fun x hx zs ho=>?_,hap⟩,fun es2 c2 h2=>?_⟩
 ·obtain⟨y,hy⟩:=F.reads x hx
  obtain⟨z,hz,_⟩:=Go.WideElems.rd_val hy;obtain⟨zs0,ho0,_⟩:=rowElem_inv hz;rw[ho.unique (a x hx zs0 ho0)];exact hlen x hx zs0 ho0
 ·obtain⟨rfl,rfl⟩:es=es2/\clock=c2:=by rw[d] at h2;simpa using h2
  exact l es clock hbk
def Qmd(l:JM)(k:Nat):JV:=[Ju (off l k:Nat),Jd ((l.getD k []).length:Nat)]
def QeL(l:JM):JV:=(List.range l.length).flatMap (Qmd l)
theorem Qpu(l:JM)(s:JL):QeL (l++[s])=QeL l++[Ju l.flatten.length,Jd s.length]:=by
 unfold QeL;rw[qG,List.length_singleton,List.range_succ,List.flatMap_append]
 congr 1
 ·rw[List.flatMap_def,List.flatMap_def]
  congr 1
  refine List.map_congr_left (fun k a=>?_)
  have a:=List.mem_range.1 a;unfold Qmd;rw[Qk3 l [s] k (by omega),J9,J9,List.getElem?_append_left a]
 ·unfold Qmd
  rw[List.flatMap_cons,List.flatMap_nil,Qk3 l [s] _ (qC _),QBQ l _ (qC _)];simp[J9]
theorem QsJ(l:JM)(k:Nat)(d:k<l.length):(QeL l)[k*2]?=some (Ju (off l k:Nat))/\(QeL l)[k*2+1]?=some (Jd l[k].length)/\(QeL l).length=l.length*2:=by
 have a:∀n,∀j,j<n->((List.range n).flatMap (Qmd l))[j*2]?=some (Ju (off l j:Nat))/\((List.range n).flatMap (Qmd l))[j*2+1]?=some (Jd ((l.getD j []).length:Nat)):=by
  intro n
  induction n with
  |zero=>intro j c;omega
  |succ n ih=>
   intro j c;have hlen:((List.range n).flatMap (Qmd l)).length=n*2:=by
    clear ih c
    induction n with
    |zero=>rfl
    |succ n ih=>rw[List.range_succ,List.flatMap_append,qG,ih];simp[Qmd];omega
   rw[List.range_succ,List.flatMap_append]
   by_cases h:j<n
   ·rw[List.getElem?_append_left (by omega),List.getElem?_append_left (by omega)]
    exact ih j h
   ·obtain rfl:j=n:=by omega
    rw[List.getElem?_append_right (by omega),List.getElem?_append_right (by omega),hlen]
    rw[show j*2-j*2=0 by omega,show j*2+1-j*2=1 by omega]
    exact⟨rfl,rfl⟩
 have h:=a l.length k d;refine⟨h.1,?_,?_⟩
 ·have b:=h.2
  rw[J9,qU d] at b;exact b
 ·have:∀n,((List.range n).flatMap (Qmd l)).length=n*2:=by
   intro n
   induction n with
   |zero=>rfl
   |succ n ih=>rw[List.range_succ,List.flatMap_append,qG,ih];simp[Qmd];omega
  exact this _
def Qkr(l:JM)(x:Nat):List Int:=(grp l x).map fun (k:Nat)=>(k:Int)
def QEg(zs:List Int):DataW Unit:=if zs = [] then .nil else .slice (Go.ChangeShapes.lits .i64 zs) []
def Qsb(D:DataW Unit)(l:JM):Prop:=∀x:Nat,x<18446744073709551616->D.atKey (.int .u64 (x:Int)) .nil=QEg (Qkr l x)
def MapAt(w:World)(mv:Value)(l:JM)(S:Nat->Prop):Prop:=
 (mv=.map none/\l = [])\/∃b D,mv=.map (some b)/\S b/\w.ownsGroups prog 43 (b+1) 3 .i64 b l.length D/\w.Shuns b (fun g=>¬S g)/\Qsb D l
def PoolAt(w:World)(p:Nat)(l:JM)(S:Nat->Prop):Prop:=
 OkL l/\(∀g,S g->g<w.heap.size)/\S p/\∃tv pv mv,w.heap[p]?=some (.cells #[tv,pv,mv] 226 (0,0))/\
  w.ownsRow 0 5 1 tv l.flatten.length (QaL l.flatten)/\(∀g,tv.ownBlock=some g->S g)/\
  w.ownsRow 0 161 2 pv l.length (QeL l)/\(∀g,pv.ownBlock=some g->S g)/\MapAt w mv l S
theorem MapAt.keep{w w':World}{a:Value}{l:JM}{S:Nat->Prop}(h:MapAt w a l S)(c:∀g,S g->w'.heap[g]?=w.heap[g]?):MapAt w' a l S:=by
 rcases h with h|⟨b,D,h1,h2,h3,h4,h5⟩
 ·exact .inl h
 ·obtain⟨g1,g2⟩:=QdC h3 h4 h2 (fun g hg _=>c g hg)
  exact .inr ⟨b,D,h1,h2,g1,g2,h5⟩
theorem PoolAt.keep{w w':World}{p:Nat}{l:JM}{S:Nat->Prop}(h:PoolAt w p l S)(b:w.heap.size<=w'.heap.size)(a:∀g,S g->w'.heap[g]?=w.heap[g]?):PoolAt w' p l S:=by
 obtain⟨h0,h1,h2,tv,pv,mv,hb,ht,hts,hp,hps,hm⟩:=h;exact⟨h0,fun g hg=>qK (h1 g hg) b,h2,tv,pv,mv,(a p h2).trans hb,Qac ht (fun g hg=>a g (hts g hg)),hts,Qac hp (fun g hg=>a g (hps g hg)),hps,hm.keep a⟩
theorem PoolAt.below{w w':World}{p:Nat}{l:JM}{S:Nat->Prop}(h:PoolAt w p l S)(a:Jw w w'):PoolAt w' p l S:=h.keep a.size (fun g hg=>a.block g (h.2.1 g hg))
theorem PoolAt.lt{w:World}{p:Nat}{l:JM}{S:Nat->Prop}(h:PoolAt w p l S):p<w.heap.size:=h.2.1 p h.2.2.1
theorem PoolAt.new(w:World):PoolAt (w.alloc (.cells #[.slice none 0 0,.slice none 0 0,.map none] 226)) w.heap.size [] (fun g=>g=w.heap.size):=
 ⟨QvP,fun g hg=>by rw[qJ,hg];omega,rfl,_,_,_,Qbm w _,JZ _ _ _ _,fun g hg=>(by cases hg),JZ _ _ _ _,fun g hg=>(by cases hg),.inl ⟨rfl,rfl⟩⟩
theorem QgU{w:World}{b:Nat}{x y z:Value}{t:JT}(h:w.heap[b]?=some (.cells #[x,y,z] t (0,0))) :
  w.cell? (Ja b 0)=some x/\w.cell? (Ja b 1)=some y/\w.cell? (Ja b 2)=some z/\w.frozen? (Ja b 0)=false/\w.frozen? (Ja b 1)=false/\w.frozen? (Ja b 2)=false:=by
 refine⟨?_,?_,?_,?_,?_,?_⟩
 ·unfold World.cell?;rw[h];rfl
 ·unfold World.cell?;rw[h];rfl
 ·unfold World.cell?;rw[h];rfl
 ·unfold World.frozen?;rw[h];rfl
 ·unfold World.frozen?;rw[h];rfl
 ·unfold World.frozen?;rw[h];rfl
end
section
open Go.RowKit Go.Maps PoolPlain
theorem Quq(a:Nat)(h:a<18446744073709551616):IntKind.u64.wrap (a:Int)=(a:Int):=IntWalk.u64_in _ (by omega)
theorem QEX(w:World)(a b:Value)(t:JT):(w.alloc (.cells #[a,b] t)).cell? (Ja w.heap.size 0)=some a/\(w.alloc (.cells #[a,b] t)).cell? (Ja w.heap.size 1)=some b:=by
 have h:=Qbm w (.cells #[a,b] t);exact⟨by unfold World.cell?;rw[h];rfl,by unfold World.cell?;rw[h];rfl⟩
theorem Qqs(o n:Nat)(w:World)(h:o+n<18446744073709551616) :
  Calls prog 204 #[.agg #[Ju o,Jd n]] w (JB (Ju ((o:Int)+(n:Int))) w):=by
 have a:IntKind.u64.wrap ((o:Int)+(n:Int))=(o:Int)+(n:Int):=IntWalk.u64_in _ (by omega)
 have b:IntKind.u64.wrap (n:Int)=(n:Int):=Quq n (by omega)
 go_enter func204,ntmps204;go_wp2;go_ret;exact⟨rfl,(qF _ _).alloc (qC _) _⟩
theorem QtW(l:JL)(j:Nat)(a:j<l.length):(QaL l)[j]?=some (Jb (l[j].toNat:Int)):=by
 unfold QaL;rw[List.getElem?_map,qU a];rfl
theorem QlI{w:World}{base:Nat}{a:Value}{t:JL}(h:w.ownsRow base 5 1 a t.length (QaL t))(hne:0<t.length) :
  ∃g cap,a = Jl g t.length cap/\a.ownBlock=some g/\g<w.heap.size/\t.length<=cap/\cap<=maxLen/\∀j (b:j<t.length),w.cell? (Ja g j)=some (Jb (t[j].toNat:Int)):=by
 have d:=fun g hg=>h.cells (g:=g) hg
 rcases h.2 with⟨rfl,h0⟩|⟨g,cap,cur,rfl,hb,hg,hle,hm,hs,ht⟩
 ·omega
 ·refine⟨g,cap,rfl,rfl,(gsi hg).1,hle,hm,fun j b=>?_⟩
  have:=d g rfl j _ (QtW t j b);have c:((Ja g 0):Addr).add j=(Ja g j):=by unfold Addr.add;split<;>simp_all
  rwa[c] at this
theorem Qg0(g o j:Nat):((Ja g o):Addr).add j=(Ja g (o+j)):=by unfold Addr.add;split<;>simp_all
theorem QBh(l:JM)(k:Nat)(a:k<l.length)(x:JL)(hx:l[k]=x)(j:Nat)(c:j<x.length):∃h:off l k+j<l.flatten.length,l.flatten[off l k+j]=x[j]:=by
 subst hx;have b:=QDh l k a;have d:=QpD l k a;refine⟨by omega,?_⟩
 have:l[k][j]=((l.flatten.drop (off l k)).take l[k].length)[j]'(by rw[b];exact c):=by congr 1;exact b.symm
 rw[this,List.getElem_take,List.getElem_drop]
theorem QBF(p:Nat)(l:JM)(S:Nat->Prop)(w:World)(y:PoolAt w p l S)(k:Nat)(v:k<l.length) :
  Calls prog 164 #[Jp p,.agg #[Ju (off l k:Nat),Jd l[k].length]] w (JB (Jt (bs l[k])) w):=by
 have i:=y.lt;obtain⟨hok,hSl,hSp,tv,pv,mv,hb,ht,hts,-,-,-⟩:=y;have z:=Qmj l hok;have s:=QpD l k v;have n:0<l[k].length:=List.length_pos_iff.2 (hok.2.1 l[k] (JG _)).1;obtain⟨g,a,rfl,-,hgl,hle,hcm,Qak⟩:=QlI ht (by omega)
 obtain⟨c0,-,-,-,-,-⟩:=QgU hb;obtain⟨x,hx⟩:∃x,l[k]=x:=⟨_,rfl⟩;have f:=fun j b=>QBh l k v x hx j b
 rw[hx] at s n ⊢;have h:∀j (b:j<x.length),w.cell? (Ja g (off l k+j))=some (Jb (x[j].toNat:Int)):=fun j b=>by
  obtain⟨h1,h2⟩:=f j b;rw[Qak _ h1,h2]
 clear f Qak hx;generalize off l k=o at *;generalize l.flatten.length=m at *;obtain⟨b0,b1⟩:=QEX w (Ju o) (Jd x.length) 161;have c:Jw w (w.alloc (.cells #[Ju o,Jd x.length] 161)):=(qF _ _).alloc (qC _) _;have r:w.heap.size<(w.alloc (.cells #[Ju o,Jd x.length] 161)).heap.size:=by rw[qJ];omega
 go_enter func164,ntmps164;go_wp2_with fail;generalize w.alloc (.cells #[Ju o,Jd x.length] 161)=W0 at c r b0 b1 ⊢;have C:∀p:BelowOf W0,Jx p.world w.heap.size 0 (Ju o):=fun p=>QaD p r b0
 have A:∀p:BelowOf W0,Jx p.world w.heap.size 1 (Jd x.length):=fun p=>QaD p r b1
 have I:∀q:BelowOf W0,Jx q.world p 0 (Jl g m a):=fun q=>QaD q (by show p<_;omega) ((c.cell (p:=(Ja p 0)) i).trans c0)
 have H:∀q:BelowOf W0,(convert 169 9 (.slice (some (Ja g o)) x.length (a-o))).run prog q.world=.ok (Jt (bs x)) q.world:=fun q=>
  run_convert_bytes_back q.world 169 9 5 (Ja g o) _ x underlying169 underlying5 underlying9 (fun j b=>by
   rw[Qg0];exact QaD q (by show g<_;omega) ((c.cell (p:=(Ja g (o+j))) hgl).trans (h j b)))
 have c:=Z c;have D:(0:Int)<=(o:Int):=by omega
 have G:(o:Int)<=(o:Int)+(x.length:Int):=by omega
 have B:(o:Int)+(x.length:Int)<=(a:Int):=by omega
 clear h b0 b1 c0 hb ht;refine Qae (by kernel_rfl) (by kernel_rfl) ?_
 repeat (go_big_quiet_step ((go_at_call 204;exact QaA (Qqs o x.length _ (by omega)))))
 refine wpQuiet_nil ?_;intro E d;have t:=QaQ d;clear d;go_wp2;go_ret;exact⟨rfl,Qaa c.out t⟩
theorem QC8:Keyed prog 43:=int_keyed underlying43
theorem Qim(w:World):(zeroValue 284).run prog w=.ok (.slice none 0 0) w:=by kernel_rfl
theorem Qhs(x:Nat)(h:x<18446744073709551616):keyOf prog 43 (Ju (x:Int))=some (.int .u64 (x:Int)):=keyOf_int_mk underlying43 (WalkArith.wf_u64 (by omega))
theorem Qw0{H:Type}{P:Program}{k:JT}{R:Value->Option (DataW H×List MemPlace)}{d:Array MapEntry}{a:Nat}(F:Go.WideElems.Fit P k R d a){x y:MapEntry}(hx:x∈d.toList)(g:y∈d.toList)(f:x.key=y.key):x=y:=by
 have b:d.toList.Pairwise (fun x y=>x.key≠y.key):=((Go.MapKept.stamped_iff d a).1 F.stamped).2.2
 rw[List.pairwise_iff_getElem] at b;obtain⟨i,hi,rfl⟩:=List.getElem_of_mem hx;obtain⟨j,hj,rfl⟩:=List.getElem_of_mem g;rcases Nat.lt_trichotomy i j with c|c|c
 ·exact JN f (b i j hi hj c)
 ·subst c;rfl
 ·exact JN f.symm (b j i hj hi c)
theorem Qf5{H:Type}{P:Program}{k t E:JT}{w:World}{base:Nat}{e:JT}{q:IntKind}{b n:Nat}{D:DataW H}{S:Nat->Prop}(K:Keyed P k)(d:P.underlying t=some (.map k E))(f:∀w,(zeroValue E).run P w=.ok (.slice none 0 0) w)
  (h:w.ownsGroups P k base e q b n D) (l:w.Shuns b (fun g=>¬S g)) (m:n<maxLen) {key:Value} {i:Lit} (a:keyOf P k key=some i) :
  ∃v zs,D.atKey i .nil=rowDatum q v zs/\w.ownsInts base e q v zs/\zs.length<=n/\w.groupBack P t k base e q b n D key i v/\(∀g,v.ownBlock=some g->S g)/\∀w',w'.heap[b]?=w.heap[b]?->(Instr.lookup t (.map (some b)) key false).run P w'=.ok v w':=by
 obtain⟨v,zs,QFc,hat,hoi,hzl,QGk⟩:=h.at K d (f w) m a;obtain⟨es,clock,hb,F,-,-,-,-,-⟩:=h;refine⟨v,zs,hat,hoi,hzl,QGk,?_,?_⟩
 ·rcases fit_look false K d (f w) hb F a with⟨hr,-,-⟩|⟨e0,y,hm,-,hr,-,-,-⟩
  ·rw[QFc] at hr
   obtain rfl:v=.slice none 0 0:=by simpa using hr
   intro g j;cases j
  ·rw[QFc] at hr
   obtain rfl:v=e0.val:=by simpa using hr
   exact fun g j=>Classical.not_not.1 (l es clock hb e0 hm g j)
 ·intro w' c
  rcases fit_look false K d (f w) hb F a with⟨hr,hno,-⟩|⟨e0,y,hm,hk0,hr,-,-,-⟩
  ·rcases fit_look false K d (f w') (c.trans hb) F a with⟨hr',-,-⟩|⟨e1,y,hm,hk1,-,-,-,-⟩
   ·rw[hr'] ;rw[QFc] at hr
    obtain rfl:v=.slice none 0 0:=by simpa using hr
    rfl
   ·exact JN hk1 (hno e1 hm)
  ·rcases fit_look false K d (f w') (c.trans hb) F a with⟨-,hno,-⟩|⟨e1,y,hm1,hk1,hr',-,-,-⟩
   ·exact JN hk0 (hno e0 hm)
   ·obtain rfl:=Qw0 F hm hm1 (hk0.trans hk1.symm)
    rw[hr'];rw[QFc] at hr;obtain rfl:v=e0.val:=by simpa using hr
    rfl
theorem QyZ{a b:List Int}(h:Go.ChangeShapes.lits (H:=Unit) .i64 a=Go.ChangeShapes.lits .i64 b):a=b:=by
 unfold Go.ChangeShapes.lits at h;exact (List.map_inj_right (fun a b hab=>by cases hab;rfl)).1 h
theorem Qu1{w:World}{base:Nat}{e:JT}{v:Value}{a b:List Int}(d:w.ownsInts base e .i64 v a)(h:rowDatum (H:=Unit) .i64 v a=QEg b):a=b:=by
 unfold QEg at h;rcases d.datum (H:=Unit) with⟨h1,h2⟩|h1
 ·rw[h1] at h
  split at h
  ·rename_i c;rw[h2,c]
  ·cases h
 ·rw[h1] at h
  split at h
  ·cases h
  ·injection h with h3;exact QyZ h3
def HoldsZ(w:World)(v:Value)(zs:List Int):Prop:=∃a c,v=.slice a zs.length c/\zs.length<=c/\(zs≠[]->∃b,a=some (Ja b 0)/\b<w.heap.size/\∀j (hj:j<zs.length),w.cell? (Ja b j)=some (Ji zs[j]))
theorem HoldsZ.of_own{w:World}{base:Nat}{e:JT}{v:Value}{a:List Int}(h:w.ownsInts base e .i64 v a):HoldsZ w v a:=by
 have b:=fun g hg=>h.1.cells (g:=g) hg
 rcases h.1.2 with⟨rfl,h0⟩|⟨g,cap,cur,rfl,hb,hg,hle,hm,hs,ht⟩
 ·obtain rfl:=List.eq_nil_of_length_eq_zero h0
  exact⟨none,0,rfl,qC _,fun h=>JN rfl h⟩
 ·refine⟨_,cap,rfl,hle,fun _=>⟨g,rfl,(gsi hg).1,fun j hj=>?_⟩⟩
  have:=b g rfl j (Ji a[j]) (by rw[List.getElem?_map,qU hj];rfl)
  rwa[Qg0,Nat.zero_add] at this
theorem QyS{w:World}{a:Value}{l:JM}{S:Nat->Prop}(h:MapAt w a l S)(c:l.length<=2048)(x:Nat)(hx:x<18446744073709551616) :
  ∃v,HoldsZ w v (Qkr l x)/\∀w',(∀g,S g->w'.heap[g]?=w.heap[g]?)->(Instr.lookup 224 a (Ju (x:Int)) false).run prog w'=.ok v w':=by
 rcases h with⟨rfl,rfl⟩|⟨b,D,rfl,hSb,hg,hsh,hD⟩
 ·exact⟨.slice none 0 0,⟨none,0,rfl,qC _,fun h=>JN rfl h⟩,fun w' _=>look_nil false QC8 underlying224 (Qim w') (Qhs x hx)⟩
 ·obtain⟨v,zs,h1,h2,h3,h4,h5,h6⟩:=Qf5 QC8 underlying224 Qim hg hsh (by unfold maxLen;omega) (Qhs x hx)
  rw[hD x hx] at h1;obtain rfl:=Qu1 h2 h1.symm;exact⟨v,HoldsZ.of_own h2,fun w' hw'=>h6 w' (hw' b hSb)⟩
theorem Qvy{w:World}{base:Nat}{a:Value}{l:JM}(h:w.ownsRow base 161 2 a l.length (QeL l))(hne:0<l.length) :
  ∃g cap,a = Jl g l.length cap/\a.ownBlock=some g/\g<w.heap.size/\l.length<=cap/\∀k (c:k<l.length),w.cell? (Ja g (k*2))=some (Ju (off l k:Nat))/\w.cell? (Ja g (k*2+1))=some (Jd l[k].length):=by
 have f:=fun g hg=>h.cells (g:=g) hg
 rcases h.2 with⟨rfl,h0⟩|⟨g,cap,cur,rfl,hb,hg,hle,hm,hs,ht⟩
 ·omega
 ·refine⟨g,cap,rfl,rfl,(gsi hg).1,hle,fun k c=>?_⟩
  obtain⟨h1,h2,-⟩:=QsJ l k c;have b:=f g rfl _ _ h1;have d:=f g rfl _ _ h2;rw[Qg0,Nat.zero_add] at b d;exact⟨b,d⟩
theorem QbP(w:World)(b:Nat)(t:JT)(x y:Value)(h:w.heap[b]?=some (.cells #[x,y] t (0,0))):(loadVar 161 (Ja b 0)).run prog w=.ok (.agg #[x,y]) w:=
 run_loadVar_row w b t 161 #[x,y] (0,0) _ h underlying161 rfl (by kernel_rfl)
theorem Qfk{w:World}{b:Nat}{x y:Value}{t:JT}(h:w.heap[b]?=some (.cells #[x,y] t (0,0))) :
  w.cell? (Ja b 0)=some x/\w.cell? (Ja b 1)=some y/\w.frozen? (Ja b 0)=false/\w.frozen? (Ja b 1)=false:=by
 refine⟨?_,?_,?_,?_⟩
 ·unfold World.cell?;rw[h];rfl
 ·unfold World.cell?;rw[h];rfl
 ·unfold World.frozen?;rw[h];rfl
 ·unfold World.frozen?;rw[h];rfl
def QE1(l:JM)(s:JL)(w:World)(e:Ending)(w':World):Prop:=
 e=.returned (.tuple #[.agg #[Ju ((fnd l s).1:Nat),Jd ((fnd l s).2.1:Nat)],.bool (fnd l s).2.2])/\Jw w w'
end
section
open Go.RowKit Go.Shelf
attribute [local go_sem] Oper.semAt_some
theorem Qju:¬QoV 43:=by unfold QoV;decide
theorem QhU:¬QoV 26:=by unfold QoV;decide
theorem Qzg:(prog.info? 43).map (fun i=>(i.zero,i.size,i.bytes))=some (some (Ju 0),1,8):=by kernel_rfl
theorem Qr3{T:JT->Prop}{W c:World}{j B:Nat}{t e:JT}{size:Nat}{v h:Value}{k:Nat}{xs:JV}{b:Obj}(d:Boxed c B t v)(g:W.ownsRow j e size v k xs)(f:(W.alloc b).grownBy c v.ownBlock)(l:¬T t)(i:¬T e):KeptT T W (c.setCell (Ja B 0) h):=by
 refine (KeptT.alloc W b).trans ((KeptT.of_grown f (fun r hr=>?_)).trans (KeptT.setCell (a:=(Ja B 0)) c h d l))
 obtain⟨cur,hc⟩:=Qa5 g r hr;exact .inr (.inl ⟨cur,e,(0,0),(JQ W b _ (gsi hc).1).trans hc,i⟩)
theorem Qq6{T:JT->Prop}{B a:Nat}{W W':World}{row:Option Nat}{e:JT}{size n:Nat}{v:Value}{xs:JV}(h:W.ownsRow a e size v n xs)(c:W.grownBy W' row)(d:∀r,row=some r->QAw T B W r)(b:¬T e):W'.ownsRow a e size v n xs:=
 Qac h (fun g hv=>by
  obtain⟨cur,hc⟩:=Qa5 h g hv;rw[QbN c d hc b,hc])
theorem Qfq{w:World}{base:Nat}{v:Value}{t:JL}(a:w.ownsRow base 5 1 v t.length (QaL t)):(convert 169 9 v).run prog w=.ok (Jt (bs t)) w:=by
 rcases Nat.eq_zero_or_pos t.length with h0|h0
 ·have:t = []:=List.length_eq_zero_iff.1 h0
  subst this;rcases a.2 with⟨rfl,-⟩|⟨g,cap,cur,rfl,-⟩
  ·exact run_convert_bytes_nil w 169 5 underlying169 underlying5 0 0 9 underlying9
  ·exact run_convert_bytes_back w 169 9 5 (Ja g 0) cap [] underlying169 underlying5 underlying9 (fun j hj=>JN hj (JH _))
 ·obtain⟨g,cap,rfl,-,-,-,-,hc⟩:=QlI a h0
  exact run_convert_bytes_back w 169 9 5 (Ja g 0) cap t underlying169 underlying5 underlying9 (fun j hj=>by rw[Qg0,Nat.zero_add];exact hc j hj)
def QAH(l:List Nat):JV:=l.map fun x=>Ju (x:Nat)
def EncI(B0 B1:Nat)(w:World)(pre:List Nat)(W:World):Prop:=∃v,Boxed W B1 26 v/\W.ownsRow B0 43 1 v pre.length (QAH pre)/\Below B0 w W
theorem QjY(l:List Ent)(a:Option Addr)(c:Nat)(w:World)(P:EntB w (.slice a l.length c) l)(y:QeZ l=0)(p:∀e∈l,Qbt e)(hlen:(Qb3 l).length<=65536) :
  Calls prog 27 #[.slice a l.length c] w (JB (.tuple #[Jt (bs (Qb3 l)),Ji 0]) w):=by
 obtain⟨hl,hchk,QFL⟩:=Qno l y;have t:=Z (QdE _ l w P.holds p (by omega))
 rw[y] at t;have m:=Z (fun W (h:EntB W (.slice a l.length c) l)=>QjX l a c W h y p (by omega))
 have A:=Z (fun W=>Qh3 a l.length c W)
 have t1:decide ((65536:Int)<((Qb3 l).length:Int))=false:=qB (by omega)
 have B:=fun W (hb:Jw w W)=>P.below hb
 have U:=Z hlen;have k:=Z B;obtain⟨n,hn⟩:∃n,(Qb3 l).length=n:=⟨_,rfl⟩;rw[hn] at m t1;clear hlen P B hn;obtain⟨i0,hi,hz0,hz1,hz2⟩:=info_parts Qzg;refine (callsIn_wide (n:=4)).1 ?_;refine callsIn_of_wp_marks func27 rfl trivial ?_ rfl;simp only[ntmps27,List.size_toArray,qH,List.length_nil,Nat.reduceAdd,Nat.reduceSub,Array.replicate_succ,Array.replicate_zero,List.push_toArray,List.append_toArray,J3,J4];gi_wp2_with (refine⟨trivial,?_⟩;gi_at_call 34;refine (callsIn_wide.2 t.o).mono ?_;rintro e w1 ⟨rfl,r⟩);gi_wp2_with (refine⟨trivial,?_⟩;gi_at_call 63;refine (callsIn_wide.2 (m.o _ (k.o _ r))).mono ?_;rintro e L ⟨rfl,i⟩);gi_wp2_with (refine⟨trivial,?_⟩;gi_at_call 66;refine (callsIn_wide.2 (A.o _)).mono ?_;rintro e w3 ⟨rfl,rfl⟩);have f:=Qaa r i;obtain⟨B1,hB1⟩:∃B1,L.heap.size=B1:=⟨_,rfl⟩;obtain⟨W2,hW2⟩:∃W2,(L.alloc (.cells #[.slice none 0 0] 26)).alloc (.cells #[.slice a l.length c] 51)=W2:=⟨_,rfl⟩;have qc:W2.heap.size=B1+2:=by rw[<-hW2,<-hB1];simp
 have kn:Boxed W2 B1 26 (.slice none 0 0):=by
  rw[<-hW2,<-hB1];exact (Boxed.new L _ _).alloc _
 have kb:W2.heap[B1+1]?=some (.cells #[.slice a l.length c] 51 (0,0)):=by
  have:=JI (L.alloc (.cells #[.slice none 0 0] 26)) (.cells #[.slice a l.length c] 51);rw[qJ,hB1] at this;rw[<-hW2];exact this
 have hz:w.heap.size<=B1:=by rw[<-hB1];exact f.size
 have I:Jw w W2:=by rw[<-hW2];exact ((f.alloc f.size _).alloc (by rw[qJ,hB1];omega) _)
 have T:EntB W2 (.slice a l.length c) l:=k.o _ I;have C:∀e∈l,Qbt e/\Qcj e=0:=fun e he=>⟨p e he,hchk e he⟩
 have N:=Z (QpF l hl C);have qb:=QhT l;rw[hW2,hB1];clear hW2 hB1 r i f t A m k;refine Qu2 rfl (by omega) (gf:=112) (lb:=#[Jp (B1+1)]) rfl trivial (enters_of func112 (by kernel_rfl) rfl) QoV (QgA l (.slice a l.length c) (B1+1) (0,0) W2 hl C QFL T kb) (qF _ _) (fun _=>rfl)
  (EncI w.heap.size B1 w) (fun s X Y row hs hg hr=>by
   obtain⟨v,h1,h2,h3⟩:=hs;exact⟨v,QbN hg hr h1 QhU,Qq6 h2 hg hr Qju,QfB h3 hg hr (by omega) (qC _)⟩) ⟨_,kn,JZ _ _ _ _,I⟩
  (fun x=>{ tmps:=#[.slice a l.length c,undef,Jt ⟨#[]⟩,Ji 0,Ji 0,Jp B1,Ju (x:Nat),.slice a l.length c,Ji 0,Ji 0,.bool false,undef,.slice a l.length c,Ji n,.bool false,.slice a l.length c,.func (.func 112) #[] #[Jp (B1+1)],Ju (x:Nat),undef,undef,undef,undef,undef,undef,undef],defers:=[] }) ?assign ?Qa2 ?done
 case assign=>
  intro lp x W K J;gi_wp2;exact J
 case Qa2=>
  rintro lp qa x W ⟨v,G,b,z⟩ hG;obtain⟨g1,g2,g3,g4⟩:=Qrn hG;have V:=G.cell;gi_wp2_with (gi_at_builtin;go_loud (refine wpListIn_append_own _ rfl _ _ 26 rfl w.heap.size 43 i0 (Ju 0) 1 8 underlying26 hi hz0 hz1 hz2 rfl (by decide) _ _ _ rfl (b.alloc _) (Ja W.heap.size 0) 1 1 [Ju x] rfl rfl (cell_one_new _ _ _) (by simp[Value.oneCell']) (by unfold maxLen;omega) (by omega) (by have:=z.size;simp;omega) ?_);intro v' w1 E H _;obtain⟨g',cap',rfl⟩:=ownsRow_succ E;obtain⟨hv1,hv2,hr2,hk2,i⟩:=G.appended (by decide) b z.size hz E H;have qf:=hv1.cell;have qd:=hv1.frozen)
  refine⟨Qr3 hv1 b H QhU Qju,_,hv2,?_,z.trans i⟩;rw[qG,List.length_singleton];unfold QAH at hr2 ⊢;rw[qY];exact hr2
 case done=>
  rintro D xs W hD rfl ⟨v,G,b,z⟩ J;have V:=G.cell;have R:∃g cp,v = Jl g (QeO l).length cp/\g<W.heap.size/\∀j (hj:j<(QeO l).length),W.cell? (Ja g j)=some (Ju ((QeO l)[j]:Nat)):=by
   have S:=fun g hg=>b.cells (g:=g) hg
   rcases b.2 with⟨-,h0⟩|⟨g,cp,cur,rfl,-,hg,-⟩
   ·omega
   ·refine⟨g,cp,rfl,(gsi hg).1,fun j hj=>?_⟩
    have:=S g rfl j (Ju ((QeO l)[j]:Nat)) (by unfold QAH;rw[List.getElem?_map,qU hj];rfl)
    have e0:((Ja g 0):Addr).add j=(Ja g j):=by unfold Addr.add;split<;>simp_all
    rwa[e0] at this
  obtain⟨g,cp,rfl,hg,hcs⟩:=R;have HA:=Z (Qse g cp (QeO l) W (by omega) N.o hg hcs)
  have d:=Z (qE z J);have HD:=Z hD;clear hcs z J b G;generalize (QeO l).length=M at V HA ⊢;gi_wp2_with (refine⟨trivial,?_⟩;gi_at_call 67;refine (callsIn_wide.2 HA.o).mono ?_;rintro e w4 ⟨a4,c4,rfl,O,q⟩;have qe:=Qfq O);refine⟨by simp,.inl ⟨_,_,rfl,run_takeDeferred ((q.block D (gsi d.o.2).1).trans d.o.2),?_⟩⟩
  refine⟨_,results_tmp2 rfl _ _ _,rfl,?_⟩;exact (Qaa d.o.1 q).trans (belowK_b (w:=w) (qC _) w4 D _ _ (by have:=HD.o;omega) ((q.block D (gsi d.o.2).1).trans d.o.2) rfl rfl)
end
section
theorem QmY(g i:Nat):((Ja g 0):Addr).add i=(Ja g i):=by unfold Addr.add;split<;>simp_all
theorem EntB.own{w:World}{b0:Nat}{v:Value}{l:List Ent}(h:w.ownsRow b0 61 4 v l.length (Qan l)):EntB w v l:=by
 have a:=fun g hg=>h.cells (g:=g) hg
 rcases h.2 with⟨rfl,h0⟩|⟨g,cap,cur,rfl,-,hg,hle,-⟩
 ·exact⟨none,0,by rw[h0],by omega,fun hn=>JN (List.length_eq_zero_iff.1 h0) hn⟩
 ·refine⟨_,cap,rfl,hle,fun _=>⟨g,cur,(0,0),rfl,hg,fun i x hx=>?_⟩⟩
  have:=a g rfl i x hx;rw[QmY,QaJ hg] at this;exact this
theorem EntB.of_own{w:World}{b0:Nat}{v:Value}{l:List Ent}(h:w.ownsRow b0 61 4 v l.length (Qan l))(_:l≠[]):EntB w v l:=EntB.own h
theorem QhW(b c d a:Nat)(w:World)(h:0<a):Calls prog 62 #[.agg #[Ju b,Ju c,Jd d,Jd a]] w (JB (.bool false) w):=by
 obtain⟨c0,c1,c2,c3⟩:=Qdh w (Ju b) (Ju c) (Jd d) (Jd a) 61;have f:((a:Int)==0)=false:=by rw[qI];omega
 go_enter func62,ntmps62;go_wp2;go_ret;exact⟨rfl,QaV w _ _ _ _ _⟩
theorem Qti(l:List Ent)(v:Value)(w:World)(d:EntB w v l)(r:l.length<=1000000)(h:∀e∈l,0<e.2.2.2):Calls prog 109 #[v,.func (.func 62) #[] #[]] w (JB (Ji (-1)) w):=by
 have n:=Z d;have p:=Z h;obtain⟨ab,c,rfl,hlc⟩:=d.len;have s:∀args w,(callFunc 62 args).run prog w=.ok (.enter 62 args) w:=enters_of func62 (by kernel_rfl) rfl
 clear d h;go_enter func109,ntmps109;go_wp2_with fail;go_loopw [8] (fun u8 wr=>Hi (∃k:Nat,k<=l.length/\u8 = Ji k/\Jw w wr)) (fun u8 _=>l.length-(intOf u8).toNat)
 case atStart=>exact Z ⟨0,qL _,rfl,qF _ _⟩
 case round=>
  obtain⟨k,hk,rfl,hb⟩:=hrel.o;clear hrel
  by_cases a:k<l.length
  ·have i:decide ((k:Int)<(l.length:Int))=true:=qA (by omega)
   obtain⟨b',c',he',-,hx'⟩:=(n.o.below hb).at (fun e=>by rw[e] at a;exact JN a (JH _))
   obtain⟨x0,x1,x2,x3⟩:=hx' k a;injection he' with q1 q2 q3
   subst q1;have g:=p.o _ (JG a);have m:=Z (fun W=>QhW l[k].1 l[k].2.1 l[k].2.2.1 l[k].2.2.2 W g)
   have j:=Z hb;generalize l[k]=e at *;obtain⟨e0,e1,e2,e3⟩:=e;clear hb hx' q2 q3 g;go_wp2_with fail;refine (m.o _).mono ?_;rintro e q ⟨rfl,b⟩;have f:=Z (Qaa j.o b);clear b x0 x1 x2 x3;go_wp2_with fail;go_roundw
   case rel=>exact Z ⟨k+1,a,by go_num,f.o⟩
   case measure=>simp[intOf];omega
  ·have i:decide ((k:Int)<(l.length:Int))=false:=qB (by omega)
   go_wp2;go_ret;exact⟨rfl,hb⟩
theorem QmS(l:List Ent)(a:Option Addr)(c:Nat)(w:World)(d:EntB w (.slice a l.length c) l)(g:l.length<=1000000)(f:∀e∈l,0<e.2.2.2):Calls prog 61 #[.slice a l.length c,.func (.func 62) #[] #[]] w (JB (.bool false) w):=by
 have h:=Z (Qti l _ w d g f);clear d f;go_enter func61,ntmps61;go_wp2_with fail;refine h.o.mono ?_;rintro e i ⟨rfl,b⟩;go_wp2;go_ret;exact⟨rfl,b⟩
theorem Qht:(prog.info? 61).map (fun i=>(i.zero,i.size,i.bytes))=some (some (.agg #[Ju 0,Ju 0,Jd 0,Jd 0]),4,24):=by kernel_rfl
def OneEnt(e0 e1 e2 e3:Nat)(B0:Nat)(u:Value)(W:World):Prop:=∃g cp,u = Jl g 1 cp/\W.ownsRow B0 61 4 (Jl g 1 cp) 1 [Ju e0,Ju e1,Jd e2,Jd e3]
theorem OneEnt.entB{a b d c f:Nat}{u:Value}{W:World}(h:OneEnt a b d c f u W):EntB W u [(a,b,d,c)]:=by
 obtain⟨g,cp,rfl,ho⟩:=h;exact EntB.of_own (l:=[(a,b,d,c)]) ho (by simp)
theorem OneEnt.below{b c f d a:Nat}{u:Value}{W W':World}(h:OneEnt b c f d a u W)(i:Jw W W'):OneEnt b c f d a u W':=by
 obtain⟨g,cp,rfl,ho⟩:=h;exact⟨g,cp,rfl,Qac ho (fun k hk=>i.block k (ho.lt k hk).2)⟩
theorem QlZ(e:Ent)(h:Qcj e=0):QeZ [e]=0:=by
 unfold QeZ;rw[JJ (by simp)]
 simp[Qm1,h]
def JoSt(e0 e1 e2 e3:Nat)(w:World)(k:Nat)(u7:Value)(wr:World):Prop:=Jw w wr/\((k=0/\u7=.slice none 0 0)\/(k=1/\OneEnt e0 e1 e2 e3 w.heap.size u7 wr))
theorem QjC(d i f a:Nat)(v:Value)(t:JA)(w:World)(H:EntB w v [(d,i,f,a)])(R:Qcj (d,i,f,a)=0)(r:Qbt (d,i,f,a))(P:0<a) :
  Calls prog 94 #[v,Jt t] w fun e w'=>∃u,e=.returned (.tuple #[u,Ji 0])/\OneEnt d i f a w.heap.size u w'/\Jw w w':=by
 have p:∀e∈[((d,i,f,a):Ent)],Qbt e:=fun e he=>by rw[List.mem_singleton.1 he];exact r
 have m:=Z (fun (u:Value) W (h:EntB W u [(d,i,f,a)])=>QdE u [(d,i,f,a)] W h.holds p (by simp))
 rw[QlZ _ R] at m;have y:=Z H;have X:=Z (fun W=>QhW d i f a W P)
 obtain⟨b,c,rfl,hlc,-⟩:=H.at (by simp)
 clear H p R r P;go_enter func94,ntmps94;go_wp2_with fail;refine (m.o _ _ y.o).mono ?_;rintro e Y ⟨rfl,x⟩;have J:=Z x;clear x;go_wp2_with fail;go_loopw [7,20] (fun u7 u20 wr=>Hi (∃k:Nat,k<=1/\u20 = Ji k/\JoSt d i f a w k u7 wr)) (fun _ u20 _=>1-(intOf u20).toNat)
 case atStart=>exact Z ⟨0,by decide,rfl,J.o,.inl ⟨rfl,rfl⟩⟩
 case round=>
  obtain⟨k,hk,rfl,hb,hst⟩:=hrel.o;clear hrel;rcases hst with⟨rfl,rfl⟩|⟨rfl,QFf⟩
  ·obtain⟨b',c',he',-,hx'⟩:=(y.o.below hb).at (by simp)
   obtain⟨A,N,K,B⟩:=hx' 0 (by simp)
   injection he' with q1 q2 q3
   injection q1 with q1
   injection q1 with q1
   subst q1;have A:Jx wr b 0 (Ju d):=A;have N:Jx wr b 1 (Ju i):=N;have K:Jx wr b 2 (Jd f):=K;have B:Jx wr b 3 (Jd a):=B;obtain⟨Wb,hWb⟩:∃Wb,wr.alloc (.cells #[Ju d,Ju i,Jd f,Jd a] 61)=Wb:=⟨_,rfl⟩;obtain⟨E,hEE⟩:∃E,wr.heap.size=E:=⟨_,rfl⟩;have I:Wb.heap[E]?=some (.cells #[Ju d,Ju i,Jd f,Jd a] 61 (0,0)):=by rw[<-hWb,<-hEE];exact JI wr _
   have s:Jw wr Wb:=by rw[<-hWb];exact (qF _ _).alloc (qC _) _
   have C:=Z (qE (Qaa hb s) I);obtain⟨⟨y0,y1,y2,y3⟩,-⟩:=QaC I;clear hb hx' q2 q3 s I;go_wp2_with fail;refine (X.o _).mono ?_;rintro e V ⟨rfl,l⟩;have q:=(l.block _ (gsi C.o.2).1).trans C.o.2;have n:=Qaa C.o.1 l;obtain⟨⟨z0,z1,z2,z3⟩,-⟩:=QaC q;have L:=Z n;clear l n q y0 y1 y2 y3 A N K B;go_wp2_with (at_builtin;go_loud (refine Qdd 51 61 _ 4 24 underlying51 Qht rfl (by decide) (by decide) V [Ju d,Ju i,Jd f,Jd a] rfl (by simp[Value.oneCell']) (by rfl) _ _ (by rfl) w.heap.size _ 0 _ (by rfl) (JZ _ _ _ _) (by rfl) (by omega) L.o.size ?_);intro T G S M j U)
   go_roundw
   case rel=>
    refine Z ⟨1,by decide,by go_num,?_,.inr ⟨rfl,T,G,rfl,M⟩⟩
    exact L.o.trans ⟨j.os,j.tape,j.output,j.size,fun k hk=>j.block k (qK hk L.o.size) (by intro e;cases e)⟩
   case measure=>simp[intOf]
  ·have D:=Z (qE hb QFf)
   obtain⟨g,cp,rfl,-⟩:=QFf;clear hb;go_wp2_with fail;refine (m.o _ _ D.o.2.entB).mono ?_;rintro e S ⟨rfl,z⟩;have O:=Z z;clear z;go_wp2;go_ret2;exact⟨_,rfl,D.o.2.below O.o,Qaa D.o.1 O.o⟩
theorem QpL(i o n r m:Nat)(t:JA)(h:0<r)(f:o+n<=t.size)(c:m<=2048)(j:n<=65536)(k:t.size<=1000000000)(w:World) :
  Calls prog 95 #[.agg #[Ju i,Ju o,Jd n,Jd r],Ju m,Jt t] w (JB (Ji 0) w):=by
 obtain⟨c0,c1,c2,c3⟩:=Qdh w (Ju i) (Ju o) (Jd n) (Jd r) 61;have b:=Z (QaV w (Ju i) (Ju o) (Jd n) (Jd r) 61);have d:IntKind.u64.wrap (n:Int)=(n:Int):=by rw[JU];omega
 have l:IntKind.u64.wrap (t.size:Int)=(t.size:Int):=by rw[JU];omega
 obtain⟨q,hq⟩:∃q,o+n=q:=⟨_,rfl⟩;have g:IntKind.u64.wrap ((o:Int)+(n:Int))=(q:Int):=by rw[JU];omega
 have x:((r:Int)==0)=false:=by rw[qI];omega
 have v:decide ((t.size:Int)<(q:Int))=false:=qB (by omega)
 have a:decide (t.size<q)=false:=qB (by omega)
 have p:decide ((2048:Int)<(m:Int))=false:=qB (by omega)
 have s:decide ((65536:Int)<(n:Int))=false:=qB (by omega)
 clear hq h f c j k;go_enter func95,ntmps95;go_wp2;go_ret;exact⟨rfl,b.o⟩
def OneItem(i:Nat)(t:JA)(B0:Nat)(u:Value)(W:World):Prop:=∃g cp,u = Jl g 1 cp/\W.ownsRow B0 67 2 (Jl g 1 cp) 1 [Ju i,Jt t]
theorem OneItem.below{i:Nat}{t:JA}{a:Nat}{u:Value}{W W':World}(h:OneItem i t a u W)(b:Jw W W'):OneItem i t a u W':=by
 obtain⟨g,cp,rfl,ho⟩:=h;exact⟨g,cp,rfl,Qac ho (fun k hk=>b.block k (ho.lt k hk).2)⟩
theorem Qpw{W:World}{h g j:Nat}{e:JT}{a b:Value}(d:W.ownsRow h e 2 (Jl g 1 j) 1 [a,b]):∃cs,W.heap[g]?=some (.cells cs e (0,0))/\cs[0]?=some a/\cs[1]?=some b:=by
 have f:=fun g hg=>d.cells (g:=g) hg
 rcases d.2 with⟨-,h0⟩|⟨g',cap,cur,h1,-,hg,hle,-⟩
 ·cases h0
 ·injection h1 with q1 q2 q3
  injection q1 with q1
  injection q1 with q1
  subst q1;have c:∀i,((Ja g 0):Addr).add i=(Ja g i):=fun i=>by unfold Addr.add;split<;>simp_all
  refine⟨cur,hg,?_,?_⟩
  ·have:=f g rfl 0 a rfl
   rw[c,QaJ hg] at this;exact this
  ·have:=f g rfl 1 b rfl
   rw[c,QaJ hg] at this;exact this
def BkSt(i:Nat)(t:JA)(w:World)(k:Nat)(u7 u8:Value)(wr:World):Prop:=wr.heap[w.heap.size]?=some (.cells #[.slice none 0 0] 31 (0,0))/\Jw w wr/\((k=0/\u7 = Ju 0/\u8=.slice none 0 0)\/(k=1/\u7 = Ju 1/\OneItem i t w.heap.size u8 wr))
def BiSt(i n:Nat)(t:JA)(w:World)(E k:Nat)(u8:Value)(wr:World):Prop:=wr.heap[w.heap.size]?=some (.cells #[.slice none 0 0] 31 (0,0))/\wr.heap[E]?=some (.cells #[Ju i,Ju 0,Jd n,Jd 1] 61 (0,0))/\Jw w wr/\((k=0/\u8=.slice none 0 0)\/(k=1/\OneItem i t w.heap.size u8 wr))
theorem Qkz(i n:Nat)(t:JA)(hn:t.size=n)(v:Value)(w:World)(hi:i<6004799503160661)(h0:0<n)(h1:n<=65536)(S:EntB w v [(i,0,n,1)])(hc:Qcj (i,0,n,1)=0) :
  Calls prog 47 #[v,Jt t] w (Qkl i t w):=by
 have D:∀e∈[((i,0,n,1):Ent)],Qbt e:=fun e he=>by rw[List.mem_singleton.1 he];exact⟨show i<_ by omega,show 0<18446744073709551616 by omega,show n<_ by omega,show 1<4294967296 by omega⟩
 have G:=Z (fun W (h:EntB W v [(i,0,n,1)])=>QdE v [(i,0,n,1)] W h.holds D (by simp))
 rw[QlZ _ hc] at G;have HW:Hi (∀W,Calls prog 95 #[.agg #[Ju i,Ju 0,Jd n,Jd 1],Ju 1,Jt t] W (JB (Ji 0) W)):=Z (fun W=>QpL i 0 n 1 1 t (by omega) (by omega) (by omega) h1 (by omega) W)
 have R:=Z (fun g cp W hg c0 c1=>Qh6 i t hi (by omega) (by omega) g 0 cp W hg c0 c1)
 have qd:t.extract 0 n=t:=by rw[<-hn];exact ByteArray.extract_zero_size
 have qa:n<=t.size:=by omega
 have qe:IntKind.u64.wrap (n:Int)=(n:Int):=by rw[JU];omega
 have qc:IntKind.u64.wrap (i:Int)=(i:Int):=by rw[JU];omega
 obtain⟨W0,hW0⟩:∃W0,w.alloc (.cells #[.slice none 0 0] 31)=W0:=⟨_,rfl⟩;have s:Jw w W0:=by rw[<-hW0];exact (qF _ _).alloc (qC _) _
 have B:Hi (Jh W0 w.heap.size #[.slice none 0 0] 31):=Z (by rw[<-hW0];exact JI w _)
 have H:=Z (S.below s);have L:=Z s;obtain⟨b,c,rfl,hlc,-⟩:=S.at (by simp)
 clear S D hc hi h0 h1 hn s;go_enter func47,ntmps47;go_wp2_with fail;refine (G.o _ H.o).mono ?_;rintro e w1 ⟨rfl,m⟩;have r:=Z (qE ((m.block _ (gsi B.o).1).trans B.o) (qE (Qaa L.o m) (H.o.below m)));clear m hW0;go_wp2_with fail;go_loopw [7,8,22] (fun u7 u8 u22 wr=>Hi (∃k:Nat,k<=1/\u22 = Ji k/\Jw w1 wr/\BkSt i t w k u7 u8 wr)) (fun _ _ u22 _=>1-(intOf u22).toNat)
 case atStart=>exact Z ⟨0,by decide,rfl,qF _ _,r.o.1,r.o.2.1,.inl ⟨rfl,rfl,rfl⟩⟩
 case round=>
  obtain⟨k,hk,rfl,hbw,hr,hb,hst⟩:=hrel.o;clear hrel;rcases hst with⟨rfl,rfl,rfl⟩|⟨rfl,rfl,QFf⟩
  ·obtain⟨b',c',he',-,hx'⟩:=(r.o.2.2.below hbw).at (by simp)
   obtain⟨K,X,U,M⟩:=hx' 0 (by simp)
   injection he' with q1 q2 q3
   injection q1 with q1
   injection q1 with q1
   subst q1;have K:Jx wr b 0 (Ju i):=K;have X:Jx wr b 1 (Ju 0):=X;have U:Jx wr b 2 (Jd n):=U;have M:Jx wr b 3 (Jd 1):=M;obtain⟨Wb,hWb⟩:∃Wb,wr.alloc (.cells #[Ju i,Ju 0,Jd n,Jd 1] 61)=Wb:=⟨_,rfl⟩;obtain⟨E,hEE⟩:∃E,wr.heap.size=E:=⟨_,rfl⟩;have T:Wb.heap[E]?=some (.cells #[Ju i,Ju 0,Jd n,Jd 1] 61 (0,0)):=by rw[<-hWb,<-hEE];exact JI wr _
   have l:Jw wr Wb:=by rw[<-hWb];exact (qF _ _).alloc (qC _) _
   have z:=Z (qE (Qaa hb l) (qE T (qE ((l.block _ (gsi hr).1).trans hr) (Qaa hbw l))));obtain⟨⟨y0,y1,y2,y3⟩,-⟩:=QaC T;clear hb hx' q2 q3 l T hr hbw;go_wp2_with fail;refine (HW.o _).mono ?_;rintro e w2 ⟨rfl,f⟩;have x:=(f.block _ (gsi z.o.2.1).1).trans z.o.2.1;have J:=Z (qE ((f.block _ (gsi z.o.2.2.1).1).trans z.o.2.2.1) (qE x (qE (Qaa z.o.1 f) (Qaa z.o.2.2.2 f))));obtain⟨⟨z0,z1,z2,z3⟩,-⟩:=QaC x;clear f x y0 y1 y2 y3 K X U M;go_wp2_with fail;go_loopw [8,51] (fun u8 u51 wr=>Hi (∃k:Nat,k<=1/\u51 = Jd k/\Jw w2 wr/\BiSt i n t w E k u8 wr)) (fun _ u51 _=>1-(intOf u51).toNat)
   case atStart=>exact Z ⟨0,by decide,rfl,qF _ _,J.o.1,J.o.2.1,J.o.2.2.1,.inl ⟨rfl,rfl⟩⟩
   case round=>
    obtain⟨k,hk,rfl,hbw,hr,hrE,hb,hst⟩:=hrel.o;clear hrel;rcases hst with⟨rfl,rfl⟩|⟨rfl,QFf⟩
    ·obtain⟨⟨a0,a1,a2,a3⟩,-⟩:=QaC hrE
     have a:=Z (qE hr (qE hrE (qE hb hbw)));clear hr hrE hb hbw z0 z1 z2 z3;go_wp2_with (at_builtin;go_loud (refine Qdd 29 67 _ 2 24 underlying29 QgE rfl (by decide) (by decide) _ [Ju i,Jt t] rfl (by simp[Value.oneCell']) (by rfl) _ _ (by rfl) w.heap.size _ 0 _ (by rfl) (JZ _ _ _ _) (by rfl) (by omega) a.o.2.2.1.size ?_);intro g' O w3 V d qb)
     go_roundw
     case rel=>
      have j:Below _ _ w3:=⟨d.os,d.tape,d.output,d.size,fun k hk=>d.block k hk (by intro e;cases e)⟩
      refine Z ⟨1,by decide,by go_num,Qaa a.o.2.2.2 j,(j.block _ (gsi a.o.1).1).trans a.o.1,(j.block _ (gsi a.o.2.1).1).trans a.o.2.1,Qaa a.o.2.2.1 j,.inr ⟨rfl,g',O,rfl,V⟩⟩
     case measure=>simp[intOf]
    ·have a:=Z (qE hr (qE hb (qE hbw QFf)))
     clear hr hrE hb hbw z0 z1 z2 z3 QFf;go_wp2_with fail;go_roundw
     case rel=>exact Z ⟨1,by decide,by go_num,Qaa J.o.2.2.2 a.o.2.2.1,a.o.1,a.o.2.1,.inr ⟨rfl,by first|rfl|go_num,a.o.2.2.2⟩⟩
     case measure=>simp[intOf]
  ·have a:=Z (qE hr (qE hb QFf))
   obtain⟨g,cp,rfl,ho⟩:=QFf;obtain⟨cs,hg,d0,d1⟩:=Qpw ho;have k0:=(QaJ hg 0).trans d0;have Y:=(QaJ hg 1).trans d1;have HC:=Z (R.o g cp wr (gsi hg).1 k0 Y);clear hr hb ho hg d0 d1 k0 Y hbw;go_wp2_with fail;refine HC.o.mono ?_;rintro e w3 ⟨g3,c3,rfl,q,y⟩;have I:=(y.block _ (gsi a.o.1).1).trans a.o.1;have HG:=Z (qE I (qE (Qaa a.o.2.1 y) (QaM q a.o.2.1.size)));have N:Hi (w.heap.size<wr.heap.size):=Z (gsi a.o.1).1;have C:=Z q;clear y q;obtain⟨r0,rf⟩:=QaF I;have P:=Z (Qcd I (Jl g3 1 c3));clear I;go_wp2_with fail;refine Qau (A:=(Ja w.heap.size 0)) rfl (QcS _ _ _ _ P.o) rfl rfl rfl ?_;exact⟨g3,c3,rfl,QaM (Qac C.o (fun k hk=>JO _ _ _ _ (by have:=(C.o.lt k hk).1;have:=N.o;show k≠w.heap.size;omega))) a.o.2.1.size,HG.o.2.1.trans ((qF _ _).setCell (p:=(Ja w.heap.size 0)) (qC _) _)⟩
end
section
open Go.RowKit Go.Maps PoolPlain
theorem Qvu(p:Nat)(l:JM)(S:Nat->Prop)(s:JA)(w:World)(hs:s.size<=9223372036854775807)(hP:PoolAt w p l S) :
  Calls prog 106 #[Jp p,Jt s] w (QE1 l s.data.toList w):=by
 have N:=hP.lt;have HP:=Z hP;obtain⟨hok,hSl,hSp,tv,pv,mv,hb,-,-,hpr,-,hm⟩:=hP;obtain⟨-,c1,c2,-,-,-⟩:=QgU hb;have hl:l.length<=2048:=hok.1;obtain⟨m,rfl⟩:∃m,s=bs m:=⟨s.data.toList,(Qb1 s).symm⟩;rw[Qai];have qc:=FnvPlain.sum_lt m;obtain⟨v,G,hlk⟩:=QyS hm hl (FnvPlain.sum m) qc;have HS:=Z (fun w=>QwJ (bs m) w hs)
 rw[Qai] at HS;obtain⟨a,c,rfl,hzc,hzh⟩:=G;have E:Jw w (w.alloc (.cells #[Ju 0,Jd 0] 161)):=(qF _ _).alloc (qC _) _;have y:=Qbm w (.cells #[Ju 0,Jd 0] 161);have G:w.heap.size<(w.alloc (.cells #[Ju 0,Jd 0] 161)).heap.size:=by rw[qJ];omega
 have hlen:(Qkr l (FnvPlain.sum m)).length<=2048:=by unfold Qkr;rw[qQ];exact qD (Qlf l _) hl
 have HG:Hi (∀j (B:j<(Qkr l (FnvPlain.sum m)).length),∃k,∃t:k<l.length,(Qkr l (FnvPlain.sum m))[j]=(k:Int)/\(grp l (FnvPlain.sum m))[j]?=some k):=Z (fun j B=>by
  unfold Qkr at B ⊢;rw[qQ] at B;rw[List.getElem_map];exact⟨_,(QCq l _ _ (JG B)).1,rfl,qU B⟩)
 have HN:Hi ((∀j:Nat,j<(Qkr l (FnvPlain.sum m)).length->∀k,(grp l (FnvPlain.sum m))[j]?=some k->l[k]?≠some m)->fnd l m=(0,0,false)):=Z (fun h=>by
  refine QiF l m (fun hm=>?_)
  obtain⟨k,t,e⟩:=List.getElem_of_mem hm;have h1:=QB5 l k t;rw[e] at h1;obtain⟨j,B,e2⟩:=List.getElem_of_mem h1;exact h j (by unfold Qkr;rw[qQ];exact B) k (by rw[qU B,e2]) (by rw[qU t,e]))
 have HY:Hi (∀k (t:k<l.length),l[k]=m->fnd l m=(off l k,m.length,true)):=Z (fun k t e=>by rw[<-e];exact QDN l hok.2.2 k t)
 have O:=Z hpr;generalize hZ:Qkr l (FnvPlain.sum m)=zs at *;go_enter func106,ntmps106;go_wp2_with fail;generalize w.alloc (.cells #[Ju 0,Jd 0] 161)=W0 at E G y ⊢;have T:∀q:BelowOf W0,∀g,S g->q.world.heap[g]?=w.heap[g]?:=fun q g hg=>(q.below.block g (by have:=hSl g hg;omega)).trans (E.block g (hSl g hg))
 have k2:∀q:BelowOf W0,Jx q.world p 2 mv:=fun q=>QaD q (by show p<_;omega) ((E.cell (p:=(Ja p 2)) N).trans c2)
 have qb:∀q:BelowOf W0,(Instr.lookup 224 mv (Ju (FnvPlain.sum m:Nat)) false).run prog q.world=.ok (.slice a zs.length c) q.world:=fun q=>hlk q.world (T q)
 have E:=Z E;have HL:=Z hlk;have J:=Z hSl;have Y:=Z hzh;clear hlk T hSl hm hb hpr hok hzh;refine Qae (by kernel_rfl) (by kernel_rfl) ?_
 repeat (go_big_quiet_step ((go_at_call 163;exact QaA (HS.o _))))
 refine wpQuiet_nil ?_;intro W1 L;have d:=QaQ L;clear L k2 qb;have P:=(d.block _ G).trans y;have M:=Qaa E.out d;have U:=qK G d.size;clear y d G E;go_wp2_with fail;go_loopw [20] (fun i wr=>∃j:Nat,j<=zs.length/\i = Ji j/\Jw w wr/\w.heap.size<wr.heap.size/\wr.heap[w.heap.size]?=some (.cells #[Ju 0,Jd 0] 161 (0,0))/\Hi (∀i:Nat,i<j->∀k,(grp l (FnvPlain.sum m))[i]?=some k->l[k]?≠some m)) (fun i _=>zs.length-(intOf i).toNat)
 case atStart=>exact⟨0,by omega,rfl,M,U,P,Z (fun i h=>JN h (JH _))⟩
 case round=>
  obtain⟨j,B,rfl,hbr,hzr,hbk,H⟩:=hrel;clear P M U
  by_cases z:j<zs.length
  ·obtain⟨b,rfl,hbl,Qak⟩:=Y.o (fun e=>by rw[e] at z;exact JN z (JH _))
   obtain⟨k,t,ek,eg⟩:=HG.o j z;have d0:=(hbr.cell (p:=(Ja b j)) hbl).trans (Qak j z);rw[ek] at d0;obtain⟨g,cap,rfl,-,hgl,hgc,hpc⟩:=Qvy O.o (by omega)
   have d1:=(hbr.cell (p:=(Ja g (k*2))) hgl).trans (hpc k t).1;have d2:=(hbr.cell (p:=(Ja g (k*2+1))) hgl).trans (hpc k t).2;have d3:=(hbr.cell (p:=(Ja p 1)) N).trans c1;have qa:Hi (PoolAt wr p l S):=Z (HP.o.keep hbr.size (fun g hg=>hbr.block g (J.o g hg)))
   have D:=QAT l[k] m;have HA:=Z (fun W (h:PoolAt W p l S)=>QBF p l S W h k t)
   have f:=Z hbr;obtain⟨r0,r1,r2,r3⟩:=Qfk hbk;have r:=Z hbk;have hY:=Z (HY.o k t);have hX:Hi (l[k]≠m->∀i:Nat,i<j+1->∀k,(grp l (FnvPlain.sum m))[i]?=some k->l[k]?≠some m):=Z (fun hne i hi k' h'=>by
    by_cases e:i=j
    ·subst e
     rw[eg] at h';obtain rfl:=qS h';rw[qU t];intro e;exact hne (qS e)
    ·exact H.o i (by omega) k' h')
   clear Qak hpc H ek eg hbr hbk Y HG HN HY O HP HL J c1 c2;obtain⟨X,hXx⟩:∃X,X=bs l[k]:=⟨_,rfl⟩;obtain⟨n,hn⟩:∃n,n=l[k].length:=⟨_,rfl⟩;obtain⟨o,ho⟩:∃o,o=off l k:=⟨_,rfl⟩;rw[<-hn,<-ho,<-hXx] at HA;rw[<-ho] at d1;rw[<-hn] at d2;rw[<-hXx] at D;have Hn:=Z hn;have Ho:=Z ho;clear hXx hn ho
   by_cases I:l[k]=m
   ·rw[qA I] at D
    have HE:=Z I;clear I hX;go_wp2_with fail;refine (HA.o _ (qa.o.below ?_)).mono ?_
    ·exact (qF _ _).alloc (qC _) _
    rintro e w1 ⟨rfl,d⟩;have K:=(d.block wr.heap.size (by rw[qJ];omega)).trans (Qbm wr _)
    have C:=(d.block w.heap.size (by rw[qJ];omega)).trans ((J5 wr _ hzr).trans r.o)
    obtain⟨x0,x1,-,-⟩:=Qfk K;obtain⟨y0,y1,y2,y3⟩:=Qfk C;have V:=Z C;have x:Jw w w1:=f.o.trans ((Qaa ((qF _ _).alloc (qC _) _) d:Jw wr w1).mono f.o.size);have R:=Z x;clear K C d x r0 r1 r2 r3 d0 d1 d2 d3;go_wp2_with fail;refine Qns (A:=(Ja w.heap.size 0)) rfl (QbP _ _ _ _ _ (Qbv V.out _ _)) rfl rfl rfl ?_;refine⟨by rw[hY.out HE.o,Ho.o,Hn.o,<-HE.o];rfl,?_⟩
    exact (R.out.setCell (p:=(Ja w.heap.size 0)) (qC _) _).setCell (p:=(Ja w.heap.size 1)) (qC _) _
   ·rw[qB I] at D
    have H:=Z (hX.out I);clear I hX;go_wp2_with fail;refine (HA.o _ (qa.o.below ?_)).mono ?_
    ·exact (qF _ _).alloc (qC _) _
    rintro e w1 ⟨rfl,d⟩;go_wp2_with fail;go_roundw
    case rel=>
     have x:Jw wr w1:=Qaa ((qF _ _).alloc (qC _) _) d;exact⟨j+1,by omega,by go_num,f.o.trans (x.mono f.o.size),qK hzr x.size,(x.block _ hzr).trans r.o,H⟩
    case measure=>simp[intOf];omega
  ·obtain rfl:j=zs.length:=by omega
   have HF:=Z (HN.o (fun i hi k t=>H.o i hi k t))
   obtain⟨r0,r1,r2,r3⟩:=Qfk hbk;have r:=Z hbk;clear H HN hbk;go_wp2_with fail;refine Qns (A:=(Ja w.heap.size 0)) rfl (QbP _ _ _ _ _ (Qbv r.o _ _)) rfl rfl rfl ?_;refine⟨by rw[HF.o];rfl,?_⟩
   exact (hbr.setCell (p:=(Ja w.heap.size 0)) (qC _) _).setCell (p:=(Ja w.heap.size 1)) (qC _) _
end
section
open Go.RowKit Go.Maps PoolPlain
def Pre(W:World)(p b:Nat)(tv pv:Value)(D:DataW Unit)(r l m:List (List UInt8))(S:Nat->Prop):Prop:=
 (∀g,S g->g<W.heap.size)/\S p/\S b/\W.heap[p]?=some (.cells #[tv,pv,.map (some b)] 226 (0,0))/\
  W.ownsRow 0 5 1 tv r.flatten.length (QaL r.flatten)/\(∀g,tv.ownBlock=some g->S g)/\
  W.ownsRow 0 161 2 pv l.length (QeL l)/\(∀g,pv.ownBlock=some g->S g)/\
  W.ownsGroups prog 43 (b+1) 3 .i64 b m.length D/\W.Shuns b (fun g=>¬S g)/\Qsb D m
theorem Pre.lt{W:World}{p b:Nat}{a c:Value}{D:DataW Unit}{r l m:List (List UInt8)}{S:Nat->Prop}(h:Pre W p b a c D r l m S):p<W.heap.size/\b<W.heap.size:=⟨h.1 p h.2.1,h.1 b h.2.2.1⟩
theorem Pre.keep{w w':World}{p b:Nat}{c d:Value}{D:DataW Unit}{r l m:List (List UInt8)}{S:Nat->Prop}(h:Pre w p b c d D r l m S)(f:w.heap.size<=w'.heap.size)(a:∀g,S g->w'.heap[g]?=w.heap[g]?):Pre w' p b c d D r l m S:=by
 obtain⟨h1,h2,h3,hb,ht,hts,hp,hps,hg,hsh,hG⟩:=h;obtain⟨g1,g2⟩:=QdC hg hsh h3 (fun g hg _=>a g hg)
 exact⟨fun g hg=>qK (h1 g hg) f,h2,h3,(a p h2).trans hb,Qac ht (fun g hg=>a g (hts g hg)),hts,Qac hp (fun g hg=>a g (hps g hg)),hps,g1,g2,hG⟩
theorem Pre.below{w w':World}{p b:Nat}{a d:Value}{D:DataW Unit}{r l m:List (List UInt8)}{S:Nat->Prop}(h:Pre w p b a d D r l m S)(c:Below w.heap.size w w'):Pre w' p b a d D r l m S:=h.keep c.size (fun g hg=>c.block g (h.1 g hg))
def SX(S:Nat->Prop)(w W:World)(g:Nat):Prop:=(S g\/w.heap.size<=g)/\g<W.heap.size
theorem QwE(l:List (List UInt8))(s:List UInt8)(x:Nat):Qkr (l++[s]) x=Qkr l x++(if FnvPlain.sum s=x then [(l.length:Int)] else []):=by
 unfold Qkr;rw[Qzw,qY]
 congr 1
 split<;>rfl
theorem Qtn{D:DataW Unit}{l:List (List UInt8)}(s:List UInt8)(h:Qsb D l)(a:IsMap D){w:World}{base:Nat}{e:TypeId}{v:Value}(b:w.ownsInts base e .i64 v (Qkr l (FnvPlain.sum s)++[(l.length:Int)])) :
  Qsb (D.put (.int .u64 (FnvPlain.sum s:Nat)) (rowDatum .i64 v (Qkr l (FnvPlain.sum s)++[(l.length:Int)]))) (l++[s]):=by
 intro x hx;rw[QwE]
 by_cases e:FnvPlain.sum s=x
 ·subst e
  rw[atKey_put_same a (QC8.key (Qhs _ hx)),JK rfl];rw[b.datum_pos (by simp)]
  unfold QEg;rw[JJ (by simp)]
 ·rw[atKey_put_other (by intro h;apply e;injection h with _ h2;omega),JJ e,qT]
  exact h x hx
theorem Qob{w:World}{k base e:Nat}{q:IntKind}{b n:Nat}{D:DataW Unit}(h:w.ownsGroups prog k base e q b n D):IsMap D:=by
 obtain⟨es,c,-,-,-,rfl,-⟩:=h;exact⟨_,rfl⟩
def QqK(b x:Nat)(w:World)(v:Value):Prop:=(Instr.lookup 224 (.map (some b)) (.int .u64 (x:Int)) false).run prog w=.ok v w
def QC1(F:World->Value)(b x:Nat):Prop:=∀w v,QqK b x w v->F w=v
theorem Qsn(b x:Nat):∃F,QC1 F b x:=by
 refine⟨fun w=>Classical.epsilon (fun v=>QqK b x w v),fun w v h=>?_⟩
 have a:=Classical.epsilon_spec (p:=fun v=>QqK b x w v) ⟨v,h⟩
 have c:=Eq.trans (Eq.symm (show _=_ from h)) (show _=_ from a);injection c with h4
 exact h4.symm
def PutS(F:World->Value)(p b x:Nat)(pv:Value)(w:World):Prop:=w.cell? ⟨p,2,none⟩=some (.map (some b))/\w.cell? ⟨p,1,none⟩=some pv/\(Instr.lookup 224 (.map (some b)) (.int .u64 (x:Int)) false).run prog w=.ok (F w) w
theorem PutS.of{F:World->Value}{p b x:Nat}(f:QC1 F b x){d a v:Value}{w:World}(h:w.heap[p]?=some (.cells #[d,a,.map (some b)] 226 (0,0)))(c:QqK b x w v):PutS F p b x a w:=by
 obtain⟨-,h1,h2,-,-,-⟩:=QgU h;exact⟨h2,h1,by rw[f w v c];exact c⟩
structure Mid(F:World->Value)(W0 W w1 w2:World)(p b:Nat)(tv pv:Value)(l:List (List UInt8))(s:List UInt8)(S:Nat->Prop):Prop where
 pre:∃D,Pre w2 p b tv pv D l l (l++[s]) (SX S W0 w2)
 touch:Touch S W w2
 s1:PutS F p b (FnvPlain.sum s) pv w1
 s2:PutS F p b (FnvPlain.sum s) pv w2
theorem QkR{G:Array Oper}{o:Oper}{a:Act}{K:Act->World->Prop}{Q:Exit->Act->World->Prop}{E:Prop}(F:World->Value)(d:World){p b:Nat}{tv Y:Value}{D:DataW Unit}{l:List (List UInt8)}{S:Nat->Prop}(s:List UInt8)(hF:QC1 F b (FnvPlain.sum s))
  (qc:Pre d p b tv Y D l l l S) (hl:l.length<2048) {v:Value} (f:d.ownsInts (b+1) 3 .i64 v (Qkr l (FnvPlain.sum s)))
  (qd:d.groupBack prog 224 43 (b+1) 3 .i64 b l.length D (.int .u64 (FnvPlain.sum s:Nat)) (.int .u64 (FnvPlain.sum s:Nat)) v) (t:∀g,v.ownBlock=some g->S g)
  (qg:∀w',w'.heap[b]?=d.heap[b]?->QqK b (FnvPlain.sum s) w' v)
  (W:World) (N:Nat) (c:Below d.heap.size d W) (hB:W.heap[N]?=some (.cells #[.int .i64 l.length] 3 (0,0)))
  (qa:o.guard=none) (x y:Operand) (ho:o.op=.call { callee:=.builtin .append,args:=#[x,y],argTypes:=#[284,284] }) (hx:a.eval x=v) (hy:a.eval y=.slice (some ⟨N,0,none⟩) 1 1)
  (h:∀v' w1 w2,(Instr.mapUpdate 224 (.map (some b)) (.int .u64 (FnvPlain.sum s:Nat)) v').run prog w1=.ok () w2->Mid F d W w1 w2 p b tv Y l s S->K (a.put o.dst v') w1) :
  if Region.wanted o (yielded G a.tmps)=true then Oper.wp prog o a W K Q else E:=by
 obtain⟨i0,hi,hz0,hz1,hz2⟩:=info_parts Qrr;obtain⟨hSl,hSp,hSb,hbp,ht,hts,hp,hps,hg,hsh,hG⟩:=qc;have V:=hSl b hSb;have T:=hSl p hSp;have L:=FnvPlain.sum_lt s;have qk:(Qkr l (FnvPlain.sum s)).length<=l.length:=by unfold Qkr;rw[qQ];exact Qlf l _
 have qe:W.ownsRow (b+1) 3 1 v (Qkr l (FnvPlain.sum s)).length ((Qkr l (FnvPlain.sum s)).map (Value.int .i64)):=Qac f.1 (fun g hg=>c.block g (f.1.lt g hg).2)
 have hw:Region.wanted o (yielded G a.tmps)=true:=by simp[Region.wanted,qa]
 rw[JK hw];obtain⟨v',w1,hr,h2,h3,-,h5⟩:=run_append_own_at (P:=prog) W (b+1) 284 o.type 3 i0 _ 1 8 underlying284 hi hz0 hz1 hz2 rfl (by decide) v _ _ qe ⟨N,0,none⟩ 1 1 [.int .i64 l.length] rfl (World.news_of_block hB) (by simp[Value.oneCell']) (by unfold maxLen;omega) (by omega) (by have:=c.size;omega)
 have m:d.grownBy w1 v.ownBlock:=⟨h3.os.trans c.os,h3.tape.trans c.tape,h3.output.trans c.output,qD c.size h3.size,fun k hk hne=>(h3.block k (qK hk c.size) hne).trans (c.block k hk)⟩
 have I:w1.ownsInts (b+1) 3 .i64 v' (Qkr l (FnvPlain.sum s)++[(l.length:Int)]):=f.appended h2 (WalkArith.wf_i64 (by omega))
 obtain⟨w2,hu,hg2,hg12⟩:=qd w1 v' _ m I (by simp;omega) (h5.imp id (fun e=>⟨_,e,c.size⟩))
 have R:v.ownBlock≠some b:=fun e=>by have:=(f.1.lt b e).1;omega
 have U:v.ownBlock≠some p:=QaR f.1 hbp (by decide)
 have H:=Qob hg;obtain⟨es,clock,hbm,Fit0,hsz0,-⟩:=hg;have qb:p≠b:=fun e=>by rw[e] at hbp;rw[hbp] at hbm;cases hbm
 have X:∀g,g<d.heap.size->v.ownBlock≠some g->w1.heap[g]?=d.heap[g]?:=fun g hg hn=>m.block g hg (fun e=>hn e.symm)
 have k2:∀g,g<d.heap.size->v.ownBlock≠some g->g≠b->w2.heap[g]?=d.heap[g]?:=fun g hg hn hb=>(hg12.block g (qK hg m.size) (fun e=>hb (qS e))).trans (X g hg hn)
 have B:Touch S W w2:=(Touch.of_grown h3 (fun g hg=>.inl (t g hg))).trans (Touch.of_grown (S:=S) hg12 (fun g hg=>.inl (by rw[<-qS hg];exact hSb))) (fun g hg=>.inl hg)
 have A:=Qd8 ht f.1 (by decide)
 have J:=Qd8 hp f.1 (by decide)
 have kt:∀g,tv.ownBlock=some g->w2.heap[g]?=d.heap[g]?:=fun g hg=>k2 g (ht.lt g hg).2 (fun e=>A.elim (fun h=>by rw[h] at hg;cases hg) (fun h=>h (hg.trans e.symm))) (fun e=>Qen ht hbm (by rw[hg,e]))
 have kp:∀g,Y.ownBlock=some g->w2.heap[g]?=d.heap[g]?:=fun g hg=>k2 g (hp.lt g hg).2 (fun e=>J.elim (fun h=>by rw[h] at hg;cases hg) (fun h=>h (hg.trans e.symm))) (fun e=>Qen hp hbm (by rw[hg,e]))
 have qj:d.heap.size<=w2.heap.size:=qD m.size hg12.size;have j:∀g,S g->SX S d w2 g:=fun g hg=>⟨.inl hg,by have:=hSl g hg;omega⟩
 have M:w2.Shuns b (fun g=>¬SX S d w2 g):=by
  have qi:=(X b V R).trans hbm;obtain⟨es',clock',hb2,hwho⟩:=stored_who QC8 underlying224 qi Fit0 (by unfold maxLen;omega) (Qhs _ L) hu
  intro qh n O y hy g i r;obtain⟨rfl,rfl⟩:es'=qh/\clock'=n:=by rw[hb2] at O;simpa using O
  rcases hwho y hy with⟨hy0,-⟩|⟨-,hval⟩
  ·exact hsh es clock hbm y hy0 g i (fun hs=>r (j g hs))
  ·rw[hval] at i
   have qf:=(h2.lt g i).2;refine r ⟨?_,qK qf hg12.size⟩;rcases h5 with h5|h5
   ·exact .inl (t g (by rw[<-h5];exact i))
   ·rw[i] at h5
    rw[qS h5];exact .inr c.size
 have hlen:(l++[s]).length=l.length+1:=by simp
 have C:=(k2 p T U qb).trans hbp;have z:∃v2,QqK b (FnvPlain.sum s) w2 v2:=by
  obtain⟨v2,zs2,-,-,-,-,-,h6⟩:=Qf5 QC8 underlying224 Qim hg2 M (by unfold maxLen;omega) (Qhs _ L)
  exact⟨v2,h6 w2 rfl⟩
 have q:Pre w2 p b tv Y (D.put (.int .u64 (FnvPlain.sum s:Nat)) (rowDatum .i64 v' (Qkr l (FnvPlain.sum s)++[(l.length:Int)]))) l l (l++[s]) (SX S d w2):=
  ⟨fun g hg=>hg.2,j p hSp,j b hSb,C,Qac ht kt,fun g hg=>j g (hts g hg),Qac hp kp,fun g hg=>j g (hps g hg),by rw[hlen];exact hg2,M,Qtn s hG H I⟩
 unfold Oper.wp execOp;simp only[ho,resolve,invoke,builtin,Sem.run_bind,Sem.run_pure,Result.andThen_ok,List.map_toArray,J0,List.map_nil,hx,hy,hr];exact h v' w1 w2 hu ⟨⟨_,q⟩,B,PutS.of hF ((X p T U).trans hbp) (qg w1 (X b V R)),PutS.of hF C z.choose_spec⟩
end
section
open Go.RowKit Go.Maps PoolPlain
theorem Qn2:(prog.info? 161).map (fun i=>(i.zero,i.size,i.bytes))=some (some (.agg #[Ju 0,Jd 0]),2,16):=by kernel_rfl
theorem Qn3:(prog.info? 5).map (fun i=>(i.zero,i.size,i.bytes))=some (some (Jb 0),1,1):=by kernel_rfl
theorem Qja{w:World}{p:Nat}{cs:JW}{t:JT}{k:Nat}(h:w.heap[p]?=some (.cells cs t (0,0)))(v:Value):(w.setCell (Ja p k) v).heap[p]?=some (.cells (cs.setIfInBounds k v) t (0,0)):=by
 simp[World.setCell,J6,h]
theorem QbF{w:World}{p k g:Nat}(v:Value)(h:g≠p):(w.setCell (Ja p k) v).heap[g]?=w.heap[g]?:=JO _ _ _ _ h
def Ready(w W:World)(p b:Nat)(tv pv:Value)(D:DataW Unit)(r l m:JM)(M n:Nat)(S S':Nat->Prop):Prop:=
 Pre W p b tv pv D r l m S'/\W.heap[w.heap.size]?=some (.cells #[Ju 0,Jd 0] 161 (0,0))/\W.heap[w.heap.size+1]?=some (.cells #[Ju M,Jd n] 161 (0,0))/\
  Touch S w W/\(∀g,S g->S' g)/\(∀g,S' g->S g\/w.heap.size+2<=g)/\w.heap.size+2<=W.heap.size
theorem Ready.below{w W W':World}{p b:Nat}{c d:Value}{D:DataW Unit}{r l m:JM}{M n:Nat}{S S':Nat->Prop}(h:Ready w W p b c d D r l m M n S S')(a:Jw W W'):Ready w W' p b c d D r l m M n S S':=by
 obtain⟨h1,h2,h3,h4,h5,h6,h7⟩:=h;exact⟨h1.below a,(a.block _ (by omega)).trans h2,(a.block _ (by omega)).trans h3,h4.trans (Touch.of_below (S:=S) a) (fun g hg=>.inl hg),h5,h6,qD h7 a.size⟩
theorem QsD{w W:World}{p b:Nat}{c d:Value}{D:DataW Unit}{l:JM}{M n:Nat}{S:Nat->Prop}(f:Pre w p b c d D l l l S)
  (a:W.heap[w.heap.size]?=some (.cells #[Ju 0,Jd 0] 161 (0,0))/\W.heap[w.heap.size+1]?=some (.cells #[Ju M,Jd n] 161 (0,0))/\Jw w W/\W.heap.size=w.heap.size+1+1):Ready w W p b c d D l l l M n S S:=
 ⟨f.below a.2.2.1,a.1,a.2.1,Touch.of_below a.2.2.1,fun g hg=>hg,fun g hg=>.inl hg,by rw[a.2.2.2];omega⟩
theorem Qvb{w W:World}{p:Nat}{i h:Value}{l:JM}{M n:Nat}{S:Nat->Prop}(j:∀g,S g->g<w.heap.size)(f:S p)(v:w.heap[p]?=some (.cells #[i,h,.map none] 226 (0,0)))
  (r:w.ownsRow 0 5 1 i l.flatten.length (QaL l.flatten)) (B:∀g,i.ownBlock=some g->S g) (s:w.ownsRow 0 161 2 h l.length (QeL l)) (A:∀g,h.ownBlock=some g->S g) (I:l = [])
  (G:W.heap[w.heap.size]?=some (.cells #[Ju 0,Jd 0] 161 (0,0))/\W.heap[w.heap.size+1]?=some (.cells #[Ju M,Jd n] 161 (0,0))/\Jw w W/\W.heap.size=w.heap.size+1+1) :
  Ready w ((W.alloc (.map #[] 0)).setCell (Ja p 2) (.map (some (w.heap.size+1+1)))) p (w.heap.size+1+1) i h (.map []) l l l M n S (fun g=>S g\/g=w.heap.size+2):=by
 subst I;obtain⟨a1,a2,a3,a4⟩:=G;have t:=j p f;have y:(W.alloc (.map #[] 0)).heap.size=w.heap.size+3:=by rw[qJ,a4]
 have b:∀g,g<w.heap.size+2->g≠p->((W.alloc (.map #[] 0)).setCell (Ja p 2) (.map (some (w.heap.size+1+1)))).heap[g]?=W.heap[g]?:=fun g a m=>(QbF _ m).trans (J5 _ _ (by rw[a4];omega))
 have C:(W.alloc (.map #[] 0)).heap[p]?=some (.cells #[i,h,.map none] 226 (0,0)):=(J5 _ _ (by rw[a4];omega)).trans ((a3.block p t).trans v)
 have J:∀g,i.ownBlock=some g->g≠p:=fun g a e=>QaR r v (by decide) (by rw[a,e])
 have E:∀g,h.ownBlock=some g->g≠p:=fun g a e=>QaR s v (by decide) (by rw[a,e])
 have q:=World.ownsGroups_made (H:=Unit) W prog 43 3 .i64;have z:=World.Shuns_made W (fun g=>¬(S g\/g=w.heap.size+2))
 rw[a4] at q z;obtain⟨g1,g2⟩:=QdC (w':=(W.alloc (.map #[] 0)).setCell (Ja p 2) (.map (some (w.heap.size+1+1)))) (S:=fun g=>g=w.heap.size+2) q (fun D c d x hx=>by
  have:=Qbm W (.map #[] 0);rw[a4] at this;rw[this] at d;injection d with d;injection d with d _
  subst d;simp at hx) rfl (fun g a _=>QbF _ (by omega))
 refine⟨⟨fun g a=>?_,.inl f,.inr rfl,?_,Qac r (fun g a=>(b g (by have:=(r.lt g a).2;omega) (J g a)).trans (a3.block g (r.lt g a).2)),fun g a=>.inl (B g a),Qac s (fun g a=>(b g (by have:=(s.lt g a).2;omega) (E g a)).trans (a3.block g (s.lt g a).2)),fun g a=>.inl (A g a),g1,?_,fun x hx=>rfl⟩,?_,?_,?_,fun g a=>.inl a,fun g a=>a.imp id (fun e=>by omega),by rw[QbE,y];omega⟩
 ·rw[QbE,y]
  rcases a with a|rfl
  ·have:=j g a;omega
  ·omega
 ·rw[Qja C];rfl
 ·intro D c d x hx g a m
  exact g2 D c d x hx g a (fun e=>m (.inr e))
 ·exact (b _ (by omega) (by omega)).trans a1
 ·exact (b _ (by omega) (by omega)).trans a2
 ·refine⟨a3.os,a3.tape,a3.output,by rw[QbE,y];omega,fun k hk m=>(b k (by omega) (fun e=>m (e ▸ f))).trans (a3.block k hk)⟩
theorem Qo8{U:Array Oper}{o:Oper}{a:Act}{K:Act->World->Prop}{Q:Exit->Act->World->Prop}{E:Prop}(j:World){p b:Nat}{tv f:Value}{D:DataW Unit}{r l m:JM}{S:Nat->Prop}(s:JL)
  (L:Pre j p b tv f D r l m S) (hl:l.length<2048) (W:World) (N:Nat) (i:Jw j W) (hB:W.heap[N]?=some (.cells #[Ju l.flatten.length,Jd s.length] 161 (0,0)))
  (H:o.guard=none) (x y:Operand) (G:o.op=.call { callee:=.builtin .append,args:=#[x,y],argTypes:=#[223,223] }) (hx:a.eval x=f) (X:a.eval y = Jl N 1 1)
  (h:∀g c d,d.cell? (Ja p 1)=some f->d.frozen? (Ja p 1)=false->Touch S W d->Pre (d.setCell (Ja p 1) (Jl g (l.length+1) c)) p b tv (Jl g (l.length+1) c) D r (l++[s]) m (SX S j d)->K (a.put o.dst (Jl g (l.length+1) c)) d) :
  if Region.wanted o (yielded U a.tmps)=true then Oper.wp prog o a W K Q else E:=by
 obtain⟨i0,hi,hz0,hz1,hz2⟩:=info_parts Qn2;obtain⟨hSl,hSp,hSb,hbp,ht,hts,hp,hps,hg,hsh,hG⟩:=L;have Y:=hSl p hSp;have T:W.ownsRow 0 161 2 f l.length (QeL l):=Qac hp (fun g hg=>i.block g (hp.lt g hg).2)
 refine step_append_lies W H x y 223 G 0 161 i0 _ 2 16 underlying223 hi hz0 hz1 hz2 rfl (by decide) f l.length (QeL l) hx T (Ja N 0) 1 1 [Ju l.flatten.length,Jd s.length] X rfl (World.news_of_block hB) (by simp[Value.oneCell']) (by decide) (by unfold maxLen;omega) (by omega) (qL _) _ rfl ?_
 intro g c d h1 J v h4;have hne:f.ownBlock≠some p:=QaR hp hbp (by decide)
 obtain⟨es,clock,hbm,QFn⟩:=hg;have A:j.ownsGroups prog 43 (b+1) 3 .i64 b m.length D:=⟨es,clock,hbm,QFn⟩;have C:∀g,g<j.heap.size->f.ownBlock≠some g->d.heap[g]?=j.heap[g]?:=fun g hg hn=>(J.block g (qK hg i.size) (fun e=>hn e.symm)).trans (i.block g hg)
 have n:=(C p Y hne).trans hbp;obtain⟨-,c1,-,-,f1,-⟩:=QgU n;have V:j.heap.size<=d.heap.size:=qD i.size J.size;have k:∀g,S g->SX S j d g:=fun g hg=>⟨.inl hg,qK (hSl g hg) V⟩
 have R:SX S j d g:=by
  refine⟨?_,h4⟩;rcases v with v|v
  ·exact .inl (hps g v)
  ·rw[v];exact .inr i.size
 refine h g c d c1 f1 (Touch.of_grown J (fun g hg=>.inl (hps g hg))) ?_
 have qa:g≠p:=fun e=>QaR (by exact h1) n (by decide) (by rw[<-e];rfl)
 have kk:∀g,S g->g≠p->f.ownBlock≠some g->(d.setCell (Ja p 1) (Jl g (l.length+1) c)).heap[g]?=j.heap[g]?:=fun g hg hn hn2=>(QbF _ hn).trans (C g (hSl g hg) hn2)
 have M:=Qd8 ht hp (by decide)
 have B:∀x∈es.toList,∀g,x.val.ownBlock=some g->S g/\g≠p/\f.ownBlock≠some g:=fun x hx g hg=>by
  have O:=Classical.not_not.1 (hsh es clock hbm x hx g hg);obtain⟨F,-⟩:=QFn;obtain⟨y,X⟩:=F.reads x hx;obtain⟨z,hz,-⟩:=Go.WideElems.rd_val X;obtain⟨zs,G,-⟩:=rowElem_inv hz;refine⟨O,fun e=>QaR G.1 hbp (by decide) (by rw[hg,e]),fun e=>?_⟩
  rcases Qd8 hp G.1 (by decide) with h|h
  ·rw[h] at e;cases e
  ·exact h (by rw[e,hg])
 have t:b≠p:=fun e=>by rw[<-e] at hbp;rw[hbp] at hbm;cases hbm
 have I:f.ownBlock≠some b:=Qen hp hbm;obtain⟨q1,q2⟩:=QdC (w':=d.setCell (Ja p 1) (Jl g (l.length+1) c)) (S:=fun g=>S g/\g≠p/\f.ownBlock≠some g) A (fun es2 c2 he x hx g hg hn=>by
  obtain⟨rfl,rfl⟩:es=es2/\clock=c2:=by rw[hbm] at he;simpa using he
  exact hn (B x hx g hg)) ⟨hSb,t,I⟩ (fun g hg _=>(QbF _ hg.2.1).trans (C g (hSl g hg.1) hg.2.2))
 refine⟨fun g hg=>by rw[QbE];exact hg.2,k p hSp,k b hSb,?_,Qac ht (fun g hg=>(QbF _ (fun e=>QaR ht hbp (by decide) (by rw[hg,e]))).trans (C g (ht.lt g hg).2 (fun e=>M.elim (fun h=>by rw[h] at hg;cases hg) (fun h=>h (hg.trans e.symm))))),fun g hg=>k g (hts g hg),?_,?_,q1,fun es2 c2 he x hx g hg hn=>q2 es2 c2 he x hx g hg (fun hh=>hn (k g hh.1)),hG⟩
 ·rw[Qja n];rfl
 ·rw[Qpu,qG]
  exact Qac h1 (fun P q=>QbF _ (by
   have:g=P:=by simpa[Value.ownBlock] using q
   omega))
 ·intro P q
  have:g=P:=by simpa[Value.ownBlock] using q
  exact this ▸ R
theorem QqF{t:Array Oper}{f:List Oper}{o:Oper}{a:Act}{Q:Exit->Act->World->Prop}(W:World){p b:Nat}{c T:Value}{D:DataW Unit}{r l m:JM}{S:Nat->Prop}(s:JL)
  (H:Pre W p b c T D r l m S) (Y:r.flatten.length<=134217728) (U:s≠[]) (X:s.length<=65536)
  (E:o.guard=none) (x y:Operand) (B:o.op=.call { callee:=.builtin .append,args:=#[x,y],argTypes:=#[169,9] }) (hx:a.eval x=c) (M:a.eval y = Jt (bs s))
  (h:∀(g k j:Nat) w1,w1.cell? (Ja p 0)=some c->w1.frozen? (Ja p 0)=false->Touch S W w1->Pre (w1.setCell (Ja p 0) (Jl g k j)) p b (Jl g k j) T D (r++[s]) l m (SX S W w1)->wpList prog t Q f (a.put o.dst (Jl g k j)) w1) :
  wpList prog t Q (o :: f) a W:=by
 refine wpList_plain E fun K hK=>?_
 obtain⟨i0,hi,hz0,hz1,hz2⟩:=info_parts Qn3;obtain⟨hSl,hSp,hSb,hbp,ht,hts,hp,hps,hg,hsh,hG⟩:=H;have R:=hSl p hSp;have N:(bs s).size=s.length:=Qaq s;have V:0<s.length:=List.length_pos_iff.2 U;obtain⟨v',w1,hr,h1,h2,-⟩:=Lib.run_append_own_string (P:=prog) W 0 169 9 o.type 5 i0 underlying169 underlying9 hi hz0 hz1 hz2 c r.flatten.length (QaL r.flatten) ht (bs s) (by unfold maxLen;omega) (by omega) (qL _)
 have n:=QfE W 169 9 o.type 5 i0 underlying169 underlying9 hi hz0 hz1 hz2 c r.flatten.length (QaL r.flatten) ht (bs s) (by omega) (by unfold maxLen;omega) (by omega) v' w1 hr
 rw[N,Qls,Qai] at h1;obtain⟨gv,capv,rfl,-,-⟩:=h1.form (by omega)
 have hne:c.ownBlock≠some p:=QaR ht hbp (by decide)
 obtain⟨es,clock,hbm,QFn⟩:=hg;have v:W.ownsGroups prog 43 (b+1) 3 .i64 b m.length D:=⟨es,clock,hbm,QFn⟩;have C:∀g,g<W.heap.size->c.ownBlock≠some g->w1.heap[g]?=W.heap[g]?:=fun g hg hn=>h2.block g hg (fun e=>hn e.symm)
 have i:=(C p R hne).trans hbp;obtain⟨c1,-,-,f1,-,-⟩:=QgU i;have d:∀g,S g->SX S W w1 g:=fun g hg=>⟨.inl hg,qK (hSl g hg) h2.size⟩
 have I:∀g,(Value.slice (some (Ja gv 0)) (r.flatten.length+s.length) capv).ownBlock=some g->SX S W w1 g:=fun g hg=>by
  refine⟨?_,(h1.lt g hg).2⟩;rcases n with n|n
  ·exact .inl (hts g (by rw[<-n];exact hg))
  ·rw[hg] at n;rw[qS n];exact .inr (qC _)
 have O:∀g,(Value.slice (some (Ja gv 0)) (r.flatten.length+s.length) capv).ownBlock=some g->g≠p:=fun g hg e=>QaR h1 i (by decide) (by rw[<-e];exact hg)
 have J:=Qd8 hp ht (by decide)
 have A:∀x∈es.toList,∀g,x.val.ownBlock=some g->S g/\g≠p/\c.ownBlock≠some g:=fun x hx g hg=>by
  have L:=Classical.not_not.1 (hsh es clock hbm x hx g hg);obtain⟨F,-⟩:=QFn;obtain⟨y,M⟩:=F.reads x hx;obtain⟨z,hz,-⟩:=Go.WideElems.rd_val M;obtain⟨zs,B,-⟩:=rowElem_inv hz;refine⟨L,fun e=>QaR B.1 hbp (by decide) (by rw[hg,e]),fun e=>?_⟩
  rcases Qd8 ht B.1 (by decide) with h|h
  ·rw[h] at e;cases e
  ·exact h (by rw[e,hg])
 have q:b≠p:=fun e=>by rw[<-e] at hbp;rw[hbp] at hbm;cases hbm
 have G:c.ownBlock≠some b:=Qen ht hbm;obtain⟨q1,q2⟩:=QdC (w':=w1.setCell (Ja p 0) (Jl gv (r.flatten.length+s.length) capv)) (S:=fun g=>S g/\g≠p/\c.ownBlock≠some g) v (fun es2 c2 he x hx g hg hn=>by
  obtain⟨rfl,rfl⟩:es=es2/\clock=c2:=by rw[hbm] at he;simpa using he
  exact hn (A x hx g hg)) ⟨hSb,q,G⟩ (fun g hg _=>(QbF _ hg.2.1).trans (C g (hSl g hg.1) hg.2.2))
 unfold Oper.wp execOp;simp only[B,resolve,invoke,builtin,Sem.run_bind,Sem.run_pure,Result.andThen_ok,List.map_toArray,J0,List.map_nil,hx,M,hr];refine hK _ _ (h gv _ capv w1 c1 f1 (Touch.of_grown h2 (fun g hg=>.inl (hts g hg))) ⟨fun g hg=>by rw[QbE];exact hg.2,d p hSp,d b hSb,?_,?_,I,Qac hp (fun g hg=>(QbF _ (fun e=>QaR hp hbp (by decide) (by rw[hg,e]))).trans (C g (hp.lt g hg).2 (fun e=>J.elim (fun h=>by rw[h] at hg;cases hg) (fun h=>h (hg.trans e.symm))))),fun g hg=>d g (hps g hg),q1,fun es2 c2 he x hx g hg hn=>q2 es2 c2 he x hx g hg (fun hh=>hn (d g hh.1)),hG⟩)
 ·rw[Qja i];rfl
 ·have e1:(r++[s]).flatten=r.flatten++s:=by rw[List.flatten_append,List.flatten_cons,List.flatten_nil,qT]
  rw[e1,qG,QeF];exact Qac h1 (fun g hg=>QbF _ (O g hg))
theorem Ready.go{w c W a:World}{p b:Nat}{B C i d:Value}{D y:DataW Unit}{r l m v x z:JM}{M n:Nat}{S k:Nat->Prop}(h:Ready w c p b B C D r l m M n S k)(s:∀g,S g->g<w.heap.size)(q:Jw c W)(t:Touch k W a)(A:Pre a p b i d y v x z (SX k c a)) :
  Ready w a p b i d y v x z M n S (SX k c a):=by
 obtain⟨h1,h2,h3,h4,h5,h6,h7⟩:=h;have j:=qD q.size t.size;have f:∀g,g<w.heap.size+2->w.heap.size<=g->a.heap[g]?=c.heap[g]?:=fun g hg hg2=>(t.block g (by have:=q.size;omega) (fun hs=>(h6 g hs).elim (fun h=>by have:=s g h;omega) (fun h=>by omega))).trans (q.block g (by omega))
 refine⟨A,(f _ (by omega) (qC _)).trans h2,(f _ (by omega) (by omega)).trans h3,(h4.trans (Touch.of_below (S:=S) q) (fun g hg=>.inl hg)).trans t (fun g hg=>(h6 g hg).imp id (fun e=>by omega)),fun g hg=>⟨.inl (h5 g hg),qK (h1.1 g (h5 g hg)) j⟩,fun g hg=>?_,qD h7 j⟩
 rcases hg.1 with hg|hg
 ·exact h6 g hg
 ·exact .inr (by omega)
theorem Ready.goS{w c W a:World}{p b k:Nat}{v:Value}{z C i f:Value}{D x:DataW Unit}{r l m s t y:JM}{M n:Nat}{S d:Nat->Prop}(h:Ready w c p b z C D r l m M n S d)(j:∀g,S g->g<w.heap.size)(B:Jw c W)(A:Touch d W a)(q:Pre (a.setCell (Ja p k) v) p b i f x s t y (SX d c a)) :
  Ready w (a.setCell (Ja p k) v) p b i f x s t y M n S (SX d c a):=by
 have e:SX d c a=SX d c (a.setCell (Ja p k) v):=by funext g;unfold SX;rw[QbE]
 rw[e] at q ⊢;exact h.go j B (Qaj v A (.inl h.1.2.1)) q
theorem Ready.far{w W c:World}{p b:Nat}{f j:Value}{D:DataW Unit}{r l m:JM}{M n:Nat}{S S':Nat->Prop}(h:Ready w W p b f j D r l m M n S S')(d:∀g,S g->g<w.heap.size)(i:Touch S' W c) :
  c.heap[w.heap.size]?=some (.cells #[Ju 0,Jd 0] 161 (0,0))/\c.heap[w.heap.size+1]?=some (.cells #[Ju M,Jd n] 161 (0,0)):=by
 obtain⟨h1,h2,h3,h4,h5,h6,h7⟩:=h;have a:∀g,g<w.heap.size+2->w.heap.size<=g->c.heap[g]?=W.heap[g]?:=fun g hg hg2=>i.block g (by omega) (fun hs=>(h6 g hs).elim (fun h=>by have:=d g h;omega) (fun h=>by omega))
 exact⟨(a _ (by omega) (qC _)).trans h2,(a _ (by omega) (by omega)).trans h3⟩
theorem Pre.pool{W:World}{p b:Nat}{c d:Value}{D:DataW Unit}{l:JM}{S:Nat->Prop}(h:Pre W p b c d D l l l S)(a:OkL l):PoolAt W p l S:=by
 obtain⟨h1,h2,h3,hb,ht,hts,hp,hps,hg,hsh,hG⟩:=h;exact⟨a,h1,h2,_,_,_,hb,ht,hts,hp,hps,.inr ⟨b,D,rfl,h3,hg,hsh,hG⟩⟩
theorem Ready.cells{w W:World}{p b:Nat}{a c:Value}{D:DataW Unit}{r l m:JM}{M n:Nat}{S S':Nat->Prop}(h:Ready w W p b a c D r l m M n S S') :
  W.cell? (Ja p 0)=some a/\W.cell? (Ja p 1)=some c/\W.cell? (Ja w.heap.size 0)=some (Ju 0)/\W.cell? (Ja w.heap.size 1)=some (Jd 0)/\W.frozen? (Ja w.heap.size 0)=false/\W.frozen? (Ja w.heap.size 1)=false/\W.cell? (Ja (w.heap.size+1) 0)=some (Ju M)/\W.cell? (Ja (w.heap.size+1) 1)=some (Jd n)/\p<W.heap.size/\w.heap.size+1<W.heap.size:=by
 obtain⟨h1,h2,h3,h4,h5,h6,h7⟩:=h;obtain⟨a0,a1,-,-,-,-⟩:=QgU h1.2.2.2.1;obtain⟨b0,b1,b2,b3⟩:=Qfk h2;obtain⟨d0,d1,-,-⟩:=Qfk h3;exact⟨a0,a1,b0,b1,b2,b3,d0,d1,h1.lt.1,by omega⟩
end
section
open Go.RowKit Go.Maps PoolPlain
def PutR(p:Nat)(l:JM)(s:JL)(S:Nat->Prop)(w:World)(e:Ending)(w':World):Prop:=
 e=.returned (.agg #[Ju l.flatten.length,Jd s.length])/\∃S',PoolAt w' p (l++[s]) S'/\(∀g,S' g->S g\/w.heap.size<=g)/\Touch S w w'
theorem Qyv(p:Nat)(l:JM)(S:Nat->Prop)(s:JL)(w:World)(h1:s≠[])(h2:s.length<=65536)(h3:s∉l)(h4:l.length<2048)(hP:PoolAt w p l S) :
  Calls prog 107 #[Jp p,Jt (bs s)] w (PutR p l s S w):=by
 have L:=hP.lt;have HP:=Z hP;obtain⟨hok,hSl,hSp,tv,pv,mv,hb,ht,hts,hpr,hps,hm⟩:=hP;obtain⟨c0,c1,c2,f0,f1,f2⟩:=QgU hb;have Y:=Qmj l hok;have HS:=Z (fun w=>QwJ (bs s) w (by rw[Qaq];omega))
 rw[Qai] at HS;have qk:=Qaq s;obtain⟨M,hM⟩:∃M,l.flatten.length=M:=⟨_,rfl⟩;have HM:=Z hM;rw[hM] at Y;have e1:IntKind.u64.wrap (M:Int)=(M:Int):=Quq _ (by omega)
 have e2:IntKind.u32.wrap (s.length:Int)=(s.length:Int):=IntWalk.u32_in _ (by omega)
 have qj:=@run_makeMap prog;have hq:∀(w:World) (r:Option Nat),(binOp .eql 224 (.map r) (.map none)).run prog w=.ok (.bool r.isNone) w:=fun w r=>run_eql_map_nil w _ _ _ r underlying224
 obtain⟨t0,tc,rfl⟩:∃a c,tv=.slice a M c:=by
  rcases ht.2 with⟨rfl,h0⟩|⟨g,m,cur,rfl,-⟩
  ·exact⟨none,0,by rw[<-hM,h0]⟩
  ·exact⟨_,_,by rw[<-hM]⟩
 have HT:=Z ht;have N:=Z hpr;have hA:=Qbm w (.cells #[Ju 0,Jd 0] 161);have R:((w.alloc (.cells #[Ju 0,Jd 0] 161)).alloc (.cells #[Ju M,Jd s.length] 161)).heap[w.heap.size]?=some (.cells #[Ju 0,Jd 0] 161 (0,0)):=
  (J5 _ _ (by rw[qJ];omega)).trans hA
 have H:=Qbm (w.alloc (.cells #[Ju 0,Jd 0] 161)) (.cells #[Ju M,Jd s.length] 161);rw[qJ] at H;have z:Jw w ((w.alloc (.cells #[Ju 0,Jd 0] 161)).alloc (.cells #[Ju M,Jd s.length] 161)):=((qF _ _).alloc (qC _) _).alloc (by rw[qJ];omega) _
 have U:((w.alloc (.cells #[Ju 0,Jd 0] 161)).alloc (.cells #[Ju M,Jd s.length] 161)).heap.size=w.heap.size+1+1:=by rw[qJ,qJ]
 have HA:=Z (qE R (qE H (qE z U)));clear hA R H z U hM;have f:=Z hSl;have K:=Z hts;have J:=Z hps;have Hb:=Z hb;have qc:=Z hok;obtain⟨p0,pc,rfl⟩:∃a c,pv=.slice a l.length c:=by
  rcases hpr.2 with⟨rfl,h0⟩|⟨g,m,cur,rfl,-⟩
  ·exact⟨none,0,by rw[h0]⟩
  ·exact⟨_,_,rfl⟩
 rcases hm with⟨rfl,hl0⟩|⟨b,D,rfl,hSb,hg,hsh,hD⟩
 case' inl=>
  have n:=Z (Qvb f.o hSp Hb.o HT.o K.o N.o J.o hl0 HA.o);have qh:(((w.alloc (.cells #[Ju 0,Jd 0] 161)).alloc (.cells #[Ju M,Jd s.length] 161)).alloc (.map #[] 0)).frozen? (Ja p 2)=false:=by
   refine (World.frozen?_of_block (w:=w) ?_).trans f2;exact (J5 _ _ (by rw[HA.o.2.2.2];show p<_;omega)).trans (HA.o.2.2.1.block p L)
  have qd:(((w.alloc (.cells #[Ju 0,Jd 0] 161)).alloc (.cells #[Ju M,Jd s.length] 161)).alloc (.map #[] 0)).cell? (Ja p 2)=some (.map none):=by
   refine (World.cell?_of_block (w:=w) ?_).trans c2;exact (J5 _ _ (by rw[HA.o.2.2.2];show p<_;omega)).trans (HA.o.2.2.1.block p L)
  clear hl0 hb ht hpr hok hSl hts hps;go_enter func107,ntmps107;go_wp2_with fail;generalize (((w.alloc (.cells #[Ju 0,Jd 0] 161)).alloc (.cells #[Ju M,Jd s.length] 161)).alloc (.map #[] 0)).setCell (Ja p 2) (.map (some (w.heap.size+1+1)))=W2 at n ⊢;generalize (fun g=>S g\/g=w.heap.size+2)=S2 at n ⊢
  generalize w.heap.size+1+1=b at n ⊢;generalize (DataW.map [])=D at n ⊢;clear qh qd HA c0 c1 c2 f0 f1 f2
 case' inr=>
  have n:=Z (QsD (⟨f.o,hSp,hSb,Hb.o,HT.o,K.o,N.o,J.o,hg,hsh,hD⟩:Pre w p b _ _ D l l l S) HA.o);clear hb ht hpr hok hSl hts hps hg hsh hD;go_enter func107,ntmps107;go_wp2_with fail;generalize (w.alloc (.cells #[Ju 0,Jd 0] 161)).alloc (.cells #[Ju M,Jd s.length] 161)=W2 at n ⊢;obtain⟨S2,hS2⟩:∃S2,S2=S:=⟨S,rfl⟩;replace n:Hi (Ready w W2 p b (Value.slice t0 M tc) (Value.slice p0 l.length pc) D l l l M s.length S S2):=by rw[hS2];exact n
  clear HA c0 c1 c2 f0 f1 f2 hSb hS2
 all_goals
  refine (HS.o _).mono ?_;rintro e k ⟨rfl,qb⟩;have d:=Z (n.o.below qb);clear n qb;obtain⟨F,hF⟩:=Qsn b (FnvPlain.sum s);have HF:=Z hF;obtain⟨v,zs,q1,q2,q3,q4,q5,q6⟩:=Qf5 QC8 underlying224 Qim d.o.1.2.2.2.2.2.2.2.2.1 d.o.1.2.2.2.2.2.2.2.2.2.1 (by unfold maxLen;omega) (Qhs _ (FnvPlain.sum_lt s))
  rw[d.o.1.2.2.2.2.2.2.2.2.2.2 _ (FnvPlain.sum_lt s)] at q1;obtain rfl:=Qu1 q2 q1.symm;have HO:=Z q2;have G:=Z q4;have C:=Z q5;have I:Hi (∀w',w'.heap[b]?=k.heap[b]?->QqK b (FnvPlain.sum s) w' v):=Z q6;have E:Hi (∀W,Jw k W->PutS F p b (FnvPlain.sum s) (Value.slice p0 l.length pc) W):=Z (fun W hW=>PutS.of hF ((hW.block p d.o.1.lt.1).trans d.o.1.2.2.2.1) (q6 W (hW.block b d.o.1.lt.2)))
  have B:Hi (∀W,Jw k W->F W=v):=Z (fun W hW=>hF W v (q6 W (hW.block b d.o.1.lt.2)))
  clear hF q1 q2 q3 q4 q5 q6;go_wp2_with fail;go_region_held3 (fun w'=>Jx w' p 2 (.map (some b))/\Jx w' p 1 (Value.slice p0 l.length pc)/\(Instr.lookup 224 (.map (some b)) (Ju (FnvPlain.sum s:Nat)) false).run prog w'=.ok (F w') w') (first|exact E.o _ (qF _ _).drew|exact E.o _ ((qF _ _).alloc (qC _) _).drew|exact i.s1|exact i.s2)
   (first
    |(refine QkR F k s HF.o d.o.1 h4 HO.o G.o C.o I.o _ k.heap.size ?_ ?_ rfl _ _ rfl (B.o _ (qF _ _).drew) rfl ?_;exact ((qF _ _).alloc (qC _) _).drew;exact Qbm k _;intro v' w1 q X i)
    |(refine QkR F k s HF.o d.o.1 h4 HO.o G.o C.o I.o _ k.heap.size ?_ ?_ rfl _ _ rfl (B.o _ ((qF _ _).alloc (qC _) _).drew) rfl ?_;exact ((qF _ _).alloc (qC _) _).drew;exact Qbm k _;intro v' w1 q X i))
  all_goals
   have qf:=Z i;obtain⟨D',hD'⟩:=i.pre;have y:Hi (Ready w q p b (Value.slice t0 M tc) (Value.slice p0 l.length pc) D' l l (l++[s]) M s.length S (SX S2 k q)):=Z (d.o.go f.o ((qF _ _).alloc (qC _) _).drew i.touch hD');clear qf hD' i X E I C G HO d HF B;obtain⟨-,a1,-,-,-,-,a6,a7,a8,a9⟩:=y.o.cells;go_wp2_with fail;go_region_law (first
    |(refine Qo8 q s y.o.1 h4 _ q.heap.size ?_ ?_ rfl _ _ rfl rfl rfl ?_;exact ((qF _ _).alloc (qC _) _).drew;(rw[HM.o];exact Qbm q _);intro g m w4 c4 f4 V T))
   all_goals
    have j:Hi (Ready w (w4.setCell (Ja p 1) (Value.slice (some (Ja g 0)) (l.length+1) m)) p b (Value.slice t0 M tc) (Value.slice (some (Ja g 0)) (l.length+1) m) D' l (l++[s]) (l++[s]) M s.length S (SX (SX S2 k q) q w4)):=Z (y.o.goS f.o ((qF _ _).alloc (qC _) _).drew V T);clear T V y a1 a6 a7 a8 a9 c4 f4;generalize (SX (SX S2 k q) q w4)=S5 at j;generalize w4.setCell (Ja p 1) (Value.slice (some (Ja g 0)) (l.length+1) m)=W5 at j ⊢;obtain⟨a0,-,-,-,-,-,-,-,a8,a9⟩:=j.o.cells;go_wp2_with (at_builtin;(refine QqF W5 s j.o.1 (by rw[HM.o];exact Y) h1 h2 rfl _ _ rfl rfl rfl ?_);intro g6 k6 O w6 c6 f6 t P;have qi:=Z t;have qe:=Z P;obtain⟨x0,x1⟩:=j.o.far f.o t;have HX:=Z x0;obtain⟨y0,y1,y2,y3⟩:=Qfk x0;obtain⟨y4,y5,-,-⟩:=Qfk x1;have ql:=qK a9 t.size;clear t P x0 x1)
    have x:=Z (j.o.goS f.o (qF _ _) qi.o qe.o);have qg:(w6.setCell (Ja p 0) (Jl g6 k6 O)).heap[w.heap.size]?=some (.cells #[Ju 0,Jd 0] 161 (0,0)):=(QbF _ (by omega)).trans HX.o
    refine Qel (A:=(Ja w.heap.size 0)) rfl (QbP _ _ _ _ _ (Qbv qg _ _)) rfl rfl ?_;refine⟨by rw[HM.o],_,(x.o.1.pool (Qra l s qc.o h1 h2 h3 h4)).keep (by simp only[QbE];exact qC _) (fun g hg=>?_),fun g hg=>(x.o.2.2.2.2.2.1 g hg).imp id (fun e=>by omega),Qaj _ (Qaj _ x.o.2.2.2.1 (.inr (qC _))) (.inr (qC _))⟩
    have qa:g≠w.heap.size:=fun e=>(x.o.2.2.2.2.2.1 g hg).elim (fun h=>by have:=f.o g h;omega) (fun h=>by omega)
    exact (QbF _ qa).trans (QbF _ qa)
end
section
open Go.RowKit Go.Maps PoolPlain
def QC7(p:Nat)(l:JM)(s:JL)(S:Nat->Prop)(w:World)(e:Ending)(w':World):Prop:=
 e=.returned (.tuple #[.agg #[Ju ((QmZ l s).1:Nat),Jd ((QmZ l s).2:Nat)],.bool (Qik l s),Ji (Que l s:Nat)])/\∃S',PoolAt w' p (Qly l s) S'/\(∀g,S' g->S g\/w.heap.size<=g)/\Touch S w w'
theorem QiK{p:Nat}{l:JM}{s:JL}{S:Nat->Prop}{w:World}{e:Ending}{w':World}(h:¬(s≠[]/\s.length<=65536/\s∉l/\l.length<2048))(i:PoolAt w p l S){a b c:Nat}(k:(fnd l s).1=a)(j:(fnd l s).2.1=b)(m:Que l s=c)
  (f:e=.returned (.tuple #[.agg #[Ju a,Jd b],.bool false,Ji c])) (d:Jw w w'):QC7 p l s S w e w':=by
 obtain⟨g1,g2,g3⟩:=QCY l s h;subst k j m;refine⟨by rw[g1,g3];exact f,S,by rw[g2];exact i.below d,fun g hg=>.inl hg,Touch.of_below d⟩
theorem Qyw(w:World):Calls prog 57 #[] w fun e w'=>e=.returned (Jp w.heap.size)/\w'=w.alloc (.cells #[.slice none 0 0,.slice none 0 0,.map none] 226):=by
 go_enter func57,ntmps57;go_wp2;go_ret;exact⟨rfl,rfl⟩
theorem Qyx(p:Nat)(l:JM)(S:Nat->Prop)(s:JA)(w:World)(hs:s.size<=9223372036854775807)(B:PoolAt w p l S) :
  Calls prog 59 #[Jp p,Jt s] w (QC7 p l s.data.toList S w):=by
 obtain⟨m,rfl⟩:∃m,s=bs m:=⟨s.data.toList,(Qb1 s).symm⟩;rw[Qai];have qf:=Qaq m;have H:=Qbm w (.cells #[Ju 0,Jd 0] 161);have i:Jw w (w.alloc (.cells #[Ju 0,Jd 0] 161)):=(qF _ _).alloc (qC _) _;have x:=B.1
 by_cases y:m = []
 ·have C:Hi (QC7 p l m S w (.returned (.tuple #[.agg #[Ju 0,Jd 0],.bool false,Ji 2])) (w.alloc (.cells #[Ju 0,Jd 0] 161))):=Z (by
   have j:=QiF l m (by rw[y];exact not_mem_nil l x)
   exact QiK (fun h=>h.1 y) B (by rw[j]) (by rw[j]) (by unfold Que;rw[JK y]) rfl i)
  have t1:(bs m).toList = []:=by rw[J7,Qai];exact y
  clear y B x;go_enter func59,ntmps59;go_wp2_with fail;refine QaW (A:=(Ja w.heap.size 0)) rfl (QbP _ _ _ _ _ H) rfl rfl rfl rfl ?_;exact C.o
 ·have t1:(bs m).toList.isEmpty=false:=by rw[J7,Qai];cases m with
   |nil=>exact JN rfl y
   |cons a t=>rfl
  by_cases R:65536<m.length
  ·have C:Hi (QC7 p l m S w (.returned (.tuple #[.agg #[Ju 0,Jd 0],.bool false,Ji 5])) (w.alloc (.cells #[Ju 0,Jd 0] 161))):=Z (by
    have j:=QiF l m (QnJ l x m R);exact QiK (fun h=>by have:=h.2.1;omega) B (by rw[j]) (by rw[j]) (by unfold Que;rw[JJ y,JK R]) rfl i)
   clear y B x;have t2:decide ((65536:Int)<(m.length:Int))=true:=qA (by omega)
   go_enter func59,ntmps59;go_wp2_with fail;refine QaW (A:=(Ja w.heap.size 0)) rfl (QbP _ _ _ _ _ H) rfl rfl rfl rfl ?_;exact C.o
  ·have t2:decide ((65536:Int)<(m.length:Int))=false:=qB (by omega)
   have E:=Z (Qvu p l S (bs m) (w.alloc (.cells #[Ju 0,Jd 0] 161)) hs (B.below i));rw[Qai] at E;have T:=Z y;have U:=Z B;have D:=B.lt;obtain⟨p0,pc,c1⟩:∃a c,w.cell? (Ja p 1)=some (.slice a l.length c):=by
    obtain⟨-,-,-,tv,pv,mv,hb,-,-,hpr,-,-⟩:=B;obtain⟨-,c1,-,-,-,-⟩:=QgU hb;rcases hpr.2 with⟨rfl,h0⟩|⟨g,cap,cur,rfl,-⟩
    ·exact⟨none,0,by rw[h0];exact c1⟩
    ·exact⟨_,_,c1⟩
   clear y x B
   by_cases z:m∈l
   ·have C:Hi (∀w',Jw w w'->QC7 p l m S w (.returned (.tuple #[.agg #[Ju ((fnd l m).1:Nat),Jd ((fnd l m).2.1:Nat)],.bool false,Ji 0])) w'):=Z (fun w' hb=>QiK (fun h=>h.2.2.1 z) U.o rfl rfl (by unfold Que;rw[JJ T.o,JJ R,JK z]) rfl hb)
    obtain⟨k,hk,e1,e2⟩:=QrG l m z;have j:=Qqb l m k hk e1 e2;have V:=Z j;clear e1 e2 j z;go_enter func59,ntmps59;go_wp2_with fail;refine E.o.mono ?_;rintro e Y ⟨rfl,b⟩;have d:=Qaa i b;have f:=(b.block w.heap.size (by rw[qJ];omega)).trans H
    have q:=qK (show w.heap.size<_ by rw[qJ];exact Nat.lt_succ_self _) b.size
    rw[V.o] at C ⊢;generalize off l k=o at C ⊢;obtain⟨n,hn⟩:∃n,m.length=n:=⟨_,rfl⟩;rw[hn] at C ⊢;clear hn;obtain⟨x0,x1,x2,x3⟩:=Qfk f;have v:=Z f;have r:=Z d;clear b f d H i;go_wp2_with fail;refine QaW (A:=(Ja w.heap.size 0)) rfl (QbP _ _ _ _ _ ((J5 _ _ (by simp only[QbE];exact q)).trans (Qbv v.o _ _))) rfl rfl rfl rfl ?_
    refine C.o _ ?_;exact ((r.o.setCell (p:=(Ja w.heap.size 0)) (qC _) _).setCell (p:=(Ja w.heap.size 1)) (qC _) _).alloc (by simp only[QbE];omega) _
   ·have j:=QiF l m z
    have V:=Z j
    by_cases h4:2048<=l.length
    ·have C:Hi (∀w',Jw w w'->QC7 p l m S w (.returned (.tuple #[.agg #[Ju 0,Jd 0],.bool false,Ji 7])) w'):=Z (fun w' hb=>QiK (fun h=>by have:=h.2.2.2;omega) U.o (by rw[j]) (by rw[j]) (by unfold Que;rw[JJ T.o,JJ R,JJ z,JK h4]) rfl hb)
     have t4:decide ((2048:Int)<=(l.length:Int))=true:=qA (by omega)
     clear z j;go_enter func59,ntmps59;go_wp2_with fail;refine E.o.mono ?_;rintro e Y ⟨rfl,b⟩;have d:=Qaa i b;have f:=(b.block w.heap.size (by rw[qJ];omega)).trans H
     have q:=qK (show w.heap.size<_ by rw[qJ];exact Nat.lt_succ_self _) b.size
     have d1:=(d.cell (p:=(Ja p 1)) D).trans c1;have qa:=qK D d.size;rw[V.o];obtain⟨x0,x1,x2,x3⟩:=Qfk f;have v:=Z f;have r:=Z d;clear b f d H i c1;go_wp2_with fail;refine QaW (A:=(Ja w.heap.size 0)) rfl (QbP _ _ _ _ _ ((J5 _ _ (by simp only[QbE];exact q)).trans (Qbv v.o _ _))) rfl rfl rfl rfl ?_
     refine C.o _ ?_;exact ((r.o.setCell (p:=(Ja w.heap.size 0)) (qC _) _).setCell (p:=(Ja w.heap.size 1)) (qC _) _).alloc (by simp only[QbE];omega) _
    ·have t4:decide ((2048:Int)<=(l.length:Int))=false:=qB (by omega)
     have HN:=Z (QCZ l m T.o (by omega) z (by omega))
     have L:=Z (fun W (h:PoolAt W p l S)=>Qyv p l S m W T.o (by omega) z (by omega) h)
     clear z j;go_enter func59,ntmps59;go_wp2_with fail;refine E.o.mono ?_;rintro e Y ⟨rfl,b⟩;have d:=Qaa i b;have f:=(b.block w.heap.size (by rw[qJ];omega)).trans H
     have q:=qK (show w.heap.size<_ by rw[qJ];exact Nat.lt_succ_self _) b.size
     have d1:=(d.cell (p:=(Ja p 1)) D).trans c1;have qa:=qK D d.size;rw[V.o];have v:=Z f;have r:=Z d;clear b f d H i c1;go_wp2_with fail;refine (L.o _ (U.o.below ?_)).mono ?_
     ·exact r.o.alloc (by omega) _
     rintro e w2 ⟨rfl,S',N,O,G⟩;have I:=U.o.2.1;have J:=(G.block w.heap.size (by rw[qJ];omega) (fun hs=>by have:=I _ hs;omega)).trans ((J5 Y _ q).trans v.o)
     obtain⟨x0,x1,x2,x3⟩:=Qfk J;have qb:=Z J;have qe:w.heap.size<w2.heap.size:=qK q (qD (by rw[qJ];omega) G.size)
     have qc:=Z N;have K:Hi (∀g,S' g->S g\/w.heap.size<g):=Z (fun g hg=>(O g hg).imp id (fun h=>by rw[qJ] at h;omega))
     have qd:Hi (Touch S w w2):=Z ((Touch.of_below (S:=S) (r.o.alloc (by omega) _)).trans G (fun g hg=>.inl hg))
     have X:=Z I;clear N O G J d1 I;obtain⟨M,hM⟩:∃M,l.flatten.length=M:=⟨_,rfl⟩;rw[hM];have HM:=Z hM;clear hM;go_wp2_with fail;refine QaW (A:=(Ja w.heap.size 0)) rfl (QbP _ _ _ _ _ (Qbv qb.o _ _)) rfl rfl rfl rfl ?_;obtain⟨n1,n2,n3,n4⟩:=HN.o;refine⟨by rw[n1,n3,n4,HM.o];rfl,S',?_,fun g hg=>(K.o g hg).imp id (fun h=>by omega),Qaj _ (Qaj _ qd.o (.inr (qC _))) (.inr (qC _))⟩
     rw[n2];refine qc.o.keep (by simp only[QbE];exact qC _) (fun g hg=>?_)
     have P:g≠w.heap.size:=fun e=>(K.o g hg).elim (fun h=>by have:=X.o g h;omega) (fun h=>by omega)
     exact (QbF _ P).trans (QbF _ P)
end
section
open Go.RowKit Go.Maps PoolPlain
theorem Qw9(s:JA)(w:World)(a:s.size<=281474976710656):Calls prog 108 #[Jt s] w (JB (Jt s) w):=by
 go_enter func108,ntmps108;go_wp2_with fail;refine (Tryz.stringslite_Clone s w a).mono ?_;rintro e c ⟨rfl,b⟩;go_wp2;go_ret;exact⟨rfl,b⟩
theorem Qvt(p:Nat)(l:JM)(S:Nat->Prop)(w:World)(b:PoolAt w p l S) :
  Calls prog 60 #[Jp p] w (JB (Jt (bs l.flatten)) w):=by
 have d:=Qmj l b.1;obtain⟨-,-,-,tv,pv,mv,hb,ht,-,-,-,-⟩:=b;obtain⟨c0,-,-,-,-,-⟩:=QgU hb;generalize l.flatten=t at *;have c:(convert 169 9 tv).run prog w=.ok (Jt (bs t)) w:=by
  rcases Nat.eq_zero_or_pos t.length with h0|h0
  ·have:t = []:=List.length_eq_zero_iff.1 h0
   subst this;rcases ht.2 with⟨rfl,-⟩|⟨g,cap,cur,rfl,-⟩
   ·exact run_convert_bytes_nil w 169 5 underlying169 underlying5 0 0 9 underlying9
   ·exact run_convert_bytes_back w 169 9 5 (Ja g 0) cap [] underlying169 underlying5 underlying9 (fun j hj=>JN hj (JH _))
  ·obtain⟨g,cap,rfl,-,-,-,-,hc⟩:=QlI ht h0
   exact run_convert_bytes_back w 169 9 5 (Ja g 0) cap t underlying169 underlying5 underlying9 (fun j hj=>by rw[Qg0,Nat.zero_add];exact hc j hj)
 have f:=Z (Qw9 (bs t) w (by rw[Qaq];omega))
 clear hb ht;go_enter func60,ntmps60;go_wp2_with fail;refine f.o.mono ?_;rintro e h ⟨rfl,a⟩;go_wp2;go_ret;exact⟨rfl,a⟩
end
section
open Go.RowKit Go.Maps PoolPlain
def Qgd(t:JT):Prop:=t=226\/t=5\/t=161\/t=3
def PTag(W:World)(g:Nat):Prop:=(∃cs t m,W.heap[g]?=some (.cells cs t m)/\Qgd t)\/∃es c,W.heap[g]?=some (.map es c)
theorem PTag.own{W:World}{c k n:Nat}{e:JT}{v:Value}{xs:JV}(h:W.ownsRow c e k v n xs)(a:Qgd e)(g:Nat)(b:v.ownBlock=some g):PTag W g:=by
 obtain⟨cur,hc⟩:=Qa5 h g b;exact .inl ⟨cur,e,_,hc,a⟩
theorem PoolAt.tags{w:World}{p:Nat}{l:JM}{S:Nat->Prop}(h:PoolAt w p l S):PoolAt w p l (fun g=>S g/\PTag w g):=by
 obtain⟨h1,h2,h3,tv,pv,mv,hb,ht,hts,hp,hps,hm⟩:=h;refine⟨h1,fun g hg=>h2 g hg.1,⟨h3,.inl ⟨_,_,_,hb,.inl rfl⟩⟩,tv,pv,mv,hb,ht,fun g hg=>⟨hts g hg,PTag.own ht (.inr (.inl rfl)) g hg⟩,hp,fun g hg=>⟨hps g hg,PTag.own hp (.inr (.inr (.inl rfl))) g hg⟩,?_⟩
 rcases hm with h|⟨b,D,rfl,hS,ho,hsh,hG⟩
 ·exact .inl h
 ·have a:=ho
  obtain⟨es,clock,hbk,F,hsz,hD,hbb,hlen,hap⟩:=ho;refine .inr ⟨b,D,rfl,⟨hS,.inr ⟨_,_,hbk⟩⟩,a,fun es2 c2 h2 x hx g hg hn=>hn ⟨Classical.not_not.1 (hsh es2 c2 h2 x hx g hg),?_⟩,hG⟩
  obtain⟨rfl,rfl⟩:es=es2/\clock=c2:=by rw[hbk] at h2;simpa using h2
  obtain⟨y,hy⟩:=F.reads x hx;obtain⟨z,hz,_⟩:=Go.WideElems.rd_val hy;obtain⟨zs0,ho0,_⟩:=rowElem_inv hz;exact PTag.own ho0.1 (.inr (.inr (.inr rfl))) g hg
def PoolT(n0:Nat)(W:World)(p:Nat)(l:JM):Prop:=∃S,PoolAt W p l S/\(∀g,S g->PTag W g/\n0<=g)
theorem PoolT.of_at{a:Nat}{W:World}{p:Nat}{l:JM}{S:Nat->Prop}(h:PoolAt W p l S)(b:∀g,S g->a<=g):PoolT a W p l:=
 ⟨_,h.tags,fun g hg=>⟨hg.2,b g hg.1⟩⟩
theorem PoolT.rows{T:JT->Prop}{b B:Nat}{W W':World}{row:Option Nat}{p:Nat}{l:JM}(h:PoolT b W p l)(d:∀t,Qgd t->¬T t)(a:W.grownBy W' row)(f:∀r,row=some r->QAw T B W r):PoolT b W' p l:=by
 obtain⟨S,h,ht⟩:=h;have key:∀g,S g->W'.heap[g]?=W.heap[g]?:=fun g hs=>a.block g (h.2.1 g hs) (fun e=>by
  rcases f g e.symm with⟨-,cs,t,m,h1,h2⟩|⟨-,o,h1,h2⟩
  ·rcases (ht g hs).1 with⟨cs',t',m',h3,h4⟩|⟨es,c,h3⟩
   ·rw[h1] at h3
    injection h3 with h3
    injection h3 with _ h3 _
    subst h3;exact d _ h4 h2
   ·rw[h1] at h3;cases h3
  ·rcases (ht g hs).1 with⟨cs',t',m',h3,h4⟩|⟨es,c,h3⟩
   ·rw[h1] at h3
    obtain rfl:=qS h3;have:=h2.1;cases this
   ·rw[h1] at h3
    exact h2.2 _ _ (qS h3))
 refine⟨S,h.keep a.size key,fun g hs=>⟨?_,(ht g hs).2⟩⟩
 rcases (ht g hs).1 with⟨cs',t',m',h3,h4⟩|⟨es,c,h3⟩
 ·exact .inl ⟨cs',t',m',(key g hs).trans h3,h4⟩
 ·exact .inr ⟨es,c,(key g hs).trans h3⟩
theorem Qte{T:JT->Prop}{S:Nat->Prop}{W W':World}(h:Touch S W W')(a:∀g,S g->PTag W g)(b:∀t,Qgd t->¬T t):KeptT T W W':=by
 refine⟨⟨h.size,fun k cs t m hk ht=>(h.block k (gsi hk).1 (fun hs=>?_)).trans hk⟩,fun k o hk ho=>(h.block k (gsi hk).1 (fun hs=>?_)).trans hk⟩
 ·rcases a k hs with⟨cs',t',m',h3,h4⟩|⟨es,c,h3⟩
  ·rw[hk] at h3
   injection h3 with h3
   injection h3 with _ h3 _
   subst h3;exact b _ h4 ht
  ·rw[hk] at h3;cases h3
 ·rcases a k hs with⟨cs',t',m',h3,h4⟩|⟨es,c,h3⟩
  ·rw[hk] at h3
   obtain rfl:=qS h3;have:=ho.1;cases this
  ·rw[hk] at h3
   exact ho.2 _ _ (qS h3)
theorem QeE{S:Nat->Prop}{W W':World}(h:Touch S W W')(b:∀g,S g->PTag W g){k:Nat}{cs:JW}{t:JT}{m:Nat×Nat}(a:W.heap[k]?=some (.cells cs t m))(d:¬Qgd t):W'.heap[k]?=some (.cells cs t m):=
 (h.block k (gsi a).1 (fun hs=>by
  rcases b k hs with⟨cs',t',m',h3,h4⟩|⟨es,c,h3⟩
  ·rw[a] at h3
   injection h3 with h3
   injection h3 with _ h3 _
   subst h3;exact d h4
  ·rw[a] at h3;cases h3)).trans a
end
section
def Qjx(o:Oper):Bool:=match o.op with
 | .defer _=>false
 |_=>true
theorem QhV{o:Oper}(h:Qjx o=true)(c:Call):o.op≠.defer c:=by
 intro e;unfold Qjx at h;rw[e] at h;cases h
theorem QnG{F:Fence}{n:Nat}{P:Program}{b:Array Oper}{Q:Exit->Act->World->Prop}(c:∀(i:Nat) (o:Oper),b[i]?=some o->Qjx o=true)(r:Nat)(l:List Nat) :
  ∀(a:Act) (w:World),wpOpsIn F n P b Q l a w->wpOpsIn (F.inRound r) n P b Q l a w:=by
 induction l with
 |nil=>intro a w h;exact h
 |cons i rest ih=>
  intro a w h;unfold wpOpsIn at h ⊢;cases d:b[i]? with
  |none=>
   simp only[d] at h ⊢;exact ih _ _ h
  |some o=>
   simp only[d] at h ⊢
   by_cases f:Region.wanted o (yielded b a.tmps)=true
   ·rw[JK f] at h ⊢
    obtain⟨h1,h2⟩:=Oper.wpIn_mono (K':=wpOpsIn (F.inRound r) n P b Q rest) ih h;rw[Oper.semAt_eq _ _ _ (QhV (c i o d))] at h2;refine⟨h1,?_⟩;rw[Oper.semAt_eq _ _ _ (QhV (c i o d))];exact h2
   ·rw[JJ f] at h ⊢
    exact⟨h.1,ih _ _ h.2⟩
theorem Qgs{F:Fence}{n:Nat}{P:Program}{id r:Nat}{Q:Exit->Act->World->Prop}{a:Act}{w:World}{l:List Oper}(d:F.round=none)(f:P.follows .mixedOrders=true)(c:Region.lexB .any l.toArray=true)(b:l.all Qjx=true)
  (h:wpQuietIn F n P l.toArray (fun w'=>∃n,w'=w.drewN n) (fun a'=>∀w',(∃n,w'=w.drewN n)->Q .normal a' w') l a):(Code.region id l.toArray true).wpIn (F.inRound r) n P Q a w:=by
 refine wpIn_region_draw fun t=>?_
 simp only[Region.schedule,f,Bool.true_or,if_true];refine QnG (fun i o hi=>?_) r _ _ _ ?_
 ·rw[List.getElem?_toArray] at hi
  exact List.all_eq_true.1 b o (List.mem_of_getElem? hi)
 ·refine wpAnyIn_sound _ t _ a _ ?_
  simp only[Region.lexB,JD] at c;refine wpAnyIn_of_quiet (C:=fun w'=>∃n,w'=w.drewN n) (Q:=fun a'=>∀w',(∃n,w'=w.drewN n)->Q .normal a' w') d (fun _ w' hw' h=>h w' hw') _ _ _ _ ⟨1,rfl⟩ ?_
  have:=wpAnyQIn_lex (F:=F) (n:=n) (C:=fun w'=>∃n,w'=w.drewN n) (md:=.any) c.1 l 0 (Array.replicate l.toArray.size false) a (by simp) (by simpa using c.2) h
  simpa using this
theorem Qjg{F:Fence}{n:Nat}{P:Program}{id:Nat}{Q:Exit->Act->World->Prop}{a:Act}{w:World}{l:List Oper}(b:F.round=none)(c:P.follows .mixedOrders=true)(d:Region.lexB .any l.toArray=true)
  (h:wpQuietIn F n P l.toArray (fun w'=>∃p:BelowOf w,w'=p.world) (fun a'=>∀w',(∃p:BelowOf w,w'=p.world)->Q .normal a' w') l a):(Code.region id l.toArray true).wpIn F n P Q a w:=
 wpIn_region_quiet (C:=fun w'=>∃p:BelowOf w,w'=p.world) b c d ⟨⟨{ w with drawn:=w.drawn+1 },(qF _ w).drew⟩,rfl⟩ (by simpa using h)
end
section
open Go.RowKit Go.Shelf PoolPlain
attribute [local go_sem] Oper.semAt_some
theorem QtR(a:Option Addr)(n c:Nat)(w:World):Calls prog 58 #[.agg #[.slice a n c]] w fun e w'=>e=.returned (.func (.func 105) #[] #[Jp w.heap.size])/\w'=w.alloc (.cells #[.slice a n c] 31):=by
 have d:∀(fn:Fn) (first b:JW) (w:World),(Instr.makeFunc fn first b).run prog w=.ok (.func fn first b) w:=fun _ _ _ _=>rfl
 go_enter func58,ntmps58;go_wp2;go_ret;exact⟨rfl,rfl⟩
theorem QDo(t:JT)(h:Qgd t):¬TCh t:=by
 unfold TCh;rcases h with rfl|rfl|rfl|rfl<;>decide
theorem Qxi:¬TCh 51:=by unfold TCh;decide
theorem Qxj:¬TCh 61:=by unfold TCh;decide
theorem QCO:¬TCh 155:=by unfold TCh;decide
theorem QvA:¬Qgd 51:=by unfold Qgd;decide
theorem QBG:¬Qgd 155:=by unfold Qgd;decide
end
section
theorem Qyg(d c a b b0 g i k:Nat)(j:Qcj (d,c,a,b)=0)(f:Qbt (d,c,a,b))(w:World) :
  Calls prog 56 #[.agg #[Ju d,Ju c,Jd a,Jd b],.agg #[Ju b0,Ju g,Jd i,Jd k]] w (JB (.bool (QmH (d,c,a,b) (b0,g,i,k))) w):=by
 have q:QdM (d,c,a,b)=d+max 1 b-1:=by unfold QdM;rw[JK j]
 obtain⟨l,hl⟩:∃l,d+max 1 b-1=l:=⟨_,rfl⟩;have M:l<6004799503160661:=by
  unfold Qcj at j;have E:QfV=6004799503160661:=rfl
  by_cases G:a=0
  ·rw[JK G] at j;cases j
  ·rw[JJ G] at j
   by_cases v:QfV-max 1 b<d
   ·rw[JK v] at j;cases j
   ·have v:¬QfV-max 1 b<d:=v
    obtain⟨k1,z,x,I⟩:=f;have I:b<4294967296:=I;omega
 have m:=Z (fun W=>Qhx d c a b j W f.1 f.2.1 f.2.2.1 f.2.2.2)
 rw[hl] at m;have H:QmH (d,c,a,b) (b0,g,i,k)=(decide (b0=l+1)&&(decide (g=c)&&decide (i=a))):=by
  unfold QmH;rw[q,hl]
 rw[H];obtain⟨W0,hW0⟩:∃W0,(w.alloc (.cells #[Ju d,Ju c,Jd a,Jd b] 154)).alloc (.cells #[Ju b0,Ju g,Jd i,Jd k] 154)=W0:=⟨_,rfl⟩;have n:Jw w W0:=by rw[<-hW0];exact ((qF _ _).alloc (qC _) _).alloc (by simp) _
 have z:W0.heap[w.heap.size]?=some (.cells #[Ju d,Ju c,Jd a,Jd b] 154 (0,0)):=by
  rw[<-hW0];exact (JQ _ _ _ (by rw[qJ];omega)).trans (JI w _)
 have x:W0.heap[w.heap.size+1]?=some (.cells #[Ju b0,Ju g,Jd i,Jd k] 154 (0,0)):=by
  have:=JI (w.alloc (.cells #[Ju d,Ju c,Jd a,Jd b] 154)) (.cells #[Ju b0,Ju g,Jd i,Jd k] 154);rw[qJ] at this;rw[<-hW0];exact this
 have r:∀p:BelowOf W0,(Jx p.world w.heap.size 0 (Ju d)/\Jx p.world w.heap.size 1 (Ju c)/\Jx p.world w.heap.size 2 (Jd a)/\Jx p.world w.heap.size 3 (Jd b))/\(Jx p.world (w.heap.size+1) 0 (Ju b0)/\Jx p.world (w.heap.size+1) 1 (Ju g)/\Jx p.world (w.heap.size+1) 2 (Jd i)/\Jx p.world (w.heap.size+1) 3 (Jd k)):=fun p=>
  ⟨(QaC (Qad z p.below)).1,(QaC (Qad x p.below)).1⟩
 have R:=fun p=>(r p).1.1
 have O:=fun p=>(r p).1.2.1
 have V:=fun p=>(r p).1.2.2.1
 have N:=fun p=>(r p).1.2.2.2
 have S:=fun p=>(r p).2.1
 have U:=fun p=>(r p).2.2.1
 have P:=fun p=>(r p).2.2.2.1
 have X:=fun p=>(r p).2.2.2.2
 have t:=Z n;have J:((b0:Int)==(l:Int)+1)=decide (b0=l+1):=by
  by_cases h:b0=l+1
  ·rw[h];simp
  ·rw[qB h,qI];omega
 have L:((g:Int)==(c:Int))=decide (g=c):=by
  by_cases h:g=c
  ·rw[h];simp
  ·rw[qB h,qI];omega
 have K:((i:Int)==(a:Int))=decide (i=a):=by
  by_cases h:i=a
  ·rw[h];simp
  ·rw[qB h,qI];omega
 have y:prog.follows .mixedOrders=true:=by kernel_rfl
 generalize decide (b0=l+1)=A at J ⊢;generalize decide (g=c)=B at L ⊢;generalize decide (i=a)=C at K ⊢;clear r z x n H hl q j f;cases A<;>cases B
 all_goals
  go_enter func56,ntmps56;go_wp2_with fail;refine Qae y (by kernel_rfl) ?_
  repeat (go_big_quiet_step ((go_at_call 83;exact QaA (m.o _))))
  refine wpQuiet_nil ?_;intro T s;have D:=QaQ s;go_wp2;go_ret;exact⟨rfl,Qaa t.o D⟩
end
section
open Go.RowKit Go.Shelf PoolPlain
attribute [local go_sem] Oper.semAt_some
theorem Qgt{F:Fence}{n:Nat}{P:Program}{id r:Nat}{Q:Exit->Act->World->Prop}{a:Act}{w:World}{l:List Oper}(d:F.round=none)(f:P.follows .mixedOrders=true)(c:Region.lexB .any l.toArray=true)(b:l.all Qjx=true)
  (h:wpQuietIn F n P l.toArray (fun w'=>∃p:BelowOf w,w'=p.world) (fun a'=>∀w',(∃p:BelowOf w,w'=p.world)->Q .normal a' w') l a):(Code.region id l.toArray true).wpIn (F.inRound r) n P Q a w:=by
 refine wpIn_region_draw fun t=>?_
 simp only[Region.schedule,f,Bool.true_or,if_true];refine QnG (fun i o hi=>?_) r _ _ _ ?_
 ·rw[List.getElem?_toArray] at hi
  exact List.all_eq_true.1 b o (List.mem_of_getElem? hi)
 ·refine wpAnyIn_sound _ t _ a _ ?_
  simp only[Region.lexB,JD] at c;refine wpAnyIn_of_quiet (C:=fun w'=>∃p:BelowOf w,w'=p.world) (Q:=fun a'=>∀w',(∃p:BelowOf w,w'=p.world)->Q .normal a' w') d (fun _ w' hw' h=>h w' hw') _ _ _ _ ⟨⟨{ w with drawn:=w.drawn+1 },(qF _ w).drew⟩,rfl⟩ ?_
  have:=wpAnyQIn_lex (F:=F) (n:=n) (C:=fun w'=>∃p:BelowOf w,w'=p.world) (md:=.any) c.1 l 0 (Array.replicate l.toArray.size false) a (by simp) (by simpa using c.2) h
  simpa using this
theorem QvB:¬Qgd 61:=by unfold Qgd;decide
theorem QDp:¬Qgd 151:=by unfold Qgd;decide
theorem QDX:¬TCh 151:=by unfold TCh;decide
theorem QAQ:¬(151:Nat)=61:=by decide
theorem QwP:¬(155:Nat)=61:=by decide
theorem QCz:¬(51:Nat)=61:=by decide
theorem QBM{w:World}{base size n c g:Nat}{e:JT}{xs:JV}(h:w.ownsRow base e size (Jl g n c) n xs)(i:Nat)(v:Value):(w.setCell (Ja g i) v).ownsRow base e size (Jl g n c) n (xs.set i v):=by
 refine⟨by rw[List.length_set];exact h.1,?_⟩
 rcases h.2 with⟨hv,-⟩|⟨g',cap,cur,hv,hb,hg,hle,hm,hs,ht⟩
 ·cases hv
 ·injection hv with h1 h2 h3
  injection h1 with h1
  injection h1 with h1
  subst h1 h3;refine .inr ⟨g,c,cur.set! i v,rfl,hb,?_,hle,hm,by rw[Array.set!_eq_setIfInBounds,Array.size_setIfInBounds];exact hs,?_⟩
  ·simp[World.setCell,J6,hg]
  ·rw[<-ht,Array.set!_eq_setIfInBounds,Array.toList_setIfInBounds,List.take_set]
structure RwM(n0 P Bp Bg Bo:Nat)(w W:World)(l:JM)(R:List Ent)(u:Value):Prop where
 bp:W.heap[Bp]?=some (.cells #[Jp P] 155 (0,0))
 bg:W.heap[Bg]?=some (.cells #[.func (.func 56) #[] #[]] 151 (0,0))
 bo:Boxed W Bo 51 u
 bel:Below n0 w W
 pool:PoolT n0 W P l
 own:W.ownsRow n0 61 4 u R.length (Qan R)
section
variable {n0 P Bp Bg Bo:Nat} {w W W':World} {l l':JM} {R:List Ent} {u:Value}
theorem RwM.rows(h:RwM n0 P Bp Bg Bo w W l R u){T:JT->Prop}{B:Nat}{row:Option Nat}(b:W.grownBy W' row)(a:∀r,row=some r->QAw T B W r)(j:n0<=B)(c:n0<=w.heap.size)(g:¬T 155)(d:¬T 151)(k:¬T 51)(f:¬T 61)(i:∀t,Qgd t->¬T t):RwM n0 P Bp Bg Bo w W' l R u:=
 ⟨QbN b a h.bp g,QbN b a h.bg d,QbN b a h.bo k,QfB h.bel b a j c,h.pool.rows i b a,Qq6 h.own b a f⟩
theorem RwM.below(h:RwM n0 P Bp Bg Bo w W l R u)(a:n0<=w.heap.size)(b:Jw W W'):RwM n0 P Bp Bg Bo w W' l R u:=
 h.rows (T:=fun _=>False) (B:=n0) (QfS b) (fun r e=>by cases e) (qC _) a id id id id (fun _ _=>id)
theorem RwM.add(h:RwM n0 P Bp Bg Bo w W l R u){f S':Nat->Prop}(b:∀g,f g->PTag W g/\n0<=g)(a:Touch f W W')(d:PoolAt W' P l' S')(i:∀g,S' g->f g\/W.heap.size<=g)(m:n0<=w.heap.size):RwM n0 P Bp Bg Bo w W' l' R u:=by
 have c:=fun g hg=>(b g hg).1
 have j:=h.bel.size;refine⟨QeE a c h.bp QBG,QeE a c h.bg QDp,QeE a c h.bo QvA,h.bel.trans ⟨a.os,a.tape,a.output,a.size,fun k hk=>a.block k (by omega) (fun hs=>by have:=(b k hs).2;omega)⟩,PoolT.of_at d (fun g hg=>?_),Qac h.own (fun k hk=>?_)⟩
 ·rcases i g hg with h1|h1
  ·exact (b g h1).2
  ·omega
 ·obtain⟨cur,hcu⟩:=Qa5 h.own k hk
  exact (QeE a c hcu QvB).trans hcu.symm
theorem RwM.app(h:RwM n0 P Bp Bg Bo w W l R u){c:Obj}{b:World}{g:Value}{i:List Ent}(n:n0<=w.heap.size)(v:n0<=Bo)(m:Bp≠Bo)(j:Bg≠Bo)(a:(W.alloc c).grownBy b u.ownBlock)(k:b.ownsRow n0 61 4 g i.length (Qan i)) :
  Boxed b Bo 51 u/\RwM n0 P Bp Bg Bo w (b.setCell (Ja Bo 0) g) l i g/\KeptT TCh W (b.setCell (Ja Bo 0) g):=by
 have x:=h.bel.size;obtain⟨hv1,hv2,hr2,hk2,hb2⟩:=h.bo.appended (by decide) h.own (by omega) v k a
 have f:=h.below n ((qF _ _).alloc (qC _) c);have d:∀r,u.ownBlock=some r->QAw (fun t=>t=61) n0 (W.alloc c) r:=fun r hr=>by
  obtain⟨cur,hc⟩:=Qa5 f.own r hr;exact .inl ⟨(f.own.lt r hr).1,cur,_,_,hc,rfl⟩
 have p:=QbN a d f.bp QwP;have q:=QbN a d f.bg QAQ;have s:PoolT n0 b P l:=f.pool.rows (T:=fun t=>t=61) (fun t ht e=>QvB (e ▸ ht)) a d
 refine⟨hv1,⟨(JO _ _ _ _ m).trans p,(JO _ _ _ _ j).trans q,hv2,h.bel.trans hb2,s.rows (T:=fun t=>t=51) (B:=0) (fun t ht e=>QvA (e ▸ ht)) (grownBy_setCell' b Bo _) (fun r e=>by cases e;exact .inl ⟨qL _,_,_,_,hv1,rfl⟩),hr2⟩,Qr3 hv1 h.own a Qxi Qxj⟩
theorem RwM.inc{g c n:Nat}(h:RwM n0 P Bp Bg Bo w W l R (Jl g n c))(q:n=R.length)(x:n0<=w.heap.size)(i:Nat)(v:Value)(j:List Ent)(f:j.length=R.length)(m:(Qan R).set i v=Qan j) :
  RwM n0 P Bp Bg Bo w (W.setCell (Ja g i) v) l j (Jl g n c)/\KeptT TCh W (W.setCell (Ja g i) v):=by
 subst q;obtain⟨cur,hc⟩:=Qa5 h.own g rfl;have s:=h.bel.size;have b:W.grownBy (W.setCell (Ja g i) v) (some g):=⟨rfl,rfl,rfl,by simp[World.setCell],fun k _ hk=>JO _ _ _ k (fun e=>hk (by rw[e]))⟩
 have a:∀r,some g=some r->QAw (fun t=>t=61) n0 W r:=fun r e=>by
  cases e;exact .inl ⟨(h.own.lt g rfl).1,cur,_,_,hc,rfl⟩
 have d:=QBM h.own i v;rw[m,<-f] at d;rw[f] at d;refine⟨⟨QbN b a h.bp QwP,QbN b a h.bg QAQ,QbN b a h.bo QCz,h.bel.setCell (p:=(Ja g i)) (h.own.lt g rfl).1 v,h.pool.rows (T:=fun t=>t=61) (fun t ht e=>QvB (e ▸ ht)) b a,?_⟩,KeptT.setCell W v hc Qxj⟩
 rw[f];exact d
end
end
end Go.Proofs.YtlpecalodphalaaGreatDoor
