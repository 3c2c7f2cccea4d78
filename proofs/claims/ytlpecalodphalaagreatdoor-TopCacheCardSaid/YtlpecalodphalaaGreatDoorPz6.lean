/- What parts of the program compute: packed for TopCache. Conditions: none. -/
import Derived.Test.YtlpecalodphalaaGreatDoorPz5
set_option linter.all false
set_option maxRecDepth 100000
set_option maxHeartbeats 16000000
open Go.Proofs.Tryz Go.RowKit
namespace Go.Proofs.YtlpecalodphalaaGreatDoor
section
def Qgk:JW:=#[.func (.func 278) #[] #[],.bool true,.func (.func 279) #[] #[],.bool true,.func (.func 280) #[] #[],.bool true,.func (.func 281) #[] #[],.bool false,.func (.func 282) #[] #[],.bool false,.func (.func 283) #[] #[],.bool false]
theorem Qqh(w:World):Calls prog 247 #[] w (JB (.agg Qgk) w):=by
 go_enter func247,ntmps247;go_wp2_with fail;refine Qel (A:=(Ja w.heap.size 0)) rfl (run_loadVar_new w 384 Qgk 6 383 underlying384 (by kernel_rfl)) rfl rfl ?_
 exact⟨rfl,(qF _ _).alloc (qC _) _⟩
theorem Qg9{w:World}{b:Nat}{x y:Value}{t:JT}(h:w.heap[b]?=some (.cells #[x,y] t (0,0))) :
  w.cell? (Ja b 0)=some x/\w.cell? (Ja b 1)=some y/\w.frozen? (Ja b 0)=false/\w.frozen? (Ja b 1)=false:=by
 refine⟨?_,?_,?_,?_⟩
 ·unfold World.cell?;rw[h];rfl
 ·unfold World.cell?;rw[h];rfl
 ·unfold World.frozen?;rw[h];simp
 ·unfold World.frozen?;rw[h];simp
structure TD(W0 W1:World)(X D:Nat)(k n:Int)(t:JA)(x y:Value):Prop where
 blk:W1.heap[D]?=some (.cells #[x,y] 383 (0,0))
 bel:Jw W0 W1
 arg:W1.heap[X]?=some (.cells #[Jb k,Ji n,Jt t] 137 (0,0))
theorem TD.new{a c:World}{X:Nat}{k n:Int}{t:JA}(b:Jw a c)(f:X<a.heap.size)(d:a.heap[X]?=some (.cells #[Jb k,Ji n,Jt t] 137 (0,0)))(x y:Value):TD a (c.alloc (.cells #[x,y] 383)) X c.heap.size k n t x y where
 blk:=JI c _
 bel:=b.alloc b.size _
 arg:=((b.alloc b.size _).block X f).trans d
theorem TD.set{a b:World}{X:Nat}{k n:Int}{t:JA}(c:Jw a b)(h:X<a.heap.size)(g:a.heap[X]?=some (.cells #[Jb k,Ji n,Jt t] 137 (0,0))){f d:Value}(i:b.heap[a.heap.size]?=some (.cells #[f,d] 383 (0,0)))(x y:Value):TD a ((b.setCell (Ja a.heap.size 0) x).setCell (Ja a.heap.size 1) y) X a.heap.size k n t x y where
 blk:=Qbv i x y
 bel:=QaY c _ (qC _) x y
 arg:=((QaY c _ (qC _) x y).block X h).trans g
theorem TD.below{a c d:World}{X D:Nat}{k n:Int}{t:JA}{x y:Value}(h:TD a c X D k n t x y)(f:X<a.heap.size)(b:Jw c d):TD a d X D k n t x y where
 blk:=(b.block D (gsi h.blk).1).trans h.blk
 bel:=Qaa h.bel b
 arg:=(b.block X (qK f h.bel.size)).trans h.arg
theorem Qwx(s:JA)(w:World)(f:s.size<=1000000):Calls prog 248 #[Jt s] w fun e w'=>∃a c,e=.returned (.tuple #[.slice a (Qaf s).1.length c,Ji (Qaf s).2.1,Ji (Qaf s).2.2])/\HoldsS w' (.slice a (Qaf s).1.length c) (Qaf s).1/\Jw w w':=by
 refine (Qhr s w (by omega)).mono ?_
 rintro e w' ⟨v,rfl,b,d⟩;obtain⟨a,c,rfl⟩:=Qat b;exact⟨a,c,rfl,HoldsS.of_own b,d⟩
theorem QuE(w:World):(Instr.index 384 (.agg Qgk) (Jb 0)).run prog w=.ok (.agg #[.func (.func 278) #[] #[],.bool true]) w:=by kernel_rfl
theorem QuD(w:World):(Instr.index 384 (.agg Qgk) (Jb 1)).run prog w=.ok (.agg #[.func (.func 279) #[] #[],.bool true]) w:=by kernel_rfl
theorem QuC(w:World):(Instr.index 384 (.agg Qgk) (Jb 2)).run prog w=.ok (.agg #[.func (.func 280) #[] #[],.bool true]) w:=by kernel_rfl
theorem QiZ(w:World):(Instr.index 384 (.agg Qgk) (Jb 3)).run prog w=.ok (.agg #[.func (.func 281) #[] #[],.bool false]) w:=by kernel_rfl
theorem QiY(w:World):(Instr.index 384 (.agg Qgk) (Jb 4)).run prog w=.ok (.agg #[.func (.func 282) #[] #[],.bool false]) w:=by kernel_rfl
theorem QiX(w:World):(Instr.index 384 (.agg Qgk) (Jb 5)).run prog w=.ok (.agg #[.func (.func 283) #[] #[],.bool false]) w:=by kernel_rfl
theorem QbX(k n:Int)(F:Nat)(b:Bool)(t s r:JA)(w:World)(P:EnvW w)(V:s.size<=1000000)(hk:decide (k>=6)=false)(J:∀w,(Instr.index 384 (.agg Qgk) (Jb k)).run prog w=.ok (.agg #[.func (.func F) #[] #[],.bool b]) w)(qa:∀(args:JW) (w:World),(callFunc F args).run prog w=.ok (.enter F args) w)
  (O:((b=true\/(Qaf s).2.2=0/\(Qaf s).1.length≠0)/\∀a c W,EnvW W->HoldsS W (.slice a (Qaf s).1.length c) (Qaf s).1->Calls prog F #[.agg #[Jb k,Ji n,Jt t],Jt s,.slice a (Qaf s).1.length c] W (JB (Jt r) W))\/(b=false/\r=s/\(Qaf s).2.2≠0)\/(b=false/\r=s/\(Qaf s).2.2=0/\(Qaf s).1.length=0)) :
  Calls prog 215 #[.agg #[Jb k,Ji n,Jt t],Jt s] w (JB (Jt r) w):=by
 have T:=Z O;clear O;have M:=Qa0 w (Jb k) (Ji n) (Jt t) 137;have N:=Z Qqh;have R:=Z (fun W=>Qwx s W V)
 have G:=Z (P.below M);have l:Hi (∀W,Below (w.alloc (.cells #[Jb k,Ji n,Jt t] 137)).heap.size (w.alloc (.cells #[Jb k,Ji n,Jt t] 137)) W->W.cell? (Ja w.heap.size 0)=some (Jb k)/\W.cell? (Ja w.heap.size 1)=some (Ji n)/\W.cell? (Ja w.heap.size 2)=some (Jt t)):=Z (fun W hW=>by
  obtain⟨x0,x1,x2,-,-,-⟩:=Qas ((hW.block w.heap.size (by simp)).trans (JI w _))
  exact⟨x0,x1,x2⟩)
 have z:=Z M;have m:Hi ((w.alloc (.cells #[Jb k,Ji n,Jt t] 137)).heap[w.heap.size]?=some (.cells #[Jb k,Ji n,Jt t] 137 (0,0))):=Z (JI w _);have y:w.heap.size<(w.alloc (.cells #[Jb k,Ji n,Jt t] 137)).heap.size:=by simp
 have f:=Z y;clear M P y;go_enter func215,ntmps215;go_wp2_with fail;generalize w.alloc (.cells #[Jb k,Ji n,Jt t] 137)=W0 at G l z f m ⊢;generalize w.heap.size=X at l f m ⊢;have v:Hi (Jw W0 W0.drew):=Z (qF _ _).drew;have x:Hi (Jw W0 (W0.alloc (.cells #[.nilFunc,.bool false] 383)).drew):=Z ((qF _ _).alloc (qC _) _).drew;go_region_held3 (fun w'=>Jx w' X 0 (Jb k)) (first|exact (l.o _ v.o).1|exact (l.o _ x.o).1|exact (l.o _ d.o).1|exact (l.o _ (d.o.alloc d.o.size _)).1|exact (l.o _ (QaY d.o _ (qC _) _ _)).1|exact (l.o _ (QaY (d.o.alloc d.o.size _) _ d.o.size _ _)).1)
  (first
   |(go_at_call 247;(refine (N.o _).mono ?_);rintro e H ⟨rfl,i⟩;(first|(have d:Hi (Jw W0 H):=Z (Qaa v.o i))|(have d:Hi (Jw W0 H):=Z (Qaa x.o i);have S:=Z ((i.block W0.heap.size (by simp)).trans (JI W0 _));obtain⟨z0,z1,f0,f1⟩:=Qg9 S.o));clear i))
 all_goals
  first
   |(have p:=Z (TD.set d.o f.o m.o S.o (.func (.func F) #[] #[]) (.bool b));clear z0 z1 f0 f1;generalize (H.setCell (Ja W0.heap.size 0) (.func (.func F) #[] #[])).setCell (Ja W0.heap.size 1) (.bool b)=W1 at p ⊢;generalize W0.heap.size=D at p ⊢)
   |(have p:=Z (TD.new d.o f.o m.o (.func (.func F) #[] #[]) (.bool b));generalize H.alloc (.cells #[.func (.func F) #[] #[],.bool b] 383)=W1 at p ⊢;generalize H.heap.size=D at p ⊢)
 all_goals
  clear l d v x J N;obtain⟨d0,d1,-,-⟩:=Qg9 p.o.blk;obtain⟨x0,x1,x2,-,-,-⟩:=Qas p.o.arg;go_wp2_with fail;refine (R.o _).mono ?_;rintro e W2 ⟨al,cl,rfl,E,B⟩;have h:=Z (p.o.below f.o B);have C:=Z E;have j:=Z (Qaa z.o h.o.bel);have A:=Z (G.o.below h.o.bel);clear d0 d1 x0 x1 x2 B E R;obtain⟨d0,d1,-,-⟩:=Qg9 h.o.blk;obtain⟨x0,x1,x2,-,-,-⟩:=Qas h.o.arg;rcases T.o with⟨hb,I⟩|⟨rfl,hr,g1⟩|⟨rfl,hr,g1,K⟩
  ·have I:=Z I
   rcases hb with rfl|⟨g1,K⟩
   ·go_wp2_with fail
    refine (I.out _ _ _ A.o C.o).mono ?_;rintro e U ⟨rfl,g⟩;have q:=Z g;clear g;go_wp2;go_ret;exact⟨rfl,Qaa j.o q.o⟩
   ·have g3:(((Qaf s).1.length:Int)==0)=false:=beq_eq_false_iff_ne.2 (by omega)
    rw[g1];cases b
    all_goals
     go_wp2_with fail;refine (I.out _ _ _ A.o C.o).mono ?_;rintro e U ⟨rfl,g⟩;have q:=Z g;clear g;go_wp2;go_ret;exact⟨rfl,Qaa j.o q.o⟩
  ·have L:=Z hr
   clear hr;generalize (Qaf s).2.2=Y at g1;have K:((Y:Int) != 0)=true:=by rw[bne_iff_ne];omega
   go_wp2;go_ret;rw[L.o];exact⟨rfl,j.o⟩
  ·have L:=Z hr
   clear hr;rw[g1,K];go_wp2;go_ret;rw[L.o];exact⟨rfl,j.o⟩
theorem Qt4(n:Int)(t s:JA)(w:World)(b:EnvW w)(g : -9223372036854775808<=n)(f:n<=9223372036854775807)(h:t.size<=10000)(d:s.size<=1000000) :
  Calls prog 215 #[.agg #[Jb 0,Ji n,Jt t],Jt s] w (JB (Jt s) w):=
 QbX 0 n 278 true t s _ w b d rfl QuE (fun _ _=>by kernel_rfl) (.inl ⟨.inl rfl,fun a c W _ _=>Qtz 0 n t s _ W⟩)
theorem Qt3(n:Int)(t s:JA)(w:World)(b:EnvW w)(g : -9223372036854775808<=n)(f:n<=9223372036854775807)(h:t.size<=10000)(d:s.size<=1000000) :
  Calls prog 215 #[.agg #[Jb 1,Ji n,Jt t],Jt s] w (JB (Jt ⟨#[]⟩) w):=
 QbX 1 n 279 true t s _ w b d rfl QuD (fun _ _=>by kernel_rfl) (.inl ⟨.inl rfl,fun a c W _ _=>Qty 1 n t s _ W⟩)
theorem QxA(n:Int)(t s:JA)(w:World)(b:EnvW w)(g : -9223372036854775808<=n)(f:n<=9223372036854775807)(h:t.size<=10000)(d:s.size<=1000000) :
  Calls prog 215 #[.agg #[Jb 2,Ji n,Jt t],Jt s] w fun e w'=>e=.returned (Jt (bs ((s.data.toList.take (max 0 (min n (s.size:Int))).toNat))))/\Jw w w':=
 QbX 2 n 280 true t s _ w b d rfl QuC (fun _ _=>by kernel_rfl) (.inl ⟨.inl rfl,fun a c W _ _=>QwR 2 n t s _ W⟩)
theorem Qt5(n:Int)(t s:JA)(w:World)(b:EnvW w)(h : -9223372036854775808<=n)(g:n<=9223372036854775807)(i:t.size<=10000)(f:s.size<=1000000)(d:(Qaf s).2.2=0/\(Qaf s).1.length≠0) :
  Calls prog 215 #[.agg #[Jb 3,Ji n,Jt t],Jt s] w (JB (Jt (bs (Qqt n s))) w):=
 QbX 3 n 281 false t s _ w b f rfl QiZ (fun _ _=>by kernel_rfl) (.inl ⟨.inr d,fun a c W b _=>QtA 3 n t s _ W b h g f⟩)
theorem QkI(n:Int)(t s:JA)(w:World)(c:EnvW w)(b:s.size<=1000000)(a:(Qaf s).2.2≠0) :
  Calls prog 215 #[.agg #[Jb 3,Ji n,Jt t],Jt s] w (JB (Jt s) w):=
 QbX 3 n 281 false t s _ w c b rfl QiZ (fun _ _=>by kernel_rfl) (.inr (.inl ⟨rfl,rfl,a⟩))
theorem Qki(n:Int)(t s:JA)(w:World)(c:EnvW w)(b:s.size<=1000000)(a:(Qaf s).2.2=0/\(Qaf s).1.length=0) :
  Calls prog 215 #[.agg #[Jb 3,Ji n,Jt t],Jt s] w (JB (Jt s) w):=
 QbX 3 n 281 false t s _ w c b rfl QiZ (fun _ _=>by kernel_rfl) (.inr (.inr ⟨rfl,rfl,a.1,a.2⟩))
theorem QqE(n:Int)(t s:JA)(w:World)(b:EnvW w)(i : -9223372036854775808<=n)(h:n<=9223372036854775807)(g:t.size<=10000)(f:s.size<=1000000)(d:(Qaf s).2.2=0/\(Qaf s).1.length≠0) :
  Calls prog 215 #[.agg #[Jb 4,Ji n,Jt t],Jt s] w (JB (Jt (bs (QhQ t.data.toList s (Qaf s).1))) w):=
 QbX 4 n 282 false t s _ w b f rfl QiY (fun _ _=>by kernel_rfl) (.inl ⟨.inr d,fun a c W b hv=>Qqi 4 n t s _ (Qaf s).1 W b hv f g (fun x hx=>qD ((QcB s).1 x hx) (by decide)) (qD (QcB s).2 (by decide))⟩)
theorem Qkg(n:Int)(t s:JA)(w:World)(c:EnvW w)(b:s.size<=1000000)(a:(Qaf s).2.2≠0) :
  Calls prog 215 #[.agg #[Jb 4,Ji n,Jt t],Jt s] w (JB (Jt s) w):=
 QbX 4 n 282 false t s _ w c b rfl QiY (fun _ _=>by kernel_rfl) (.inr (.inl ⟨rfl,rfl,a⟩))
theorem Qii(n:Int)(t s:JA)(w:World)(c:EnvW w)(b:s.size<=1000000)(a:(Qaf s).2.2=0/\(Qaf s).1.length=0) :
  Calls prog 215 #[.agg #[Jb 4,Ji n,Jt t],Jt s] w (JB (Jt s) w):=
 QbX 4 n 282 false t s _ w c b rfl QiY (fun _ _=>by kernel_rfl) (.inr (.inr ⟨rfl,rfl,a.1,a.2⟩))
theorem QoK(n:Int)(t s:JA)(w:World)(f:EnvW w)(h : -9223372036854775808<=n)(g:n<=9223372036854775807)(i:t.size<=10000)(d:s.size<=1000000)(b:(Qaf s).2.2=0/\(Qaf s).1.length≠0) :
  Calls prog 215 #[.agg #[Jb 5,Ji n,Jt t],Jt s] w (JB (Jt (bs (Qfe t.data.toList s (Qaf s).1))) w):=
 QbX 5 n 283 false t s _ w f d rfl QiX (fun _ _=>by kernel_rfl) (.inl ⟨.inr b,fun a c W _ _=>Qoj 5 n t s a c (Qaf s).1 W d (by omega)⟩)
theorem Qij(n:Int)(t s:JA)(w:World)(c:EnvW w)(b:s.size<=1000000)(a:(Qaf s).2.2≠0) :
  Calls prog 215 #[.agg #[Jb 5,Ji n,Jt t],Jt s] w (JB (Jt s) w):=
 QbX 5 n 283 false t s _ w c b rfl QiX (fun _ _=>by kernel_rfl) (.inr (.inl ⟨rfl,rfl,a⟩))
theorem QhG(n:Int)(t s:JA)(w:World)(c:EnvW w)(b:s.size<=1000000)(a:(Qaf s).2.2=0/\(Qaf s).1.length=0) :
  Calls prog 215 #[.agg #[Jb 5,Ji n,Jt t],Jt s] w (JB (Jt s) w):=
 QbX 5 n 283 false t s _ w c b rfl QiX (fun _ _=>by kernel_rfl) (.inr (.inr ⟨rfl,rfl,a.1,a.2⟩))
theorem Qlt(a:JM)(k:Nat)(b:k<a.length):Qa2 a=Qa2 (a.take k)++(a[k]++13 :: 10 :: Qa2 (a.drop (k+1))):=by
 have h:=QcX (a.take k) (a.drop k);rw[List.take_append_drop] at h;rw[h,List.drop_eq_getElem_cons b];rfl
theorem QrZ(a:JM)(k:Nat)(b:k<a.length)(x:JL):Qa2 (a.set k x)=Qa2 (a.take k)++(x++13 :: 10 :: Qa2 (a.drop (k+1))):=by
 rw[List.set_eq_take_append_cons_drop,JK b,QcX];rfl
theorem QAn(s:JA)(a:JM)(b:JL)(g:∀x∈a,QcH x)(f:s.data.toList=Qa2 a++13 :: 10 :: b) :
  ∀k,k<=a.length->atF s k=((Qa2 (a.take k)).length:Int):=by
 intro k
 induction k with
 |zero=>intro _;rfl
 |succ k ih=>
  intro h;have c:k<a.length:=by omega
  rw[atF,ih (by omega)]
  obtain⟨-,hp,hl⟩:=g a[k] (JG c);have d:s.data.toList=Qa2 (a.take k)++(a[k]++13 :: 10 :: (Qa2 (a.drop (k+1))++13 :: 10 :: b)):=by
   rw[f,Qlt a k c];simp
  rw[(Qdt s _ _ _ d hp hl).2.2];rw[qV c,QcX];simp[Qa2]
theorem Qjj(s:JA)(a:JM)(b:JL)(h:∀x∈a,QcH x)(g:s.data.toList=Qa2 a++13 :: 10 :: b)
  (k:Nat) (d:k<a.length) (x:JL):QoR s k x=Qa2 (a.set k x)++13 :: 10 :: b:=by
 obtain⟨-,hp,hl⟩:=h a[k] (JG d);have c:s.data.toList=Qa2 (a.take k)++(a[k]++13 :: 10 :: (Qa2 (a.drop (k+1))++13 :: 10 :: b)):=by
  rw[g,Qlt a k d];simp
 obtain⟨-,h2,-⟩:=Qdt s _ _ _ c hp hl;have f:(bs a[k]).size=a[k].length:=by rw[<-Qab,Qai]
 unfold QoR;rw[QAn s a b h g k (by omega),h2,f,Int.toNat_natCast,QrZ a k d,c,List.take_left]
 rw[<-qP (Qa2 (a.take k)) a[k],<-qG,List.drop_left];simp
theorem Qyy(c:JL):∀(xs:JM) (i j:Nat),Qdy c xs i=some j->i<=j/\0<j/\∃h:j-i<xs.length,QaT xs[j-i]=0/\QaX xs[j-i]=c:=by
 intro xs
 induction xs with
 |nil=>intro i j h;cases h
 |cons x t ih=>
  intro i j h;unfold Qdy at h;split at h
  ·rename_i a
   have e:i=j:=qS h;subst e;refine⟨qC _,a.1,by simp,?_⟩
   simp only[Nat.sub_self,List.getElem_cons_zero];exact a.2
  ·obtain⟨a1,a2,a3,a4⟩:=ih (i+1) j h
   have e:j-i=(j-(i+1))+1:=by omega
   refine⟨by omega,a2,by rw[qH];omega,?_⟩
   simp only[e,List.getElem_cons_succ];exact a4
def Qjw(x:JL):Prop:=∀c∈x,c≠13/\c≠10
theorem Qh5(l:JL):Qjw (QaG l):=by
 intro c a;have:=(List.mem_filter.1 a).2;simp only[JD,bne_iff_ne] at this;exact this
theorem QhP(x:JL)(h:Qe4 x):Qjw x:=by
 intro c a;have:=h c a;constructor<;>(intro e;rw[e] at this;exact JN this (by decide))
theorem Qxz(c:Int)(a:List (List UInt8×JL))(b:JL)(s:JA)(k n:Int)(t:JL)(h:QeT c a=0)(q:b.length<=1000000)(B:s.data.toList=Qg5 c a b)(G:k≠1)(E:k≠2) :
  ∃(i:Nat) (x:JL),i<(Qag c a b.length).length/\Qjw x/\Qca k n t s=Qa2 ((Qag c a b.length).set i x)++13 :: 10 :: b/\
   ((i=0/\QeT n a=0/\x=(Qbf n).data.toList)\/(i=1/\k=5/\x=QaG t)\/(2<=i/\x=QbM++QaG t)\/(i=0/\x=(Qbf c).data.toList)):=by
 obtain⟨g1,g2⟩:=Qdp c a b.length h q;have C:=QiC c a b b s h q (by rw[B];rfl)
 have d:s.data.toList=Qa2 (Qag c a b.length)++13 :: 10 :: b:=B;have hlen:2<=(Qag c a b.length).length:=by unfold Qag;simp
 obtain⟨c1,c2,c3,c4⟩:=Qe1 c a h;have m:=(Qew c c1 c2).1;have same:∃(i:Nat) (x:JL),i<(Qag c a b.length).length/\Qjw x/\s.data.toList=Qa2 ((Qag c a b.length).set i x)++13 :: 10 :: b/\
   ((i=0/\QeT n a=0/\x=(Qbf n).data.toList)\/(i=1/\k=5/\x=QaG t)\/(2<=i/\x=QbM++QaG t)\/(i=0/\x=(Qbf c).data.toList)):=by
  refine⟨0,(Qbf c).data.toList,by omega,QhP _ m.2.1,?_,.inr (.inr (.inr ⟨rfl,rfl⟩))⟩
  rw[d];rfl
 unfold Qca;rw[JJ G,JJ E,C];rw[JJ (by
  rintro (e|e)
  ·exact e rfl
  ·have:=congrArg List.length e
   simp only[List.length_nil] at this;omega)]
 by_cases A:k=3
 ·rw[JK A]
  by_cases g:Qbs n≠0
  ·rw[JK g];exact same
  ·rw[JJ g]
   have H:Qbs n=0:=Decidable.not_not.1 g;have r:QeT n a=0:=by
    unfold QeT at h ⊢;rw[JJ g];split at h
    ·rename_i hx;exact JN h hx
    ·exact h
   obtain⟨d1,d2,-,-⟩:=Qe1 n a r;exact⟨0,(Qbf n).data.toList,by omega,QhP _ (Qew n d1 d2).1.2.1,Qjj s _ b g1 d 0 (by omega) _,.inl ⟨rfl,r,rfl⟩⟩
 rw[JJ A]
 by_cases p:k=5
 ·rw[JK p,JJ (by simp only;omega)]
  exact⟨1,QaG t,by omega,Qh5 t,Qjj s _ b g1 d 1 (by omega) _,.inr (.inl ⟨rfl,p,rfl⟩)⟩
 rw[JJ p]
 by_cases v:k=4
 ·rw[JK v]
  simp only;cases e:Qdy Qb0 (Qag c a b.length) 0 with
  |none=>exact same
  |some j=>
   simp only;obtain⟨-,p2,p3,p4,p5⟩:=Qyy Qb0 _ 0 j e;simp only[Nat.sub_zero] at p3 p4 p5;have l:2<=j:=by
    rcases Nat.lt_or_ge j 2 with l|l
    ·have D:j=1:=by omega
     subst D;have I:(Qag c a b.length)[1]=QaN Qbl (QeB b.length):=rfl;rw[I,(Qct Qbl (QeB b.length) (QcW _ _ (Qj6 b.length q)).1).1] at p5;exact JN p5 (by decide)
    ·exact l
   refine⟨j,QbM++QaG t,p3,?_,Qjj s _ b g1 d j p3 _,.inr (.inr (.inl ⟨l,rfl⟩))⟩;intro y f;rcases List.mem_append.1 f with f|f
   ·have:∀z∈QbM,z≠13/\z≠10:=by decide
    exact this y f
   ·exact Qh5 t y f
 rw[JJ v];exact same
theorem Qsv(x a:JL):∀n,Qjw x->n<=256->(scan (x++13 :: 10 :: a) n).2=0->Qe4 x/\n+x.length<=256:=by
 induction x with
 |nil=>intro n _ j _;exact⟨fun c b=>by simp at b,by simpa using j⟩
 |cons c t ih=>
  intro n g j h;have b:=g c (JF ..);rw[J4,scan,JJ (by simp[b.1]),JJ (by simp[b.1])] at h
  by_cases f:QaE c.toNat=false
  ·rw[JK f] at h;exact JN (show (4:Nat)=0 from h) (by decide)
  rw[JJ f] at h
  by_cases i:n=256
  ·rw[JK i] at h;exact JN (show (5:Nat)=0 from h) (by decide)
  rw[JJ i] at h;obtain⟨i1,i2⟩:=ih (n+1) (fun d hd=>g d (JY _ hd)) (by omega) h
  refine⟨fun d hd=>?_,by rw[qH];omega⟩
  rcases List.mem_cons.1 hd with rfl|hd
  ·simpa using f
  ·exact i1 d hd
theorem Qzo(s:JA)(b:JL):∀(c:JM) (a:JL) (xs:JM) (f:Nat),(∀x∈c,QcH x)->xs.length+c.length<=17->f+xs.length=18->
  s.data.toList=a++(Qa2 c++b)->Qc6 f s (a.length:Int) xs=Qc6 (f-c.length) s ((a++Qa2 c).length:Int) (xs++c):=by
 intro c
 induction c with
 |nil=>intro a xs f _ _ _ _;simp[Qa2]
 |cons x t ih=>
  intro a xs f i d k j;obtain⟨hx0,hxp,hxl⟩:=i x (JF ..);obtain⟨f,rfl⟩:∃g,f=g+1:=⟨f-1,by simp at d;omega⟩
  have h:s.data.toList=a++(x++13 :: 10 :: (Qa2 t++b)):=by rw[j];simp[Qa2]
  obtain⟨h1,h2,h3⟩:=Qdt s a x _ h hxp hxl;rw[Qea f s _ xs h1 (by rw[h2,Qdn];cases x<;>simp_all) (by simp at d;omega),h3,h2,Qai]
  rw[ih (a++(x++[13,10])) (xs++[x]) f (fun y hy=>i y (JY _ hy)) (by simp at d ⊢;omega) (by simp;omega) (by rw[h];simp)]
  simp[Qa2]
theorem Qzp(s:JA)(a:JM)(i:Nat)(x b:JL)(q:∀x∈a,QcH x)(hlen:a.length<=17)(t:i<a.length)(hx:Qjw x)
  (p:s.data.toList=Qa2 (a.set i x)++13 :: 10 :: b) :
  (Qaf s).2.2≠0\/(x = []/\(Qaf s).1=a.take i/\(Qaf s).2.2=0)\/(Qaf s=(a.set i x,((Qa2 (a.set i x)).length:Int)+2,0)):=by
 have v:=QrZ a i t x;have d:s.data.toList=Qa2 (a.take i)++(x++13 :: 10 :: (Qa2 (a.drop (i+1))++13 :: 10 :: b)):=by rw[p,v];simp
 have r:=Qzo s (x++13 :: 10 :: (Qa2 (a.drop (i+1))++13 :: 10 :: b)) (a.take i) [] [] 18 (fun y h=>q y (List.mem_of_mem_take h)) (by rw[qW,List.length_nil];omega) (by simp) (by rw[d];simp)
 have n:(Qa2 (a.take i)).length<=s.size:=by rw[<-Qab,d];simp
 have k:Qaf s=Qc6 (18-(a.take i).length) s ((Qa2 (a.take i)).length:Int) (a.take i):=by
  unfold Qaf;rw[show (0:Int)=((([]:JL).length:Nat):Int) from rfl,r];simp
 have l:(a.take i).length=i:=by rw[qW];omega
 rw[l] at k;obtain⟨f,hf⟩:∃f,18-i=f+1:=⟨17-i,by omega⟩
 rw[hf] at k
 by_cases j:Qbe s ((Qa2 (a.take i)).length:Int)=0
 ·have c:=j
  rw[QcN s _ n] at c;unfold QbT at c;rw[d,List.drop_left] at c;obtain⟨p1,p2⟩:=Qsv x _ 0 hx (by omega) c
  obtain⟨t1,t2,t3⟩:=Qdt s _ x _ d p1 (by omega)
  by_cases g:x = []
  ·refine .inr (.inl ⟨g,?_⟩)
   rw[k,QgI f s _ _ j (by rw[t2,Qdn,g];rfl)]
   exact⟨rfl,rfl⟩
  ·refine .inr (.inr ?_)
   have m:∀y∈a.set i x,QcH y:=by
    intro y h;rcases List.mem_or_eq_of_mem_set h with h|rfl
    ·exact q y h
    ·exact⟨g,p1,by omega⟩
   have:=Qp5 s b (a.set i x) [] [] 18 m (by rw[List.length_set];simpa using hlen) (by simp) (by simpa using p)
   unfold Qaf;rw[show (0:Int)=((([]:JL).length:Nat):Int) from rfl,this];simp
 ·left
  rw[k,Qfd f s _ _ j];exact j
theorem Qqq(y:JL)(h:QaT (QbM++y)=0):QaX (QbM++y)=Qb0:=by
 unfold QaT at h;unfold QaX;split at h
 ·rename_i a
  rw[JK a];unfold QbV Qaw QbM;simp[List.takeWhile]
  decide
 ·exact JN h (by decide)
theorem Qww(a:List (List UInt8×JL))(h:∀f∈a,f.1≠Qbl):QfI a Qbl = []:=(Qje a h).2
theorem Qx6(c:Int)(d:List (List UInt8×JL))(b:JL)(p:JA)(k n a:Int)(t:JL)(i:Nat)(x:JL)(h:QeT c d=0)(G:b.length<=1000000)
  (O:i<(Qag c d b.length).length) (hx:Qjw x) (y:p.data.toList=Qa2 ((Qag c d b.length).set i x)++13 :: 10 :: b)
  (s:(i=0/\QeT n d=0/\x=(Qbf n).data.toList)\/(i=1/\k=5/\x=QaG t)\/(2<=i/\x=QbM++QaG t)\/(i=0/\x=(Qbf c).data.toList))
  (D:Qdm p a=0):Qfp p a <+: b/\(Qfp p a=b\/k=5)/\((Qfp p a).length:Int)<=a:=by
 have q:∀m,QeT m d=0->p.data.toList=Qg5 m d b->Qfp p a <+: b/\(Qfp p a=b\/k=5)/\((Qfp p a).length:Int)<=a:=by
  intro m M A
  by_cases C:(b.length:Int)<=a
  ·obtain⟨-,-,-,e,-⟩:=Ql2 m d b [] p a M G (by rw[A];simp) C
   rw[e];exact⟨List.prefix_refl _,.inl rfl,C⟩
  ·rw[QqZ m d b [] p a M G (by rw[A];simp) (by omega)] at D
   exact JN D (by decide)
 rcases s with⟨rfl,hr,rfl⟩|s|s|⟨rfl,rfl⟩
 ·refine q n hr ?_
  rw[y];rfl
 all_goals try (refine q c h ?_;rw[y];rfl)
 all_goals
  obtain⟨g1,g2⟩:=Qdp c d b.length h G;obtain⟨c1,c2,c3,c4⟩:=Qe1 c d h;obtain⟨z1,z2,z3,z4⟩:=QqS p a D;obtain⟨y1,y2,y3,y4,y5⟩:=Qzu _ z2;have r:Qfp p a=(p.data.toList.take ((Qaf p).2.1.toNat+hdN (Qaf p).1)).drop (Qaf p).2.1.toNat:=JK D;rcases Qzp p _ i x b g1 g2 O hx y with hd|⟨hx0,hd,hd2⟩|hd
  ·exact JN z1 hd
 ·exfalso
  obtain⟨rfl,-,-⟩:=s;rw[hd] at y4;exact JN y4 (by unfold Qag;simp[QbZ,Qde,QfI])
 ·have J:p.size=(Qa2 ((Qag c d b.length).set i x)).length+2+b.length:=by rw[<-Qab,y];simp;omega
  rw[hd] at z3 z4 r;simp only at z3 z4 r;have K:hdN ((Qag c d b.length).set i x)<=b.length:=by omega
  have v:(((Qa2 ((Qag c d b.length).set i x)).length:Int)+2).toNat=(Qa2 ((Qag c d b.length).set i x)++[13,10]).length:=by simp;omega
  have I:Qa2 ((Qag c d b.length).set i x)++13 :: 10 :: b=(Qa2 ((Qag c d b.length).set i x)++[13,10])++b:=by simp
  rw[v,y,I,List.take_length_add_append,List.drop_left] at r;rw[r];refine⟨List.take_prefix _ _,.inr s.2.1,?_⟩;rw[qW];omega
 ·exact JN hx0 (by rw[s.2];simp[QbM])
 ·have J:p.size=(Qa2 ((Qag c d b.length).set i x)).length+2+b.length:=by rw[<-Qab,y];simp;omega
  rw[hd] at z3 z4 r y3;simp only at z3 z4 r y3;obtain⟨j,rfl⟩:∃j,i=j+2:=⟨i-2,by omega⟩
  have z:((Qag c d b.length).set (j+2) x).tail=QaN Qbl (QeB b.length) :: (d.map (fun f=>QaN f.1 f.2)).set j x:=rfl
  rw[z] at y3;obtain⟨x1,x2,x3⟩:=Qct Qbl (QeB b.length) (QcW _ _ (Qj6 b.length G)).1;rw[QjO _ _ x3] at y3;have B:=QwL _ y3;obtain⟨n1,n2⟩:=Qcr b.length (by omega)
  have K:hdN ((Qag c d b.length).set (j+2) x)=b.length:=by
   unfold hdN;rw[z];have E:QbZ (QaN Qbl (QeB b.length) :: (d.map (fun f=>QaN f.1 f.2)).set j x)=(Qbl,QeB b.length) :: QbZ ((d.map (fun f=>QaN f.1 f.2)).set j x):=by
    unfold QbZ;rw[J0,x1,x2]
   have H:∀f∈QbZ ((d.map (fun f=>QaN f.1 f.2)).set j x),f.1≠Qbl:=by
    intro f E;unfold QbZ at E;obtain⟨l,hl,rfl⟩:=List.mem_map.1 E;have L:=B l hl;rcases List.mem_or_eq_of_mem_set hl with hl|rfl
    ·obtain⟨g,hgm,rfl⟩:=List.mem_map.1 hl
     simp only;rw[(Qct g.1 g.2 (QcW _ _ (c4 g hgm).2).1).1];exact (c4 g hgm).1
    ·simp only
     rw[s.2] at L ⊢;rw[Qqq _ L];decide
   rw[E];have N:QfI ((Qbl,QeB b.length) :: QbZ ((d.map (fun f=>QaN f.1 f.2)).set j x)) Qbl = [QeB b.length]:=by
    have:=Qww _ H;unfold QfI at this ⊢;rw[List.filter_cons_of_pos (by simp),J0,this]
   unfold QbB;rw[N];show QcK (QeB b.length)=b.length;rw[Qfz,n2]
  have v:(((Qa2 ((Qag c d b.length).set (j+2) x)).length:Int)+2).toNat=(Qa2 ((Qag c d b.length).set (j+2) x)++[13,10]).length:=by simp;omega
  have I:Qa2 ((Qag c d b.length).set (j+2) x)++13 :: 10 :: b=(Qa2 ((Qag c d b.length).set (j+2) x)++[13,10])++b:=by simp
  rw[K,v,y,I,List.take_length_add_append,List.drop_left,List.take_length] at r;rw[r];rw[K] at z3;exact⟨List.prefix_refl _,.inl rfl,z3⟩
theorem QuB(c:Int)(f:List (List UInt8×JL))(b:JL)(d:JA)(a:Int)(k:Nat)(h:QeT c f=0)(l:b.length<=1000000)(m:d.data.toList=(Qg5 c f b).take k)
  (j:Qdm d a=0):Qfp d a=b/\((Qfp d a).length:Int)<=a:=by
 by_cases n:k<(Qg5 c f b).length
 ·exfalso
  have:=QBA c f b d k h l n m;obtain⟨z1,z2,z3,z4⟩:=QqS d a j;unfold Qdm at this;rw[JJ (fun e=>e z1),JJ (fun e=>e z2)] at this
  split at this
  ·exact JN this (by decide)
  ·rw[JJ (by omega)] at this
   exact JN this (by decide)
 ·have g:d.data.toList=Qg5 c f b++[]:=by rw[m,qX (by omega)];simp
  by_cases i:(b.length:Int)<=a
  ·obtain⟨-,-,-,e,-⟩:=Ql2 c f b [] d a h l g i
   rw[e];exact⟨rfl,i⟩
  ·rw[QqZ c f b [] d a h l g (by omega)] at j
   exact JN j (by decide)
theorem QxB(k n:Int)(t s:JA)(w:World)(b:6<=k):Calls prog 215 #[.agg #[Jb k,Ji n,Jt t],Jt s] w (JB (Jt s) w):=by
 have a:=Z (Qa0 w (Jb k) (Ji n) (Jt t) 137);go_enter func215,ntmps215;go_wp2;go_ret;exact⟨rfl,a.o⟩
theorem Qkh(k n:Int)(t:JL)(s:JA)(d:k≠1)(b:k≠2)(g:k≠3)(c:k≠4)(f:k≠5):Qca k n t s=s.data.toList:=by
 unfold Qca;rw[JJ d,JJ b]
 by_cases a:(Qaf s).2.2≠0\/(Qaf s).1 = []
 ·rw[JK a]
 ·rw[JJ a,JJ g,JJ f,JJ c]
theorem Qei(k n:Int)(t:JL)(s:JA)(a:k≠1)(b:k≠2)(h:(Qaf s).2.2≠0\/(Qaf s).1.length=0):Qca k n t s=s.data.toList:=by
 unfold Qca;rw[JJ a,JJ b,JK];rcases h with h|h
 ·exact .inl h
 ·exact .inr (List.length_eq_zero_iff.1 h)
theorem Qqj(k n:Int)(t s:JA)(w:World)(d:EnvW w)(p:0<=k)(j : -9223372036854775808<=n)(i:n<=9223372036854775807)(l:t.size<=10000)(f:s.size<=1000000) :
  Calls prog 215 #[.agg #[Jb k,Ji n,Jt t],Jt s] w (JB (Jt (bs (Qca k n t.data.toList s))) w):=by
 have same:Qca k n t.data.toList s=s.data.toList->(∀(R:Ending->World->Prop),(R=(JB (Jt s) w))->Calls prog 215 #[.agg #[Jb k,Ji n,Jt t],Jt s] w R)->Calls prog 215 #[.agg #[Jb k,Ji n,Jt t],Jt s] w (JB (Jt (bs (Qca k n t.data.toList s))) w):=by
  intro e h;rw[e,Qb1];exact h _ rfl
 rcases Int.lt_or_le k 6 with hk|hk
 case inr=>exact same (Qkh k n _ s (by omega) (by omega) (by omega) (by omega) (by omega)) (fun R hR=>by rw[hR];exact QxB k n t s w hk)
 have q:k=0\/k=1\/k=2\/k=3\/k=4\/k=5:=by omega
 have m:(Qaf s).2.2≠0\/((Qaf s).2.2=0/\(Qaf s).1.length=0)\/((Qaf s).2.2=0/\(Qaf s).1.length≠0):=by omega
 have g:(Qaf s).2.2=0/\(Qaf s).1.length≠0->¬((Qaf s).2.2≠0\/(Qaf s).1 = []):=by
  rintro⟨a,b⟩ (c|c)
  ·exact c a
  ·exact b (by rw[c];rfl)
 rcases q with rfl|rfl|rfl|rfl|rfl|rfl
 ·exact same (Qkh 0 n _ s (by omega) (by omega) (by omega) (by omega) (by omega)) (fun R hR=>by rw[hR];exact Qt4 n t s w d j i l f)
 ·exact Qt3 n t s w d j i l f
 ·exact QxA n t s w d j i l f
 ·rcases m with hb|hb|hb
  ·exact same (Qei 3 n _ s (by omega) (by omega) (.inl hb)) (fun R hR=>by rw[hR];exact QkI n t s w d f hb)
  ·exact same (Qei 3 n _ s (by omega) (by omega) (.inr hb.2)) (fun R hR=>by rw[hR];exact Qki n t s w d f hb)
  ·have e:Qca 3 n t.data.toList s=Qqt n s:=by
    unfold Qca Qqt;rw[JJ (by omega),JJ (by omega),JJ (g hb),JK rfl]
   rw[e];exact Qt5 n t s w d j i l f hb
 ·rcases m with hb|hb|hb
  ·exact same (Qei 4 n _ s (by omega) (by omega) (.inl hb)) (fun R hR=>by rw[hR];exact Qkg n t s w d f hb)
  ·exact same (Qei 4 n _ s (by omega) (by omega) (.inr hb.2)) (fun R hR=>by rw[hR];exact Qii n t s w d f hb)
  ·have e:Qca 4 n t.data.toList s=QhQ t.data.toList s (Qaf s).1:=by
    unfold Qca QhQ;rw[JJ (by omega),JJ (by omega),JJ (g hb),JJ (by omega),JJ (by omega),JK rfl]
    all_goals cases Qdy Qb0 (Qaf s).1 0<;>rfl
   rw[e];exact QqE n t s w d j i l f hb
 ·rcases m with hb|hb|hb
  ·exact same (Qei 5 n _ s (by omega) (by omega) (.inl hb)) (fun R hR=>by rw[hR];exact Qij n t s w d f hb)
  ·exact same (Qei 5 n _ s (by omega) (by omega) (.inr hb.2)) (fun R hR=>by rw[hR];exact QhG n t s w d f hb)
  ·have e:Qca 5 n t.data.toList s=Qfe t.data.toList s (Qaf s).1:=by
    unfold Qca Qfe;rw[JJ (by omega),JJ (by omega),JJ (g hb),JJ (by omega),JK rfl]
   rw[e];exact QoK n t s w d j i l f hb
def QDI(k n:Int)(t:JL)(s:JA):Bool:=decide (Qca k n t s≠s.data.toList)
theorem Qio(a b t:Int)(h:Qck a b t=0):QdK a b=0/\b<t/\t<=9007199254740991:=by
 unfold Qck at h;split at h
 ·exact JN h (by assumption)
 ·split at h
  ·exact JN h (by decide)
  ·exact⟨by omega,by omega,by omega⟩
theorem Qin(a b t:Int)(h:Qck a b t=0):Qcm a b t=Qc5++(Go.Lib.decDigits a.toNat++45 :: (Go.Lib.decDigits b.toNat++47 :: Go.Lib.decDigits t.toNat)):=by
 obtain⟨h1,h2,h3⟩:=Qio a b t h;obtain⟨g1,g2,g3⟩:=QcP a b h1;unfold Qcm QfX QeB;rw[JK h,JJ (by omega),JJ (by omega),JJ (by omega)]
 simp
theorem Qqo(n:Nat)(h:n<=9223372036854775807):(Go.Lib.decDigits n).length<=20:=by
 have:=QeA (n:Int) (by omega)
 rw[Qfz] at this;exact this
theorem Qm8(a b t:Int):(Qcm a b t).length<=80:=by
 by_cases h:Qck a b t=0
 ·obtain⟨h1,h2,h3⟩:=Qio a b t h
  obtain⟨g1,g2,g3⟩:=QcP a b h1;rw[Qin a b t h];have g:=Qqo a.toNat (by omega)
  have d:=Qqo b.toNat (by omega)
  have c:=Qqo t.toNat (by omega)
  have f:Qc5.length=6:=rfl;simp only[qG,qH];omega
 ·unfold Qcm;rw[JJ h];exact qL _
theorem Qj0(n:Nat):∀c∈Go.Lib.decDigits n,QaE c.toNat=true:=by
 intro c a;have:=QmP _ (List.all_eq_true.1 (Qdk n) c a);unfold QaE;simp;omega
def Qah:JL:=[99,111,110,116,101,110,116,45,114,97,110,103,101]
theorem Qx2(a b t:Int)(h:Qck a b t=0):QbL Qah (Qcm a b t)=true:=by
 unfold QbL;rw[show Qep Qah=true by decide,Bool.true_and,JD,Qin a b t h]
 refine⟨?_,?_⟩
 ·refine List.all_eq_true.2 fun c hc=>?_
  rcases List.mem_append.1 hc with hc|hc
  ·exact List.all_eq_true.1 (show (Qc5.all fun c=>QaE c.toNat)=true by decide) c hc
  rcases List.mem_append.1 hc with hc|hc
  ·exact Qj0 _ c hc
  rcases List.mem_cons.1 hc with rfl|hc
  ·decide
  rcases List.mem_append.1 hc with hc|hc
  ·exact Qj0 _ c hc
  rcases List.mem_cons.1 hc with rfl|hc
  ·decide
  ·exact Qj0 _ c hc
 ·unfold Qhn
  have f:QcV (Qc5++(Go.Lib.decDigits a.toNat++45 :: (Go.Lib.decDigits b.toNat++47 :: Go.Lib.decDigits t.toNat)))=false:=by
   unfold Qc5;rfl
  have d:Qc5++(Go.Lib.decDigits a.toNat++45 :: (Go.Lib.decDigits b.toNat++47 :: Go.Lib.decDigits t.toNat))=(Qc5++(Go.Lib.decDigits a.toNat++45 :: (Go.Lib.decDigits b.toNat++[47])))++Go.Lib.decDigits t.toNat:=by simp
  rw[f,d,QmO];rfl
theorem Qsj(a b t:Int)(h:Qck a b t=0):QaU Qah (Qcm a b t)=0:=by
 unfold QaU;rw[JK (Qx2 a b t h),JJ];have:=Qm8 a b t;have e:(Qgf true Qah).length=13:=by decide
 unfold QaN QiW;split<;>simp only[qG,qH,List.length_nil,e]<;>omega
theorem Quw(a b t:Int)(h:Qck a b t=0):Qcn (Qcm a b t)=0/\Qdb (Qcm a b t)=a/\Qda (Qcm a b t)=b/\QdJ (Qcm a b t)=t:=by
 obtain⟨h1,h2,h3⟩:=Qio a b t h;obtain⟨g1,g2,g3⟩:=QcP a b h1;have g:(Qcm a b t).drop 6=Go.Lib.decDigits a.toNat++45 :: (Go.Lib.decDigits b.toNat++47 :: Go.Lib.decDigits t.toNat):=by rw[Qin a b t h];rfl
 have c:∀d∈Go.Lib.decDigits a.toNat,d≠45:=fun d g=>(Qor _ d g).2.1
 have f:∀d∈Go.Lib.decDigits b.toNat,d≠47:=fun d g=>(Qor _ d g).2.2
 have j:QiT (Qcm a b t)=true:=by
  unfold QiT;rw[g,Qp8 _ _ _ c,Qc7 _ _ _ c,Qp8 _ _ _ f,Qin a b t h,Bool.and_true,Bool.and_true];exact List.isPrefixOf_iff_prefix.2 (List.prefix_append _ _)
 have m:Qo6 (Qcm a b t)=a.toNat:=by unfold Qo6;rw[g,QeU _ _ _ c,(Qcr _ (by omega)).2]
 have k:Qo4 (Qcm a b t)=b.toNat:=by unfold Qo4;rw[g,Qc7 _ _ _ c,QeU _ _ _ f,(Qcr _ (by omega)).2]
 have l:Qo5 (Qcm a b t)=t.toNat:=by unfold Qo5;rw[g,Qc7 _ _ _ c,Qc7 _ _ _ f,(Qcr _ (by omega)).2]
 have i:Qcn (Qcm a b t)=0:=by
  unfold Qcn;rw[JJ (by rw[j];decide),m,k,l,g,QeU _ _ _ c,Qc7 _ _ _ c,QeU _ _ _ f,Qc7 _ _ _ f]
  unfold Qd1;rw[(Qcr _ (by omega)).1,(Qcr _ (by omega)).1,(Qcr _ (by omega)).1,JJ (by decide),Int.toNat_of_nonneg g1,Int.toNat_of_nonneg (by omega),Int.toNat_of_nonneg (by omega)]
  exact h
 refine⟨i,?_,?_,?_⟩
 ·unfold Qdb;rw[JK i,m];exact Int.toNat_of_nonneg g1
 ·unfold Qda;rw[JK i,k];exact Int.toNat_of_nonneg (by omega)
 ·unfold QdJ;rw[JK i,l];exact Int.toNat_of_nonneg (by omega)
theorem Qxc(a b t:Int)(h:QdZ a b t=0):QdK a b=0/\a<t/\QgS a b t=a/\QgR a b t=(if b<t-1 then b else t-1):=by
 have c:=h;unfold QdZ at c;split at c
 ·exact JN c (by assumption)
 ·split at c
  ·exact JN c (by decide)
  ·refine⟨by omega,by omega,?_,?_⟩
   ·unfold QgS;rw[JK h]
   ·unfold QgR;rw[JK h]
theorem Qxb(a b t:Int)(h:QdZ a b t=0)(d:t<=9007199254740991):Qck (QgS a b t) (QgR a b t) t=0:=by
 obtain⟨h1,h2,h3,h4⟩:=Qxc a b t h;obtain⟨g1,g2,g3⟩:=QcP a b h1;rw[h3,h4];have c:QdK a (if b<t-1 then b else t-1)=0:=by
  unfold QdK;rw[JJ];split<;>omega
 unfold Qck;rw[JJ (by rw[c];decide),JJ (by split<;>omega)]
theorem QBU(w:World):w.ownsRow 0 403 2 (.slice none 0 0) 0 (QaB []):=JZ _ _ _ _
def QhS(h p:JL):Nat:=if QfF p=false\/Qfb h=false then 2 else 0
theorem Qjr(h p:JL):Qg7 p h 0 0=QhS h p:=by
 unfold Qg7 QhS;split
 ·rfl
 ·decide
def Qhj(h p f:JL)(s:JA):Int:=
 if Qih s≠0\/QoS s<(s.size:Int) then 400
 else if QcZ s≠p\/Qc0 s≠h then 404
 else if QdZ (QoU s) (QoT s) (f.length:Int)≠0 then 416 else 206
def Qmi(f:JL)(s:JA):Int:=QgS (QoU s) (QoT s) (f.length:Int)
def Qkw(f:JL)(s:JA):Int:=QgR (QoU s) (QoT s) (f.length:Int)
def QpC(h p f:JL)(s:JA):List (List UInt8×JL):=if Qhj h p f s=206 then [(Qah,Qcm (Qmi f s) (Qkw f s) (f.length:Int))] else []
def Qpz(h p f:JL)(s:JA):JL:=if Qhj h p f s=206 then (f.take (Qkw f s+1).toNat).drop (Qmi f s).toNat else []
def QpB(h p f:JL)(s:JA):JL:=if QhS h p=0 then QoQ (Qhj h p f s) (QpC h p f s) (Qpz h p f s) else []
theorem QnF(h p f:JL)(s:JA):Qhj h p f s=400\/Qhj h p f s=404\/Qhj h p f s=416\/Qhj h p f s=206:=by
 unfold Qhj;split
 ·exact .inl rfl
 ·split
  ·exact .inr (.inl rfl)
  ·split
   ·exact .inr (.inr (.inl rfl))
   ·exact .inr (.inr (.inr rfl))
theorem Qq8(h p f:JL)(s:JA)(a:Qhj h p f s=206):Qih s=0/\(s.size:Int)<=QoS s/\QcZ s=p/\Qc0 s=h/\QdZ (QoU s) (QoT s) (f.length:Int)=0:=by
 unfold Qhj at a;split at a
 ·exact JN a (by decide)
 ·split at a
  ·exact JN a (by decide)
  ·split at a
   ·exact JN a (by decide)
   ·rename_i c b d
    rw[not_or] at c b;exact⟨Decidable.not_not.1 c.1,by omega,Decidable.not_not.1 b.1,Decidable.not_not.1 b.2,Decidable.not_not.1 d⟩
theorem Qk2(h p f:JL)(s:JA)(a:Qhj h p f s≠206):QpC h p f s = []/\Qpz h p f s = []:=by
 unfold QpC Qpz;rw[JJ a,JJ a];exact⟨rfl,rfl⟩
theorem Qiv(h p f:JL)(s:JA):(Qpz h p f s).length<=f.length:=by
 unfold Qpz;split
 ·rw[JC]
  have:=List.length_take_le (Qkw f s+1).toNat f;have:=List.length_take_le' (Qkw f s+1).toNat f;omega
 ·exact qL _
theorem QzS(c:Int)(h:c=400\/c=404\/c=416\/c=206):Qbs c=0:=by
 rcases h with rfl|rfl|rfl|rfl<;>decide
theorem Qiu(h p f:JL)(s:JA)(d:f.length<=1000000):QeT (Qhj h p f s) (QpC h p f s)=0:=by
 unfold QeT;rw[JJ (by rw[QzS _ (QnF h p f s)];decide)]
 by_cases b:Qhj h p f s=206
 ·obtain⟨-,-,-,-,h5⟩:=Qq8 h p f s b
  have c:=Qxb _ _ _ h5 (by omega)
  have a:=Qsj _ _ _ c;unfold QpC;rw[JK b,JJ (by simp)]
  show (if Qah=Qbl then 22 else if QaU Qah (Qcm (Qmi f s) (Qkw f s) (f.length:Int))≠0 then QaU Qah (Qcm (Qmi f s) (Qkw f s) (f.length:Int)) else Qpx [])=0
  unfold Qmi Qkw;rw[JJ (by decide),a]
  rfl
 ·rw[(Qk2 h p f s b).1,JJ (by simp)]
  rfl
theorem QpA(h p f:JL)(s:JA)(b:f.length<=1000000)(a:QhS h p=0):QpB h p f s=Qg5 (Qhj h p f s) (QpC h p f s) (Qpz h p f s):=by
 unfold QpB QoQ;rw[JK a,JK (Qiu h p f s b)]
theorem Qx7(s:JA)(a:Int):(Qcb s a).length<=17:=by
 unfold Qcb;split
 ·refine qD (Qu4 _) ?_
  unfold QbZ;rw[qQ,List.length_tail];have:=(QcB s).2;omega
 ·exact qL _
theorem QAi(a:JM)(h:∀x∈a,x.length<=256):(Qa2 a).length<=a.length*258:=by
 induction a with
 |nil=>exact qC _
 |cons x t ih=>
  have b:=h x (JF ..);have c:=ih (fun y hy=>h y (JY _ hy))
  show (x++13 :: 10 :: Qa2 t).length<=(t.length+1)*258;rw[qG,qH,qH];omega
theorem Qyl(c:Int)(a:List (List UInt8×JL))(b:JL)(h:QeT c a=0)(d:b.length<=1000000):(Qg5 c a b).length<=4400+b.length/\2<=(Qg5 c a b).length:=by
 obtain⟨g1,g2⟩:=Qdp c a b.length h d;have:=QAi (Qag c a b.length) (fun x hx=>(g1 x hx).2.2)
 unfold Qg5;rw[qG,qH,qH];omega
theorem Ql9(s:JA)(k:Nat)(x:JL):(QoR s k x).length<=s.size+x.length:=by
 unfold QoR;rw[qG,qG,qW,JC,Qab];omega
theorem Qt6(k n:Int)(t:JL)(s:JA):(Qca k n t s).length<=s.size+t.length+200:=by
 have p:=Qlr t;have l:(Qbf n).data.toList.length<=100:=by rw[Qab];exact QhO n
 have m:s.data.toList.length=s.size:=Qab s;unfold Qca
 by_cases b:k=1
 ·rw[JK b];simp
 rw[JJ b]
 by_cases c:k=2
 ·rw[JK c,qW];omega
 rw[JJ c]
 by_cases g:(Qaf s).2.2≠0\/(Qaf s).1 = []
 ·rw[JK g];omega
 rw[JJ g]
 by_cases d:k=3
 ·rw[JK d]
  by_cases a:Qbs n≠0
  ·rw[JK a];omega
  ·rw[JJ a];have:=Ql9 s 0 (Qbf n).data.toList;omega
 rw[JJ d]
 by_cases j:k=5
 ·rw[JK j]
  by_cases f:(Qaf s).1.length<2
  ·rw[JK f];omega
  ·rw[JJ f];have:=Ql9 s 1 (QaG t);omega
 rw[JJ j]
 by_cases h:k=4
 ·rw[JK h]
  cases Qdy Qb0 (Qaf s).1 0 with
  |none=>simp only;omega
  |some i=>
   have:=Ql9 s i (QbM++QaG t);rw[qG,show QbM.length=15 from rfl] at this;simp only;omega
 rw[JJ h];omega
theorem QyG(h p f:JL)(s:JA)(b:f.length<=1000000):(QpB h p f s).length<=4400+f.length:=by
 by_cases a:QhS h p=0
 ·rw[QpA h p f s b a]
  have c:=Qiv h p f s;have d:=(Qyl _ _ (Qpz h p f s) (Qiu h p f s b) (by omega)).1
  omega
 ·unfold QpB;rw[JJ a];exact qL _
abbrev Flt:=Int×Int×JA
abbrev Evt:=Int×Int×Bool
def noF:Flt:=(0,0,⟨#[]⟩)
def Qc4(h p f s:JA):JA:=bs (QpB h.data.toList p.data.toList f.data.toList s)
def QkD(h p f:JA)(x:Flt)(s:JA):JA:=bs (Qca x.1 x.2.1 x.2.2.data.toList (Qc4 h p f s))
def QgF(h p f:JA)(x:Flt)(s:JA):Bool:=QDI x.1 x.2.1 x.2.2.data.toList (Qc4 h p f s)
def evK(h p f:JA)(x:Flt)(s:JA):Evt:=((s.size:Int),((QkD h p f x s).size:Int),QgF h p f x s)
def QAK(b:Bool):Nat:=if b=true then 1 else 0
theorem Qp3(h p f:JA)(x:Flt)(s:JA):QgF h p f x s = !((QkD h p f x s).toList==(Qc4 h p f s).toList):=by
 unfold QgF QkD QDI;rw[J7,J7,Qai]
 by_cases e:Qca x.1 x.2.1 x.2.2.data.toList (Qc4 h p f s)=(Qc4 h p f s).data.toList
 ·rw[e];simp
 ·rw[qA e,beq_eq_false_iff_ne.2 e];rfl
theorem QkL(h p f s:JA)(a:f.size<=1000000):(Qc4 h p f s).size<=4400+f.size:=by
 unfold Qc4;rw[Qaq];have:=QyG h.data.toList p.data.toList f.data.toList s (by rw[Qab];exact a)
 rw[Qab] at this;exact this
theorem Qzx(h p f:JA)(x:Flt)(s:JA)(b:f.size<=1000000):(QkD h p f x s).size<=4600+f.size+x.2.2.size:=by
 unfold QkD;rw[Qaq];have a:=Qt6 x.1 x.2.1 x.2.2.data.toList (Qc4 h p f s);have c:=QkL h p f s b;rw[Qab] at a;omega
theorem Qzy(h p f s:JA):QkD h p f noF s=Qc4 h p f s:=by
 unfold QkD noF;rw[Qkh 0 0 _ _ (by decide) (by decide) (by decide) (by decide) (by decide),Qb1]
theorem Qn5(h p f s:JA):QgF h p f noF s=false:=by
 rw[Qp3,Qzy];simp
def Qsz(l:List Flt)(asks:List JA):List Flt:=l.drop asks.length
def Qrj(h p f:JA):List Flt->List JA->List Evt
 |_,[]=>[]
 |l,s :: t=>evK h p f (l.headD noF) s :: Qrj h p f l.tail t
def Qch(l:List Evt):Nat:=l.countP (fun e=>e.2.2)
theorem Qwc(h p f:JA):∀(b:List JA) (l:List Flt) (s:JA),Qrj h p f l (b++[s])=Qrj h p f l b++[evK h p f ((Qsz l b).headD noF) s]:=by
 intro b
 induction b with
 |nil=>intro l s;rfl
 |cons a t ih=>
  intro l s;have c:Qsz l (a :: t)=Qsz l.tail t:=by
   unfold Qsz;rw[qH,List.drop_tail]
  show evK h p f (l.headD noF) a :: Qrj h p f l.tail (t++[s])=evK h p f (l.headD noF) a :: Qrj h p f l.tail t++[_];rw[ih,c];rfl
theorem Qp9(l:List Evt)(e:Evt):Qch (l++[e])=Qch l+QAK e.2.2:=by
 unfold Qch QAK;rw[List.countP_append]
 congr 1
 cases h:e.2.2<;>simp[h]
def Qid(l:List Flt):JV:=l.flatMap fun x=>[Jb x.1,Ji x.2.1,Jt x.2.2]
def evs(l:List Evt):JV:=l.flatMap fun e=>[Ji e.1,Ji e.2.1,.bool e.2.2]
theorem QdD(l:List Flt):(Qid l).length=l.length*3:=by
 induction l with
 |nil=>rfl
 |cons x t ih=>
  unfold Qid at ih ⊢;rw[List.flatMap_cons,qG,ih,qH];simp only[qH,List.length_nil];omega
theorem Qqc(a b:List Flt):Qid (a++b)=Qid a++Qid b:=by simp[Qid]
theorem QtD(a b:List Evt):evs (a++b)=evs a++evs b:=by simp[evs]
theorem QrE(l:List Flt):∀(j:Nat) (d:j<l.length),(Qid l)[3*j]?=some (Jb l[j].1)/\(Qid l)[3*j+1]?=some (Ji l[j].2.1)/\(Qid l)[3*j+2]?=some (Jt l[j].2.2):=by
 induction l with
 |nil=>intro j d;simp at d
 |cons x t ih=>
  intro j d;cases j with
  |zero=>exact⟨rfl,rfl,rfl⟩
  |succ j=>
   obtain⟨a,b,c⟩:=ih j (by simpa using d)
   refine⟨?_,?_,?_⟩
   ·rw[show 3*(j+1)=3*j+3 by omega];exact a
   ·rw[show 3*(j+1)+1=3*j+1+3 by omega];exact b
   ·rw[show 3*(j+1)+2=3*j+2+3 by omega];exact c
def QC0(w:World)(a b:Value)(t t2:JT):World:=(w.alloc (.cells #[a,b] t)).alloc (.cells #[Ji 0,Ji 0] t2)
theorem QxX(w:World)(a b:Value)(t c:JT):Jw w (QC0 w a b t c)/\(QC0 w a b t c).heap[w.heap.size]?=some (.cells #[a,b] t (0,0))/\(QC0 w a b t c).heap[w.heap.size+1]?=some (.cells #[Ji 0,Ji 0] c (0,0))/\(QC0 w a b t c).heap.size=w.heap.size+1+1:=by
 refine⟨Qaa (QbD w a b t) (QbD _ _ _ _),?_,?_,by unfold QC0;simp⟩
 ·exact ((QbD (w.alloc (.cells #[a,b] t)) (Ji 0) (Ji 0) c).block w.heap.size (by simp)).trans (JI w _)
 ·have:=JI (w.alloc (.cells #[a,b] t)) (.cells #[Ji 0,Ji 0] c)
  simpa[QC0] using this
theorem Qpq(a b t:Int)(w:World)(E : -9223372036854775807<=t)(G:t<=9223372036854775807) :
  Calls prog 277 #[.agg #[Ji a,Ji b],Ji t] w (JB (.tuple #[.agg #[Ji (QgS a b t),Ji (QgR a b t)],Ji (QdZ a b t:Nat)]) w):=by
 have v:=Z (fun w=>Qb4 a b w)
 obtain⟨hB0,hr0,hk0,hs0⟩:=QxX w (Ji a) (Ji b) 140 140;unfold QC0 at hB0 hr0 hk0 hs0;have g:=Z hB0;have j:=Z hr0;have i:=Z hk0;have f:=Z hs0;obtain⟨r0,r1,-,-⟩:=Qcx hr0;clear hB0 hr0 hk0 hs0
 by_cases n:QdK a b=0
 case neg=>
  have A:=(Qji a b n).1;have HA:Hi (QdZ a b t=8/\QgS a b t=0/\QgR a b t=0):=Z (by
   have:QdZ a b t=8:=by unfold QdZ;rw[JK n,A]
   unfold QgS QgR;rw[this];exact⟨rfl,rfl,rfl⟩)
  rw[A] at v;clear n A;go_enter func277,ntmps277;go_wp2_with fail;refine (v.o _).mono ?_;rintro e p ⟨rfl,c⟩;generalize ((w.alloc (.cells #[Ji a,Ji b] 140)).alloc (.cells #[Ji 0,Ji 0] 140))=W0 at g j i f c r0 r1 ⊢;have d:Jh p (w.heap.size+1) #[Ji 0,Ji 0] 140:=(c.block _ (by have:=f.o;omega)).trans i.o
  obtain⟨k0,k1,f0,f1⟩:=Qcx d;have k:=Z d;have l:=Z (Qaa g.o c);clear d c;go_wp2_with fail;refine QbU (b:=w.heap.size+1) (x:=Ji 0) (y:=Ji 0) rfl (QbA _ _ _ _ _ (Qbv k.o _ _)) rfl rfl rfl ?_;refine⟨?_,QaY l.o _ (by omega) _ _⟩
  rw[HA.o.1,HA.o.2.1,HA.o.2.2];rfl
 have s:=QcP a b n;rw[n] at v
 by_cases r:t<=a
 ·have HA:Hi (QdZ a b t=8/\QgS a b t=0/\QgR a b t=0):=Z (by
   have:QdZ a b t=8:=by unfold QdZ;rw[JJ (fun h=>h n),JK r]
   unfold QgS QgR;rw[this];exact⟨rfl,rfl,rfl⟩)
  have D:decide (a>=t)=true:=qA r;clear n r s;go_enter func277,ntmps277;go_wp2_with fail;refine (v.o _).mono ?_;rintro e p ⟨rfl,c⟩;generalize ((w.alloc (.cells #[Ji a,Ji b] 140)).alloc (.cells #[Ji 0,Ji 0] 140))=W0 at g j i f c r0 r1 ⊢;have d:Jh p (w.heap.size+1) #[Ji 0,Ji 0] 140:=(c.block _ (by have:=f.o;omega)).trans i.o
  have m:Jh p w.heap.size #[Ji a,Ji b] 140:=(c.block _ (by have:=f.o;omega)).trans j.o
  clear r0 r1;obtain⟨k0,k1,f0,f1⟩:=Qcx d;obtain⟨r0,r1,-,-⟩:=Qcx m;have k:=Z d;have l:=Z (Qaa g.o c);clear d c m;go_wp2_with fail;refine QbU (b:=w.heap.size+1) (x:=Ji 0) (y:=Ji 0) rfl (QbA _ _ _ _ _ (Qbv k.o _ _)) rfl rfl rfl ?_;refine⟨?_,QaY l.o _ (by omega) _ _⟩
  rw[HA.o.1,HA.o.2.1,HA.o.2.2];rfl
 have D:decide (a>=t)=false:=qB r;obtain⟨B,hB⟩:∃B,(if b<t-1 then b else t-1)=B:=⟨_,rfl⟩
 have HA:Hi (QdZ a b t=0/\QgS a b t=a/\QgR a b t=B):=Z (by
  have:QdZ a b t=0:=by unfold QdZ;rw[JJ (fun h=>h n),JJ r]
  unfold QgS QgR;rw[JK this,JK this,hB];exact⟨this,rfl,rfl⟩)
 have q:min b (t-1)=B:=by rw[<-hB];split<;>omega
 have C:=Z q;have H:IntKind.i64.wrap (t-1)=t-1:=by rw[JR];omega
 clear n r s hB q;go_enter func277,ntmps277;go_wp2_with fail;refine (v.o _).mono ?_;rintro e p ⟨rfl,c⟩;generalize ((w.alloc (.cells #[Ji a,Ji b] 140)).alloc (.cells #[Ji 0,Ji 0] 140))=W0 at g j i f c r0 r1 ⊢;have d:Jh p (w.heap.size+1) #[Ji 0,Ji 0] 140:=(c.block _ (by have:=f.o;omega)).trans i.o
 have m:Jh p w.heap.size #[Ji a,Ji b] 140:=(c.block _ (by have:=f.o;omega)).trans j.o
 clear r0 r1;obtain⟨k0,k1,f0,f1⟩:=Qcx d;obtain⟨r0,r1,g0,g1⟩:=Qcx m;have k:=Z d;have l:=Z (Qaa g.o c);clear d c m;go_wp2_with fail;have z:∀V,(p.setCell (Ja w.heap.size 1) V).heap[w.heap.size+1]?=some (.cells #[Ji 0,Ji 0] 140 (0,0)):=fun V=>(JO _ _ _ _ (by simp)).trans k.o
 refine QbU (b:=w.heap.size+1) (x:=Ji a) rfl (QbA _ _ _ _ _ (Qbv (z _) _ _)) rfl rfl rfl ?_;refine⟨?_,QaY (l.o.setCell (qC _) _) _ (by omega) _ _⟩
 rw[HA.o.1,HA.o.2.1,HA.o.2.2,<-C.o];rfl
theorem QEj(w:World)(x y z:Value)(t:JT):(w.alloc (.cells #[x,y,z] t)).cell? (Ja w.heap.size 0)=some x/\(w.alloc (.cells #[x,y,z] t)).cell? (Ja w.heap.size 1)=some y/\(w.alloc (.cells #[x,y,z] t)).cell? (Ja w.heap.size 2)=some z:=
 let ⟨h0,h1,h2,_⟩:=Qas (JI w (.cells #[x,y,z] t));⟨h0,h1,h2⟩
theorem QkP(a b t:Int)(w:World) :
  Calls prog 267 #[.agg #[Ji a,Ji b,Ji t]] w (JB (Ji (Qck a b t:Nat)) w):=by
 have k:=Z (fun w=>Qb4 a b w)
 obtain⟨x0,x1,x2⟩:=QEj w (Ji a) (Ji b) (Ji t) 409;have j:=Qa0 w (Ji a) (Ji b) (Ji t) 409;have f:=Z j;have q:w.heap.size<(w.alloc (.cells #[Ji a,Ji b,Ji t] 409)).heap.size:=by simp
 have l:=Z q;clear j q
 by_cases d:QdK a b=0
 case neg=>
  have m:=(Qji a b d).1;have HA:Hi (Qck a b t=8):=Z (by unfold Qck;rw[JK d,m])
  rw[m] at k;clear d m;go_enter func267,ntmps267;go_wp2_with fail;refine (k.o _).mono ?_;rintro e n ⟨rfl,c⟩;go_wp2;go_ret;exact⟨by rw[HA.o];rfl,Qaa f.o c⟩
 rw[d] at k
 by_cases i:t<=b
 ·have HA:Hi (Qck a b t=8):=Z (by unfold Qck;rw[JJ (fun h=>h d),JK (.inl i)])
  have s:decide (t<=b)=true:=qA i;clear d i;go_enter func267,ntmps267;go_wp2_with fail;refine (k.o _).mono ?_;rintro e n ⟨rfl,c⟩;have v:=(c.cell (p:=(Ja w.heap.size 1)) l.o).trans x1;have x:=(c.cell (p:=(Ja w.heap.size 2)) l.o).trans x2;have g:=Z (Qaa f.o c);clear c x0 x1 x2;go_wp2;go_ret;exact⟨by rw[HA.o];rfl,g.o⟩
 have s:decide (t<=b)=false:=qB i;obtain⟨r,hr⟩:∃r,decide (t>9007199254740991)=r:=⟨_,rfl⟩;have HA:Hi (Qck a b t=if r=true then 8 else 0):=Z (by
  unfold Qck;rw[JJ (fun h=>h d)]
  cases r with
  |true=>rw[JK (.inr (of_decide_eq_true hr)),JK rfl]
  |false=>rw[JJ (fun h=>h.elim i (of_decide_eq_false hr)),JJ (by decide)])
 clear d i;cases r
 all_goals
  go_enter func267,ntmps267;go_wp2_with fail;refine (k.o _).mono ?_;rintro e n ⟨rfl,c⟩;have v:=(c.cell (p:=(Ja w.heap.size 1)) l.o).trans x1;have x:=(c.cell (p:=(Ja w.heap.size 2)) l.o).trans x2;have g:=Z (Qaa f.o c);clear c x0 x1 x2;go_wp2;go_ret;exact⟨by rw[HA.o];rfl,g.o⟩
theorem Qur(a b t:Int)(h:Qck a b t=0)(X Y:JA)(c:bs (QfX a b)=X)(d:bs (QeB t)=Y):((⟨#[98,121,116,101,115,32]⟩++X)++⟨#[47]⟩)++Y=bs (Qcm a b t):=by
 unfold Qcm;rw[JK h,<-c,<-d,show (⟨#[98,121,116,101,115,32]⟩:JA)=bs Qc5 from rfl,show (⟨#[47]⟩:JA)=bs [47] from rfl,Qeh,Qeh,Qeh];simp
theorem Qpo(a b t:Int)(w:World)(g:EnvF w) :
  Calls prog 438 #[.agg #[Ji a,Ji b],Ji t] w (JB (.tuple #[Jt (bs (Qcm a b t)),Ji (Qck a b t:Nat)]) w):=by
 have s:=Z (fun w=>QkP a b t w)
 obtain⟨r0,r1⟩:=QAV w (Ji a) (Ji b) 140;have l:=Z (QbD w (Ji a) (Ji b) 140)
 by_cases h:Qck a b t=0
 case neg=>
  have HA:Hi (Qcm a b t = []):=Z (by unfold Qcm;rw[JJ h])
  have C:((Qck a b t:Int) != 0)=true:=by rw[bne_iff_ne];omega
  generalize Qck a b t=E at s C ⊢;clear h;go_enter func438,ntmps438;go_wp2_with fail;refine (s.o _).mono ?_;rintro e i ⟨rfl,c⟩;have d:=Z (Qaa l.o (Qaa (Qa0 _ _ _ _ _) c));clear c;go_wp2;go_ret2;exact⟨by rw[HA.o];rfl,d.o⟩
 obtain⟨g1,g2,g3⟩:=Qio a b t h;obtain⟨q1,q2,q3⟩:=QcP a b g1;have B:=Z (fun w g=>Qjh a b w g (by omega) (by omega) (by omega) (by omega))
 have z:=Z (fun w g=>Qdi t (by omega) (by omega) w g)
 have j:=QiS a b (by omega) (by omega)
 have q:=QeA t (by omega)
 obtain⟨X,hX⟩:∃X,bs (QfX a b)=X:=⟨_,rfl⟩;obtain⟨Y,hY⟩:∃Y,bs (QeB t)=Y:=⟨_,rfl⟩;have D:=Z (Qur a b t h X Y hX hY);have H:X.size<=41:=by rw[<-hX,Qaq];exact j
 have G:Y.size<=20:=by rw[<-hY,Qaq];exact q
 rw[hX] at B;rw[hY] at z;have O:=fun w=>run_string_add_sum (P:=prog) w ⟨#[98,121,116,101,115,32]⟩ X (by show 6+_<=_;omega)
 have L:=fun w=>run_string_add_sum (P:=prog) w (⟨#[98,121,116,101,115,32]⟩++X) ⟨#[47]⟩ (by rw[ByteArray.size_append];show 6+_+1<=_;omega)
 have K:=fun w=>run_string_add_sum (P:=prog) w ((⟨#[98,121,116,101,115,32]⟩++X)++⟨#[47]⟩) Y (by rw[ByteArray.size_append,ByteArray.size_append];show 6+_+1+_<=_;omega)
 rw[h] at s ⊢;have I:=Z g;clear h g1 g2 g3 q1 q2 q3 j q hX hY g;go_enter func438,ntmps438;go_wp2_with fail;refine (s.o _).mono ?_;rintro e i ⟨rfl,c⟩;have m:(w.alloc (.cells #[Ji a,Ji b] 140)).heap.size=w.heap.size+1:=by simp
 obtain⟨y0,y1,y2⟩:=QEj (w.alloc (.cells #[Ji a,Ji b] 140)) (Ji a) (Ji b) (Ji t) 409;rw[m] at y0 y1 y2;have n:w.heap.size+1<((w.alloc (.cells #[Ji a,Ji b] 140)).alloc (.cells #[Ji a,Ji b,Ji t] 409)).heap.size:=by simp
 have A:=(c.cell (p:=(Ja (w.heap.size+1) 0)) n).trans y0;have y:=(c.cell (p:=(Ja (w.heap.size+1) 1)) n).trans y1;have x:=(c.cell (p:=(Ja (w.heap.size+1) 2)) n).trans y2;have f:w.heap.size+1<i.heap.size:=qK n c.size;have d:=Z (Qaa l.o (Qaa (Qa0 _ _ _ _ _) c));have r:=Z (I.o.below d.o);clear c y0 y1 y2 n m r0 r1;go_wp2_with fail;have M:∀p:BelowOf i,Jx p.world (w.heap.size+1) 0 (Ji a):=fun p=>QaD p f A
 have J:∀p:BelowOf i,Jx p.world (w.heap.size+1) 1 (Ji b):=fun p=>QaD p f y
 have R:∀p:BelowOf i,Jx p.world (w.heap.size+1) 2 (Ji t):=fun p=>QaD p f x
 clear A y x;refine Qae (by kernel_rfl) (by kernel_rfl) ?_
 repeat (go_big_quiet_step (fail))
 go_big_quiet_step ((go_at_call 236;exact QaA (B.o _ (r.o.below (BelowOf.below _)))))
 repeat (go_big_quiet_step (fail))
 go_big_quiet_step ((go_at_call 262;exact QaA (z.o _ (r.o.below (BelowOf.below _)))))
 repeat (go_big_quiet_step (fail))
 refine wpQuiet_nil ?_;intro N k;have v:=QaQ k;clear k;go_wp2;go_ret2;exact⟨by rw[<-D.o];rfl,Qaa d.o v⟩
theorem QiH(w:World)(x y z:Value):Jw w (w.alloc (.cells #[x,y,z] 77)):=(qF _ _).alloc (qC _) _
theorem QhR(h p f:JA)(w:World) :
  Calls prog 52 #[.agg #[Jt h,Jt p,Jt f]] w (JB (Ji (QhS h.data.toList p.data.toList:Nat)) w):=by
 have b:=Z (fun w=>QdU p h 0 0 w)
 rw[Qjr] at b;generalize QhS h.data.toList p.data.toList=E at b ⊢;obtain⟨x0,x1,x2⟩:=QEj w (Jt h) (Jt p) (Jt f) 77;have a:=Z (QiH w (Jt h) (Jt p) (Jt f));go_enter func52,ntmps52;go_wp2_with fail;refine (b.o _).mono ?_;rintro e d ⟨rfl,c⟩;go_wp2;go_ret;exact⟨rfl,Qaa a.o c⟩
theorem Ql3(c:Int)(w:World) :
  Calls prog 436 #[Ji c] w (JB (.agg #[Ji c,.slice none 0 0,Jt ⟨#[]⟩]) w):=by
 obtain⟨k0,k1,k2,f0,f1,f2⟩:=Qas (JI w (.cells #[Ji 0,.slice none 0 0,Jt ⟨#[]⟩] 359));go_enter func436,ntmps436;go_wp2_with fail;refine Qel (A:=(Ja w.heap.size 0)) rfl (Qeq _ _ _ _ _ _ (JI w _)) rfl rfl ?_;exact⟨rfl,Qa0 _ _ _ _ _⟩
theorem QBN(w:World)(x y:Value)(T:JT):(w.alloc (.cells #[x,y] T)).ownsRow w.heap.size T 2 (Jl w.heap.size 1 1) 1 [x,y]:=
 ⟨rfl,.inr ⟨w.heap.size,1,#[x,y],rfl,qC _,JI w _,qC _,by unfold maxLen;decide,rfl,rfl⟩⟩
theorem QsN(w:World)(g:Nat)(a:g=w.heap.size)(x y:Value)(T:JT):(w.alloc (.cells #[x,y] T)).ownsRow 0 T 2 (Jl g 1 1) 1 [x,y]:=by
 subst a;exact Qhi (QBN w x y T) (qL _)
def Qr8(c:Int)(fs:List (List UInt8×JL))(x:JA)(T:JT)(w:World)(e:Ending)(w':World):Prop:=
 ∃a cp,e=.returned (.agg #[Ji c,.slice a fs.length cp,Jt x])/\(∃B,w'.ownsRow B T 2 (.slice a fs.length cp) fs.length (QaB fs))/\Jw w w'
theorem QsK(a b:Int)(f:JA)(w:World)(v:EnvF w)(G:0<=a)(H:a<=b)(D:b<(f.size:Int))(I:f.size<=1000000) :
  Calls prog 437 #[.agg #[Ji a,Ji b,Jt f]] w (Qr8 206 [(Qah,Qcm a b (f.size:Int))] (f.extract a.toNat (b+1).toNat) 403 w):=by
 have x:=Z (fun w v=>Qpo a b (f.size:Int) w v)
 obtain⟨V,hV⟩:∃V,bs (Qcm a b (f.size:Int))=V:=⟨_,rfl⟩;rw[hV] at x;have z:=Z hV;generalize Qck a b (f.size:Int)=E at x;obtain⟨x0,x1,x2⟩:=QEj w (Ji a) (Ji b) (Jt f) 435;have p:=Qa0 w (Ji a) (Ji b) (Jt f) 435;have h:=Qaa p (Qa0 _ (Ji 0) (.slice none 0 0) (Jt ⟨#[]⟩) 359);have n:((w.alloc (.cells #[Ji a,Ji b,Jt f] 435)).alloc (.cells #[Ji 0,.slice none 0 0,Jt ⟨#[]⟩] 359)).heap.size=w.heap.size+1+1:=by simp
 have m:=heap_alloc2_new w (.cells #[Ji a,Ji b,Jt f] 435) (.cells #[Ji 0,.slice none 0 0,Jt ⟨#[]⟩] 359);have q:=((Qa0 (w.alloc (.cells #[Ji a,Ji b,Jt f] 435)) (Ji 0) (.slice none 0 0) (Jt ⟨#[]⟩) 359).block w.heap.size (by simp)).trans (JI w _)
 have r:=Z h;have j:=Z (v.below h);have t:=Z m;have i:=Z q;have d:=Z n;clear p h m q n x0 x1 x2 v hV;go_enter func437,ntmps437;go_wp2_with fail;generalize ((w.alloc (.cells #[Ji a,Ji b,Jt f] 435)).alloc (.cells #[Ji 0,.slice none 0 0,Jt ⟨#[]⟩] 359))=W0 at r j t i d ⊢;obtain⟨p0,p1,p2,-,-,-⟩:=Qas i.o;go_wp2_with fail;refine (x.o _ j.o).mono ?_;rintro e k ⟨rfl,c⟩;have l:=(c.block w.heap.size (by have:=d.o;omega)).trans i.o
 have g:=(c.block (w.heap.size+1) (by have:=d.o;omega)).trans t.o
 clear p0 p1 p2;obtain⟨p0,p1,p2,-,-,-⟩:=Qas l;obtain⟨k0,k1,k2,f0,f1,f2⟩:=Qas g;have y:=Z g;have s:=Z (Qaa r.o c);have B:w.heap.size+1<k.heap.size:=by have:=c.size;have:=d.o;omega
 have C:w.heap.size<k.heap.size:=by omega
 clear l g c x j;go_wp2_with fail;refine Qel (A:=(Ja (w.heap.size+1) 0)) rfl (Qeq _ _ _ _ _ _ ((J5 _ _ (by simp;omega)).trans (Qd0 y.o _ _ _))) rfl rfl ?_
 refine⟨_,_,rfl,⟨0,?_⟩,?_⟩
 ·have:=QsN (((k.setCell (Ja (w.heap.size+1) 0) (Ji 206)).setCell (Ja (w.heap.size+1) 1) (Jl k.heap.size 1 1)).setCell (Ja (w.heap.size+1) 2) (Jt (f.extract a.toNat (b+1).toNat))) k.heap.size (by simp) (Jt (bs Qah)) (Jt (bs (Qcm a b (f.size:Int)))) 403
  rw[z.o] at this;have e:QaB [(Qah,Qcm a b (f.size:Int))] = [Jt (bs Qah),Jt V]:=by rw[<-z.o];rfl
  rw[e];exact this
 ·exact (QcM s.o _ (by omega) _ _ _).alloc (by have:=s.o.size;simp;omega) _
def Qsp(h p f s:JA):Value:=if Qhj h.data.toList p.data.toList f.data.toList s=206 then .iface 435 (.agg #[Ji (Qmi f.data.toList s),Ji (Qkw f.data.toList s),Jt f]) else .iface 431 (Ji (Qhj h.data.toList p.data.toList f.data.toList s))
theorem Qpy(h p f s:JA)(w:World)(S:EnvF w)(hs:s.size<=1000000)(hf:f.size<=1000000) :
  Calls prog 246 #[.agg #[Jt h,Jt p,Jt f],Jt s] w (JB (Qsp h p f s) w):=by
 have HA:=Z (fun w S=>QoI s w hs S)
 have I:=QiH w (Jt h) (Jt p) (Jt f);have k:=Z (S.below I);have q:=Z I;have j:=Z (JI w (.cells #[Jt h,Jt p,Jt f] 77));have N:(w.alloc (.cells #[Jt h,Jt p,Jt f] 77)).heap.size=w.heap.size+1:=by simp
 have i:=Z N;unfold QCX at HA;have U:Qih s≠0->QoS s=0:=fun hh=>(QCW s hh).2.2.2.2
 have W:Qih s=0->0<QoS s/\QoS s<=(s.size:Int):=fun hh=>let ⟨_,M,r,_⟩:=Qxx s hh;⟨M,r⟩
 obtain⟨P,hP⟩:∃P,bs (QcZ s)=P:=⟨_,rfl⟩;obtain⟨Q,hQ⟩:∃Q,bs (Qc0 s)=Q:=⟨_,rfl⟩;obtain⟨a,ha⟩:∃a,QoU s=a:=⟨_,rfl⟩;obtain⟨b,hb⟩:∃b,QoT s=b:=⟨_,rfl⟩;obtain⟨n,hn⟩:∃n,QoS s=n:=⟨_,rfl⟩;obtain⟨E,hE1⟩:∃E,Qih s=E:=⟨_,rfl⟩;have O:QcZ s=P.data.toList:=by rw[<-hP,Qai]
 have R:Qc0 s=Q.data.toList:=by rw[<-hQ,Qai]
 obtain⟨C,hC⟩:∃C,Qhj h.data.toList p.data.toList f.data.toList s=C:=⟨_,rfl⟩;have J:C=if E≠0\/n<(s.size:Int) then 400 else if P.data.toList≠p.data.toList\/Q.data.toList≠h.data.toList then 404 else if QdZ a b (f.size:Int)≠0 then 416 else 206:=by
  rw[<-hC];unfold Qhj;rw[hE1,hn,O,R,ha,hb,Qab]
 have Y:Qsp h p f s=if C=206 then .iface 435 (.agg #[Ji (QgS a b (f.size:Int)),Ji (QgR a b (f.size:Int)),Jt f]) else .iface 431 (Ji C):=by
  unfold Qsp Qmi Qkw;rw[hC,ha,hb,Qab]
 obtain⟨V,hVV⟩:∃V,Qsp h p f s=V:=⟨_,rfl⟩;rw[hVV] at Y ⊢;have G:=Z Y;rw[hP,hQ,ha,hb,hn,hE1] at HA;have z:=Z J;clear S hP hQ O R hC J Y hVV I N U W
 by_cases M:E=0
 case neg=>
  have v:Hi (C=400):=Z (by rw[z.o,JK (.inl M)])
  have tz:((E:Int) != 0)=true:=by rw[bne_iff_ne];omega
  clear M hE1 hn ha hb;go_enter func246,ntmps246;go_wp2_with fail;refine (HA.o _ k.o).mono ?_;rintro e l ⟨rfl,c⟩;have d:=(c.block w.heap.size (by have:=i.o;omega)).trans j.o
  have g:=Z (Qaa q.o c);have t:w.heap.size<l.heap.size:=by have:=c.size;have:=i.o;omega
  obtain⟨o0,o1,o2,-,-,-⟩:=Qas d;obtain⟨q0,q1,q2,q3⟩:=QAU l (Jt P) (Jt Q) (Ji a) (Ji b) 142;clear d c k j;go_wp2;go_ret;exact⟨by rw[G.o,v.o];rfl,g.o.alloc g.o.size _⟩
 subst M
 by_cases r:n<(s.size:Int)
 ·have v:Hi (C=400):=Z (by rw[z.o,JK (.inr r)])
  have t2:decide (n<(s.size:Int))=true:=qA r;clear r hE1 hn ha hb;go_enter func246,ntmps246;go_wp2_with fail;refine (HA.o _ k.o).mono ?_;rintro e l ⟨rfl,c⟩;have d:=(c.block w.heap.size (by have:=i.o;omega)).trans j.o
  have g:=Z (Qaa q.o c);have t:w.heap.size<l.heap.size:=by have:=c.size;have:=i.o;omega
  obtain⟨o0,o1,o2,-,-,-⟩:=Qas d;obtain⟨q0,q1,q2,q3⟩:=QAU l (Jt P) (Jt Q) (Ji a) (Ji b) 142;clear d c k j;go_wp2;go_ret;exact⟨by rw[G.o,v.o];rfl,g.o.alloc g.o.size _⟩
 have t2:decide (n<(s.size:Int))=false:=qB r
 by_cases D:P.data.toList=p.data.toList
 case neg=>
  have v:Hi (C=404):=Z (by rw[z.o,JJ (fun e=>e.elim (fun e=>e rfl) r),JK (.inl D)])
  have t3:¬P.toList=p.toList:=by rw[J7,J7];exact D
  clear r D hE1 hn ha hb;go_enter func246,ntmps246;go_wp2_with fail;refine (HA.o _ k.o).mono ?_;rintro e l ⟨rfl,c⟩;have d:=(c.block w.heap.size (by have:=i.o;omega)).trans j.o
  have g:=Z (Qaa q.o c);have t:w.heap.size<l.heap.size:=by have:=c.size;have:=i.o;omega
  obtain⟨o0,o1,o2,-,-,-⟩:=Qas d;obtain⟨q0,q1,q2,q3⟩:=QAU l (Jt P) (Jt Q) (Ji a) (Ji b) 142;clear d c k j;go_wp2;go_ret;exact⟨by rw[G.o,v.o];rfl,g.o.alloc g.o.size _⟩
 have t3:P.toList=p.toList:=by rw[J7,J7];exact D
 by_cases H:Q.data.toList=h.data.toList
 case neg=>
  have v:Hi (C=404):=Z (by rw[z.o,JJ (fun e=>e.elim (fun e=>e rfl) r),JK (.inr H)])
  have t4:¬Q.toList=h.toList:=by rw[J7,J7];exact H
  have qc:(Q.toList==h.toList)=false:=by rw[qI];exact t4
  clear r D H hE1 hn ha hb;go_enter func246,ntmps246;go_wp2_with fail;refine (HA.o _ k.o).mono ?_;rintro e l ⟨rfl,c⟩;have d:=(c.block w.heap.size (by have:=i.o;omega)).trans j.o
  have g:=Z (Qaa q.o c);have t:w.heap.size<l.heap.size:=by have:=c.size;have:=i.o;omega
  obtain⟨o0,o1,o2,-,-,-⟩:=Qas d;obtain⟨q0,q1,q2,q3⟩:=QAU l (Jt P) (Jt Q) (Ji a) (Ji b) 142;clear d c k j;go_wp2;go_ret;exact⟨by rw[G.o,v.o];rfl,g.o.alloc g.o.size _⟩
 have t4:Q.toList=h.toList:=by rw[J7,J7];exact H
 have x:=Z (fun w=>Qpq a b (f.size:Int) w (by omega) (by omega))
 obtain⟨K,hK⟩:∃K,QdZ a b (f.size:Int)=K:=⟨_,rfl⟩;have L:Hi (C=if K≠0 then 416 else 206):=Z (by
  rw[z.o,JJ (fun e=>e.elim (fun e=>e rfl) r),JJ (fun e=>e.elim (fun e=>e D) (fun e=>e H)),hK])
 rw[hK] at x;generalize QgS a b (f.size:Int)=A at x G;generalize QgR a b (f.size:Int)=B at x G
 by_cases T:K=0
 case neg=>
  have v:Hi (C=416):=Z (by rw[L.o,JK T])
  have tz:((K:Int) != 0)=true:=by rw[bne_iff_ne];omega
  clear r D H T hK hE1 hn ha hb;go_enter func246,ntmps246;go_wp2_with fail;refine (HA.o _ k.o).mono ?_;rintro e l ⟨rfl,c⟩;have d:=(c.block w.heap.size (by have:=i.o;omega)).trans j.o
  have g:=Z (Qaa q.o c);have t:w.heap.size<l.heap.size:=by have:=c.size;have:=i.o;omega
  obtain⟨o0,o1,o2,-,-,-⟩:=Qas d;obtain⟨q0,q1,q2,q3⟩:=QAU l (Jt P) (Jt Q) (Ji a) (Ji b) 142;clear d c k j;go_wp2_with fail;refine (x.o _).mono ?_;rintro e X ⟨rfl,m⟩;have y:=Z (Qaa g.o (Qaa (QbC _ _ _ _ _ _) m));clear m;go_wp2;go_ret;exact⟨by rw[G.o,v.o];rfl,y.o.alloc y.o.size _⟩
 subst T;have v:Hi (C=206):=Z (by rw[L.o,JJ (fun e=>e rfl)])
 clear r D H hK hE1 hn ha hb;go_enter func246,ntmps246;go_wp2_with fail;refine (HA.o _ k.o).mono ?_;rintro e l ⟨rfl,c⟩;have d:=(c.block w.heap.size (by have:=i.o;omega)).trans j.o
 have g:=Z (Qaa q.o c);have t:w.heap.size<l.heap.size:=by have:=c.size;have:=i.o;omega
 obtain⟨o0,o1,o2,-,-,-⟩:=Qas d;obtain⟨q0,q1,q2,q3⟩:=QAU l (Jt P) (Jt Q) (Ji a) (Ji b) 142;clear d c k j;go_wp2_with fail;refine (x.o _).mono ?_;rintro e X ⟨rfl,m⟩;have hx:w.heap.size<(l.alloc (.cells #[Jt P,Jt Q,Ji a,Ji b] 142)).heap.size:=by simp;omega
 have qa:=(m.cell (p:=(Ja w.heap.size 2)) hx).trans (((QbC l (Jt P) (Jt Q) (Ji a) (Ji b) 142).cell (p:=(Ja w.heap.size 2)) t).trans o2);have y:=Z (Qaa g.o (Qaa (QbC _ _ _ _ _ _) m));have qb:w.heap.size<X.heap.size:=qK hx m.size;obtain⟨k0,k1⟩:=QAV X (Ji A) (Ji B) 140;clear m hx o0 o1 o2 q0 q1 q2 q3;go_wp2;go_ret;exact⟨by rw[G.o,v.o];rfl,y.o.alloc y.o.size _⟩
theorem QyF(h p f:JL)(s:JA)(a:Qhj h p f s=206)(b:f.length<=1000000):0<=Qmi f s/\Qmi f s<=Qkw f s/\Qkw f s<(f.length:Int)/\QpC h p f s = [(Qah,Qcm (Qmi f s) (Qkw f s) (f.length:Int))]/\Qpz h p f s=(f.take (Qkw f s+1).toNat).drop (Qmi f s).toNat:=by
 obtain⟨-,-,-,-,h5⟩:=Qq8 h p f s a;obtain⟨q1,q2,q3,q4⟩:=Qxc _ _ _ h5;obtain⟨r1,r2,r3⟩:=QcP _ _ q1;unfold Qmi Qkw QpC Qpz;rw[q3,q4,JK a,JK a];unfold Qmi Qkw;rw[q3,q4];refine⟨r1,?_,?_,rfl,rfl⟩<;>split<;>omega
theorem QnO(v:Value)(w:World):(Go.method 700 431 v "gazetteer/origin.reply").run prog w=.ok (436,v) w:=by kernel_rfl
theorem Qv0(v:Value)(w:World):(Go.method 700 435 v "gazetteer/origin.reply").run prog w=.ok (437,v) w:=by kernel_rfl
theorem Qmh(h p f s:JA)(w:World)(k:EnvF w)(hs:s.size<=1000000)(P:f.size<=1000000) :
  Calls prog 214 #[.agg #[Jt h,Jt p,Jt f],Jt s] w (JB (Jt (bs (QpB h.data.toList p.data.toList f.data.toList s))) w):=by
 have N:=Z (fun w=>QhR h p f w)
 have z:=Z (fun w k=>Qpy h p f s w k hs P)
 have y:=QiH w (Jt h) (Jt p) (Jt f);have T:=Z (k.below y);have q:=Z y;have J:=Z (JI w (.cells #[Jt h,Jt p,Jt f] 77));have O:(w.alloc (.cells #[Jt h,Jt p,Jt f] 77)).heap.size=w.heap.size+1:=by simp
 have S:=Z O;obtain⟨o0,o1,o2,-,-,-⟩:=Qas J.o;clear k y O
 by_cases L:QhS h.data.toList p.data.toList=0
 case neg=>
  have m:Hi (QpB h.data.toList p.data.toList f.data.toList s = []):=Z (by unfold QpB;rw[JJ L])
  have tz:((QhS h.data.toList p.data.toList:Int) != 0)=true:=by rw[bne_iff_ne];omega
  generalize QhS h.data.toList p.data.toList=E at N tz;clear L;go_enter func214,ntmps214;go_wp2_with fail;refine (N.o _).mono ?_;rintro e X ⟨rfl,a⟩;go_wp2;go_ret;exact⟨by rw[m.o];rfl,Qaa q.o a⟩
 rw[L] at N
 by_cases n:Qhj h.data.toList p.data.toList f.data.toList s=206
 ·have U:Qsp h p f s=.iface 435 (.agg #[Ji (Qmi f.data.toList s),Ji (Qkw f.data.toList s),Jt f]):=JK n
  rw[U] at z;obtain⟨g1,g2,g3,g4,g5⟩:=QyF h.data.toList p.data.toList f.data.toList s n (by rw[Qab];exact P)
  have m:Hi (QpB h.data.toList p.data.toList f.data.toList s=QoQ 206 (QpC h.data.toList p.data.toList f.data.toList s) (Qpz h.data.toList p.data.toList f.data.toList s)):=Z (by unfold QpB;rw[JK L,n])
  rw[Qab] at g3 g4;have G:bs (Qpz h.data.toList p.data.toList f.data.toList s)=f.extract (Qmi f.data.toList s).toNat (Qkw f.data.toList s+1).toNat:=by rw[QcC,g5]
  have r:=Qiv h.data.toList p.data.toList f.data.toList s;rw[Qab] at r;generalize Qpz h.data.toList p.data.toList f.data.toList s=Y at m g5 G r;have b:=Z (fun W k=>QsK (Qmi f.data.toList s) (Qkw f.data.toList s) f W k g1 g2 g3 P)
  rw[<-g4,<-G] at b;have M:∀x∈QpC h.data.toList p.data.toList f.data.toList s,x.1.length<=1000000/\x.2.length<=1000000:=by
   rw[g4];intro x hx;obtain rfl:=List.mem_singleton.1 hx;exact⟨by show Qah.length<=1000000;decide,qD (Qm8 _ _ _) (by decide)⟩
  have D:(QpC h.data.toList p.data.toList f.data.toList s).length<=1000000:=by rw[g4];show 1<=1000000;decide
  generalize QpC h.data.toList p.data.toList f.data.toList s=F at m b g4 M D;generalize Qmi f.data.toList s=A at z b;generalize Qkw f.data.toList s=B at z b;have g:=Z (fun W fv BB k hO=>Qjf 206 fv F (bs Y) BB W k (by decide) (by decide) hO D M (by rw[Qaq];omega))
  rw[Qai] at g;unfold QC2 at g;unfold Qr8 at b;generalize bs Y=YB at b g;have hm:=Qv0;clear U n L g1 g2 g3 g4 g5 G r M D;go_enter func214,ntmps214;go_wp2_with fail;refine (N.o _).mono ?_;rintro e X ⟨rfl,a⟩;have i:=(a.block w.heap.size (by have:=S.o;omega)).trans J.o
  have H:=Z (Qaa q.o a);have j:=Z (T.o.below a);clear a o0 o1 o2;obtain⟨o0,o1,o2,-,-,-⟩:=Qas i;clear i;go_wp2_with fail;refine (z.o _ j.o).mono ?_;rintro e w2 ⟨rfl,c⟩;have I:=Z (Qaa H.o c);have l:=Z (j.o.below c);clear c o0 o1 o2;go_wp2_with fail;refine (b.o _ l.o).mono ?_;rintro e w3 ⟨a3,c3,rfl,⟨BB,hO⟩,d⟩;have t:=Z (Qaa I.o d);have v:=Z (l.o.below d);have HO:=Z hO;clear d hO;go_wp2_with fail;refine (g.o _ _ _ v.o HO.o).mono ?_;rintro e w4 ⟨rfl,K⟩;go_wp2;go_ret;exact⟨by rw[m.o];rfl,Qaa t.o K⟩
 ·have U:Qsp h p f s=.iface 431 (Ji (Qhj h.data.toList p.data.toList f.data.toList s)):=JJ n
  rw[U] at z;obtain⟨e1,e2⟩:=Qk2 h.data.toList p.data.toList f.data.toList s n;have m:Hi (QpB h.data.toList p.data.toList f.data.toList s=QoQ (Qhj h.data.toList p.data.toList f.data.toList s) [] []):=Z (by unfold QpB;rw[JK L,e1,e2])
  have R:=QnF h.data.toList p.data.toList f.data.toList s;generalize Qhj h.data.toList p.data.toList f.data.toList s=C at z m n R;have g:=Z (fun W k=>Qjf C (.slice none 0 0) [] ⟨#[]⟩ 0 W k (by omega) (by omega) (QBU W) (by decide) (fun f P=>by simp at P) (by decide))
  have V:=Z (fun W=>Ql3 C W)
  have hm:=QnO;unfold QC2 at g;clear U e1 e2 n R L;go_enter func214,ntmps214;go_wp2_with fail;refine (N.o _).mono ?_;rintro e X ⟨rfl,a⟩;have i:=(a.block w.heap.size (by have:=S.o;omega)).trans J.o
  have H:=Z (Qaa q.o a);have j:=Z (T.o.below a);clear a o0 o1 o2;obtain⟨o0,o1,o2,-,-,-⟩:=Qas i;clear i;go_wp2_with fail;refine (z.o _ j.o).mono ?_;rintro e w2 ⟨rfl,c⟩;have I:=Z (Qaa H.o c);have l:=Z (j.o.below c);clear c o0 o1 o2;go_wp2_with fail;refine (V.o _).mono ?_;rintro e w3 ⟨rfl,d⟩;have t:=Z (Qaa I.o d);have v:=Z (l.o.below d);clear d;go_wp2_with fail;refine (g.o _ v.o).mono ?_;rintro e w4 ⟨rfl,K⟩;go_wp2;go_ret;exact⟨by rw[m.o];rfl,Qaa t.o K⟩
theorem Qi5{w:World}{b:Nat}{a d g f c h:Value}{t:JT}(k:w.heap[b]?=some (.cells #[a,d,g,f,c,h] t (0,0))) :
  (w.cell? (Ja b 0)=some a/\w.cell? (Ja b 1)=some d/\w.cell? (Ja b 2)=some g/\w.cell? (Ja b 3)=some f/\w.cell? (Ja b 4)=some c/\w.cell? (Ja b 5)=some h)/\w.frozen? (Ja b 3)=false/\w.frozen? (Ja b 4)=false/\w.frozen? (Ja b 5)=false:=by
 refine⟨⟨?_,?_,?_,?_,?_,?_⟩,?_,?_,?_⟩<;>first|(unfold World.cell?;rw[k];rfl)|(unfold World.frozen?;rw[k];rfl)
theorem Qyc{w:World}{b:Nat}{a d f h c g:Value}{t:JT}(k:w.heap[b]?=some (.cells #[a,d,f,h,c,g] t (0,0)))(y:Value):(w.setCell (Ja b 3) y).heap[b]?=some (.cells #[a,d,f,y,c,g] t (0,0)):=by
 simp[World.setCell,J6,k]
theorem Qyb{w:World}{b:Nat}{a c f d h g:Value}{t:JT}(k:w.heap[b]?=some (.cells #[a,c,f,d,h,g] t (0,0)))(y:Value):(w.setCell (Ja b 4) y).heap[b]?=some (.cells #[a,c,f,d,y,g] t (0,0)):=by
 simp[World.setCell,J6,k]
theorem Qya{w:World}{b:Nat}{a d g f c h:Value}{t:JT}(k:w.heap[b]?=some (.cells #[a,d,g,f,c,h] t (0,0)))(y:Value):(w.setCell (Ja b 5) y).heap[b]?=some (.cells #[a,d,g,f,c,y] t (0,0)):=by
 simp[World.setCell,J6,k]
def HoldsC(w:World)(v:Value)(l:List Flt):Prop:=
 ∃a c,v=.slice a l.length c/\l.length<=c/\(l≠[]->∃b o,a=some (Ja b o)/\b<w.heap.size/\∀j (hj:j<l.length),w.cell? (Ja b (o+3*j))=some (Jb l[j].1)/\w.cell? (Ja b (o+3*j+1))=some (Ji l[j].2.1)/\w.cell? (Ja b (o+3*j+2))=some (Jt l[j].2.2))
theorem HoldsC.below{w w':World}{v:Value}{l:List Flt}(h:HoldsC w v l)(d:Jw w w'):HoldsC w' v l:=by
 obtain⟨a,c,hv,hc,hx⟩:=h;refine⟨a,c,hv,hc,fun hne=>?_⟩
 obtain⟨b,o,ha,hlt,Qak⟩:=hx hne;exact⟨b,o,ha,qK hlt d.size,fun j hj=>
  let ⟨x,y,z⟩:=Qak j hj
  ⟨(d.cell (p:=(Ja b (o+3*j))) hlt).trans x,(d.cell (p:=(Ja b (o+3*j+1))) hlt).trans y,(d.cell (p:=(Ja b (o+3*j+2))) hlt).trans z⟩⟩
theorem HoldsC.empty(w:World)(a:Option Addr)(c:Nat):HoldsC w (.slice a 0 c) []:=⟨a,c,rfl,qL _,fun h=>JN rfl h⟩
theorem HoldsC.len{w:World}{v:Value}{l:List Flt}(h:HoldsC w v l):∃a c,v=.slice a l.length c/\l.length<=c:=let ⟨a,c,h1,h2,_⟩:=h;⟨a,c,h1,h2⟩
def Qkj:Value->Option Nat
 | .slice (some a) _ _=>some a.block
 |_=>none
theorem HoldsC.kept{w w':World}{v:Value}{l:List Flt}(h:HoldsC w v l)(d:w.heap.size<=w'.heap.size)(g:∀b,Qkj v=some b->w'.heap[b]?=w.heap[b]?):HoldsC w' v l:=by
 obtain⟨a,c,rfl,hc,hx⟩:=h;refine⟨a,c,rfl,hc,fun hne=>?_⟩
 obtain⟨b,o,rfl,hlt,Qak⟩:=hx hne;have f:=g b rfl;have key:∀i,w'.cell? (Ja b i)=w.cell? (Ja b i):=fun i=>Qfl (a:=(Ja b i)) f
 exact⟨b,o,rfl,qK hlt d,fun j hj=>
  let ⟨x,y,z⟩:=Qak j hj
  ⟨(key _).trans x,(key _).trans y,(key _).trans z⟩⟩
theorem HoldsC.of_own{w:World}{base n:Nat}{e:JT}{v:Value}{l:List Flt}(h:w.ownsRow base e 3 v n (Qid l)):HoldsC w v l:=by
 have c:l.length=n:=by have:=h.1;rw[QdD] at this;omega
 subst c;rcases h.2 with⟨rfl,h0⟩|⟨g,cap,cur,rfl,hb,hg,hle,hm,hs,ht⟩
 ·have:l = []:=List.eq_nil_of_length_eq_zero h0
  subst this;exact HoldsC.empty w none 0
 ·refine⟨_,cap,rfl,hle,fun _=>⟨g,0,rfl,(gsi hg).1,fun j hj=>?_⟩⟩
  obtain⟨x,y,z⟩:=QrE l j hj;have key:∀i u,(Qid l)[i]?=some u->w.cell? (Ja g (0+i))=some u:=by
   intro i u a;have:=h.cells (g:=g) rfl i u a;have b:((Ja g 0):Addr).add i=(Ja g (0+i)):=by unfold Addr.add;split<;>simp_all
   rwa[b] at this
  exact⟨key _ _ x,by have:=key _ _ y;rwa[show 0+3*j+1=0+(3*j+1) by omega],by have:=key _ _ z;rwa[show 0+3*j+2=0+(3*j+2) by omega]⟩
theorem HoldsC.first{w:World}{v:Value}{x:Flt}{l:List Flt}(h:HoldsC w v (x :: l)):∃b o c,v=.slice (some (Ja b o)) (l.length+1) c/\l.length+1<=c/\b<w.heap.size/\w.cell? (Ja b o)=some (Jb x.1)/\w.cell? (Ja b (o+1))=some (Ji x.2.1)/\w.cell? (Ja b (o+2))=some (Jt x.2.2)/\
  HoldsC w (.slice (some (if c=1 then (Ja b o) else (Ja b (o+3)))) l.length (c-1)) l:=by
 obtain⟨a,c,rfl,hc,hx⟩:=h;obtain⟨b,o,rfl,hlt,Qak⟩:=hx (by simp)
 obtain⟨x1,x2,x3⟩:=Qak 0 (by simp)
 refine⟨b,o,c,rfl,hc,hlt,x1,x2,x3,_,_,rfl,by simp at hc;omega,fun hne=>?_⟩
 have f:0<l.length:=List.length_pos_iff.2 hne;have d:c≠1:=by simp at hc;omega
 rw[JJ d];refine⟨b,o+3,rfl,hlt,fun j hj=>?_⟩
 obtain⟨y1,y2,y3⟩:=Qak (j+1) (by simp;omega)
 simp only[List.getElem_cons_succ] at y1 y2 y3;refine⟨?_,?_,?_⟩
 ·rw[show o+3+3*j=o+3*(j+1) by omega];exact y1
 ·rw[show o+3+3*j+1=o+3*(j+1)+1 by omega];exact y2
 ·rw[show o+3+3*j+2=o+3*(j+1)+2 by omega];exact y3
theorem QuV{P:Program}(t e:JT)(z:Value)(k b:Nat)(c:P.underlying t=some (.slice e))(a:(P.info? e).map (fun i=>(i.zero,i.size,i.bytes))=some (some z,k,b))(d:b<=1000)(N:Nat)(f:N<=1000000)(w:World) :
  (Instr.makeSlice t (Ji (N:Int)) (Ji (N:Int))).run P w=.ok (Jl w.heap.size N N) (w.alloc (.cells (madeCells z.cells (N*k)) e)):=by
 obtain⟨i0,hi,hz0,hz1,hz2⟩:=info_parts a;have g:b*N<=1000*1000000:=Nat.mul_le_mul d f;have:=run_make (P:=P) w t e i0 _ c hi hz0 .i64 .i64 N N (by omega) (by omega) (by rw[hz2];rw[<-Int.natCast_mul];omega) (by omega)
 rw[this,hz1,Int.toNat_natCast]
theorem QlW{P:Program}(b g j e:JT)(k:Nat)(h:P.underlying b=some (.slice e))(l:(P.info? e).map (·.size)=some k)(d s:Option Addr)(n c f:Nat)(w:World) :
  (Builtin.copy_ #[b,g] j #[.slice d n c,.slice s 0 f]).run P w=.ok (Ji 0) w:=by
 cases a:P.info? e with
 |none=>simp[a] at l
 |some i=>
  cases d<;>cases s<;>simp[Builtin.copy_,run_underlying h,Builtin.lenOf,Builtin.firstCells,sizeOf,typeInfo,a,storeCells,loadCells,goInt,loadCellsFrom]
theorem Qwu{w:World}{l:List Flt}{b o:Nat}(h:∀j (g:j<l.length),Jx w b (o+3*j) (Jb l[j].1)/\Jx w b (o+3*j+1) (Ji l[j].2.1)/\Jx w b (o+3*j+2) (Jt l[j].2.2)) :
  ∀i v,(Qid l)[i]?=some v->w.cell? (((Ja b o):Addr).add i)=some v:=by
 intro i v d;have k:i<(Qid l).length:=(List.getElem?_eq_some_iff.1 d).1;rw[QdD] at k;have g:i/3<l.length:=by omega
 obtain⟨a,b',c⟩:=QrE l (i/3) g;obtain⟨x,y,z⟩:=h (i/3) g;rw[Addr.add_lit];have f:i%3=0\/i%3=1\/i%3=2:=by omega
 rcases f with f|f|f
 ·have e:i=3*(i/3):=by omega
  rw[e] at d ⊢;rw[a] at d;rw[<-qS d];exact x
 ·have e:i=3*(i/3)+1:=by omega
  rw[e] at d ⊢;rw[b'] at d;rw[<-qS d,<-Nat.add_assoc];exact y
 ·have e:i=3*(i/3)+2:=by omega
  rw[e] at d ⊢;rw[c] at d;rw[<-qS d,<-Nat.add_assoc];exact z
theorem QzJ(l:List Flt):∀v∈Qid l,v.oneCell'=true:=by
 intro v a;unfold Qid at a;obtain⟨x,-,hx⟩:=List.mem_flatMap.1 a;simp only[List.mem_cons,List.not_mem_nil,or_false] at hx;rcases hx with rfl|rfl|rfl<;>rfl
theorem QsP{w:World}{e:JT}{N k:Nat}{cs:JV}{a:JW}{B:Nat}(f:w.heap[B]?=some (.cells a e (0,0)))(b:cs.length=N*k)(g:a.size=N*k)(h:N<=1000000)(base:Nat)(d:base<=B) :
  (w.setRow B (splice a.toList 0 cs).toArray).ownsRow base e k (Jl B N N) N cs:=by
 have c:splice a.toList 0 cs=cs:=by
  unfold splice;rw[List.take_zero,J3,Nat.zero_add,List.drop_of_length_le (by rw[Array.length_toList,g,b];exact qC _),qT]
 rw[c];refine⟨b,.inr ⟨B,N,cs.toArray,rfl,d,setRow_heap w B a _ e _ f,qC _,by unfold maxLen;omega,by simp[b],?_⟩⟩
 rw[qX (by simp[b])]
theorem QtL{P:Program}(f h e:JT)(n:P.underlying f=some (.slice e))(p:(P.info? e).map (·.size)=some 3){W:World}{v:Value}{l:List Flt}{B:Nat}{d:JW}(i:W.heap[B]?=some (.cells d e (0,0)))(j:d.size=l.length*3)(q:HoldsC W v l)(r:l.length<=1000000) :
  ∃W',(∀ty,(Builtin.copy_ #[f,h] ty #[Jl B l.length l.length,v]).run P W=.ok (Ji l.length) W')/\W'.ownsRow B e 3 (Jl B l.length l.length) l.length (Qid l)/\Touch (fun g=>g=B) W W':=by
 obtain⟨a,c,rfl,hcl,hx⟩:=q
 by_cases m:l = []
 ·subst m
  refine⟨W,fun ty=>QlW f h ty e 3 n p _ _ _ _ _ W,⟨rfl,.inr ⟨B,0,d,rfl,qC _,i,qC _,qL _,by simpa using j,by simp[Qid]⟩⟩,Touch.refl _ _⟩
 ·obtain⟨b,o,rfl,hlt,Qak⟩:=hx m
  refine⟨W.setRow B (splice d.toList 0 (Qid l)).toArray,fun ty=>?_,QsP i (QdD l) j r B (qC _),⟨rfl,rfl,rfl,by simp[World.setRow],fun k hk hne=>setRow_other W B k _ hne⟩⟩
  exact QbK W f h ty e 3 l.length B 0 l.length l.length (Ja b o) l.length c d e (Qid l) n p (Nat.min_self _) (QdD l).symm i (Qwu Qak) (by rw[QdD,j];omega) (QzJ l)
theorem QxC{l:Array Oper}{d:List Oper}{o:Oper}{a:Act}{Q:Exit->Act->World->Prop}(t e:JT)(z:Value)(b:Nat)(G:prog.underlying t=some (.slice e))(y:(prog.info? e).map (fun i=>(i.zero,i.size,i.bytes))=some (some z,3,b))(D:z.cells.size=3)(B:b<=64)
  (w0:World) (m p q:Value) (L:m.oneCell'=true) (K:p.oneCell'=true) (N:q.oneCell'=true) (r:o.guard=none) (s x:Operand) (E:o.op=.call { callee:=.builtin .append,args:=#[s,x],argTypes:=#[t,t] })
  (base:Nat) (v:Value) (n:Nat) (xs:JV) (H:a.eval s=v) (A:w0.ownsRow base e 3 v n xs) (hx:a.eval x = Jl w0.heap.size 1 1) (O:n<2147483648) (C:base<=w0.heap.size)
  (h:∀g c w',w'.ownsRow base e 3 (Jl g (n+1) c) (n+1) (xs++[m,p,q])->w0.grownBy w' v.ownBlock->(v.ownBlock=some g\/w0.heap.size<=g)->wpList prog l Q d (a.put o.dst (Jl g (n+1) c)) w') :
  wpList prog l Q (o :: d) a (w0.alloc (.cells #[m,p,q] e)):=by
 obtain⟨i0,hi,hz0,hz1,hz2⟩:=info_parts y;have J:(n+1)*b<=2147483648*64:=Nat.mul_le_mul (by omega) B
 refine wpList_append_lies _ r s x t E base e i0 z 3 b G hi hz0 hz1 hz2 D (by decide) v n xs H (A.alloc _) (Ja w0.heap.size 0) 1 1 [m,p,q] hx rfl (World.news_of_block (JI w0 _)) (fun u hm=>?_) (by decide) (by unfold maxLen;omega) (by omega) (by simp;omega) _ rfl ?_
 ·simp only[List.mem_cons,List.not_mem_nil,or_false] at hm
  rcases hm with rfl|rfl|rfl<;>assumption
 ·intro g c w' I f j M
  refine h g c w' I ⟨f.os,f.tape,f.output,qD (by simp) f.size,fun k hk hne=>(f.block k (by simp;omega) hne).trans (J5 w0 _ hk)⟩ ?_
  rcases j with j|j
  ·exact .inl j
  ·exact .inr (by rw[j];simp)
structure LAt(w:World)(P B:Nat)(h p f:JA)(rest:List Flt)(log:List Evt)(n:Nat)(rv lv:Value):Prop where
 blk:w.heap[P]?=some (.cells #[Jt h,Jt p,Jt f,rv,lv,Ji (n:Int)] 136 (0,0))
 hold:HoldsC w rv rest
 tag:∀b,Qkj rv=some b->∃C,w.heap[b]?=some (.cells C 137 (0,0))
 own:w.ownsRow B 337 3 lv log.length (evs log)
theorem LAt.lt{w:World}{P B:Nat}{h p f:JA}{a:List Flt}{b:List Evt}{n:Nat}{c lv:Value}(k:LAt w P B h p f a b n c lv):P<w.heap.size:=(gsi k.blk).1
theorem LAt.keep{w w':World}{P B:Nat}{h p f:JA}{a:List Flt}{c:List Evt}{n:Nat}{d lv:Value}(k:LAt w P B h p f a c n d lv)(m:w.heap.size<=w'.heap.size)(l:w'.heap[P]?=w.heap[P]?)(i:∀b,Qkj d=some b->w'.heap[b]?=w.heap[b]?)(j:∀g,lv.ownBlock=some g->w'.heap[g]?=w.heap[g]?):LAt w' P B h p f a c n d lv where
 blk:=l.trans k.blk
 hold:=k.hold.kept m i
 tag:=fun b hb=>let ⟨C,hC⟩:=k.tag b hb;⟨C,(i b hb).trans hC⟩
 own:=Qac k.own j
theorem LAt.rlt{w:World}{P B:Nat}{h p f:JA}{a:List Flt}{c:List Evt}{n:Nat}{d lv:Value}(k:LAt w P B h p f a c n d lv)(b:Nat)(g:Qkj d=some b):b<w.heap.size:=let ⟨_,hC⟩:=k.tag b g;(gsi hC).1
theorem LAt.below{w w':World}{P B:Nat}{h p f:JA}{a:List Flt}{c:List Evt}{n:Nat}{i lv:Value}(k:LAt w P B h p f a c n i lv)(d:Jw w w'):LAt w' P B h p f a c n i lv:=
 k.keep d.size (d.block P k.lt) (fun b h=>d.block b (k.rlt b h)) (fun g h=>d.block g (k.own.lt g h).2)
theorem LAt.touch{w w':World}{S:Nat->Prop}{P B:Nat}{h p f:JA}{a:List Flt}{c:List Evt}{n:Nat}{i lv:Value}(k:LAt w P B h p f a c n i lv)(d:Touch S w w')(l:¬S P)(m:∀b,Qkj i=some b->¬S b)(j:∀g,lv.ownBlock=some g->¬S g):LAt w' P B h p f a c n i lv:=
 k.keep d.size (d.block P k.lt l) (fun b h=>d.block b (k.rlt b h) (m b h)) (fun g h=>d.block g (k.own.lt g h).2 (j g h))
theorem LAt.cells{w:World}{P B:Nat}{h p f:JA}{a:List Flt}{b:List Evt}{n:Nat}{c lv:Value}(k:LAt w P B h p f a b n c lv) :
  (w.cell? (Ja P 0)=some (Jt h)/\w.cell? (Ja P 1)=some (Jt p)/\w.cell? (Ja P 2)=some (Jt f)/\w.cell? (Ja P 3)=some c/\w.cell? (Ja P 4)=some lv/\w.cell? (Ja P 5)=some (Ji (n:Int)))/\w.frozen? (Ja P 3)=false/\w.frozen? (Ja P 4)=false/\w.frozen? (Ja P 5)=false:=Qi5 k.blk
theorem LAt.rne{w:World}{P B:Nat}{h p f:JA}{a:List Flt}{c:List Evt}{n:Nat}{d lv:Value}(k:LAt w P B h p f a c n d lv)(b:Nat)(g:Qkj d=some b):b≠P:=fun e=>by
 obtain⟨C,hC⟩:=k.tag b g;(try unfold Jh at hC);rw[e,k.blk] at hC;simp only[J8,Obj.cells.injEq] at hC;exact JN hC.2.1 (by decide)
theorem LAt.lne{w:World}{P B:Nat}{h p f:JA}{a:List Flt}{b:List Evt}{n:Nat}{c lv:Value}(k:LAt w P B h p f a b n c lv):lv.ownBlock≠some P:=QaR k.own k.blk (by decide)
theorem LAt.rl{w:World}{P B:Nat}{h p f:JA}{a:List Flt}{c:List Evt}{n:Nat}{d lv:Value}(k:LAt w P B h p f a c n d lv)(b:Nat)(g:Qkj d=some b):lv.ownBlock≠some b:=by
 obtain⟨C,hC⟩:=k.tag b g;exact QaR k.own hC (by decide)
theorem HoldsC.set{w:World}{v:Value}{l:List Flt}(h:HoldsC w v l)(a:Addr)(y:Value)(c:∀b,Qkj v=some b->b≠a.block):HoldsC (w.setCell a y) v l:=
 h.kept (by rw[QbE];exact qC _) (fun b h1=>JO _ _ _ _ (c b h1))
theorem LAt.setRest{w:World}{P B:Nat}{h p f:JA}{i c:List Flt}{d:List Evt}{n:Nat}{m a lv:Value}(k:LAt w P B h p f i d n m lv)(l:HoldsC w a c)(j:∀b,Qkj a=some b->∃C,w.heap[b]?=some (.cells C 137 (0,0))):LAt (w.setCell (Ja P 3) a) P B h p f c d n a lv:=by
 have hne:∀b,Qkj a=some b->b≠P:=fun b hb e=>by
  obtain⟨C,hC⟩:=j b hb;(try unfold Jh at hC);rw[e,k.blk] at hC;simp only[J8,Obj.cells.injEq] at hC;exact JN hC.2.1 (by decide)
 refine⟨Qyc k.blk _,l.set _ _ hne,fun b hb=>?_,Qac k.own (fun g hg=>JO _ _ _ _ (fun e=>k.lne (by rw[hg];exact congrArg some e)))⟩
 obtain⟨C,hC⟩:=j b hb;exact⟨C,(JO _ _ _ _ (hne b hb)).trans hC⟩
theorem LAt.setHarm{w:World}{P B:Nat}{h p f:JA}{a:List Flt}{c:List Evt}{n m:Nat}{d lv:Value}(k:LAt w P B h p f a c n d lv):LAt (w.setCell (Ja P 5) (Ji (m:Int))) P B h p f a c m d lv:=by
 refine⟨Qya k.blk _,k.hold.set _ _ k.rne,fun b hb=>?_,Qac k.own (fun g hg=>JO _ _ _ _ (fun e=>k.lne (by rw[hg];exact congrArg some e)))⟩
 obtain⟨C,hC⟩:=k.tag b hb;exact⟨C,(JO _ _ _ _ (k.rne b hb)).trans hC⟩
theorem LAt.new{W:World}{k B:Nat}{h p f:JA}{l:List Flt}{a:List Evt}{n:Nat}{c lv:Value}(j:W.ownsRow k 137 3 c l.length (Qid l))(i:W.ownsRow B 337 3 lv a.length (evs a)):LAt (W.alloc (.cells #[Jt h,Jt p,Jt f,c,lv,Ji (n:Int)] 136 (0,0))) W.heap.size B h p f l a n c lv:=by
 have d:Jw W (W.alloc (.cells #[Jt h,Jt p,Jt f,c,lv,Ji (n:Int)] 136 (0,0))):=(qF _ _).alloc (qC _) _;refine⟨JI W _,(HoldsC.of_own j).below d,fun b hbk=>?_,Qac i (fun g hg=>d.block g (i.lt g hg).2)⟩
 rcases j.2 with⟨rfl,-⟩|⟨g,cap,cur,rfl,h1,h2,-⟩
 ·cases hbk
 ·injection hbk with e
  subst e;exact⟨cur,(d.block g (gsi h2).1).trans h2⟩
def LS(P:Nat)(lv:Value)(g:Nat):Prop:=g=P\/lv.ownBlock=some g
theorem Qlx{v:Array Oper}{r:List Oper}{o:Oper}{a:Act}{Q:Exit->Act->World->Prop}(t:JT)(z:Value)(b:Nat)(S:prog.underlying t=some (.slice 337))(I:(prog.info? 337).map (fun i=>(i.zero,i.size,i.bytes))=some (some z,3,b))(O:z.cells.size=3)(q:b<=64)
  (w0:World) {P B:Nat} {h p f:JA} {N:List Flt} {c:List Evt} {n:Nat} {D lv:Value} (k:LAt w0 P B h p f N c n D lv) (G E:Int) (A:Bool) (H:o.guard=none) (s x:Operand) (R:o.op=.call { callee:=.builtin .append,args:=#[s,x],argTypes:=#[t,t] })
  (U:a.eval s=lv) (hx:a.eval x = Jl w0.heap.size 1 1) (W:c.length<=1000000) (V:B<=w0.heap.size)
  (K:∀g m d j,j.cell? (Ja P 4)=some lv->j.frozen? (Ja P 4)=false->LAt (j.setCell (Ja P 4) (Jl g m d)) P B h p f N (c++[(G,E,A)]) n D (Jl g m d)->Touch (LS P lv) w0 (j.setCell (Ja P 4) (Jl g m d))->(lv.ownBlock=some g\/w0.heap.size<=g)->wpList prog v Q r (a.put o.dst (Jl g m d)) j) :
  wpList prog v Q (o :: r) a (w0.alloc (.cells #[Ji G,Ji E,.bool A] 337)):=by
 refine QxC t _ z b S I O q w0 _ _ _ rfl rfl rfl H s x R B lv c.length (evs c) U k.own hx (by omega) V ?_
 intro g d j L y T;have l:Jh j P #[Jt h,Jt p,Jt f,D,lv,Ji (n:Int)] 136:=(y.block P k.lt (fun e=>k.lne e.symm)).trans k.blk
 have M:∀b,Qkj D=some b->j.heap[b]?=w0.heap[b]?:=fun b q=>y.block b (k.rlt b q) (fun e=>k.rl b q e.symm)
 have J:j.ownsRow B 337 3 (Jl g (c.length+1) d) (c++[(G,E,A)]).length (evs (c++[(G,E,A)])):=by
  rw[QtD,qG];exact L
 obtain⟨-,-,f4,-⟩:=Qi5 l;obtain⟨⟨-,-,-,-,c4,-⟩,-⟩:=Qi5 l;refine K g _ d j c4 f4 ⟨Qyb l _,(k.hold.kept y.size M).set _ _ k.rne,fun b q=>?_,Qac J (fun g hg=>JO _ _ _ _ (fun e=>QaR L l (by decide) (by rw[hg];exact congrArg some e)))⟩ ?_ T
 ·obtain⟨C,hC⟩:=k.tag b q
  exact⟨C,(JO _ _ _ _ (k.rne b q)).trans ((M b q).trans hC)⟩
 ·exact Qaj _ (Touch.of_grown y (fun g hg=>.inl (.inr hg))) (.inl (.inl rfl))
theorem Qrs:(prog.info? 137).map (fun i=>(i.zero,i.size,i.bytes))=some (some (.agg #[Jb 0,Ji 0,Jt ByteArray.empty]),3,32):=by kernel_rfl
theorem Qrt:(prog.info? 337).map (fun i=>(i.zero,i.size,i.bytes))=some (some (.agg #[Ji 0,Ji 0,.bool false]),3,24):=by kernel_rfl
theorem Qx9:(prog.info? 137).map (·.size)=some 3:=by kernel_rfl
def QC9(N:Nat):JW:=madeCells #[Jb 0,Ji 0,Jt ByteArray.empty] (N*3)
theorem Qv2(N:Nat)(h:N<=1000000)(w:World):(Instr.makeSlice 78 (Ji (N:Int)) (Ji (N:Int))).run prog w=.ok (Jl w.heap.size N N) (w.alloc (.cells (QC9 N) 137)):=
 QuV (P:=prog) _ _ _ 3 32 underlying78 Qrs (by decide) N h w
theorem Qug(N:Nat):(QC9 N).size=N*3:=size_madeCells _ _
theorem Qv5{w:World}{v:Value}{l:List Flt}(b:HoldsC w v l)(c:l.length<=1000000):∃W',(∀ty,(Builtin.copy_ #[78,78] ty #[Jl w.heap.size l.length l.length,v]).run prog (w.alloc (.cells (QC9 l.length) 137))=.ok (Ji l.length) W')/\W'.ownsRow w.heap.size 137 3 (Jl w.heap.size l.length l.length) l.length (Qid l)/\Jw w W':=by
 have a:Jw w (w.alloc (.cells (QC9 l.length) 137)):=(qF _ _).alloc (qC _) _;obtain⟨W2,hcp,ho,ht⟩:=QtL (P:=prog) 78 78 137 underlying78 Qx9 (JI w (.cells (QC9 l.length) 137)) (Qug _) (b.below a) c;exact⟨W2,hcp,ho,a.trans (ht.below (fun g hg=>by rw[show g=w.heap.size from hg];exact qC _) a.size)⟩
def QxG(h p f:JA)(l:List Flt)(w:World)(e:Ending)(w':World):Prop:=
 ∃b rv,e=.returned (.tuple #[Jp b,Ji 0])/\w.heap.size<=b/\LAt w' b w.heap.size h p f l [] 0 rv (.slice none 0 0)/\(∀g,Qkj rv=some g->w.heap.size<=g)/\Jw w w'
theorem Qy1(h p f:JA)(v:Value)(l:List Flt)(w:World)(B:QhS h.data.toList p.data.toList=0)(y:HoldsC w v l)(x:l.length<=1000000) :
  Calls prog 19 #[.agg #[Jt h,Jt p,Jt f],v] w (QxG h p f l w):=by
 obtain⟨a,c,hvv,-⟩:=y.len;subst hvv;have z:=Z (fun w=>QhR h p f w)
 rw[B] at z;have r:=Z (QiH w (Jt h) (Jt p) (Jt f));have n:=Z (JI w (.cells #[Jt h,Jt p,Jt f] 77));have t:Hi ((w.alloc (.cells #[Jt h,Jt p,Jt f] 77)).heap.size=w.heap.size+1):=Z (by simp)
 have G:=Z (fun W (C:Jw w W)=>Qv5 (y.below C) x)
 have E:=Qv2 l.length x;obtain⟨o0,o1,o2,-,-,-⟩:=Qas n.o;clear B y x;go_enter func19,ntmps19;go_wp2_with fail;refine (z.o _).mono ?_;rintro e q ⟨rfl,j⟩;have b:=(j.block w.heap.size (by have:=t.o;omega)).trans n.o
 have m:=Z (Qaa r.o j);have d:w.heap.size<q.heap.size:=(gsi b).1;obtain⟨W2,hcp,ho2,hb2⟩:=G.o q m.o;have k:=(hb2.block w.heap.size d).trans b;have D:=Z ho2;have i:=Z (Qaa m.o hb2);have s:=Z d;clear j o0 o1 o2 b ho2 hb2 d;obtain⟨o0,o1,o2,-,-,-⟩:=Qas k;clear k;go_wp2_with (at_builtin;refine Go.Proofs.wpList_copy_runI _ rfl _ _ 78 78 rfl _ _ rfl rfl (hcp _) ?_);go_ret2;refine⟨_,_,rfl,i.o.size,LAt.new D.o (JZ _ _ _ _),fun g hg=>?_,i.o.alloc i.o.size _⟩
 have A:some q.heap.size=some g:=hg;injection A with A
 have:=s.o;omega
def QiL(w:World)(P B:Nat)(h p f:JA)(rest:List Flt)(log:List Evt)(n:Nat)(rv lv:Value)(X:Flt)(e:Ending)(w':World):Prop:=
 e=.returned (.agg #[Jb X.1,Ji X.2.1,Jt X.2.2])/\∃rv',LAt w' P B h p f rest log n rv' lv/\Touch (fun g=>g=P) w w'/\∀g,Qkj rv'=some g->Qkj rv=some g
theorem Qmq(w:World)(b:Nat)(t:JT)(a d c:Value)(h:w.heap[b]?=some (.cells #[a,d,c] t (0,0))):(loadVar 137 (Ja b 0)).run prog w=.ok (.agg #[a,d,c]) w:=
 run_loadVar_row w b t 137 #[a,d,c] (0,0) _ h underlying137 rfl (by kernel_rfl)
theorem Qfm(w:World)(x y z:Value):Jw w (w.alloc (.cells #[x,y,z] 137)):=(qF _ _).alloc (qC _) _
theorem QkB{w:World}{P B:Nat}{h p f:JA}{i:List Evt}{n:Nat}{l lv:Value}(k:LAt w P B h p f [] i n l lv) :
  Calls prog 216 #[Jp P] w (QiL w P B h p f [] i n l lv noF):=by
 have b:=Qfm w (Jb 0) (Ji 0) (Jt ⟨#[]⟩);have d:=JI w (.cells #[Jb 0,Ji 0,Jt ⟨#[]⟩] 137);obtain⟨⟨-,-,-,c3,-,-⟩,-⟩:=(k.below b).cells;obtain⟨-,-,-,g0,g1,g2⟩:=Qas d;obtain⟨a,c,hrv,-⟩:=k.hold.len;have q:=Z (k.below b);have j:=Z b;have m:=Z d;rw[hrv] at c3;simp only[List.length_nil] at c3;clear k hrv b d;go_enter func216,ntmps216;go_wp2_with fail;refine Qel (A:=(Ja w.heap.size 0)) rfl (Qmq _ _ _ _ _ _ m.o) rfl rfl ?_;exact⟨rfl,l,q.o,Touch.of_below j.o,fun g hg=>hg⟩
theorem QkA{w:World}{P B:Nat}{h p f:JA}{x:Flt}{l:List Flt}{m:List Evt}{n:Nat}{D lv:Value}(k:LAt w P B h p f (x :: l) m n D lv)(M:l.length<=1000000) :
  Calls prog 216 #[Jp P] w (QiL w P B h p f l m n D lv x):=by
 obtain⟨x1,x2,x3⟩:=x;have J:=k.lt;have j:=Qfm w (Jb 0) (Ji 0) (Jt ⟨#[]⟩);have v:=k.below j;obtain⟨⟨-,-,-,a3,-,-⟩,-⟩:=v.cells;obtain⟨b,o,c,hrv,hc,hlt,-,-,-,hh⟩:=k.hold.first;subst hrv;obtain⟨b',o',c',hrv,-,-,x0',x1',x2',-⟩:=v.hold.first;injection hrv with e1 e2 e3
 injection e1 with e1
 injection e1 with e1 e4
 subst e1 e3 e4;have s:=Qaa j (Qfm (w.alloc (.cells #[Jb 0,Ji 0,Jt ⟨#[]⟩] 137)) (Jb x1) (Ji x2) (Jt x3));obtain⟨⟨-,-,-,c3,-,-⟩,f3,-⟩:=(k.below s).cells;have i:=k.tag b rfl;obtain⟨V,hV⟩:∃V,V=Value.slice (some (if c=1 then (Ja b o) else (Ja b (o+3)))) l.length (c-1):=⟨_,rfl⟩
 rw[<-hV] at hh;have q:∀g,Qkj V=some g->g=b:=fun g a=>by
  rw[hV] at a
  by_cases e:c=1
  ·rw[JK e] at a;injection a with e1;exact e1.symm
  ·rw[JJ e] at a;injection a with e1;exact e1.symm
 have z:=k.setRest hh (fun g a=>by rw[q g a];exact i)
 have E:Touch (fun g=>g=P) w (w.setCell (Ja P 3) V):=Qaj _ (Touch.refl _ _) (.inl rfl)
 have r:=Qfm (w.setCell (Ja P 3) V) (Jb x1) (Ji x2) (Jt x3);have d:=Qfm ((w.setCell (Ja P 3) V).alloc (.cells #[Jb x1,Ji x2,Jt x3] 137)) (Jb x1) (Ji x2) (Jt x3);have a:(((w.setCell (Ja P 3) V).alloc (.cells #[Jb x1,Ji x2,Jt x3] 137)).alloc (.cells #[Jb x1,Ji x2,Jt x3] 137)).heap[w.heap.size]?=some (.cells #[Jb x1,Ji x2,Jt x3] 137 (0,0)):=by
  have y:=JI (w.setCell (Ja P 3) V) (.cells #[Jb x1,Ji x2,Jt x3] 137);rw[QbE] at y;exact (d.block w.heap.size (gsi y).1).trans y
 have C:=Z a;have H:Hi (QiL w P B h p f l m n (.slice (some (Ja b o)) (l.length+1) c) lv (x1,x2,x3) (.returned (.agg #[Jb x1,Ji x2,Jt x3])) (((w.setCell (Ja P 3) V).alloc (.cells #[Jb x1,Ji x2,Jt x3] 137)).alloc (.cells #[Jb x1,Ji x2,Jt x3] 137))):=Z ⟨rfl,V,(z.below r).below d,(E.trans (Touch.of_below (S:=fun g=>g=P) r) (fun g a=>.inl a)).trans (Touch.of_below (S:=fun g=>g=P) d) (fun g a=>.inl a),fun g a=>by rw[q g a];rfl⟩
 have K:(1:Int)<=(l.length:Int)+1:=by omega
 have L:¬((0:Int)=(l.length:Int)+1):=by omega
 have I:((l.length:Int)+1==0)=false:=by rw[qI];omega
 have G:(0:Int)<(l.length:Int)+1:=by omega
 clear k v hh i j s z E r d a q e2
 by_cases t:c=1
 ·subst t
  obtain rfl:l = []:=List.length_eq_zero_iff.1 (by omega)
  rw[JK rfl] at hV;subst hV;go_enter func216,ntmps216;go_wp2_with fail;refine Qel (A:=(Ja w.heap.size 0)) rfl (Qmq _ _ _ _ _ _ C.o) rfl rfl ?_;exact H.o
 ·rw[JJ t] at hV
  subst hV;go_enter func216,ntmps216;go_wp2_with fail;refine Qel (A:=(Ja w.heap.size 0)) rfl (Qmq _ _ _ _ _ _ C.o) rfl rfl ?_;exact H.o
theorem Qwd{w:World}{P B:Nat}{h p f:JA}{a:List Flt}{b:List Evt}{n:Nat}{c lv:Value}(k:LAt w P B h p f a b n c lv)(d:a.length<=1000000) :
  Calls prog 216 #[Jp P] w (QiL w P B h p f a.tail b n c lv (a.headD noF)):=by
 cases a with
 |nil=>exact QkB k
 |cons x t=>
  have g:t.length<=1000000:=by rw[qH] at d;omega
  exact QkA k g
structure FltOk(x:Flt):Prop where
 k0:0<=x.1
 n0 : -9223372036854775808<=x.2.1
 n1:x.2.1<=9223372036854775807
 t:x.2.2.size<=10000
theorem QDt:FltOk noF:=⟨by decide,by decide,by decide,by decide⟩
def QxQ(w:World)(P B:Nat)(h p f:JA)(rest:List Flt)(log:List Evt)(n:Nat)(rv lv:Value)(s:JA)(e:Ending)(w':World):Prop:=
 e=.returned (Jt (QkD h p f (rest.headD noF) s))/\∃rv' lv',LAt w' P B h p f rest.tail (log++[evK h p f (rest.headD noF) s]) (n+QAK (QgF h p f (rest.headD noF) s)) rv' lv'/\Touch (LS P lv) w w'/\(∀g,Qkj rv'=some g->Qkj rv=some g)/\∀g,lv'.ownBlock=some g->lv.ownBlock=some g\/w.heap.size<=g
theorem QDg{P:Nat}{lv:Value}{w w':World}(h:Touch (fun g=>g=P) w w'):Touch (LS P lv) w w':=h.mono (fun _ hg=>.inl hg)
theorem Qy2{w:World}{P B:Nat}{h p f:JA}{b:List Flt}{q:List Evt}{n:Nat}{rv lv:Value}(s:JA)(k:LAt w P B h p f b q n rv lv)(hE:∀W,Touch (LS P lv) w W->EnvF W)(hs:s.size<=1000000)(hf:f.size<=100000)(hx:FltOk (b.headD noF))(V:b.length<=1000000)(J:q.length<=1000000)(hn:n<=1000000)(hB:B<=w.heap.size) :
  Calls prog 176 #[Jp P,Jt s] w (QxQ w P B h p f b q n rv lv s):=by
 obtain⟨⟨c0,c1,c2,c3,c4,c5⟩,f3,f4,f5⟩:=k.cells;obtain⟨X,hX⟩:∃X,b.headD noF=X:=⟨_,rfl⟩;have v:=Z (fun W (kk:LAt W P B h p f b q n rv lv)=>Qwd kk V)
 unfold QxQ;rw[hX] at hx v ⊢;have I:=QkL h p f s (by omega)
 have c:=Qp3 h p f X s;have HA:Hi (∀W,Jw w W->Calls prog 214 #[.agg #[Jt h,Jt p,Jt f],Jt s] W (JB (Jt (Qc4 h p f s)) W)):=Z (fun W M=>Qmh h p f s W ((hE w (Touch.refl _ _)).below M) hs (by omega))
 have l:Hi (∀W,Touch (LS P lv) w W->Calls prog 215 #[.agg #[Jb X.1,Ji X.2.1,Jt X.2.2],Jt (Qc4 h p f s)] W (JB (Jt (QkD h p f X s)) W)):=Z (fun W M=>Qqj X.1 X.2.1 X.2.2 (Qc4 h p f s) W (hE W M).weak hx.k0 hx.n0 hx.n1 hx.t (by omega))
 have i:Hi (evK h p f X s=((s.size:Int),((QkD h p f X s).size:Int),QgF h p f X s)):=Z rfl;generalize evK h p f X s=EV at i ⊢;generalize Qc4 h p f s=Wh at I c HA l;generalize QkD h p f X s=G at c l i ⊢;generalize QgF h p f X s=hb at c i ⊢;obtain⟨x1,x2,x3⟩:=X;have HK:=Z k;have N:=Z (fun W (M:Jw w W)=>k.below M)
 have j:=Z (qE hB (qE J hn));have tw:IntKind.i64.wrap ((n:Int)+1)=(n:Int)+1:=by rw[JR];omega
 clear k hE hs hf hx V hX I c3 c4 c5 f3 f4 f5 hB J hn;go_enter func176,ntmps176;go_wp2_with fail;refine (HA.o _ (qF _ _)).mono ?_;rintro e wa ⟨rfl,L⟩;have y:Hi (Jw w wa):=Z L;clear L;clear c0 c1 c2;go_wp2_with fail;refine (v.o _ (N.o _ y.o)).mono ?_;rintro e w2 ⟨rfl,U,k2,t2,K⟩;have E:=Z ((Touch.of_below (S:=LS P lv) y.o).trans (QDg (lv:=lv) t2) (fun g hg=>.inl hg))
 have T:=Z k2;have R:=Z K;clear k2 t2 K v N;go_wp2_with fail;refine (l.o _ E.o).mono ?_;rintro e w3 ⟨rfl,H⟩;have t:=Z (T.o.below H);have d:=Z (E.o.trans (Touch.of_below (S:=LS P lv) H) (fun g hg=>.inl hg))
 obtain⟨⟨c0,c1,c2,c3,c4,c5⟩,f3,f4,f5⟩:=t.o.cells;clear H E T l HA y;cases hb with
 |true=>
  have O:(G.toList==Wh.toList)=false:=by rw[eq_comm,Bool.not_eq_true'] at c;exact c
  have qb:¬(G.toList=Wh.toList):=by rw[qI] at O;exact O
  have D:=Z (t.o.setHarm (m:=n+1));have r:=Z (Qaj (a:=(Ja P 5)) (Ji ((n+1:Nat):Int)) d.o (.inl (.inl rfl)));have qa:=D.o.cells.1.2.2.2.2.1;rw[show ((n+1:Nat):Int)=(n:Int)+1 from Int.natCast_add n 1] at D r qa;clear c t d;go_wp2_with (at_builtin;go_loud (refine Qlx 134 _ 24 underlying134 Qrt rfl (by decide) _ D.o _ _ _ (by rfl) _ _ (by rfl) (by rfl) (by rw[QbE];rfl) j.o.2.1 (qD j.o.1 r.o.size) ?_);intro g m x w6 qc Y C z A)
  go_ret;refine⟨rfl,U,Jl g m x,?_,r.o.trans z (fun g hg=>.inl hg),R.o,fun g' hg'=>?_⟩
  ·rw[i.o];exact C
  ·injection hg' with e
   subst e;exact A.imp id (fun h=>qD r.o.size h)
 |false=>
  have O:(G.toList==Wh.toList)=true:=by rw[eq_comm,Bool.not_eq_false'] at c;exact c
  have qb:G.toList=Wh.toList:=by rw[beq_iff_eq] at O;exact O
  clear c;go_wp2_with (at_builtin;go_loud (refine Qlx 134 _ 24 underlying134 Qrt rfl (by decide) _ t.o _ _ _ (by rfl) _ _ (by rfl) (by rfl) (by rfl) j.o.2.1 (qD j.o.1 d.o.size) ?_);intro g m x w6 qc Y C z A)
  go_ret;refine⟨rfl,U,Jl g m x,?_,d.o.trans z (fun g hg=>.inl hg),R.o,fun g' hg'=>?_⟩
  ·rw[i.o];exact C
  ·injection hg' with e
   subst e;exact A.imp id (fun h=>qD d.o.size h)
theorem Qzv(l:List Evt):Qch l<=l.length:=List.countP_le_length
theorem drop_tail(l:List Flt)(k:Nat):(l.drop k).tail=l.drop (k+1):=by rw[List.tail_drop]
theorem QvN(h p f s:JA):QAK (QgF h p f noF s)=0:=by rw[Qn5];rfl
structure KL(w0 w:World)(P:Nat)(h p f:JA)(rest:List Flt)(log:List Evt)(n:Nat)(rv lv:Value):Prop where
 a:LAt w P w0.heap.size h p f rest log n rv lv
 lo:w0.heap.size<=P
 bel:Jw w0 w
theorem KL.low{w0 w:World}{P:Nat}{h p f:JA}{a:List Flt}{b:List Evt}{n:Nat}{c lv:Value}(k:KL w0 w P h p f a b n c lv):∀g,LS P lv g->w0.heap.size<=g:=fun g hg=>by
 rcases hg with rfl|hg
 ·exact k.lo
 ·exact (k.a.own.lt g hg).1
theorem KL.step{w0 w w':World}{P:Nat}{h p f:JA}{a:List Flt}{b:List Evt}{n:Nat}{c lv:Value}(k:KL w0 w P h p f a b n c lv)(d:Jw w w'):KL w0 w' P h p f a b n c lv:=⟨k.a.below d,k.lo,Qaa k.bel d⟩
theorem KL.env{w0 w:World}{P:Nat}{h p f:JA}{a:List Flt}{b:List Evt}{n:Nat}{d lv:Value}(k:KL w0 w P h p f a b n d lv)(c:EnvF w0):∀W,Touch (LS P lv) w W->EnvF W:=fun W ht=>
 c.below (k.bel.trans (ht.below k.low k.bel.size))
def KAsk(w0 w:World)(P:Nat)(h p f:JA)(rest:List Flt)(log:List Evt)(n:Nat)(rv lv:Value)(s:JA)(e:Ending)(w':World):Prop:=
 e=.returned (Jt (QkD h p f (rest.headD noF) s))/\∃rv' lv',KL w0 w' P h p f rest.tail (log++[evK h p f (rest.headD noF) s]) (n+QAK (QgF h p f (rest.headD noF) s)) rv' lv'/\Touch (LS P lv) w w'/\∀g,lv'.ownBlock=some g->lv.ownBlock=some g\/w.heap.size<=g
theorem KL.ask{w0 w:World}{P:Nat}{h p f:JA}{a:List Flt}{b:List Evt}{n:Nat}{l lv:Value}(k:KL w0 w P h p f a b n l lv)(m:EnvF w0)(s:JA)(v:s.size<=1000000)(q:f.size<=100000)(hx:FltOk (a.headD noF))(d:a.length<=1000000)(c:b.length<=1000000)(x:n<=1000000) :
  Calls prog 176 #[Jp P,Jt s] w (KAsk w0 w P h p f a b n l lv s):=by
 refine (Qy2 s k.a (k.env m) v q hx d c x k.bel.size).mono ?_;rintro e w' ⟨rfl,i,g,t,j,-,r⟩;exact⟨rfl,i,g,⟨t,k.lo,k.bel.trans (j.below k.low k.bel.size)⟩,j,r⟩
theorem KL.new{w0 w w':World}{h p f:JA}{l:List Flt}{e:Ending}(c:Jw w0 w)(d:QxG h p f l w e w'):∃P rv,e=.returned (.tuple #[Jp P,Ji 0])/\w.heap.size<=P/\KL w0 w' P h p f l [] 0 rv (.slice none 0 0)/\Jw w w':=by
 obtain⟨b,rv,rfl,h1,h2,h3,h4⟩:=d;have a:=c.size;exact⟨b,rv,rfl,h1,⟨⟨h2.blk,h2.hold,h2.tag,Qhi h2.own a⟩,qD a h1,Qaa c h4⟩,h4⟩
theorem QAP{l:List Flt}(h:∀x∈l,FltOk x)(k:Nat):FltOk ((l.drop k).headD noF):=by
 cases e:l.drop k with
 |nil=>exact QDt
 |cons x t=>exact h x (List.mem_of_mem_drop (by rw[e];exact JF ..))
def Quc(l:List Flt)(w:World)(e:Ending)(w':World):Prop:=
 ∃a c,e=.returned (.slice a l.length c)/\w'.ownsRow w.heap.size 137 3 (.slice a l.length c) l.length (Qid l)/\Jw w w'
theorem QnW(v:Value)(l:List Flt)(w:World)(s:HoldsC w v l)(hlen:l.length<2147483647) :
  Calls prog 20 #[v] w (Quc l w):=by
 obtain⟨a,c,rfl,hc,hx⟩:=s;have n:=Z hx;clear hx;go_enter func20,ntmps20;go_wp2_with fail;go_loopw [3,4] (fun u i wr=>∃k:Nat,k<=l.length/\i = Ji k/\wr.ownsRow w.heap.size 137 3 u k (Qid (l.take k))/\Jw w wr) (fun _ i _=>l.length-(intOf i).toNat)
 case atStart=>exact⟨0,by omega,rfl,JZ _ _ _ _,qF _ _⟩
 case round=>
  obtain⟨k,hk,rfl,QE2,hb⟩:=hrel
  by_cases d:k<l.length
  ·obtain⟨b,o,rfl,hbl,Qak⟩:=n.o (fun e=>by rw[e] at d;exact JN d (JH _))
   obtain⟨y0,y1,y2⟩:=Qak k d;rw[Nat.mul_comm 3 k] at y0 y1 y2;have x:=(hb.cell (p:=(Ja b (o+k*3))) hbl).trans y0;have y:=(hb.cell (p:=(Ja b (o+k*3+1))) hbl).trans y1;have q:=(hb.cell (p:=(Ja b (o+k*3+2))) hbl).trans y2;have f:Qid (l.take (k+1))=Qid (l.take k)++[Jb l[k].1,Ji l[k].2.1,Jt l[k].2.2]:=by rw[qV d,Qqc];rfl
   obtain⟨X,hX⟩:∃X,l[k]=X:=⟨_,rfl⟩;rw[hX] at x y q f;obtain⟨x1,x2,x3⟩:=X;have h:=Z f;clear Qak n y0 y1 y2 hX f;go_wp2_with (at_builtin;go_loud (refine QxC 78 137 _ 32 underlying78 Qrs rfl (by decide) wr (Jb x1) (Ji x2) (Jt x3) rfl rfl rfl (by rfl) _ _ (by rfl) w.heap.size _ k _ (by rfl) QE2 (by rfl) (by omega) hb.size ?_);intro g t z j m r)
   go_roundw
   case rel=>exact⟨k+1,by omega,by go_num,by rw[h.out];exact j,Qbu hb m QE2 (qC _) hb.size⟩
   case measure=>simp[intOf];omega
  ·obtain rfl:k=l.length:=by omega
   rw[List.take_length] at QE2;obtain⟨a',c',rfl⟩:=Qat QE2;go_wp2;go_ret;exact⟨_,_,rfl,QE2,hb⟩
theorem Qiz{H:Type}{a:JT×Value->H}{W:World}{n:Nat}{cs:JV}{x:DataW H×List MemPlace}(h:DataW.trod a prog W 0 (fun _=>true) true n 3 cs=some x):∃k:Int,cs = [Ji k]/\(Lit.int .i64 k).wf=true:=by
 obtain⟨k,h1,h2,h3⟩:=DataW.trod_int underlying3 h;exact⟨k,h1,h3⟩
def QdI(W:World)(v:Value)(l:List Flt):Prop:=HoldsC W v l/\(∀x∈l,(Lit.int .u8 x.1).wf=true/\(Lit.int .i64 x.2.1).wf=true)/\l.length<=maxLen
theorem QBc{H:Type}{a:JT×Value->H}{W:World}{n:Nat}{cs:JV}{x:DataW H×List MemPlace}(h:DataW.trod a prog W 0 (fun _=>true) true n 5 cs=some x):∃k:Int,cs = [Jb k]/\(Lit.int .u8 k).wf=true:=by
 obtain⟨k,h1,h2,h3⟩:=DataW.trod_int underlying5 h;exact⟨k,h1,h3⟩
theorem QqU{H:Type}{a:JT×Value->H}{W:World}{n:Nat}{cs:JV}{x:DataW H×List MemPlace}(h:DataW.trod a prog W 0 (fun _=>true) true n 9 cs=some x):∃s:JA,cs = [Jt s]/\s.size<=maxLen:=by
 obtain⟨k,h1,h2,h3⟩:=DataW.trod_string underlying9 h;exact⟨k,h1,h3⟩
theorem QDz{α:Type}{l:List α}(h:l.length=3):∃a b c,l = [a,b,c]:=by
 match l,h with
 |[a,b,c],_=>exact⟨a,b,c,rfl⟩
theorem Qh2{H:Type}{l:JT×Value->H}{W:World}{b:Option Addr}{n c:Nat}{d:DataW H}{p:List MemPlace}
  (h:DataW.Trod l prog W 0 (fun _=>true) true 23 (.slice b n c) d p):∃fs,QdI W (.slice b n c) fs:=by
 obtain⟨fuel,t⟩:=h;rcases Go.Deep.open_slice underlying23 t with⟨hcs,_⟩|⟨a,len,cap,m,q,D,Pl,hcs,_,hl,hm,hmm,_,hi⟩
 ·simp[Value.cells] at hcs
  obtain⟨rfl,rfl,rfl⟩:=hcs;exact⟨[],HoldsC.empty W none 0,fun f t=>by simp at t,by unfold maxLen;simp⟩
 ·simp[Value.cells] at hcs
  obtain⟨rfl,rfl,rfl⟩:=hcs;have N:prog.cellsOf 132=3:=by kernel_rfl
  have x:prog.cellsOf 5=1:=by kernel_rfl
  have z:prog.cellsOf 3=1:=by kernel_rfl
  have B:prog.cellsOf 9=1:=by kernel_rfl
  have key:∀i,∃f:Flt,i<n->W.cell? (a.add (i*3))=some (Jb f.1)/\W.cell? (a.add (i*3+1))=some (Ji f.2.1)/\W.cell? (a.add (i*3+2))=some (Jt f.2.2)/\(Lit.int .u8 f.1).wf=true/\(Lit.int .i64 f.2.1).wf=true:=by
   intro i
   by_cases C:i<n
   ·obtain⟨cs',hc',ht⟩:=hi i (by rw[hmm];simp;omega)
    rw[N] at hc';obtain⟨_,hcl,Qak⟩:=World.cells?_some hc';obtain⟨xs,k,_,_,hcl2,hxl,hg⟩:=DataW.trod_struct underlying132 ht;obtain⟨u0,u1,u2,rfl⟩:=QDz hcl;have I:xs.length=3:=hxl;obtain⟨z0,z1,z2,rfl⟩:=QDz I;have L:DataW.trod l prog W 0 (fun _=>true) true k 5 (([u0,u1,u2].drop 0).take (prog.cellsOf 5))=some z0:=hg 0 _ rfl
    have M:DataW.trod l prog W 0 (fun _=>true) true k 3 (([u0,u1,u2].drop 1).take (prog.cellsOf 3))=some z1:=hg 1 _ rfl
    have K:DataW.trod l prog W 0 (fun _=>true) true k 9 (([u0,u1,u2].drop 2).take (prog.cellsOf 9))=some z2:=hg 2 _ rfl
    rw[x] at L;rw[z] at M;rw[B] at K;obtain⟨l0,e0,b0⟩:=QBc L;obtain⟨l1,e1,b1⟩:=Qiz M;obtain⟨l2,e2,b2⟩:=QqU K;have J:=Qak 0 (by omega)
    have y:=Qak 1 (by omega)
    have A:=Qak 2 (by omega)
    rw[Go.Deep.add_add] at J y A;simp at e0 e1 e2 J y A;subst e0 e1 e2;exact⟨(l0,l1,l2),fun _=>⟨J,y,A,b0,b1⟩⟩
   ·exact⟨(0,0,⟨#[]⟩),fun h=>JN h C⟩
  obtain⟨g,hg⟩:=Classical.skolem.1 key;have hlen:((List.range n).map g).length=n:=by simp
  refine⟨(List.range n).map g,⟨some a,c,by rw[hlen],by rw[hlen];exact hl,fun hne=>?_⟩,?_,by rw[hlen];omega⟩
  ·have v:0<n:=by
    rcases Nat.eq_zero_or_pos n with s|s
    ·subst s;simp at hne
    ·exact s
   have s:=(hg 0 v).1;obtain⟨b,o,sp⟩:=a;have E:sp=none:=by simpa[Addr.add] using World.cell?_spot s
   subst E;have G:∀k,((Ja b o):Addr).add k=(Ja b (o+k)):=fun k=>by unfold Addr.add;split<;>simp_all
   refine⟨b,o,rfl,by have:=World.block_lt_of_cell? _ _ s;simpa[Addr.add] using this,fun j hj=>?_⟩
   rw[hlen] at hj;have r:=hg j hj;rw[G,G,G,Nat.mul_comm j 3] at r;rw[List.getElem_map,List.getElem_range];exact⟨r.1,r.2.1,r.2.2.1⟩
  ·intro f t
   obtain⟨i,hi',rfl⟩:=List.mem_map.1 t;exact (hg i (List.mem_range.1 hi')).2.2.2
def Qmg(l:List Flt)(most:Nat):Bool:=l.any (fun x=>decide (300<x.2.2.size))||decide (most<l.length)
theorem QyE{l:List Flt}{a:Nat}(h:Qmg l a=false):l.length<=a/\∀x∈l,x.2.2.size<=300:=by
 unfold Qmg at h;rw[Bool.or_eq_false_iff,decide_eq_false_iff_not,List.any_eq_false] at h;exact⟨by omega,fun x hx=>by have:=h.1 x hx;simpa using this⟩
theorem QBO(v:Value)(l:List Flt)(N:Nat)(w:World)(D:N<=100000)(A:HoldsC w v l)(C:l.length<=maxLen) :
  Calls prog 18 #[v,Ji N] w (JS (.bool (Qmg l N)) w):=by
 obtain⟨a,c,rfl,hc,hx⟩:=A;unfold maxLen at C;have s:=Z hx;have q:Hi (∀k (n:k<l.length),300<l[k].2.2.size->Qmg l N=true):=Z (fun k n h=>by unfold Qmg;rw[List.any_eq_true.2 ⟨l[k],JG n,qA h⟩];rfl)
 have y:Hi ((∀k (n:k<l.length),¬300<l[k].2.2.size)->Qmg l N=decide (N<l.length)):=Z (fun h=>by
  unfold Qmg;rw[List.any_eq_false.2 (fun x hx=>by obtain⟨j,f,rfl⟩:=List.getElem_of_mem hx;have:=h j f;simpa using this),Bool.false_or])
 clear hx;generalize Qmg l N=B at q y ⊢;go_enter func18,ntmps18;go_wp2_with fail;go_loop [5] (fun i=>∃k:Nat,k<=l.length/\i = Ji k/\Hi (∀j (f:j<l.length),j<k->¬300<l[j].2.2.size)) (fun i=>l.length-(intOf i).toNat)
 case atStart=>exact⟨0,by omega,rfl,Z (fun j f h=>JN h (JH _))⟩
 case round=>
  obtain⟨k,n,rfl,HK⟩:=hrel
  by_cases d:k<l.length
  ·obtain⟨b,o,rfl,hbl,Qak⟩:=s.o (fun e=>by rw[e] at d;exact JN d (JH _))
   obtain⟨-,-,c2⟩:=Qak k d;rw[Nat.mul_comm 3 k] at c2;have p:=Z (q.o k d);have g:¬300<l[k].2.2.size->Hi (∀j (f:j<l.length),j<k+1->¬300<l[j].2.2.size):=fun h=>Z (fun j f hjk=>by
    by_cases e:j=k
    ·subst e;exact h
    ·exact HK.o j f (by omega))
   clear Qak s q HK;generalize l[k].2.2=X at c2 p g
   by_cases m:300<X.size
   ·have z:decide ((X.size:Int)>300)=true:=qA (by omega)
    have t:=Z (p.out m);clear p g;go_wp2;go_ret;exact⟨by rw[t.o];rfl,rfl⟩
   ·have z:decide ((X.size:Int)>300)=false:=qB (by omega)
    have r:=g m;clear p g;go_wp2_with fail;go_round
    case rel=>exact⟨k+1,by omega,by go_num,r⟩
    case measure=>simp[intOf];omega
  ·obtain rfl:k=l.length:=by omega
   have t:=Z (y.o (fun j f=>HK.o j f f))
   clear y q s HK;go_wp2;go_ret;exact⟨by rw[t.o];rfl,rfl⟩
theorem QCw{l:List Flt}(h:∀x∈l,(Lit.int .u8 x.1).wf=true/\(Lit.int .i64 x.2.1).wf=true)(c:∀x∈l,x.2.2.size<=300):∀x∈l,FltOk x:=fun x hx=>by
 obtain⟨h1,h2⟩:=h x hx;have a:IntKind.u8.min<=x.1/\x.1<=IntKind.u8.max:=by simpa[Lit.wf] using h1
 have b:IntKind.i64.min<=x.2.1/\x.2.1<=IntKind.i64.max:=by simpa[Lit.wf] using h2
 have:=c x hx;exact⟨a.1,b.1,b.2,by omega⟩
theorem KL.far{w0 w w':World}{P:Nat}{h p f:JA}{a:List Flt}{c:List Evt}{n:Nat}{q lv:Value}(k:KL w0 w P h p f a c n q lv){X:Nat}{C:JW}{t:JT}(j:w.heap[X]?=some (.cells C t (0,0)))(s:t≠136)(r:t≠337)(v:t≠137)(i:w0.heap.size<=X)(m:Touch (fun g=>g=X) w w'):KL w0 w' P h p f a c n q lv:=by
 have d:Jw w0 w':=k.bel.trans (m.below (fun g hg=>by rw[show g=X from hg];exact i) k.bel.size)
 refine⟨k.a.touch m ?_ ?_ ?_,k.lo,d⟩
 ·intro e
  have l:=k.a.blk;rw[show _=X from e,j] at l;simp only[J8,Obj.cells.injEq] at l;exact s l.2.1
 ·intro b d e
  obtain⟨C',hC⟩:=k.a.tag b d;rw[show b=X from e,j] at hC;simp only[J8,Obj.cells.injEq] at hC;exact v hC.2.1
 ·intro b d e
  exact QaR k.a.own j r.symm (by rw[d];exact congrArg some e)
theorem Qlu{w0 w w':World}{P:Nat}{h p f:JA}{a:List Flt}{c:List Evt}{n:Nat}{l lv:Value}(k:KL w0 w P h p f a c n l lv){X:Nat}{C:JW}{t:JT}(b:w.heap[X]?=some (.cells C t (0,0)))(i:t≠136)(g:t≠337)(j:Touch (LS P lv) w w'):w'.heap[X]?=some (.cells C t (0,0)):=by
 refine (j.block X (gsi b).1 ?_).trans b;rintro (e|e)
 ·have d:=k.a.blk
  rw[<-e,b] at d;simp only[J8,Obj.cells.injEq] at d;exact i d.2.1
 ·exact QaR k.a.own b g.symm e
def QeP(s:JA)(a b t:Int):Nat:=
 if s.size=0 then 16
 else if Qdm s (QaO a b)≠0 then Qdm s (QaO a b)
 else if QhH s (QaO a b)<(s.size:Int) then 4
 else if Qks s (QaO a b)≠206 then 17
 else if Qde (Qcb s (QaO a b)) Qah≠0 then Qde (Qcb s (QaO a b)) Qah
 else if Qcn (QbB (Qcb s (QaO a b)) Qah)≠0 then Qcn (QbB (Qcb s (QaO a b)) Qah)
 else if Qdb (QbB (Qcb s (QaO a b)) Qah)≠a\/Qda (QbB (Qcb s (QaO a b)) Qah)≠b\/QdJ (QbB (Qcb s (QaO a b)) Qah)≠t then 19
 else if ((Qfp s (QaO a b)).length:Int)≠QaO a b then 18
 else 0
def Qrp(s:JA)(a b t:Int):JL:=if QeP s a b t=0 then Qfp s (QaO a b) else []
theorem Qza(s:JA)(a b t:Int)(h:QeP s a b t=0):s.size≠0/\Qdm s (QaO a b)=0/\(s.size:Int)<=QhH s (QaO a b)/\Qks s (QaO a b)=206/\Qde (Qcb s (QaO a b)) Qah=0/\Qcn (QbB (Qcb s (QaO a b)) Qah)=0/\(Qdb (QbB (Qcb s (QaO a b)) Qah)=a/\Qda (QbB (Qcb s (QaO a b)) Qah)=b/\QdJ (QbB (Qcb s (QaO a b)) Qah)=t)/\((Qfp s (QaO a b)).length:Int)=QaO a b:=by
 unfold QeP at h
 by_cases j:s.size=0
 ·rw[JK j] at h;exact JN h (by decide)
 rw[JJ j] at h
 by_cases f:Qdm s (QaO a b)=0
 ·rw[JJ (fun e=>e f)] at h
  by_cases l:QhH s (QaO a b)<(s.size:Int)
  ·rw[JK l] at h;exact JN h (by decide)
  rw[JJ l] at h
  by_cases i:Qks s (QaO a b)=206
  ·rw[JJ (fun e=>e i)] at h
   by_cases g:Qde (Qcb s (QaO a b)) Qah=0
   ·rw[JJ (fun e=>e g)] at h
    by_cases d:Qcn (QbB (Qcb s (QaO a b)) Qah)=0
    ·rw[JJ (fun e=>e d)] at h
     by_cases c:Qdb (QbB (Qcb s (QaO a b)) Qah)≠a\/Qda (QbB (Qcb s (QaO a b)) Qah)≠b\/QdJ (QbB (Qcb s (QaO a b)) Qah)≠t
     ·rw[JK c] at h;exact JN h (by decide)
     rw[JJ c] at h
     by_cases k:((Qfp s (QaO a b)).length:Int)=QaO a b
     ·exact⟨j,f,by omega,i,g,d,⟨Classical.byContradiction fun e=>c (.inl e),Classical.byContradiction fun e=>c (.inr (.inl e)),Classical.byContradiction fun e=>c (.inr (.inr e))⟩,k⟩
     ·rw[JK k] at h;exact JN h (by decide)
    ·rw[JK d] at h;exact JN h d
   ·rw[JK g] at h;exact JN h g
  ·rw[JK i] at h;exact JN h (by decide)
 ·rw[JK f] at h;exact JN h f
theorem Qro(s:JA)(a b t:Int)(i:s.size≠0)(g:Qdm s (QaO a b)=0)(k:(s.size:Int)<=QhH s (QaO a b))(h:Qks s (QaO a b)=206)(j:Qde (Qcb s (QaO a b)) Qah=0)(d:Qcn (QbB (Qcb s (QaO a b)) Qah)=0)(c:Qdb (QbB (Qcb s (QaO a b)) Qah)=a/\Qda (QbB (Qcb s (QaO a b)) Qah)=b/\QdJ (QbB (Qcb s (QaO a b)) Qah)=t)(f:((Qfp s (QaO a b)).length:Int)=QaO a b):QeP s a b t=0:=by
 unfold QeP;rw[JJ i,JJ (fun e=>e g),JJ (by omega),JJ (fun e=>e h),JJ (fun e=>e j),JJ (fun e=>e d),JJ (by rw[c.1,c.2.1,c.2.2];simp),JJ (fun e=>e f)]
theorem QwH(v:JL):Qde [(Qah,v)] Qah=0/\QbB [(Qah,v)] Qah=v:=by
 have a:QfI [(Qah,v)] Qah = [v]:=by unfold QfI;simp
 unfold Qde QbB;rw[a];exact⟨rfl,rfl⟩
theorem QnE(p h f:JL)(a b:Int)(g:Qg7 p h a b=0)(m:b<(f.length:Int))(l:f.length<=1000000)(s:JA)(j:s.data.toList=Qm2 p h a b) :
  QhS h p=0/\Qhj h p f s=206/\QpC h p f s = [(Qah,Qcm a b (f.length:Int))]/\Qpz h p f s=(f.take (b+1).toNat).drop a.toNat/\Qck a b (f.length:Int)=0/\(((f.take (b+1).toNat).drop a.toNat).length:Int)=QaO a b:=by
 obtain⟨g1,g2,g3⟩:=Qfo p h a b g;obtain⟨r1,r2,r3⟩:=QcP a b g3;obtain⟨e1,e2,e3,e4,e5,e6⟩:=QCV p h a b g (by omega) (by omega) s [] (by rw[qT];exact j)
 have d:QdZ a b (f.length:Int)=0:=by unfold QdZ;rw[JJ (fun h=>h g3),JJ (by omega)]
 have c:Qhj h p f s=206:=by
  unfold Qhj;rw[JJ (by rw[e1,e6,<-j,Qab];omega),JJ (by rw[e2,e3];simp),e4,e5,d,JJ (by decide)]
 have k:Qmi f s=a:=by unfold Qmi;rw[e4,e5];unfold QgS;rw[JK d]
 have i:Qkw f s=b:=by unfold Qkw;rw[e4,e5];unfold QgR;rw[JK d];split<;>omega
 refine⟨by unfold QhS;rw[JJ];rw[g1,g2];simp,c,by unfold QpC;rw[JK c,k,i],by unfold Qpz;rw[JK c,k,i],?_,?_⟩
 ·unfold Qck;rw[JJ (fun h=>h g3),JJ (by omega)]
 ·unfold QaO
  rw[JK g3,JC,qW];omega
theorem Qx1(T:JA)(a b t:Int)(j:Qck a b t=0)(i:T.size≠0)(g:Qdm T (QaO a b)=0)(k:(T.size:Int)<=QhH T (QaO a b))(h:Qks T (QaO a b)=206)(c:Qcb T (QaO a b) = [(Qah,Qcm a b t)])(f:((Qfp T (QaO a b)).length:Int)=QaO a b):QeP T a b t=0:=by
 obtain⟨u1,u2,u3,u4⟩:=Quw a b t j;have d:=QwH (Qcm a b t);exact Qro T a b t i g k h (by rw[c];exact d.1) (by rw[c,d.2];exact u1) (by rw[c,d.2];exact⟨u2,u3,u4⟩) f
theorem Qwl(p h f:JL)(a b:Int)(i:Qg7 p h a b=0)(l:b<(f.length:Int))(d:f.length<=1000000)(s:JA)(m:s.data.toList=Qm2 p h a b)(T:JA)(c:T.data.toList=QpB h p f s) :
  QeP T a b (f.length:Int)=0/\Qrp T a b (f.length:Int)=(f.take (b+1).toNat).drop a.toNat:=by
 obtain⟨e1,e2,e3,e4,e5,e6⟩:=QnE p h f a b i l d s m;have q:=Qiv h p f s;have j:=QpA h p f s d e1;rw[j] at c;obtain⟨t1,t2,t3,t4,t5⟩:=Ql2 (Qhj h p f s) (QpC h p f s) (Qpz h p f s) [] T (QaO a b) (Qiu h p f s d) (by omega) (by rw[c,qT]) (by rw[e4];omega)
 rw[e2] at t2;rw[e3] at t3;rw[e4] at t4;have k:T.size≠0:=by
  rw[<-Qab,c];unfold Qg5 Qag Qa2;simp
 have n:(T.size:Int)<=QhH T (QaO a b):=by rw[t5,<-Qab,c];exact Int.le_refl _
 have g:=Qx1 T a b (f.length:Int) e5 k t1 n t2 t3 (by rw[t4];exact e6)
 exact⟨g,by unfold Qrp;rw[JK g,t4]⟩
theorem QtB(c:Int)(d:List (List UInt8×JL))(x:JL)(S T:JA)(k n a:Int)(t:JL)(h:QeT c d=0)(hx:x.length<=1000000)(l:S.data.toList=Qg5 c d x)(f:T.data.toList=Qca k n t S)
  (m:Qdm T a=0):Qfp T a <+: x:=by
 have b:∀K,T.data.toList=(Qg5 c d x).take K->Qfp T a <+: x:=by
  intro K p;obtain⟨e1,e2⟩:=QuB c d x T a K h hx p m;rw[e1];exact List.prefix_refl _
 by_cases g:k=1
 ·exact b 0 (by rw[f,g];rfl)
 by_cases j:k=2
 ·refine b (max 0 (min n (S.size:Int))).toNat ?_
  rw[f,j,<-l];rfl
 obtain⟨i,y,hi,hy,he,hw⟩:=Qxz c d x S k n t h hx l g j;exact (Qx6 c d x T k n a t i y h hx hi hy (by rw[f,he]) hw m).1
theorem Qwm(p h f:JL)(a b:Int)(j:Qg7 p h a b=0)(m:b<(f.length:Int))(c:f.length<=1000000)(s:JA)(q:s.data.toList=Qm2 p h a b)(S T:JA)(i:S.data.toList=QpB h p f s)(k n:Int)(t:JL)(l:T.data.toList=Qca k n t S)(g:QeP T a b (f.length:Int)=0) :
  Qrp T a b (f.length:Int)=(f.take (b+1).toNat).drop a.toNat:=by
 obtain⟨e1,e2,e3,e4,e5,e6⟩:=QnE p h f a b j m c s q;have r:=Qiv h p f s;obtain⟨-,h2,-,-,-,-,-,h8⟩:=Qza T a b _ g;rw[QpA h p f s c e1] at i;have d:=QtB _ _ _ S T k n (QaO a b) t (Qiu h p f s c) (by omega) i l h2
 rw[e4] at d;unfold Qrp;rw[JK g];exact d.eq_of_length (by omega)
def QzA(h p f:JA)(l:List Flt)(S:JA)(n j:Nat):JA:=QkD h p f ((l.drop (n+j)).headD noF) S
def lgN(h p f:JA)(l:List Flt)(qs:List JA)(S:JA)(m:Nat):List Evt:=Qrj h p f l (qs++List.replicate m S)
theorem Qmt(h p f:JA)(l:List Flt)(a:List JA)(S:JA):lgN h p f l a S 0=Qrj h p f l a:=by unfold lgN;simp
theorem Qrm(h p f:JA)(l:List Flt)(a:List JA)(S:JA)(m:Nat):lgN h p f l a S (m+1)=lgN h p f l a S m++[evK h p f ((l.drop (a.length+m)).headD noF) S]:=by
 unfold lgN;rw[List.replicate_succ',<-qP,Qwc];have e:Qsz l (a++List.replicate m S)=l.drop (a.length+m):=by unfold Qsz;simp
 rw[e]
theorem QyX(h p f:JA):∀(b:List JA) (l:List Flt),(Qrj h p f l b).length=b.length:=by
 intro b
 induction b with
 |nil=>intro l;rfl
 |cons a t ih=>intro l;show (Qrj h p f l.tail t).length+1=_;rw[ih];rfl
theorem QpU(h p f:JA)(l:List Flt)(a:List JA)(S:JA)(m:Nat):(lgN h p f l a S m).length=a.length+m:=by
 unfold lgN;rw[QyX];simp
theorem QiB(h p f:JA)(l:List Flt)(a:List JA)(S:JA)(m:Nat):Qch (lgN h p f l a S (m+1))=Qch (lgN h p f l a S m)+QAK (QgF h p f ((l.drop (a.length+m)).headD noF) S):=by
 rw[Qrm,Qp9];rfl
theorem QAO(h p f:JA)(l:List Flt)(a:List JA)(S:JA)(m:Nat):Qch (lgN h p f l a S m)<=a.length+m:=by
 have:=Qzv (lgN h p f l a S m)
 rwa[QpU] at this
def QuY(e:Nat->Nat)(r:Nat):Option Nat:=(List.range (r+1)).find? (fun j=>e j==0)
theorem QuW(e:Nat->Nat)(r i:Nat)(b:i<=r)(h:∀j,j<i->e j≠0)(a:e i=0):QuY e r=some i:=by
 unfold QuY;rw[List.find?_range_eq_some];refine⟨by simp[a],List.mem_range.2 (by omega),fun j hj=>by simpa using h j hj⟩
theorem QuX(e:Nat->Nat)(r:Nat)(h:∀j,j<=r->e j≠0):QuY e r=none:=by
 unfold QuY;rw[List.find?_eq_none];intro j a;have:=h j (by have:=List.mem_range.1 a;omega)
 simpa using this
def QlX(e:Nat->Nat)(r:Nat):Nat:=match QuY e r with|some j=>j+1|none=>r+1
def QBt(e:Nat->Nat)(r:Nat):Nat:=match QuY e r with|some _=>0|none=>e r
def QxS(e:Nat->Nat)(r:Nat):Nat:=match QuY e r with|some _=>0|none=>23
def QBu(e:Nat->Nat)(r:Nat)(B:Nat->JL):JL:=match QuY e r with|some j=>B j|none=>[]
theorem Qgo(e:Nat->Nat)(r i:Nat)(B:Nat->JL)(a:i<=r)(h:∀j,j<i->e j≠0)(b:e i=0):QlX e r=i+1/\QBt e r=0/\QxS e r=0/\QBu e r B=B i:=by
 unfold QlX QBt QxS QBu;rw[QuW e r i a h b];exact⟨rfl,rfl,rfl,rfl⟩
theorem Qir(e:Nat->Nat)(r:Nat)(B:Nat->JL)(h:∀j,j<=r->e j≠0):QlX e r=r+1/\QBt e r=e r/\QxS e r=23/\QBu e r B = []:=by
 unfold QlX QBt QxS QBu;rw[QuX e r h];exact⟨rfl,rfl,rfl,rfl⟩
theorem Qjc(e:Nat->Nat)(r:Nat):(∃i,i<=r/\(∀j,j<i->e j≠0)/\e i=0)\/∀j,j<=r->e j≠0:=by
 cases a:QuY e r with
 |none=>
  right;intro j b;unfold QuY at a;rw[List.find?_eq_none] at a;have:=a j (List.mem_range.2 (by omega))
  simpa using this
 |some i=>
  left;unfold QuY at a;rw[List.find?_range_eq_some] at a;obtain⟨h1,h2,h3⟩:=a;exact⟨i,by have:=List.mem_range.1 h2;omega,fun j b=>by simpa using h3 j b,by simpa using h1⟩
theorem QBv(e:Nat->Nat)(r:Nat):1<=QlX e r/\QlX e r<=r+1:=by
 rcases Qjc e r with⟨i,hi,h1,h2⟩|h
 ·rw[(Qgo e r i (fun _=>[]) hi h1 h2).1];omega
 ·rw[(Qir e r (fun _=>[]) h).1];omega
def QeS(h p f:JA)(l:List Flt)(S:JA)(n:Nat)(a b t:Int)(j:Nat):Nat:=QeP (QzA h p f l S n j) a b t
def QxT(h p f:JA)(l:List Flt)(S:JA)(n:Nat)(a b t:Int)(j:Nat):JL:=Qrp (QzA h p f l S n j) a b t
theorem Qwv(h p f:JA)(l:List Flt)(a:List JA)(S:JA):∀m,(∀j,j<m->QgF h p f ((l.drop (a.length+j)).headD noF) S=true)->Qch (lgN h p f l a S m)=Qch (Qrj h p f l a)+m:=by
 intro m
 induction m with
 |zero=>intro _;rw[Qmt];rfl
 |succ m ih=>
  intro b;rw[QiB,ih (fun j h=>b j (by omega)),b m (by omega)]
  unfold QAK;rw[JK rfl];omega
theorem QkM(h p f s:JA):(Qc4 h p f s).data.toList=QpB h.data.toList p.data.toList f.data.toList s:=by unfold Qc4;rw[Qai]
theorem Qzz(h p f:JA)(x:Flt)(s:JA):(QkD h p f x s).data.toList=Qca x.1 x.2.1 x.2.2.data.toList (Qc4 h p f s):=by unfold QkD;rw[Qai]
theorem QnC(h p f:JA)(x:Flt)(S:JA)(a b:Int)(i:Qg7 p.data.toList h.data.toList a b=0)(k:b<(f.size:Int))(d:f.size<=1000000)(j:S.data.toList=Qm2 p.data.toList h.data.toList a b) :
  (QeP (QkD h p f x S) a b (f.size:Int)=0->Qrp (QkD h p f x S) a b (f.size:Int)=(f.data.toList.take (b+1).toNat).drop a.toNat)/\(QeP (QkD h p f x S) a b (f.size:Int)≠0->QgF h p f x S=true):=by
 have c:f.data.toList.length=f.size:=Qab f;refine⟨fun hj=>?_,fun hj=>?_⟩
 ·have:=Qwm p.data.toList h.data.toList f.data.toList a b i (by rw[c];exact k) (by rw[c];exact d) S j (Qc4 h p f S) (QkD h p f x S) (QkM h p f S) x.1 x.2.1 x.2.2.data.toList (Qzz h p f x S) (by rw[c];exact hj)
  rw[c] at this;exact this
 ·cases l:QgF h p f x S with
  |true=>rfl
  |false=>
   exfalso;have g:=Qp3 h p f x S;rw[l,eq_comm,Bool.not_eq_false',beq_iff_eq] at g;have:=Qwl p.data.toList h.data.toList f.data.toList a b i (by rw[c];exact k) (by rw[c];exact d) S j (QkD h p f x S) (by rw[<-J7,g,J7];exact QkM h p f S)
   rw[c] at this;exact hj this.1
theorem QuU(h p f:JA)(l:List Flt)(c:List JA)(S:JA)(a b:Int)(r:Nat)(g:Qg7 p.data.toList h.data.toList a b=0)(m:b<(f.size:Int))(d:f.size<=1000000)(k:S.data.toList=Qm2 p.data.toList h.data.toList a b) :
  (QxS (QeS h p f l S c.length a b (f.size:Int)) r=0/\QBu (QeS h p f l S c.length a b (f.size:Int)) r (QxT h p f l S c.length a b (f.size:Int))=(f.data.toList.take (b+1).toNat).drop a.toNat/\
   Qch (Qrj h p f l c)+QlX (QeS h p f l S c.length a b (f.size:Int)) r<=Qch (lgN h p f l c S (QlX (QeS h p f l S c.length a b (f.size:Int)) r))+1)\/
  (QxS (QeS h p f l S c.length a b (f.size:Int)) r=23/\QBu (QeS h p f l S c.length a b (f.size:Int)) r (QxT h p f l S c.length a b (f.size:Int)) = []/\QlX (QeS h p f l S c.length a b (f.size:Int)) r=r+1/\
   Qch (lgN h p f l c S (QlX (QeS h p f l S c.length a b (f.size:Int)) r))=Qch (Qrj h p f l c)+(r+1)):=by
 have key:=fun j=>QnC h p f ((l.drop (c.length+j)).headD noF) S a b g m d k
 rcases Qjc (QeS h p f l S c.length a b (f.size:Int)) r with⟨i,hi,h1,h2⟩|h1
 ·left
  obtain⟨r1,r2,r3,r4⟩:=Qgo _ r i (QxT h p f l S c.length a b (f.size:Int)) hi h1 h2;refine⟨r3,?_,?_⟩
  ·rw[r4];exact (key i).1 h2
  ·rw[r1,QiB,Qwv h p f l c S i (fun j hj=>(key j).2 (h1 j hj))]
   omega
 ·right
  obtain⟨r1,r2,r3,r4⟩:=Qir _ r (QxT h p f l S c.length a b (f.size:Int)) h1;refine⟨r3,r4,r1,?_⟩;rw[r1,Qwv h p f l c S (r+1) (fun j hj=>(key j).2 (h1 j (by omega)))]
theorem Quy(l:JL)(R:JL)(c:R=if Qc5.isPrefixOf l=true then l.drop 6 else l)(b:JL)(a:b=if QiE 45 R=true then Qbp 45 R else []):QiT l=(Qc5.isPrefixOf l&&QiE 45 R&&QiE 47 b):=by
 unfold QiT;cases h:Qc5.isPrefixOf l
 ·simp
 ·rw[h,JK rfl] at c
  subst c;cases d:QiE 45 (l.drop 6)
  ·simp
  ·rw[d,JK rfl] at a
   rw[a]
theorem QiR(a b c:JL):Qe6 [a,b,c]=Qd1 a b c:=by
 show (if Qc2 a≠0 then Qc2 a else if Qc2 b≠0 then Qc2 b else if Qc2 c≠0 then Qc2 c else 0)=_
 unfold Qd1;split
 ·rfl
 ·split
  ·rfl
  ·split<;>omega
theorem Qx4(l:JL)(h:QiT l=false):Qcn l=4/\Qdb l=0/\Qda l=0/\QdJ l=0:=by
 have:Qcn l=4:=by unfold Qcn;rw[JK h]
 unfold Qdb Qda QdJ;rw[this];exact⟨rfl,rfl,rfl,rfl⟩
theorem Qux(l:JL)(h:Qcn l≠0):Qdb l=0/\Qda l=0/\QdJ l=0:=by
 unfold Qdb Qda QdJ;rw[JJ h,JJ h,JJ h];exact⟨rfl,rfl,rfl⟩
theorem Qpp(s:JA)(w:World)(hs:s.size<=1000000)(K:EnvF w) :
  Calls prog 240 #[Jt s] w (JB (.tuple #[.agg #[Ji (Qdb s.data.toList),Ji (Qda s.data.toList)],Ji (QdJ s.data.toList),Ji (Qcn s.data.toList:Nat)]) w):=by
 obtain⟨L,hL⟩:∃L,s.data.toList=L:=⟨_,rfl⟩;have qo:L.length<=1000000:=by rw[<-hL,Qab];exact hs
 have J:=Z (fun w=>QrT s ⟨#[98,121,116,101,115,32]⟩ w)
 rw[hL,show (ByteArray.mk #[98,121,116,101,115,32]).data.toList=Qc5 from rfl] at J;rw[hL];obtain⟨R,hR⟩:∃R,bs (Lib.trimPrefix L Qc5)=R:=⟨_,rfl⟩;have y:R.data.toList=if Qc5.isPrefixOf L=true then L.drop 6 else L:=by rw[<-hR,Qai];rfl
 have qm:R.size<=1000000:=by rw[<-Qab,y];split<;>(try rw[JC])<;>omega
 rw[hR] at J;have G:=Z (fun w K=>QqB R 45 w qm K)
 obtain⟨R2,hR2⟩:∃R2,bs (if QiE 45 R.data.toList=true then Qbp 45 R.data.toList else [])=R2:=⟨_,rfl⟩
 have q:R2.data.toList=if QiE 45 R.data.toList=true then Qbp 45 R.data.toList else []:=by rw[<-hR2,Qai]
 have Y:R2.size<=1000000:=by
  rw[<-Qab,q];split
  ·unfold Qbp;rw[JC,Qab];omega
  ·exact qL _
 rw[hR2] at G;have f:=Z (fun w K=>QqB R2 47 w Y K)
 have X:=Z (K.below ((qF _ _).alloc (qC _) (.cells #[Ji 0,Ji 0] 140)));have i:=Quy L R.data.toList y R2.data.toList q
 by_cases I:QiT L=true
 case neg=>
  rw[Bool.not_eq_true] at I;have HA:=Z (Qx4 L I);rw[I] at i;obtain⟨p1,hp1⟩:∃p1,Qc5.isPrefixOf L=p1:=⟨_,rfl⟩;obtain⟨p2,hp2⟩:∃p2,QiE 45 R.data.toList=p2:=⟨_,rfl⟩;obtain⟨p3,hp3⟩:∃p3,QiE 47 R2.data.toList=p3:=⟨_,rfl⟩;rw[hp1,hp2,hp3] at i;rw[hp1] at J;rw[hp2] at G;rw[hp3] at f;generalize bs (if p2=true then QfD 45 R.data.toList else R.data.toList)=X1 at G
  generalize bs (if p3=true then QfD 47 R2.data.toList else R2.data.toList)=X2 at f
  generalize bs (if p3=true then Qbp 47 R2.data.toList else [])=X3 at f
  clear hp1 hp2 hp3 y q hR hR2 K I hL;cases p1<;>cases p2<;>cases p3
  case' true.true.true=>exact JN i (by decide)
  all_goals
   clear i;go_enter func240,ntmps240;go_wp2_with fail;refine (J.o _).mono ?_;rintro e w' ⟨rfl,rfl⟩;go_wp2_with fail;refine (G.o _ X.o).mono ?_;rintro e w1 ⟨rfl,d⟩;have r:=Z (X.o.below d);have n:=Z d;clear d;go_wp2_with fail;refine (f.o _ r.o).mono ?_;rintro e B ⟨rfl,a⟩;have V:=Qaa n.o a;obtain⟨k0,k1,f0,f1⟩:=Qcx (Qbb V);have z:=Z V;clear a V;go_wp2_with fail;refine QaW (A:=(Ja w.heap.size 0)) rfl (QbA _ _ _ _ _ (Qbv (Qbb z.o) _ _)) rfl rfl rfl rfl ?_;refine⟨?_,QaY (((qF _ _).alloc (qC _) _).trans (z.o.mono (by simp))) _ (qC _) _ _⟩
   rw[HA.o.1,HA.o.2.1,HA.o.2.2.1,HA.o.2.2.2];rfl
 rw[I] at i;replace i:=i.symm;rw[JD,JD] at i;obtain⟨⟨hp1,hp2⟩,hp3⟩:=i;rw[hp1,JK rfl] at y;rw[hp1] at J;rw[hp2,JK rfl] at q;rw[hp2,JK rfl] at G;rw[hp3,JK rfl,JK rfl] at f;rw[y] at q G;rw[q] at f;obtain⟨F,hF⟩:∃F,QfD 45 (L.drop 6)=F:=⟨_,rfl⟩;obtain⟨T,hT⟩:∃T,QfD 47 (Qbp 45 (L.drop 6))=T:=⟨_,rfl⟩;obtain⟨N,hN⟩:∃N,Qbp 47 (Qbp 45 (L.drop 6))=N:=⟨_,rfl⟩;have qt:F.length<=1000000:=by rw[<-hF];have:=QoZ 45 (L.drop 6);rw[JC] at this;omega
 have qf:(Qbp 45 (L.drop 6)).length<=1000000:=by unfold Qbp;rw[JC,JC];omega
 have qq:T.length<=1000000:=by rw[<-hT];have:=QoZ 47 (Qbp 45 (L.drop 6));omega
 have qr:N.length<=1000000:=by rw[<-hN];unfold Qbp at qf ⊢;rw[JC];omega
 have HA:Hi (Qcn L=if Qd1 F T N≠0 then Qd1 F T N else Qck (QcK F:Nat) (QcK T:Nat) (QcK N:Nat)):=Z (by
  unfold Qcn;rw[JJ (by rw[I];decide)]
  unfold Qo6 Qo4 Qo5;rw[hF,hT,hN])
 have m:Hi (Qo6 L=QcK F/\Qo4 L=QcK T/\Qo5 L=QcK N):=Z (by unfold Qo6 Qo4 Qo5;rw[hF,hT,hN];exact⟨rfl,rfl,rfl⟩)
 rw[hF] at G;rw[hT,hN] at f;have qg:=QfO (xs:=[F,T,N]) (hne:=by simp) (hlen:=by simp) (hx:=by intro x hx;simp at hx;rcases hx with rfl|rfl|rfl<;>assumption)
 have HN:=Z qg;clear hp1 hp2 hp3 y q hR hR2 K I hL hF hT hN qg qf
 by_cases W:Qd1 F T N=0
 case neg=>
  have p:Hi (Qe6 [F,T,N]=Qd1 F T N/\Qcn L=Qd1 F T N/\Qdb L=0/\Qda L=0/\QdJ L=0):=Z (by
   have S:Qcn L=Qd1 F T N:=by rw[HA.o,JK W]
   exact⟨QiR F T N,S,Qux L (by rw[S];exact W)⟩)
  have tz:((Qd1 F T N:Int) != 0)=true:=by rw[bne_iff_ne];omega
  generalize Qd1 F T N=Zq at p tz;clear W HA m;go_enter func240,ntmps240;go_wp2_with fail;refine (J.o _).mono ?_;rintro e w' ⟨rfl,rfl⟩;go_wp2_with fail;refine (G.o _ X.o).mono ?_;rintro e w1 ⟨rfl,d⟩;have r:=Z (X.o.below d);have n:=Z d;clear d;go_wp2_with fail;refine (f.o _ r.o).mono ?_;rintro e B ⟨rfl,a⟩;have qh:w.heap.size<B.heap.size:=by have:=(Qaa n.o a).size;simp at this;omega
  have z:=Z (Qaa n.o a);have O:=Z (r.o.below a);clear a;go_wp2_with fail;have hS:HoldsS (B.alloc (.cells #[Jt (bs F),Jt (bs T),Jt (bs N)] 9)) (Jl B.heap.size 3 3) [F,T,N]:=HoldsS.of_block (JI _ _) rfl rfl;have k:Jw B (B.alloc (.cells #[Jt (bs F),Jt (bs T),Jt (bs N)] 9)):=(qF _ _).alloc (qC _) _;refine (HN.o _ _ hS (O.o.below k)).mono ?_;rintro e j ⟨v,rfl,-,C⟩;rw[p.o.1];have l:Below (w.alloc (.cells #[Ji 0,Ji 0] 140)).heap.size (w.alloc (.cells #[Ji 0,Ji 0] 140)) j:=Qaa z.o (Qaa k C);obtain⟨k0,k1,f0,f1⟩:=Qcx (Qbb l);have E:=Z l;clear C k hS l;go_wp2_with fail;refine QaW (A:=(Ja w.heap.size 0)) rfl (QbA _ _ _ _ _ (Qbv (Qbb E.o) _ _)) rfl rfl rfl rfl ?_;refine⟨?_,QaY (((qF _ _).alloc (qC _) _).trans (E.o.mono (by simp))) _ (qC _) _ _⟩
  rw[p.o.2.1,p.o.2.2.1,p.o.2.2.2.1,p.o.2.2.2.2];rfl
 have p:Hi (Qe6 [F,T,N]=0/\Qcn L=Qck (QcK F:Nat) (QcK T:Nat) (QcK N:Nat)):=Z ⟨(QiR F T N).trans W,by rw[HA.o,JJ (fun h=>h W)]⟩
 have HF:Hi (∀b,QcK b<=9007199254740991):=Z Qrd;obtain⟨P,hP⟩:∃P,QcK F=P:=⟨_,rfl⟩;obtain⟨Q,hQ⟩:∃Q,QcK T=Q:=⟨_,rfl⟩;obtain⟨M,hM⟩:∃M,QcK N=M:=⟨_,rfl⟩;have qk:=HF.o F;have ql:=HF.o T;have qn:=HF.o N;rw[hP] at p m qk;rw[hQ] at p m ql;rw[hM] at p m qn;have HI:Hi ([F,T,N].map QcK = [P,Q,M]):=Z (by rw[<-hP,<-hQ,<-hM];rfl)
 have qi:=Z (fun w=>QkP (P:Int) (Q:Int) (M:Int) w)
 clear W HA HF hP hQ hM;go_enter func240,ntmps240;go_wp2_with fail;refine (J.o _).mono ?_;rintro e w' ⟨rfl,rfl⟩;go_wp2_with fail;refine (G.o _ X.o).mono ?_;rintro e w1 ⟨rfl,d⟩;have r:=Z (X.o.below d);have n:=Z d;clear d;go_wp2_with fail;refine (f.o _ r.o).mono ?_;rintro e B ⟨rfl,a⟩;have qh:w.heap.size<B.heap.size:=by have:=(Qaa n.o a).size;simp at this;omega
 have z:=Z (Qaa n.o a);have O:=Z (r.o.below a);clear a;go_wp2_with fail;have hS:HoldsS (B.alloc (.cells #[Jt (bs F),Jt (bs T),Jt (bs N)] 9)) (Jl B.heap.size 3 3) [F,T,N]:=HoldsS.of_block (JI _ _) rfl rfl;have k:Jw B (B.alloc (.cells #[Jt (bs F),Jt (bs T),Jt (bs N)] 9)):=(qF _ _).alloc (qC _) _;refine (HN.o _ _ hS (O.o.below k)).mono ?_;rintro e j ⟨v,rfl,hI,C⟩;rw[p.o.1];have qb:=hI p.o.1;rw[HI.o] at qb;obtain⟨g,c,hv,-,hg,-,Qak⟩:=qb;have c0:=Qak 0 (by simp)
 have c1:=Qak 1 (by simp)
 have c2:=Qak 2 (by simp)
 have qj:v = Jl g 3 c:=hv;clear Qak hv hI;subst qj;have l:Below (w.alloc (.cells #[Ji 0,Ji 0] 140)).heap.size (w.alloc (.cells #[Ji 0,Ji 0] 140)) j:=Qaa z.o (Qaa k C);clear C k hS;have E:=Z l;have qp:w.heap.size<j.heap.size:=by have:=l.size;simp at this;omega
 clear l;change j.cell? (Ja g 0)=some (Ji (P:Int)) at c0;change j.cell? (Ja g 1)=some (Ji (Q:Int)) at c1;change j.cell? (Ja g 2)=some (Ji (M:Int)) at c2;go_wp2_with fail;go_region
 all_goals go_wp2_with fail
 have qc:Jw j (j.alloc (.cells #[Ji (P:Int),Ji (Q:Int),Ji (M:Int)] 409)).drew:=((qF _ _).alloc (qC _) _).drew;have qe:(j.alloc (.cells #[Ji (P:Int),Ji (Q:Int),Ji (M:Int)] 409)).drew.heap[j.heap.size]?=some (.cells #[Ji (P:Int),Ji (Q:Int),Ji (M:Int)] 409 (0,0)):=JI j _;have qd:j.heap.size<(j.alloc (.cells #[Ji (P:Int),Ji (Q:Int),Ji (M:Int)] 409)).drew.heap.size:=by simp
 refine (qi.o _).mono ?_;rintro e w4 ⟨rfl,U⟩;have qa:=(U.block _ qd).trans qe;obtain⟨j0,j1,j2,-,-,-⟩:=Qas qa;have t:Below (w.alloc (.cells #[Ji 0,Ji 0] 140)).heap.size (w.alloc (.cells #[Ji 0,Ji 0] 140)) w4:=Qaa E.o (Qaa qc U);obtain⟨k0,k1,f0,f1⟩:=Qcx (Qbb t);have hne:w.heap.size≠j.heap.size:=by omega
 have qs:w.heap.size<w4.heap.size:=(gsi (Qbb t)).1;clear U qc qe qd c0 c1 c2 qa;have H:=Z t;clear t
 by_cases hr:Qck (P:Int) (Q:Int) (M:Int)=0
 ·have D:Hi (Qcn L=0/\Qdb L=(P:Int)/\Qda L=(Q:Int)/\QdJ L=(M:Int)):=Z (by
   have S:Qcn L=0:=by rw[p.o.2,hr]
   refine⟨S,?_,?_,?_⟩
   ·unfold Qdb;rw[JK S,m.o.1]
   ·unfold Qda;rw[JK S,m.o.2.1]
   ·unfold QdJ;rw[JK S,m.o.2.2])
  rw[hr];clear hr;go_wp2_with fail;go_region
  all_goals
   go_wp2_with fail;refine QaW (A:=(Ja w.heap.size 0)) rfl (QbA _ _ _ _ _ (Qbv (Qbb H.o) _ _)) rfl rfl rfl rfl ?_;refine⟨?_,(QaY (((qF _ _).alloc (qC _) _).trans (H.o.mono (by simp))) _ (qC _) _ _).drew⟩
   rw[D.o.1,D.o.2.1,D.o.2.2.1,D.o.2.2.2];rfl
 ·have D:Hi (Qcn L=Qck (P:Int) (Q:Int) (M:Int)/\Qdb L=0/\Qda L=0/\QdJ L=0):=Z ⟨p.o.2,Qux L (by rw[p.o.2];exact hr)⟩
  have tz:((Qck (P:Int) (Q:Int) (M:Int):Int) != 0)=true:=by rw[bne_iff_ne];omega
  generalize Qck (P:Int) (Q:Int) (M:Int)=Zq at D tz ⊢;clear hr;go_wp2_with fail;refine QaW (A:=(Ja w.heap.size 0)) rfl (QbA _ _ _ _ _ (Qbv (Qbb H.o) _ _)) rfl rfl rfl rfl ?_;refine⟨?_,QaY (((qF _ _).alloc (qC _) _).trans (H.o.mono (by simp))) _ (qC _) _ _⟩
  rw[D.o.1,D.o.2.1,D.o.2.2.1,D.o.2.2.2];rfl
theorem QBB(a b:Int)(h:QdK a b=0):QaO a b=b-a+1:=by unfold QaO;rw[JK h]
theorem QBC(a b:Int)(h:QdK a b≠0):QaO a b=0:=by unfold QaO;rw[JJ h]
theorem Qgv(a b:Int)(w:World) :
  Calls prog 173 #[.agg #[Ji a,Ji b]] w (JB (Ji (QaO a b)) w):=by
 have h:=Z (fun w=>Qb4 a b w)
 obtain⟨r0,r1⟩:=QAV w (Ji a) (Ji b) 140;have g:=Z (QbD w (Ji a) (Ji b) 140);have j:w.heap.size<(w.alloc (.cells #[Ji a,Ji b] 140)).heap.size:=by simp
 have k:=Z j;clear j
 by_cases d:QdK a b=0
 ·have HA:=Z (QBB a b d)
  obtain⟨b1,b2,b3⟩:=QcP a b d;have m:IntKind.i64.wrap (b-a)=b-a:=by rw[JR];omega
  have n:IntKind.i64.wrap (b-a+1)=b-a+1:=by rw[JR];omega
  rw[d] at h;clear d b1 b2 b3;go_enter func173,ntmps173;go_wp2_with fail;refine (h.o _).mono ?_;rintro e l ⟨rfl,c⟩;have q:=(c.cell (p:=(Ja w.heap.size 0)) k.o).trans r0;have r:=(c.cell (p:=(Ja w.heap.size 1)) k.o).trans r1;have f:=Z (Qaa g.o c);clear c r0 r1;go_wp2;go_ret;exact⟨by rw[HA.o]<;>rfl,f.o⟩
 ·have HA:=Z (QBC a b d)
  have i:=(Qji a b d).1;rw[i] at h;clear d i;go_enter func173,ntmps173;go_wp2_with fail;refine (h.o _).mono ?_;rintro e l ⟨rfl,c⟩;have f:=Z (Qaa g.o c);clear c r0 r1;go_wp2;go_ret;exact⟨by rw[HA.o]<;>rfl,f.o⟩
theorem QyO(x y b a:Int)(w:World):(binOp .neq 140 (.agg #[Ji x,Ji y]) (.agg #[Ji b,Ji a])).run prog w=.ok (.bool (!decide (x=b/\y=a))) w:=by
 have u4:=underlying3;have g:prog.underlying 140=some (.struct (prog.fieldsOf 140)):=by kernel_rfl
 have f:prog.stoodInHeld 140=false:=by kernel_rfl
 rw[run_neq_struct,show (10000:Nat)=9998+2 from rfl,run_equalIn_agg w (9998+1) 140 _ _ g f];simp only[Program.fieldsOf,underlying140]
 by_cases d:x=b
 ·subst d
  by_cases c:y=a
  ·subst c
   go_simp
  ·have h:(y==a)=false:=by rw[qI];exact c
   go_simp<;>simp[c]
 ·have h:(x==b)=false:=by rw[qI];exact d
  go_simp<;>simp[d]
theorem Qtl(a:BinOp)(x y:Operand)(xs b:JW)(w:World):(eqGuard a 140 x y (.agg xs) (.agg b)).run prog w=.ok () w:=
 run_eqGuard_agg w a 140 x y xs b (by kernel_rfl)
theorem QsM(l:JL):(QaX l).length<=l.length:=by
 unfold QaX;split
 ·unfold QbV;rw[qQ];exact Qr4 l
 ·exact qL _
theorem Qso(s:JA)(a:Int):∀f∈Qcb s a,f.1.length<=256/\f.2.length<=256:=by
 intro f b;unfold Qcb at b;split at b
 ·unfold Qe0 at b
  have c:=(List.mem_filter.1 b).1;unfold QbZ at c;obtain⟨x,hx,rfl⟩:=List.mem_map.1 c;have:=(QcB s).1 x (List.mem_of_mem_tail hx);exact⟨qD (QsM x) this,qD (Qk0 x) this⟩
 ·simp at b
def QEn(e:Nat):Value:=if e=0 then .nilIface else .iface 331 (.agg #[Ji (e:Int)])
def QAC(s:JA)(a b t:Int):Value:=.tuple #[Jt (bs (Qrp s a b t)),QEn (QeP s a b t)]
theorem Qdg(s:JA)(a b t:Int)(e:Nat)(h:QeP s a b t=e)(c:e≠0):QAC s a b t=.tuple #[Jt ⟨#[]⟩,.iface 331 (.agg #[Ji (e:Int)])]:=by
 unfold QAC QEn Qrp;rw[h,JJ c,JJ c];rfl
theorem QCh(s:JA)(a b t:Int)(h:QeP s a b t=0):QAC s a b t=.tuple #[Jt (bs (Qfp s (QaO a b))),.nilIface]:=by
 unfold QAC QEn Qrp;rw[h,JK rfl,JK rfl]
theorem QEJ(s:JA)(a b t:Int)(h:s.size=0):QeP s a b t=16:=by unfold QeP;rw[JK h]
theorem QEI(s:JA)(a b t:Int)(h:s.size≠0)(c:Qdm s (QaO a b)≠0):QeP s a b t=Qdm s (QaO a b):=by unfold QeP;rw[JJ h,JK c]
theorem QEH(s:JA)(a b t:Int)(h:s.size≠0)(c:Qdm s (QaO a b)=0)(d:QhH s (QaO a b)<(s.size:Int)):QeP s a b t=4:=by unfold QeP;rw[JJ h,JJ (fun e=>e c),JK d]
theorem QEG(s:JA)(a b t:Int)(h:s.size≠0)(c:Qdm s (QaO a b)=0)(f:¬QhH s (QaO a b)<(s.size:Int))(d:Qks s (QaO a b)≠206):QeP s a b t=17:=by unfold QeP;rw[JJ h,JJ (fun e=>e c),JJ f,JK d]
theorem QEF(s:JA)(a b t:Int)(h:s.size≠0)(d:Qdm s (QaO a b)=0)(g:¬QhH s (QaO a b)<(s.size:Int))(f:Qks s (QaO a b)=206)(c:Qde (Qcb s (QaO a b)) Qah≠0):QeP s a b t=Qde (Qcb s (QaO a b)) Qah:=by unfold QeP;rw[JJ h,JJ (fun e=>e d),JJ g,JJ (fun e=>e f),JK c]
theorem QEE(s:JA)(a b t:Int)(h:s.size≠0)(d:Qdm s (QaO a b)=0)(i:¬QhH s (QaO a b)<(s.size:Int))(f:Qks s (QaO a b)=206)(g:Qde (Qcb s (QaO a b)) Qah=0)(c:Qcn (QbB (Qcb s (QaO a b)) Qah)≠0):QeP s a b t=Qcn (QbB (Qcb s (QaO a b)) Qah):=by unfold QeP;rw[JJ h,JJ (fun e=>e d),JJ i,JJ (fun e=>e f),JJ (fun e=>e g),JK c]
theorem QED(s:JA)(a b t:Int)(h:s.size≠0)(g:Qdm s (QaO a b)=0)(l:¬QhH s (QaO a b)<(s.size:Int))(i:Qks s (QaO a b)=206)(k:Qde (Qcb s (QaO a b)) Qah=0)(f:Qcn (QbB (Qcb s (QaO a b)) Qah)=0)(j:¬((Qdb (QbB (Qcb s (QaO a b)) Qah)=a/\Qda (QbB (Qcb s (QaO a b)) Qah)=b)/\QdJ (QbB (Qcb s (QaO a b)) Qah)=t)):QeP s a b t=19:=by
 unfold QeP;rw[JJ h,JJ (fun e=>e g),JJ l,JJ (fun e=>e i),JJ (fun e=>e k),JJ (fun e=>e f),JK]
 by_cases d:Qdb (QbB (Qcb s (QaO a b)) Qah)=a
 ·by_cases c:Qda (QbB (Qcb s (QaO a b)) Qah)=b
  ·exact .inr (.inr (fun g3=>j ⟨⟨d,c⟩,g3⟩))
  ·exact .inr (.inl c)
 ·exact .inl d
theorem QEC(s:JA)(a b t:Int)(h:s.size≠0)(g:Qdm s (QaO a b)=0)(k:¬QhH s (QaO a b)<(s.size:Int))(i:Qks s (QaO a b)=206)(j:Qde (Qcb s (QaO a b)) Qah=0)(d:Qcn (QbB (Qcb s (QaO a b)) Qah)=0)(c:(Qdb (QbB (Qcb s (QaO a b)) Qah)=a/\Qda (QbB (Qcb s (QaO a b)) Qah)=b)/\QdJ (QbB (Qcb s (QaO a b)) Qah)=t)(f:((Qfp s (QaO a b)).length:Int)≠QaO a b):QeP s a b t=18:=by
 unfold QeP;rw[JJ h,JJ (fun e=>e g),JJ k,JJ (fun e=>e i),JJ (fun e=>e j),JJ (fun e=>e d),JJ (by rw[c.1.1,c.1.2,c.2];simp),JK f]
theorem Qto(s:JA)(m:Int):(bs (QbB (Qcb s m) Qah)).size<=1000000:=by
 rw[Qaq];have h:=Qso s m;unfold QbB;cases a:QfI (Qcb s m) Qah with
 |nil=>exact qL _
 |cons v r=>
  cases r with
  |cons _ _=>exact qL _
  |nil=>
   have:v∈QfI (Qcb s m) Qah:=by rw[a];exact JF ..
   unfold QfI at this;obtain⟨f,hf,rfl⟩:=List.mem_map.1 this;have:=(h f (List.mem_filter.1 hf).1).2;show f.2.length<=_;omega
theorem Qqf(s:JA)(a b t:Int)(w:World)(hs:s.size<=1000000)(hE:EnvF w) :
  Calls prog 212 #[Jt s,.agg #[Ji a,Ji b],Ji t] w (JB (QAC s a b t) w):=by
 have HL:=Z (fun w=>Qgv a b w)
 have HP:=Z (fun w hE=>Qpg s (QaO a b) w hs hE)
 unfold Qg4 QEl at HP;have d:=Z (QbD w (Ji a) (Ji b) 140);have S:=Z (hE.below d.o);have r:=Z (JI w (.cells #[Ji a,Ji b] 140));have qm:Hi ((Qcb s (QaO a b)).length<=1000000):=Z (qD (Qx7 _ _) (by decide))
 have qb:=Z (Qto s (QaO a b));obtain⟨r0,r1⟩:=QAV w (Ji a) (Ji b) 140;clear hE
 by_cases i:s.size=0
 ·have HA:=Z (Qdg s a b t 16 (QEJ s a b t i) (by decide))
  have z1:(s.toList == [])=true:=by rw[J7,beq_iff_eq];exact List.eq_nil_of_length_eq_zero (by rw[Qab];exact i)
  have z2:s.toList = []:=by simpa using z1
  clear i;go_enter func212,ntmps212;go_wp2;go_ret2;exact⟨by rw[HA.o];rfl,d.o⟩
 have z1:(s.toList == [])=false:=by rw[J7,qI];intro e;exact i (by rw[<-Qab,e];rfl)
 have z2:¬s.toList = []:=by simpa using z1
 go_enter func212,ntmps212;go_wp2_with fail;generalize (w.alloc (.cells #[Ji a,Ji b] 140))=W0 at d S r r0 r1 ⊢;generalize w.heap.size=X at r r0 r1 ⊢;refine (HL.o _).mono ?_;rintro e w1 ⟨rfl,R⟩;go_wp2_with fail;refine (HP.o _ (S.o.below R)).mono ?_;rintro e w2 ⟨fv,rfl,T,qj⟩;obtain⟨fa,fc,rfl⟩:=Qat T;have g:=Z (Qaa R qj);have qk:=Z (HoldsF.of_own T);clear R qj T HP
 by_cases m:Qdm s (QaO a b)=0
 case neg=>
  have HA:=Z (Qdg s a b t _ (QEI s a b t i m) m);have tz:(((Qdm s (QaO a b):Nat):Int) != 0)=true:=by rw[bne_iff_ne];omega
  clear i m;generalize Qdm s (QaO a b)=E at HA tz ⊢;go_wp2;go_ret2;exact⟨by rw[HA.o]<;>rfl,Qaa d.o (g.o.alloc g.o.size _)⟩
 rw[m]
 by_cases v:QhH s (QaO a b)<(s.size:Int)
 ·have HA:=Z (Qdg s a b t 4 (QEH s a b t i m v) (by decide))
  have t3:decide (QhH s (QaO a b)<(s.size:Int))=true:=qA v;clear i m;generalize QhH s (QaO a b)=N at v t3 ⊢;go_wp2;go_ret2;exact⟨by rw[HA.o];rfl,Qaa d.o (g.o.alloc g.o.size _)⟩
 have t3:decide (QhH s (QaO a b)<(s.size:Int))=false:=qB v
 by_cases h4:Qks s (QaO a b)=206
 case neg=>
  have HA:=Z (Qdg s a b t 17 (QEG s a b t i m v h4) (by decide))
  have t4:(Qks s (QaO a b) != 206)=true:=by rw[bne_iff_ne];exact h4
  clear i m;generalize QhH s (QaO a b)=N at v t3 ⊢;generalize Qks s (QaO a b)=C at h4 t4 ⊢;go_wp2;go_ret2;exact⟨by rw[HA.o];rfl,Qaa d.o (g.o.alloc g.o.size _)⟩
 rw[h4];have c:=Z (qE i (qE m (qE v h4)));clear i m h4;generalize QhH s (QaO a b)=N at v t3 ⊢;have O:Hi ((bs (Qfp s (QaO a b))).size=(Qfp s (QaO a b)).length):=Z (Qaq _);have ql:=g.o.alloc g.o.size (.cells #[Ji 206,.slice fa (Qcb s (QaO a b)).length fc,Jt (bs (Qfp s (QaO a b)))] 359);have qh:=Z (qk.o.below ((qF _ _).alloc (qC _) (.cells #[Ji 206,.slice fa (Qcb s (QaO a b)).length fc,Jt (bs (Qfp s (QaO a b)))] 359)));have qe:=Z (JI w2 (.cells #[Ji 206,.slice fa (Qcb s (QaO a b)).length fc,Jt (bs (Qfp s (QaO a b)))] 359));have qd:=Z ql;clear ql v qk;go_wp2_with fail;refine (QCr _ _ _ Qah rfl _ qh.o qm.o).mono ?_;rintro e w3 ⟨rfl,U⟩;have z:=Z (Qaa qd.o U);have y:=Z ((U.block w2.heap.size (by simp)).trans qe.o)
 have qc:w2.heap.size<w3.heap.size:=(gsi y.o).1;have qa:=Z qc;clear U qd qe qh qc;generalize w2.heap.size=Y at y qa ⊢;obtain⟨V,hV⟩:∃V,QbB (Qcb s (QaO a b)) Qah=V:=⟨_,rfl⟩;have HV:=Z hV;rw[hV] at qb ⊢;clear hV
 by_cases n:Qde (Qcb s (QaO a b)) Qah=0
 case neg=>
  have HA:=Z (Qdg s a b t _ (QEF s a b t c.o.1 c.o.2.1 (Int.not_lt.2 c.o.2.2.1) c.o.2.2.2 n) n);have tz:(((Qde (Qcb s (QaO a b)) Qah:Nat):Int) != 0)=true:=by rw[bne_iff_ne];omega
  clear n;generalize Qde (Qcb s (QaO a b)) Qah=E at HA tz ⊢;go_wp2;go_ret2;exact⟨by rw[HA.o]<;>rfl,Qaa d.o z.o⟩
 rw[n];have HT:=Z (fun w hE=>Qpp (bs V) w qb.o hE)
 rw[Qai] at HT;go_wp2_with fail;refine (HT.o _ (S.o.below z.o)).mono ?_;rintro e w4 ⟨rfl,P⟩;have l:=Z (Qaa z.o P);have K:=Z ((P.block Y qa.o).trans y.o);clear P z y HT
 by_cases I:Qcn V=0
 case neg=>
  have HA:=Z (Qdg s a b t _ (by have:=QEE s a b t c.o.1 c.o.2.1 (Int.not_lt.2 c.o.2.2.1) c.o.2.2.2 n;rw[HV.o] at this;exact this I) I)
  have tz:(((Qcn V:Nat):Int) != 0)=true:=by rw[bne_iff_ne];omega
  clear n I;generalize Qcn V=E at HA tz ⊢;go_wp2;go_ret2;exact⟨by rw[HA.o]<;>rfl,Qaa d.o (l.o.alloc l.o.size _)⟩
 rw[I];have D:=l.o.alloc l.o.size (.cells #[Ji (Qdb V),Ji (Qda V)] 140);have q:X<W0.heap.size:=(gsi r.o).1;have G:=(D.cell (p:=(Ja X 0)) q).trans r0;have J:=(D.cell (p:=(Ja X 1)) q).trans r1;have f:=Z D;have qn:=Z q;have hne:=QyO (Qdb V) (Qda V) a b;have qo:=Qtl;clear D q r0 r1
 by_cases h7:(Qdb V=a/\Qda V=b)/\QdJ V=t
 case neg=>
  have HA:=Z (Qdg s a b t 19 (by have:=QED s a b t c.o.1 c.o.2.1 (Int.not_lt.2 c.o.2.2.1) c.o.2.2.2 n;rw[HV.o] at this;exact this I h7) (by decide))
  clear n I
  by_cases j:Qdb V=a/\Qda V=b
  ·have t9:(QdJ V != t)=true:=by rw[bne_iff_ne];exact fun e=>h7 ⟨j,e⟩
   rw[qA j] at hne;clear h7 j;generalize Qdb V=A at hne G J f ⊢;generalize Qda V=B at hne G J f ⊢;generalize QdJ V=C at t9 ⊢;go_wp2;go_ret2;exact⟨by rw[HA.o];rfl,Qaa d.o f.o⟩
  ·rw[qB j] at hne
   clear h7 j;generalize Qdb V=A at hne G J f ⊢;generalize Qda V=B at hne G J f ⊢;generalize QdJ V=C;go_wp2;go_ret2;exact⟨by rw[HA.o];rfl,Qaa d.o f.o⟩
 have qf:(Qdb (QbB (Qcb s (QaO a b)) Qah)=a/\Qda (QbB (Qcb s (QaO a b)) Qah)=b)/\QdJ (QbB (Qcb s (QaO a b)) Qah)=t:=by rw[HV.o];exact h7
 have qi:Qcn (QbB (Qcb s (QaO a b)) Qah)=0:=by rw[HV.o];exact I
 obtain⟨⟨g1,g2⟩,g3⟩:=h7;rw[g1,g2] at hne G J f ⊢;rw[g3];rw[qA (qE rfl rfl)] at hne;have H:=Z (qE n (qE qi qf));have qg:=(((qF w4.heap.size w4).alloc (qC _) (.cells #[Ji a,Ji b] 140)).block Y (gsi K.o).1).trans K.o;have L:=Z qg;clear n I qi qf g1 g2 g3 qg K l;go_wp2_with fail;generalize w4.alloc (.cells #[Ji a,Ji b] 140)=W6 at f L G J ⊢;have HS:Hi (∀W,Jw W6 W->W.cell? (Ja Y 2)=some (Jt (bs (Qfp s (QaO a b))))/\W.cell? (Ja X 0)=some (Ji a)/\W.cell? (Ja X 1)=some (Ji b)):=Z (fun W hW=>by
  have hy:=(hW.block Y (gsi L.o).1).trans L.o;have hx:=((Qaa f.o hW).block X qn.o).trans r.o;exact⟨by unfold World.cell?;rw[hy];rfl,by unfold World.cell?;rw[hx];rfl,by unfold World.cell?;rw[hx];rfl⟩)
 have x:Hi (Jw W6 W6.drew):=Z (qF _ _).drew;obtain⟨Bd,hBd⟩:∃Bd,bs (Qfp s (QaO a b))=Bd:=⟨_,rfl⟩;rw[hBd] at HS O
 by_cases j:((Bd.size:Nat):Int)=QaO a b
 ·have HA:Hi (QAC s a b t=.tuple #[Jt Bd,.nilIface]):=Z (by
   rw[QCh s a b t (Qro s a b t c.o.1 c.o.2.1 (by have:=c.o.2.2.1;omega) c.o.2.2.2 H.o.1 H.o.2.1 ⟨H.o.2.2.1.1,H.o.2.2.1.2,H.o.2.2.2⟩ (by rw[<-O.o];exact j)),hBd])
  have t8:(((Bd.size:Nat):Int) != QaO a b)=false:=by rw[bne_eq_false_iff_eq];exact j
  clear j hBd G J;generalize QaO a b=M at HL t8;go_region_held3 (fun w'=>Jx w' Y 2 (Jt Bd)/\Jx w' X 0 (Ji a)/\Jx w' X 1 (Ji b)) (first|with_reducible exact HS.o _ x.o|with_reducible exact HS.o _ h.o)
   (first
    |(go_at_call 173;refine (HL.o _).mono ?_;rintro e wa ⟨rfl,k⟩;have h:Hi (Jw W6 wa):=Z (Qaa x.o k);clear k))
  obtain⟨y2,-,-⟩:=HS.o _ h.o;go_wp2;go_ret2;exact⟨by rw[HA.o]<;>rfl,Qaa d.o (Qaa f.o h.o)⟩
 ·have HA:=Z (Qdg s a b t 18 (QEC s a b t c.o.1 c.o.2.1 (Int.not_lt.2 c.o.2.2.1) c.o.2.2.2 H.o.1 H.o.2.1 H.o.2.2 (by rw[<-O.o];exact j)) (by decide))
  have t8:(((Bd.size:Nat):Int) != QaO a b)=true:=by rw[bne_iff_ne];exact j
  clear j hBd G J;generalize QaO a b=M at HL t8;go_region_held3 (fun w'=>Jx w' Y 2 (Jt Bd)/\Jx w' X 0 (Ji a)/\Jx w' X 1 (Ji b)) (first|with_reducible exact HS.o _ x.o|with_reducible exact HS.o _ h.o)
   (first
    |(go_at_call 173;refine (HL.o _).mono ?_;rintro e wa ⟨rfl,k⟩;have h:Hi (Jw W6 wa):=Z (Qaa x.o k);clear k))
  go_wp2;go_ret2;exact⟨by rw[HA.o];rfl,Qaa d.o (Qaa f.o h.o)⟩
end
section
open Go.RowKit Go.Extern.Stop Go.Stop Go.Extern
theorem QD5(t:Value)(w:World) :
  Calls prog 213 #[.nilIface,t] w (JS (.bool false) w):=by
 go_enter func213,ntmps213;go_wp2;go_ret;exact⟨rfl,rfl⟩
theorem QwT(t:Addr)(w:World):(ReflectliteValue.unpack (.iface 333 (.pointer (some t)))).run prog w
 =.ok (.agg #[.pointer (some (Ja 9 333)),Jp w.heap.size,Ju 150]) (w.alloc (.cells #[.pointer (some t)] 333)):=by kernel_rfl
theorem QCA(a:Addr)(w:World):(ReflectliteValue.methodAny (ReflectliteValue.valueError "reflectlite.Value.Type" 0) (fun t _ _ _=>ReflectliteType.toType t) #[.agg #[.pointer (some (Ja 9 333)),.pointer (some a),Ju 150]]).run prog w
 =.ok (.iface 411 (.agg #[.pointer (some (Ja 9 333))])) w:=by kernel_rfl
theorem QzL(h:Value)(w:World):(Go.method 700 411 (.agg #[h]) "Kind").run prog w=.ok (405,h) w:=by kernel_rfl
theorem QzP(w:World):((ReflectliteType.abiMethod fun t=>Functor.map (fun a:Nat=>Value.int IntKind.u8 (a:Int)) (Rtype.kind t)) #[.pointer (some (Ja 9 333))]).run prog w=.ok (Jb 22) w:=by kernel_rfl
theorem QzO(w:World):((ReflectliteType.abiMethod fun t=>Functor.map (fun a:Nat=>Value.int IntKind.u8 (a:Int)) (Rtype.kind t)) #[.pointer (some (Ja 9 331))]).run prog w=.ok (Jb 25) w:=by kernel_rfl
theorem QAR(z:Sem Value)(f:JT->Addr->Nat->Nat->Sem Value)(v:Value) :
  ReflectliteValue.method z f #[v]=(do match <-ReflectliteValue.parts v with|none=>z|some (t,a,fl)=>f t a fl (fl%32)):=rfl
theorem Qok(a:Addr)(w:World):(ReflectliteValue.parts (.agg #[.pointer (some (Ja 9 333)),.pointer (some a),Ju 150])).run prog w=.ok (some (333,a,150)) w:=by kernel_rfl
theorem QzQ(a p:Addr)(W:World)(b:W.cell? a=some (.pointer (some p))) :
  (ReflectliteValue.method (ReflectliteValue.valueError "reflectlite.Value.IsNil" 0) ReflectliteValue.isNil #[.agg #[.pointer (some (Ja 9 333)),.pointer (some a),Ju 150]]).run prog W=.ok (.bool false) W:=by
 rw[QAR];simp only[Sem.run_bind,Qok,Result.andThen];simp[ReflectliteValue.isNil,loadVar,isAgg,underlying,underlying333,b,Result.andThen]
theorem QzN(h:Value)(w:World):(Go.method 700 411 (.agg #[h]) "Elem").run prog w=.ok (428,.agg #[h]) w:=by kernel_rfl
theorem QzM(h:Value)(w:World):(Go.method 700 411 (.agg #[h]) "Implements").run prog w=.ok (429,.agg #[h]) w:=by kernel_rfl
theorem QtC(h:Value)(w:World):(Go.method 700 411 (.agg #[h]) "AssignableTo").run prog w=.ok (426,.agg #[h]) w:=by kernel_rfl
theorem QCD(w:World):(ReflectliteType.method ReflectliteType.elem #[.agg #[.pointer (some (Ja 9 333))]]).run prog w=.ok (.iface 411 (.agg #[.pointer (some (Ja 9 331))])) w:=by kernel_rfl
theorem QCC(w:World):(ReflectliteType.relation "Implements" ReflectliteType.implements_ #[.agg #[.pointer (some (Ja 9 331))],.iface 411 (.agg #[.pointer (some (Ja 9 247))])]).run prog w=.ok (.bool true) w:=by kernel_rfl
theorem QwU(v:Value)(w:World):(ReflectliteType.typeOf #[.iface 331 v]).run prog w=.ok (.iface 411 (.agg #[.pointer (some (Ja 9 331))])) w:=by kernel_rfl
theorem QwZ(w:World):(ReflectliteType.relation "AssignableTo" ReflectliteType.assignableTo #[.agg #[.pointer (some (Ja 9 331))],.iface 411 (.agg #[.pointer (some (Ja 9 331))])]).run prog w=.ok (.bool true) w:=by kernel_rfl
theorem QwS(n:Int)(w:World):(ReflectliteValue.unpack (.iface 331 (.agg #[Ji n]))).run prog w
 =.ok (.agg #[.pointer (some (Ja 9 331)),Jp w.heap.size,Ju 153]) (w.alloc (.cells #[Ji n] 331)):=by kernel_rfl
theorem QwX(w:World):(Rtype.elem? 333).run prog w=.ok (some 331) w:=by kernel_rfl
theorem QEQ(p:Addr)(w:World):(ReflectliteValue.mk 331 p ReflectliteValue.flagAddr).run prog w=.ok (.agg #[.pointer (some (Ja 9 331)),.pointer (some p),Ju 409]) w:=by kernel_rfl
theorem QzR(a p:Addr)(W:World)(b:W.cell? a=some (.pointer (some p))) :
  (ReflectliteValue.method (ReflectliteValue.valueError "reflectlite.Value.Elem" 0) ReflectliteValue.elem #[.agg #[.pointer (some (Ja 9 333)),.pointer (some a),Ju 150]]).run prog W
  =.ok (.agg #[.pointer (some (Ja 9 331)),.pointer (some p),Ju 409]) W:=by
 rw[QAR];simp only[Sem.run_bind,Qok,Result.andThen];simp[ReflectliteValue.elem,loadVar,isAgg,underlying,underlying333,b,Result.andThen,QwX,QEQ]
theorem QDP(v x:Value):ReflectliteValue.set #[v,x]=(do
  let (some (dst,a,fl),some (src,b,_)):=(<-ReflectliteValue.parts v,<-ReflectliteValue.parts x)
   |unsupported (.noEntry "extern/(internal/reflectlite.Value).Set.zeroValue")
  if fl/ReflectliteValue.flagAddr%2==0 then unsupported (.noEntry "extern/(internal/reflectlite.Value).Set.unaddressable")
  let val <-loadVar src b
  if <-Rtype.directlyAssignable dst src then storeVar dst a val
  else if <-Rtype.implements dst src then
   if (<-Rtype.kind src)==20 then
    match val with
    | .nilIface=>unsupported (.noEntry "extern/reflectlite: a nil value of one interface type handed on as a value of another")
    |_=>storeVar dst a val
   else storeVar dst a (.iface src val)
  else panicString ("reflectlite.Set: value of type "++(<-Rtype.spelt src)++ " is not assignable to type "++(<-Rtype.spelt dst))
  pure (.tuple #[])):=rfl
theorem QwW(a:Addr)(w:World):(ReflectliteValue.parts (.agg #[.pointer (some (Ja 9 331)),.pointer (some a),Ju 409])).run prog w=.ok (some (331,a,409)) w:=by kernel_rfl
theorem QwV(a:Addr)(w:World):(ReflectliteValue.parts (.agg #[.pointer (some (Ja 9 331)),.pointer (some a),Ju 153])).run prog w=.ok (some (331,a,153)) w:=by kernel_rfl
theorem QwY(w:World):(Rtype.directlyAssignable 331 331).run prog w=.ok true w:=by kernel_rfl
theorem QCB(w:World)(b:Nat)(n:Int)(h:w.heap[b]?=some (.cells #[Ji n] 331 (0,0))):(loadVar 331 (Ja b 0)).run prog w=.ok (.agg #[Ji n]) w:=
 run_loadVar_row w b 331 331 #[Ji n] (0,0) _ h underlying331 rfl (by kernel_rfl)
end
section
open Go.RowKit Go.Extern.Stop Go.Stop Go.Extern
structure EnvT(w:World):Prop where
 f:EnvF w
 et:w.cell? (Ja 1 0)=some (.iface 411 (.agg #[.pointer (some (Ja 9 247))]))
 elt:1<w.heap.size
theorem EnvT.below{w w':World}(h:EnvT w)(a:Jw w w'):EnvT w':=
 ⟨h.f.below a,(a.cell (p:=(Ja 1 0)) h.elt).trans h.et,qK h.elt a.size⟩
theorem QDO(a b:Nat)(n c:Int)(W:World)(h:W.heap[b]?=some (.cells #[Ji n] 331 (0,0)))(d:W.heap[a]?=some (.cells #[Ji c] 331 (0,0))) :
  (ReflectliteValue.set #[.agg #[.pointer (some (Ja 9 331)),Jp a,Ju 409],.agg #[.pointer (some (Ja 9 331)),Jp b,Ju 153]]).run prog W
  =.ok (.tuple #[]) (W.setCell (Ja a 0) (Ji n)):=by
 have g:W.cell? (Ja a 0)=some (Ji c):=by unfold World.cell?;rw[d];rfl
 have f:W.frozen? (Ja a 0)=false:=by simp[World.frozen?,d]
 rw[QDP];simp only[Sem.run_bind,QwW,QwV,Result.andThen];simp[ReflectliteValue.flagAddr,QCB W b n h,Result.andThen,QwY,storeVar,Value.cells,storeCells,Addr.add];rw[run_store prog W (Ja a 0) _ _ (by rfl)]
 simp[g,f]
theorem QD6(n b:Int)(t:Nat)(w:World)(f:EnvT w)(d:w.heap[t]?=some (.cells #[Ji b] 331 (0,0))) :
  Calls prog 213 #[.iface 331 (.agg #[Ji n]),.iface 333 (Jp t)] w fun ev w'=>ev=.returned (.bool true)/\w'.heap[t]?=some (.cells #[Ji n] 331 (0,0))/\Touch (fun g=>g=t) w w':=by
 have R:=@run_callFunc_extern prog 241 _ (fun args=>ReflectliteValue.unpack (args.getD 0 (.tuple #[]))) func241 (by kernel_rfl) (by kernel_rfl) (by kernel_rfl) (by kernel_rfl)
 have E:=@run_callFunc_extern prog 242 _ (ReflectliteValue.methodAny (ReflectliteValue.valueError "reflectlite.Value.Type" 0) (fun t _ _ _=>ReflectliteType.toType t)) func242 (by kernel_rfl) (by kernel_rfl) (by kernel_rfl) (by kernel_rfl)
 have J:=@run_callFunc_extern prog 243 _ (ReflectliteValue.method (ReflectliteValue.valueError "reflectlite.Value.IsNil" 0) ReflectliteValue.isNil) func243 (by kernel_rfl) (by kernel_rfl) (by kernel_rfl) (by kernel_rfl)
 have p:=@run_callFunc_extern prog 405 _ (ReflectliteType.abiMethod fun t=>do pure (Jb (<-Rtype.kind t))) func405 (by kernel_rfl) (by kernel_rfl) (by kernel_rfl) (by kernel_rfl)
 have s:=@run_callFunc_extern prog 428 _ (ReflectliteType.method ReflectliteType.elem) func428 (by kernel_rfl) (by kernel_rfl) (by kernel_rfl) (by kernel_rfl)
 have v:=@run_callFunc_extern prog 429 _ (ReflectliteType.relation "Implements" ReflectliteType.implements_) func429 (by kernel_rfl) (by kernel_rfl) (by kernel_rfl) (by kernel_rfl)
 have l:=@run_callFunc_extern prog 268 _ ReflectliteType.typeOf func268 (by kernel_rfl) (by kernel_rfl) (by kernel_rfl) (by kernel_rfl)
 have j:=@run_callFunc_extern prog 426 _ (ReflectliteType.relation "AssignableTo" ReflectliteType.assignableTo) func426 (by kernel_rfl) (by kernel_rfl) (by kernel_rfl) (by kernel_rfl)
 have q:=@run_callFunc_extern prog 269 _ (ReflectliteValue.method (ReflectliteValue.valueError "reflectlite.Value.Elem" 0) ReflectliteValue.elem) func269 (by kernel_rfl) (by kernel_rfl) (by kernel_rfl) (by kernel_rfl)
 have m:=@run_callFunc_extern prog 270 _ ReflectliteValue.set func270 (by kernel_rfl) (by kernel_rfl) (by kernel_rfl) (by kernel_rfl)
 have z:=QwU;have P:=QtC;have S:=QwZ;have I:=QwS n;have L:=QwT;have C:=QCA;have K:=QzL;have B:=QzN;have y:=QzM;have M:=QzP;have A:=QzO;have G:=QCD;have H:=QCC;have c:t<w.heap.size:=(gsi d).1;have k:=f.et;have i:=f.elt;have N:=QzQ (Ja w.heap.size 0) (Ja t 0) ((w.alloc (.cells #[Jp t] 333)).alloc (.cells #[.pointer (some (Ja 9 333)),Jp w.heap.size,Ju 150] 367)) (by simp)
 have r:((w.alloc (.cells #[Jp t] 333)).alloc (.cells #[.pointer (some (Ja 9 333)),Jp w.heap.size,Ju 150] 367)).cell? (Ja 1 0)=some (.iface 411 (.agg #[.pointer (some (Ja 9 247))])):=by
  rw[World.cell?_alloc_lt _ _ (Ja 1 0) (by simp<;>omega),World.cell?_alloc_lt _ _ (Ja 1 0) i];exact k
 have D:=QzR (Ja w.heap.size 0) (Ja t 0) (((w.alloc (.cells #[Jp t] 333)).alloc (.cells #[.pointer (some (Ja 9 333)),Jp w.heap.size,Ju 150] 367)).alloc (.cells #[.pointer (some (Ja 9 333)),Jp w.heap.size,Ju 150] 367)) (by rw[World.cell?_alloc_lt _ _ (Ja w.heap.size 0) (by simp<;>omega)];simp)
 have a:Jw w ((((w.alloc (.cells #[Jp t] 333)).alloc (.cells #[.pointer (some (Ja 9 333)),Jp w.heap.size,Ju 150] 367)).alloc (.cells #[.pointer (some (Ja 9 333)),Jp w.heap.size,Ju 150] 367)).alloc (.cells #[Ji n] 331)):=((((qF _ _).alloc (qC _) _).alloc (by simp) _).alloc (by simp<;>omega) _).alloc (by simp<;>omega) _
 have O:=QDO t (w.heap.size+1+1+1) n b ((((w.alloc (.cells #[Jp t] 333)).alloc (.cells #[.pointer (some (Ja 9 333)),Jp w.heap.size,Ju 150] 367)).alloc (.cells #[.pointer (some (Ja 9 333)),Jp w.heap.size,Ju 150] 367)).alloc (.cells #[Ji n] 331))
  (by have:=JI (((w.alloc (.cells #[Jp t] 333)).alloc (.cells #[.pointer (some (Ja 9 333)),Jp w.heap.size,Ju 150] 367)).alloc (.cells #[.pointer (some (Ja 9 333)),Jp w.heap.size,Ju 150] 367)) (.cells #[Ji n] 331);simpa[Jh] using this)
  ((a.block t c).trans d)
 have h:=Z a;have x:=Z ((a.block t c).trans d);clear a d f;go_enter func213,ntmps213;go_wp2;refine wp_loop_rounds 1 ?_;rw[rounds_succ];go_wp2;go_ret;refine⟨rfl,by simp[World.setCell,J6,x.o],Qaj _ (Touch.of_below h.o) (.inl rfl)⟩
end
section
def QC4(s:JA)(a b t:Int):Value:=.tuple #[Jt (bs (Qrp s a b t)),Ji (QeP s a b t:Nat)]
theorem Qzb(s:JA)(a b t:Int)(h:QeP s a b t≠0):QC4 s a b t=.tuple #[Jt ⟨#[]⟩,Ji (QeP s a b t:Nat)]:=by
 unfold QC4 Qrp;rw[JJ h];rfl
theorem Qqg(s:JA)(a b t:Int)(w:World)(A:s.size<=1000000)(r:EnvT w) :
  Calls prog 175 #[Jt s,.agg #[Ji a,Ji b],Ji t] w (JB (QC4 s a b t) w):=by
 have k:=Z (fun w r=>Qqf s a b t w A r)
 have h:=Z (QbD w (Ji a) (Ji b) 140);have i:=Z (r.below h.o);obtain⟨r0,r1⟩:=QAV w (Ji a) (Ji b) 140;clear r
 by_cases l:QeP s a b t=0
 ·have HA:Hi (QAC s a b t=.tuple #[Jt (bs (Qrp s a b t)),.nilIface]/\QC4 s a b t=.tuple #[Jt (bs (Qrp s a b t)),Ji 0]):=Z (by
   unfold QAC QEn QC4;rw[l];exact⟨rfl,rfl⟩)
  rw[HA.o.1] at k;clear l;generalize bs (Qrp s a b t)=B at k HA;go_enter func175,ntmps175;go_wp2_with fail;refine (k.o _ i.o.f).mono ?_;rintro e f ⟨rfl,d⟩;have c:=Z (Qaa h.o d);clear d r0 r1;go_wp2_with fail;refine (QD5 _ _).mono ?_;rintro e w' ⟨rfl,m⟩;obtain rfl:=m.symm;clear m;go_wp2;go_ret2;exact⟨by rw[HA.o.2]<;>rfl,c.o.alloc c.o.size _⟩
 ·have HA:Hi (QAC s a b t=.tuple #[Jt ⟨#[]⟩,.iface 331 (.agg #[Ji (QeP s a b t:Nat)])]/\QC4 s a b t=.tuple #[Jt ⟨#[]⟩,Ji (QeP s a b t:Nat)]):=Z ⟨Qdg s a b t _ rfl l,Qzb s a b t l⟩
  rw[HA.o.1] at k;clear l;generalize ((QeP s a b t:Nat):Int)=E at k HA;go_enter func175,ntmps175;go_wp2_with fail;refine (k.o _ i.o.f).mono ?_;rintro e f ⟨rfl,d⟩;have j:Jw f (f.alloc (.cells #[Ji 0] 331)):=(qF _ _).alloc (qC _) _;have v:=Z ((i.o.below d).below j);have z:=Z (JI f (.cells #[Ji 0] 331));have c:=Z (Qaa h.o d);have p:=Z j;clear d r0 r1 j;go_wp2_with fail;refine (QD6 E 0 f.heap.size _ v.o z.o).mono ?_;rintro e y ⟨rfl,q,n⟩;have C:y.cell? (Ja f.heap.size 0)=some (Ji E):=by unfold World.cell?;rw[q];rfl
  have x:Hi (Jw w y):=Z ((Qaa c.o p.o).trans (n.below (fun g hg=>by rw[show g=f.heap.size from hg];exact c.o.size) (qD c.o.size p.o.size)))
  clear q n;go_wp2_with fail;go_quiet (fail);go_wp2;go_ret2;exact⟨by rw[HA.o.2]<;>rfl,x.o.trans ⟨rfl,rfl,rfl,qC _,fun _ _=>rfl⟩⟩
structure FC(w0 w:World)(Cb P:Nat)(hh hp:JA)(t r:Int)(h p f:JA)(rest:List Flt)(log:List Evt)(n asks last:Nat)(rv lv:Value):Prop where
 k:KL w0 w P h p f rest log n rv lv
 c:w.heap[Cb]?=some (.cells #[Jp P,Jt hh,Jt hp,Ji t,Ji r,Ji (asks:Int),Ji (last:Int)] 144 (0,0))
 lo:w0.heap.size<=Cb
def FS(P Cb:Nat)(lv:Value)(g:Nat):Prop:=LS P lv g\/g=Cb
theorem Qdw{w:World}{b:Nat}{a f h g c i d:Value}{t:JT}(k:w.heap[b]?=some (.cells #[a,f,h,g,c,i,d] t (0,0))) :
  (w.cell? (Ja b 0)=some a/\w.cell? (Ja b 1)=some f/\w.cell? (Ja b 2)=some h/\w.cell? (Ja b 3)=some g/\w.cell? (Ja b 4)=some c/\w.cell? (Ja b 5)=some i/\w.cell? (Ja b 6)=some d)/\w.frozen? (Ja b 5)=false/\w.frozen? (Ja b 6)=false:=by
 refine⟨⟨?_,?_,?_,?_,?_,?_,?_⟩,?_,?_⟩
 all_goals first
  |(unfold World.cell?;rw[k];rfl)
  |(unfold World.frozen?;rw[k];rfl)
theorem Qst{w:World}{b:Nat}{a f h g c i d:Value}{t:JT}(k:w.heap[b]?=some (.cells #[a,f,h,g,c,i,d] t (0,0)))(y:Value):(w.setCell (Ja b 5) y).heap[b]?=some (.cells #[a,f,h,g,c,y,d] t (0,0)):=by
 simp[World.setCell,J6,k]
theorem Qss{w:World}{b:Nat}{a d g f c h i:Value}{t:JT}(k:w.heap[b]?=some (.cells #[a,d,g,f,c,h,i] t (0,0)))(y:Value):(w.setCell (Ja b 6) y).heap[b]?=some (.cells #[a,d,g,f,c,h,y] t (0,0)):=by
 simp[World.setCell,J6,k]
section
variable {w0 w w':World} {Cb P:Nat} {hh hp h p f:JA} {t r:Int} {rest rest':List Flt} {log log':List Evt} {n n' asks last:Nat} {rv lv rv' lv':Value}
theorem FC.step(k:FC w0 w Cb P hh hp t r h p f rest log n asks last rv lv)(a:Jw w w'):FC w0 w' Cb P hh hp t r h p f rest log n asks last rv lv:=
 ⟨k.k.step a,(a.block Cb (gsi k.c).1).trans k.c,k.lo⟩
theorem FC.set5(k:FC w0 w Cb P hh hp t r h p f rest log n asks last rv lv)(m:Nat):FC w0 (w.setCell (Ja Cb 5) (Ji (m:Int))) Cb P hh hp t r h p f rest log n m last rv lv:=
 ⟨k.k.far k.c (by decide) (by decide) (by decide) k.lo (Qaj _ (Touch.refl _ _) (.inl rfl)),Qst k.c _,k.lo⟩
theorem FC.set6(k:FC w0 w Cb P hh hp t r h p f rest log n asks last rv lv)(m:Nat):FC w0 (w.setCell (Ja Cb 6) (Ji (m:Int))) Cb P hh hp t r h p f rest log n asks m rv lv:=
 ⟨k.k.far k.c (by decide) (by decide) (by decide) k.lo (Qaj _ (Touch.refl _ _) (.inl rfl)),Qss k.c _,k.lo⟩
theorem FC.link(k:FC w0 w Cb P hh hp t r h p f rest log n asks last rv lv)(a:KL w0 w' P h p f rest' log' n' rv' lv')(b:Touch (LS P lv) w w'):FC w0 w' Cb P hh hp t r h p f rest' log' n' asks last rv' lv':=
 ⟨a,Qlu k.k k.c (by decide) (by decide) b,k.lo⟩
theorem FC.total(k:FC w0 w Cb P hh hp t r h p f rest log n asks last rv lv):Calls prog 130 #[Jp Cb] w (JS (Ji t) w):=by
 obtain⟨⟨-,-,-,c3,-,-,-⟩,-⟩:=Qdw k.c;clear k;go_enter func130,ntmps130;go_wp2;go_ret;exact⟨rfl,rfl⟩
end
def QAb(hh hp:JL)(t r:Int):Nat:=if QhS hh hp≠0\/t<0\/9007199254740991<t\/r<0\/8<r then 2 else 0
theorem QyH(b a:JL)(h:QhS b a≠0):QhS b a=2:=by
 unfold QhS at h ⊢;split
 ·rfl
 ·rename_i c;rw[JJ c] at h;exact JN rfl h
theorem QmK(P:Nat)(i f:JA)(t r:Int)(w:World)(c:QAb i.data.toList f.data.toList t r≠0):Calls prog 21 #[Jp P,Jt i,Jt f,Ji t,Ji r] w (JB (.tuple #[.pointer none,Ji 2]) w):=by
 have d:=Z (fun w=>QdU f i 0 0 w)
 rw[Qjr] at d
 by_cases b:QhS i.data.toList f.data.toList=0
 ·rw[b] at d
  by_cases k:t<0
  ·clear c b
   go_enter func21,ntmps21;go_wp2_with fail;refine (d.o _).mono ?_;rintro e g ⟨rfl,a⟩;have n:decide (t<0)=true:=qA k;go_wp2;go_ret2;exact⟨rfl,a⟩
  have n:decide (t<0)=false:=qB k
  by_cases m:9007199254740991<t
  ·clear c b
   have p:decide (t>9007199254740991)=true:=qA m;go_enter func21,ntmps21;go_wp2_with fail;refine (d.o _).mono ?_;rintro e g ⟨rfl,a⟩;go_wp2;go_ret2;exact⟨rfl,a⟩
  have p:decide (t>9007199254740991)=false:=qB m
  by_cases l:r<0
  ·clear c b
   have q:decide (r<0)=true:=qA l;go_enter func21,ntmps21;go_wp2_with fail;refine (d.o _).mono ?_;rintro e g ⟨rfl,a⟩;go_wp2;go_ret2;exact⟨rfl,a⟩
  have q:decide (r<0)=false:=qB l;have j:8<r:=by
   unfold QAb at c
   by_cases j:8<r
   ·exact j
   ·rw[JJ (by rintro (h|h|h|h|h);exact h b;exact k h;exact m h;exact l h;exact j h)] at c
    exact JN rfl c
  have s:decide (r>8)=true:=qA j;clear c b;go_enter func21,ntmps21;go_wp2_with fail;refine (d.o _).mono ?_;rintro e g ⟨rfl,a⟩;go_wp2;go_ret2;exact⟨rfl,a⟩
 ·rw[QyH _ _ b] at d
  clear c b;go_enter func21,ntmps21;go_wp2_with fail;refine (d.o _).mono ?_;rintro e g ⟨rfl,a⟩;go_wp2;go_ret2;exact⟨rfl,a⟩
theorem QDU(c b:JL)(t r:Int)(h:QAb c b t r=0):QhS c b=0/\0<=t/\t<=9007199254740991/\0<=r/\r<=8:=by
 unfold QAb at h;split at h
 ·exact JN h (by decide)
 ·rename_i a
  refine⟨Classical.byContradiction fun e=>a (.inl e),?_,?_,?_,?_⟩
  ·exact Int.not_lt.1 fun e=>a (.inr (.inl e))
  ·exact Int.not_lt.1 fun e=>a (.inr (.inr (.inl e)))
  ·exact Int.not_lt.1 fun e=>a (.inr (.inr (.inr (.inl e))))
  ·exact Int.not_lt.1 fun e=>a (.inr (.inr (.inr (.inr e))))
theorem QwO(w0:World)(P:Nat)(i c:JA)(t r:Int)(h p f:JA)(a:List Flt)(d:List Evt)(n:Nat)(v lv:Value)(w:World)(k:KL w0 w P h p f a d n v lv)(s:QAb i.data.toList c.data.toList t r=0):Calls prog 21 #[Jp P,Jt i,Jt c,Ji t,Ji r] w fun e w'=>∃Cb,e=.returned (.tuple #[Jp Cb,Ji 0])/\FC w0 w' Cb P i c t r h p f a d n 0 0 v lv/\Jw w w'/\w.heap.size<=Cb:=by
 have q:=Z (fun w=>QdU c i 0 0 w)
 rw[Qjr] at q;obtain⟨h1,h2,h3,h4,h5⟩:=QDU _ _ _ _ s;rw[h1] at q;have y:decide (t<0)=false:=qB (by omega)
 have z:decide (t>9007199254740991)=false:=qB (by omega)
 have A:decide (r<0)=false:=qB (by omega)
 have B:decide (r>8)=false:=qB (by omega)
 have x:=Z k;clear s h1 k;go_enter func21,ntmps21;go_wp2_with fail;refine (q.o _).mono ?_;rintro e m ⟨rfl,l⟩;have b:=Z l;clear l;go_wp2;go_ret2;have g:=x.o.step b.o;have j:Jw m (m.alloc (.cells #[Jp P,Jt i,Jt c,Ji t,Ji r,Ji 0,Ji 0] 144)):=(qF _ _).alloc (qC _) _;exact⟨m.heap.size,rfl,⟨g.step j,JI m _,g.bel.size⟩,Qaa b.o j,b.o.size⟩
end
section
def Qli(a b t:Int):Nat:=if QdK a b≠0\/t<=b then 8 else if 65536<QaO a b then 5 else 0
def GS(X Cb P:Nat)(hh hp:JA)(t r a b:Int)(w:World):Prop:=(w.cell? (Ja X 0)=some (Ji a)/\w.cell? (Ja X 1)=some (Ji b))/\w.cell? (Ja Cb 0)=some (Jp P)/\w.cell? (Ja Cb 1)=some (Jt hh)/\w.cell? (Ja Cb 2)=some (Jt hp)/\w.cell? (Ja Cb 3)=some (Ji t)/\w.cell? (Ja Cb 4)=some (Ji r)
theorem QDL{w:World}{X f P:Nat}{d c:JA}{t r a b:Int}{j i:Value}(g:w.heap[X]?=some (.cells #[Ji a,Ji b] 140 (0,0)))(h:w.heap[f]?=some (.cells #[Jp P,Jt d,Jt c,Ji t,Ji r,j,i] 144 (0,0))):GS X f P d c t r a b w:=by
 obtain⟨⟨c0,c1,c2,c3,c4,-,-⟩,-⟩:=Qdw h;exact⟨⟨by unfold World.cell?;rw[g];rfl,by unfold World.cell?;rw[g];rfl⟩,c0,c1,c2,c3,c4⟩
section
variable {w0 w:World} {Cb P:Nat} {hh hp h p f:JA} {t r:Int} {rest:List Flt} {log:List Evt} {n asks last:Nat} {rv lv:Value}
theorem FC.range(k:FC w0 w Cb P hh hp t r h p f rest log n asks last rv lv)(a b:Int):∀W,Below (w.alloc (.cells #[Ji a,Ji b] 140)).heap.size (w.alloc (.cells #[Ji a,Ji b] 140)) W->GS w.heap.size Cb P hh hp t r a b W:=fun W hW=>
 QDL ((hW.block _ (by simp)).trans (JI w _)) ((k.step (Qaa (QbD w _ _ _) hW)).c)
end
end
section
theorem QzG(p h:JL)(a b:Int)(d:Qg7 p h a b=0)(f:a<=9223372036854775807)(g:b<=9223372036854775807):(Qm2 p h a b).length<=1000:=by
 have c:=Qk8 p h a b d f g;have j:=(c (QcU p) (by simp)).2.2
 have i:=(c (QdL h) (by simp)).2.2
 have k:=(c (QdX a b) (by simp)).2.2
 unfold Qm2 Qa2 Qa2 Qa2 Qa2;simp only[qG,qH,List.length_nil];omega
theorem Qoc(a b t:Int)(h:Qli a b t=0):QdK a b=0/\b<t/\QaO a b<=65536:=by
 unfold Qli at h;split at h
 ·exact JN h (by decide)
 ·rename_i c
  split at h
  ·exact JN h (by decide)
  ·rename_i d
   exact⟨Classical.byContradiction fun e=>c (.inl e),Int.not_le.1 fun e=>c (.inr e),Int.not_lt.1 d⟩
theorem QrA{w:World}{X c P:Nat}{g d:JA}{t r a b:Int}{j h:Value}(i:w.heap[X]?=some (.cells #[Ji a,Ji b] 140 (0,0)))(f:w.heap[c]?=some (.cells #[Jp P,Jt g,Jt d,Ji t,Ji r,j,h] 144 (0,0))):w.cell? (Ja X 0)=some (Ji a)/\w.cell? (Ja X 1)=some (Ji b)/\w.cell? (Ja c 0)=some (Jp P)/\w.cell? (Ja c 3)=some (Ji t):=by
 obtain⟨⟨x0,x1⟩,c0,-,-,c3,-⟩:=QDL i f;exact⟨x0,x1,c0,c3⟩
theorem x_ne{w:World}{X b:Nat}{A B:JW}(a:w.heap[X]?=some (.cells A 140 (0,0)))(c:w.heap[b]?=some (.cells B 144 (0,0))):X≠b:=fun e=>by
 (try unfold Jh at *);rw[e,c] at a;simp only[J8,Obj.cells.injEq] at a;exact JN a.2.1 (by decide)
theorem QqQ{w w':World}{P a:Nat}{lv:Value}{o:Nat}(y:Value)(h:Touch (FS P a lv) w w'):Touch (FS P a lv) w (w'.setCell (Ja a o) y):=Qaj _ h (.inl (.inr rfl))
end
end Go.Proofs.YtlpecalodphalaaGreatDoor
