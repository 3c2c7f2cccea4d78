/- What parts of the program compute: packed for TopReach. Conditions: none. -/
import Derived.Test.YtilaebjndadkhaaGreatDoorPz4
set_option linter.all false
set_option maxRecDepth 100000
set_option maxHeartbeats 8000000
open Go.Lib (hid)
namespace Go.Proofs.YtilaebjndadkhaaGreatDoor
section
open Go.RowKit
def Odd(o:Obj):Prop:=o.isCells=false∧∀ es c,o≠.map es c
def QwB(T:TypeId→Prop)(B:Nat)(W:World)(r:Nat):Prop:=B≤r∧∃ cs t m,W.heap[r]?=some (.cells cs t m)∧T t
def QyJ(T:TypeId→Prop)(B:Nat)(W:World)(r:Nat):Prop:=QwB T B W r∨(B≤r∧∃ o,W.heap[r]?=some o∧Odd o)
def AbC{β:Type}(T:TypeId→Prop)(B:Nat)(J:β→World→Prop):Prop:=∀ s W W' row,J s W→W.grownBy W' row→(∀ r,row=some r→QwB T B W r)→J s W'
def AbT{β:Type}(T:TypeId→Prop)(B:Nat)(J:β→World→Prop):Prop:=∀ s W W' row,J s W→W.grownBy W' row→(∀ r,row=some r→QyJ T B W r)→J s W'
structure KeptC(T:TypeId→Prop)(W W':World):Prop where
 sz:W.heap.size≤W'.heap.size
 cl:∀ (k:Nat) (cs:Array Value) (t:TypeId) (m:Nat×Nat),W.heap[k]?=some (.cells cs t m)→T t→W'.heap[k]?=some (.cells cs t m)
structure KeptT(T:TypeId→Prop)(W W':World):Prop extends KeptC T W W' where
 od:∀ (k:Nat) (o:Obj),W.heap[k]?=some o→Odd o→W'.heap[k]?=some o
theorem KeptC.refl(T:TypeId→Prop)(W:World):KeptC T W W:=⟨Nat.le_refl _,fun _ _ _ _ h _=>h⟩
theorem KeptC.trans{T:TypeId→Prop}{A B C:World}(h:KeptC T A B)(k:KeptC T B C):KeptC T A C:=⟨Nat.le_trans h.sz k.sz,fun i cs t m x y=>k.cl i cs t m (h.cl i cs t m x y) y⟩
theorem KeptT.trans{T:TypeId→Prop}{A B C:World}(h:KeptT T A B)(k:KeptT T B C):KeptT T A C:=⟨h.toKeptC.trans k.toKeptC,fun i o x y=>k.od i o (h.od i o x y) y⟩
theorem KeptT.of_grown{T:TypeId→Prop}{W W':World}{row:Option Nat}(h:W.grownBy W' row)(hr:∀ r,row=some r→W.heap.size≤r∨(∃ cs t m,W.heap[r]?=some (.cells cs t m)∧¬T t)∨(∃ es c,W.heap[r]?=some (.map es c))):KeptT T W W':=by
 have key:∀ (k:Nat) (o:Obj),W.heap[k]?=some o→some k=row→(∃ cs t m,o = .cells cs t m∧¬T t)∨∃ es c,o = .map es c:=by
  intro k o hk he;have hlt:=(gsi hk).1;rcases hr k he.symm with h1|⟨cs,t,m,h1,h2⟩|⟨es,c,h1⟩
  ·omega
  ·rw [hk] at h1;exact .inl ⟨cs,t,m,Option.some.inj h1,h2⟩
  ·rw [hk] at h1;exact .inr ⟨es,c,Option.some.inj h1⟩
 refine ⟨⟨h.size,fun k cs t m hk ht=>?_⟩,fun k o hk ho=>?_⟩
 ·refine (h.block k (gsi hk).1 (fun e=>?_)).trans hk
  rcases key k _ hk e with ⟨cs',t',m',e1,h2⟩|⟨es,c,e1⟩
  ·injection e1 with _ e2 _;subst e2;exact h2 ht
  ·cases e1
 ·refine (h.block k (gsi hk).1 (fun e=>?_)).trans hk
  rcases key k _ hk e with ⟨cs',t',m',e1,h2⟩|⟨es,c,e1⟩
  ·subst e1;have:=ho.1;cases this
  ·exact ho.2 es c e1
theorem KeptT.alloc{T:TypeId→Prop}(W:World)(o:Obj):KeptT T W (W.alloc o):=KeptT.of_grown (World.grownBy_alloc W o none) (fun _ e=>by cases e)
theorem KeptT.drew{T:TypeId→Prop}(W:World):KeptT T W W.drew:=⟨⟨Nat.le_refl _,fun _ _ _ _ h _=>h⟩,fun _ _ h _=>h⟩
theorem KeptT.setCell{T:TypeId→Prop}(W:World){a:Addr}(v:Value){cs:Array Value}{t:TypeId}{m:Nat×Nat}(h:W.heap[a.block]?=some (.cells cs t m))(ht:¬T t):KeptT T W (W.setCell a v):=
 KeptT.of_grown (row:=some a.block) ⟨rfl,rfl,rfl,by simp [World.setCell],fun k _ hk=>Below.heap_setCell _ _ _ _ (fun e=>hk (by rw [e]))⟩ (fun r e=>by cases e;exact .inr (.inl ⟨cs,t,m,h,ht⟩))
def QAn{α:Type}(F:Fence)(n:Nat)(P:Program)(g:Nat)(lb:Array Value)(encs:α→Array Value)(T:TypeId→Prop)(G:List α→α→Prop)(S:List α→Prop)(w:World):Prop:=
 ∀ (l:Nat) (J:List α→World→Prop) (W:World),Below w.heap.size w W→AbC T W.heap.size J→
  (∀ pre x W1,J pre W1→G pre x→YieldAt F (n-1) P l (encs x) W1 fun e W'=>e = .returned (.bool true)∧J (pre++[x]) W'∧KeptC T W1 W')→
  J [] W→CallsIn F n P g (#[.func (.yield l) #[] #[]]++lb) W fun e W'=>(∃ v,e = .returned v)∧∃ xs,S xs∧J xs W'
theorem AbT.putObj{β:Type}{T:TypeId→Prop}{B:Nat}{I:β→World→Prop}(h:AbT T B I){s:β}{W:World}{l:Nat}{o:Obj}(o':Obj)(hs:I s W)(hB:B≤l)(hl:W.heap[l]?=some o)(ho:Odd o):I s (W.putObj l o'):=
 h s W _ (some l) hs (grownBy_putObj' W l o') (fun r e=>by cases e;exact .inr ⟨hB,o,hl,ho⟩)
theorem AbT.alloc{β:Type}{T:TypeId→Prop}{B:Nat}{I:β→World→Prop}(h:AbT T B I){s:β}{W:World}(o:Obj)(hs:I s W):I s (W.alloc o):=
 h s W _ none hs (World.grownBy_alloc W o none) (fun r e=>by cases e)
theorem QdM(r:Loop):Odd (.loop r):=⟨rfl,fun _ _ h=>by cases h⟩
theorem Qsz(d:Option (List Deferred)):Odd (.deferred d):=⟨rfl,fun _ _ h=>by cases h⟩
theorem Qmy{T:TypeId→Prop}{B:Nat}{W W':World}{row:Option Nat}(hg:W.grownBy W' row)(hr:∀ r,row=some r→QwB T B W r){k:Nat}{o:Obj}(hk:W.heap[k]?=some o)(ho:Odd o):W'.heap[k]?=some o:=by
 refine (hg.block k (gsi hk).1 (fun e=>?_)).trans hk
 obtain ⟨-,cs,t,m,h1,-⟩:=hr k e.symm;rw [hk] at h1;obtain rfl:=Option.some.inj h1;have:=ho.1;cases this
theorem QrU{α:Type}{F:Fence}{n:Nat}{P:Program}{g:Operand}{ps:Array Tmp}{assign QcK:Code}{Q:Exit→Act→World→Prop}{a:Act}{w:World}
  (hro:F.round=none) (h1:1≤n) {gf:Nat} {lb:Array Value} (hg:a.eval g = .func (.func gf) #[] lb) (hFg:F.fn gf) (eg:∀ args w,(callFunc gf args).run P w = .ok (.enter gf args) w)
  {encs:α→Array Value} (T:TypeId→Prop) {G:List α→α→Prop} {S:List α→Prop} {w0:World} (hseq:QAn F (n-1) P gf lb encs T G S w0) (hb0:Below w0.heap.size w0 w) (hps:∀ x,(encs x).size=ps.size)
  (I:List α→World→Prop) (hI:AbT T w.heap.size I) (h0:I [] w) (a₁:α→Act)
  (QBv:∀ (l:Nat) (x:α) (W:World) (K:Act→World→Prop),K (a₁ x) W→
   assign.wpIn (F.inRound l) (n-1-1) P (Exit.then K (fun _ _ _=>False)) { tmps:=(ps.zip (encs x)).foldl (fun t (p,v)=>t.setIfInBounds p v) a.tmps,defers:=[] } W)
  (QBc:∀ (l:Nat) (pre:List α) (x:α) (W:World),I pre W→G pre x→QcK.wpIn (F.inRound l) (n-1-1) P (fun e _ W'=>e = .normal∧KeptT T W W'∧I (pre++[x]) W') (a₁ x) W)
  (hdone:∀ (D:Nat) (xs:List α) (W:World),w.heap.size≤D→S xs→I xs W→W.heap[D]?=some (.deferred (some []))→Q .normal { a with defers:={ target:=.collected D,args:=#[] } :: a.defers } W) :
  (Code.rangeFunc g ps assign QcK).wpIn F n P Q a w:=by
 refine wpIn_rangeFunc ?_;intro fn hfn;rw [hro];obtain ⟨rc,hrc⟩:∃ rc:LoopState→Loop,rc=fun st=>{ state:=st,pending:=none,fn,tmps:=a.tmps,params:=ps,assign,body:=QcK,defers:=w.heap.size }:=⟨_,rfl⟩
 obtain ⟨W1,hW1⟩:∃ W1,(w.alloc (.deferred (some []))).alloc (.loop (rc .ready))=W1:=⟨_,rfl⟩;have hL1:W1.heap[w.heap.size+1]?=some (.loop (rc .ready)):=by
  rw [←hW1];have:=World.alloc_heap_new (w.alloc (.deferred (some []))) (.loop (rc .ready))
  rwa [World.size_alloc] at this
 have hD1:W1.heap[w.heap.size]?=some (.deferred (some [])):=by
  rw [←hW1];exact (Below.heap_alloc _ _ _ (by simp)).trans (World.alloc_heap_new w _)
 have hz1:W1.heap.size=w.heap.size+2:=by rw [←hW1];simp
 have hI1:I [] W1:=by rw [←hW1];exact hI.alloc _ (hI.alloc _ h0)
 have hb1:Below w0.heap.size w0 W1:=by
  rw [←hW1];exact hb0.trans ((((Below.refl _ w).alloc (Nat.le_refl _) _).alloc (by simp) _).mono hb0.size)
 refine ⟨w.heap.size+1,[{ target:=.collected w.heap.size,args:=#[] }],W1,{ target:=.fn (.func gf) lb,args:=#[.func (.yield (w.heap.size+1)) #[] #[]] },W1,gf,#[.func (.yield (w.heap.size+1)) #[] #[]]++lb,W1,?_,?_,?_,?_,fun _=>h1,?_⟩
 ·rw [←hW1,hrc];exact run_enterLoop_outer _ _ _ _ _
 ·simp only [resolve,hg]
  simp [go_sem]
 ·intro f' hf';simp [Target.leads] at hf';subst hf';exact hFg
 ·simp [invoke,go_sem,eg]
 ·have hup:∀ {A:World} {row:Option Nat},(∀ r,row=some r→QwB T W1.heap.size A r)→(∀ r,row=some r→QyJ T w.heap.size A r):=
   fun hr r e=>.inl ⟨by have:=(hr r e).1;omega,(hr r e).2⟩
  refine (hseq (w.heap.size+1) (fun pre W=>I pre W∧W.heap[w.heap.size+1]?=some (.loop (rc .ready))∧W.heap[w.heap.size]?=some (.deferred (some []))) W1 hb1
   (fun s A B row hs hg' hr=>⟨hI s A B row hs.1 hg' (hup hr),Qmy hg' hr hs.2.1 (QdM _),Qmy hg' hr hs.2.2 (Qsz _)⟩) ?_ ⟨hI1,hL1,hD1⟩).mono ?_
  ·rintro pre x W ⟨hi,hl,hd⟩ hlen
   have hlt:w.heap.size+1<W.heap.size:=(gsi hl).1;have hy:=run_yield (P:=P) (args:=encs x) hl (by rw [hrc];exact hps x)
   rw [hrc] at hy;refine ⟨fn,_,assign,QcK,hy,roundIn_of_wpIn hfn (QBv _ x W _ ?_)⟩;clear hy;obtain ⟨W2,hW2⟩:∃ W2,W.putObj (w.heap.size+1) (.loop { rc .ready with state:=.busy })=W2:=⟨_,rfl⟩
   refine ⟨W2,by rw [←hW2];exact run_beginRound hl (by rw [hrc]),?_⟩
   have hl2:W2.heap[w.heap.size+1]?=some (.loop { rc .ready with state:=.busy }):=by rw [←hW2];exact World.putObj_heap_same hlt
   have hd2:W2.heap[w.heap.size]?=some (.deferred (some [])):=by rw [←hW2];exact (World.putObj_heap_other (by omega)).trans hd
   have put:∀ (A:World) (o o':Obj),A.heap[w.heap.size+1]?=some o→Odd o→KeptC T A (A.putObj (w.heap.size+1) o'):=fun A o o' h ho=>
    ⟨by simp,fun k cs t m hk _=>(World.putObj_heap_other (fun e=>by subst e;rw [h] at hk;obtain rfl:=Option.some.inj hk;have:=ho.1;cases this)).trans hk⟩
   have hi2:I pre W2:=by rw [←hW2];exact hI.putObj _ hi (by omega) hl (QdM _)
   have hk2:KeptC T W W2:=by rw [←hW2];exact put W _ _ hl (QdM _)
   refine wpIn_mono (QBc _ pre x W2 hi2 hlen) ?_;rintro e a3 W3 ⟨rfl,hk3,hi3⟩;have hl3:=hk3.od _ _ hl2 (QdM _);have hd3:=hk3.od _ _ hd2 (Qsz _);have hr:=run_endRound (P:=P) none hl3;rw [hrc] at hr;refine ⟨_,_,hr,rfl,⟨?_,?_,?_⟩,?_⟩
   ·exact hI.putObj _ hi3 (by omega) hl3 (QdM _)
   ·rw [hrc];exact World.putObj_heap_same (gsi hl3).1
   ·exact (World.putObj_heap_other (by omega)).trans hd3
   ·exact hk2.trans (hk3.toKeptC.trans (put W3 _ _ hl3 (QdM _)))
  ·rintro e W2 ⟨⟨v,rfl⟩,xs,hS,hi,hl,hd⟩
   have hr:=run_endLoop (P:=P) hl (by rw [hrc];simp)
   refine ⟨none,_,by rw [hrc] at hr;exact hr,hdone _ xs _ (Nat.le_refl _) hS (hI.putObj _ hi (by omega) hl (QdM _)) ((World.putObj_heap_other (by omega)).trans hd)⟩
theorem KeptC.of_below{T:TypeId→Prop}{W W':World}(h:Below W.heap.size W W'):KeptC T W W':=⟨h.size,fun k _ _ _ hk _=>(h.block k (gsi hk).1).trans hk⟩
theorem KeptT.of_below{T:TypeId→Prop}{W W':World}(h:Below W.heap.size W W'):KeptT T W W':=⟨KeptC.of_below h,fun k _ hk _=>(h.block k (gsi hk).1).trans hk⟩
theorem QeZ{W W':World}(h:Below W.heap.size W W'):W.grownBy W' none:=⟨h.os,h.tape,h.output,h.size,fun k hk _=>h.block k hk⟩
theorem AbC.below{β:Type}{T:TypeId→Prop}{B:Nat}{J:β→World→Prop}(h:AbC T B J){s:β}{W W':World}(hs:J s W)(hb:Below W.heap.size W W'):J s W':=h s W W' none hs (QeZ hb) (fun r e=>by cases e)
theorem AbC.alloc{β:Type}{T:TypeId→Prop}{B:Nat}{J:β→World→Prop}(h:AbC T B J){s:β}{W:World}(o:Obj)(hs:J s W):J s (W.alloc o):=h s W _ none hs (World.grownBy_alloc W o none) (fun r e=>by cases e)
end
section
open Go.RowKit
def QiJ(x:Nat)(w:World)(e:Ending)(w':World):Prop:=e = .returned (.int .u64 (x:Nat))∧Below w.heap.size w w'
theorem Qn2(c i a0 a1 a2 a3 e0 e1 e2 e3:Nat)(w:World)(hc:c<4)(hi:i<1000000)(ha2:a2<4294967296)(he:Qbl (e0,e1,e2,e3))(hr:a0≤e0∨c≠0)(ho:e1<18446744073709551615) :
  Calls Tryz.prog 122 #[.int .i64 (c:Nat),.int .i64 (i:Nat),.agg #[.int .u64 (a0:Nat),.int .u64 (a1:Nat),.int .u32 (a2:Nat),.int .u32 (a3:Nat)],.agg #[.int .u64 (e0:Nat),.int .u64 (e1:Nat),.int .u32 (e2:Nat),.int .u32 (e3:Nat)]] w (QiJ (Qnv c i (a0,a1,a2,a3) (e0,e1,e2,e3)) w):=by
 obtain ⟨W,hW⟩:∃ W,(w.alloc (.cells #[.int .u64 (a0:Nat),.int .u64 (a1:Nat),.int .u32 (a2:Nat),.int .u32 (a3:Nat)] 86)).alloc (.cells #[.int .u64 (e0:Nat),.int .u64 (e1:Nat),.int .u32 (e2:Nat),.int .u32 (e3:Nat)] 86)=W:=⟨_,rfl⟩;have hB:Below w.heap.size w W:=by rw [←hW];exact ((Below.refl _ _).alloc (Nat.le_refl _) _).alloc (by simp) _
 have hz:W.heap.size=w.heap.size+2:=by rw [←hW];simp
 have k0:W.heap[w.heap.size]?=some (.cells #[.int .u64 (a0:Nat),.int .u64 (a1:Nat),.int .u32 (a2:Nat),.int .u32 (a3:Nat)] 86 (0,0)):=by
  rw [←hW];exact (heap_alloc_old _ _ (by rw [World.size_alloc];omega)).trans (heap_alloc_new w _)
 have k1:W.heap[w.heap.size+1]?=some (.cells #[.int .u64 (e0:Nat),.int .u64 (e1:Nat),.int .u32 (e2:Nat),.int .u32 (e3:Nat)] 86 (0,0)):=by
  have:=heap_alloc_new (w.alloc (.cells #[.int .u64 (a0:Nat),.int .u64 (a1:Nat),.int .u32 (a2:Nat),.int .u32 (a3:Nat)] 86)) (.cells #[.int .u64 (e0:Nat),.int .u64 (e1:Nat),.int .u32 (e2:Nat),.int .u32 (e3:Nat)] 86);rw [World.size_alloc] at this;rw [←hW];exact this
 obtain ⟨⟨x0,x1,x2,x3⟩,-⟩:=QaF k0;obtain ⟨⟨y0,y1,y2,y3⟩,-⟩:=QaF k1;have HB:=hid hB;obtain ⟨he0,he1,he2,he3⟩:=he;have he0:e0<18446744073709551616:=he0;have he1:e1<18446744073709551616:=he1;have he2:e2<4294967296:=he2;have he3:e3<4294967296:=he3;obtain ⟨X,hX⟩:∃ X,Qnv c i (a0,a1,a2,a3) (e0,e1,e2,e3)=X:=⟨_,rfl⟩;rw [hX];unfold Qnv at hX;simp only [] at hX;have HNx:=hid (fun W=>Qmi a0 a1 a2 a3 W ha2)
 clear k0 k1 hB;rcases (by omega:c=0∨c=1∨c=2∨c=3) with rfl|rfl|rfl|rfl
 ·rw [if_pos rfl] at hX
  have hle:a0≤e0:=hr.resolve_right (fun h=>h rfl)
  have hw:IntKind.u64.wrap ((e0:Int)-(a0:Int))=(X:Int):=by rw [IntKind.wrap_u64];omega
  refine (show Calls Tryz.prog 122 #[.int .i64 0,.int .i64 (i:Nat),.agg #[.int .u64 (a0:Nat),.int .u64 (a1:Nat),.int .u32 (a2:Nat),.int .u32 (a3:Nat)],.agg #[.int .u64 (e0:Nat),.int .u64 (e1:Nat),.int .u32 (e2:Nat),.int .u32 (e3:Nat)]] w (QiJ X w) from ?_);clear hX hr;go_enter Tryz.func122,Tryz.ntmps122;go_wp2_with fail;go_ret;exact ⟨QbE (by omega),HB.out⟩
 ·rw [if_neg (by decide),if_pos rfl] at hX
  subst hX;refine (show Calls Tryz.prog 122 #[.int .i64 1,.int .i64 (i:Nat),.agg #[.int .u64 (a0:Nat),.int .u64 (a1:Nat),.int .u32 (a2:Nat),.int .u32 (a3:Nat)],.agg #[.int .u64 (e0:Nat),.int .u64 (e1:Nat),.int .u32 (e2:Nat),.int .u32 (e3:Nat)]] w (QiJ e3 w) from ?_);clear hr;go_enter Tryz.func122,Tryz.ntmps122;go_wp2_with fail;go_ret;exact ⟨QbE (by omega),HB.out⟩
 ·rw [if_neg (by decide),if_neg (by decide),if_pos rfl] at hX
  subst hX;refine (show Calls Tryz.prog 122 #[.int .i64 2,.int .i64 (i:Nat),.agg #[.int .u64 (a0:Nat),.int .u64 (a1:Nat),.int .u32 (a2:Nat),.int .u32 (a3:Nat)],.agg #[.int .u64 (e0:Nat),.int .u64 (e1:Nat),.int .u32 (e2:Nat),.int .u32 (e3:Nat)]] w (QiJ e2 w) from ?_);clear hr;go_enter Tryz.func122,Tryz.ntmps122;go_wp2_with fail;go_ret;exact ⟨QbE (by omega),HB.out⟩
 ·rw [if_neg (by decide),if_neg (by decide),if_neg (by decide)] at hX
  refine (show Calls Tryz.prog 122 #[.int .i64 3,.int .i64 (i:Nat),.agg #[.int .u64 (a0:Nat),.int .u64 (a1:Nat),.int .u32 (a2:Nat),.int .u32 (a3:Nat)],.agg #[.int .u64 (e0:Nat),.int .u64 (e1:Nat),.int .u32 (e2:Nat),.int .u32 (e3:Nat)]] w (QiJ X w) from ?_);have k1:∀ q:BelowOf W,q.world.cell? ⟨w.heap.size+1,1,none⟩=some (.int .u64 (e1:Nat)):=fun q=>QaN q (by show w.heap.size+1<_;omega) y1
  have k2:∀ q:BelowOf W,q.world.cell? ⟨w.heap.size,0,none⟩=some (.int .u64 (a0:Nat)):=fun q=>QaN q (by show w.heap.size<_;omega) x0
  have k3:∀ q:BelowOf W,q.world.cell? ⟨w.heap.size,1,none⟩=some (.int .u64 (a1:Nat)):=fun q=>QaN q (by show w.heap.size<_;omega) x1
  have k4:∀ q:BelowOf W,q.world.cell? ⟨w.heap.size,2,none⟩=some (.int .u32 (a2:Nat)):=fun q=>QaN q (by show w.heap.size<_;omega) x2
  have k5:∀ q:BelowOf W,q.world.cell? ⟨w.heap.size,3,none⟩=some (.int .u32 (a3:Nat)):=fun q=>QaN q (by show w.heap.size<_;omega) x3
  have HY:=hid (And.intro hz y1)
  by_cases h0:0<i
  ·have s0:decide ((0:Int)<(i:Int))=true:=decide_eq_true (by omega)
   by_cases hn:e1=QdN (a0,a1,a2,a3)
   ·rw [if_pos ⟨h0,hn⟩] at hX
    subst hX;have s1:((e1:Int)==(QdN (a0,a1,a2,a3):Int))=true:=by rw [beq_iff_eq];omega
    clear hr hn;go_enter Tryz.func122,Tryz.ntmps122;go_wp2_with fail;refine Qac (by kernel_rfl) (by kernel_rfl) ?_
    repeat (go_big_quiet_step ((go_at_call 170;exact Qav (HNx.out _))))
    refine wpQuiet_nil ?_;intro W1 hw';have HQ:=hid (QaM hw');clear hw';go_wp2_with fail;go_ret;exact ⟨rfl,Qaa HB.out HQ.out⟩
   ·rw [if_neg (fun h=>hn h.2)] at hX
    have s1:((e1:Int)==(QdN (a0,a1,a2,a3):Int))=false:=by rw [beq_eq_false_iff_ne];omega
    clear hr hn;go_enter Tryz.func122,Tryz.ntmps122;go_wp2_with fail;refine Qac (by kernel_rfl) (by kernel_rfl) ?_
    repeat (go_big_quiet_step ((go_at_call 170;exact Qav (HNx.out _))))
    refine wpQuiet_nil ?_;intro W1 hw';have hq:=QaM hw';have z1:=(hq.cell (p:=⟨w.heap.size+1,1,none⟩) (by show w.heap.size+1<_;have:=HY.out.1;omega)).trans HY.out.2
    have HQ:=hid hq;clear hw' hq k1 k2 k3 k4 k5;go_wp2_with fail;go_ret;exact ⟨QbE (by omega),Qaa HB.out HQ.out⟩
  ·rw [if_neg (fun h=>h0 h.1)] at hX
   have s0:decide ((0:Int)<(i:Int))=false:=decide_eq_false (by omega)
   clear hr;go_enter Tryz.func122,Tryz.ntmps122;go_wp2_with fail;refine Qac (by kernel_rfl) (by kernel_rfl) ?_
   repeat (go_big_quiet_step ((go_at_call 170;exact Qav (HNx.out _))))
   refine wpQuiet_nil ?_;intro W1 hw';have hq:=QaM hw';have z1:=(hq.cell (p:=⟨w.heap.size+1,1,none⟩) (by show w.heap.size+1<_;have:=HY.out.1;omega)).trans HY.out.2
   have HQ:=hid hq;clear hw' hq k1 k2 k3 k4 k5;go_wp2_with fail;go_ret;exact ⟨QbE (by omega),Qaa HB.out HQ.out⟩
end
section
open Go.RowKit Go.Shelf
attribute [local go_sem] Oper.semAt_some
def QmH(t:TypeId):Prop:=t=86∨t=81
def EntB(W:World)(v:Value)(l:List Ent):Prop:=∃ b c cs m,v = .slice (some ⟨b,0,none⟩) l.length c∧l.length≤c∧W.heap[b]?=some (.cells cs 86 m)∧∀ (i:Nat) (x:Value),(Qay l)[i]?=some x→cs[i]?=some x
theorem EntB.kept{W W':World}{v:Value}{l:List Ent}(h:EntB W v l)(hk:KeptC QmH W W'):EntB W' v l:=by
 obtain ⟨b,c,cs,m,h1,h2,h3,h4⟩:=h;exact ⟨b,c,cs,m,h1,h2,hk.cl b cs _ m h3 (.inl rfl),h4⟩
theorem QaY{W:World}{b:Nat}{cs:Array Value}{t:TypeId}{m:Nat×Nat}(h:W.heap[b]?=some (.cells cs t m))(i:Nat):W.cell? ⟨b,i,none⟩=cs[i]?:=by
 unfold World.cell?;rw [h];rfl
theorem EntB.at{W:World}{v:Value}{l:List Ent}(h:EntB W v l):∃ b c,v = .slice (some ⟨b,0,none⟩) l.length c∧l.length≤c∧∀ j (hj:j<l.length),W.cell? ⟨b,j*4,none⟩=some (.int .u64 (l[j].1:Nat))∧W.cell? ⟨b,j*4+1,none⟩=some (.int .u64 (l[j].2.1:Nat))∧W.cell? ⟨b,j*4+2,none⟩=some (.int .u32 (l[j].2.2.1:Nat))∧W.cell? ⟨b,j*4+3,none⟩=some (.int .u32 (l[j].2.2.2:Nat)):=by
 obtain ⟨b,c,cs,m,h1,h2,h3,h4⟩:=h;refine ⟨b,c,h1,h2,fun j hj=>?_⟩
 obtain ⟨x,y,z,u⟩:=QfP l j hj;exact ⟨(QaY h3 _).trans (h4 _ _ x),(QaY h3 _).trans (h4 _ _ y),(QaY h3 _).trans (h4 _ _ z),(QaY h3 _).trans (h4 _ _ u)⟩
def QdC(l:List Ent)(c:Nat):List Nat:=(List.range c).flatMap (fun k=>Qdp k 0 QaZ l)
theorem Qa3(l:List Ent)(c:Nat):QdC l (c+1)=QdC l c++Qdp c 0 QaZ l:=by
 unfold QdC;rw [List.range_succ,List.flatMap_append];simp
theorem Qgi(l:List Ent):Qej l=l.length :: QdC l 4:=by
 unfold Qej;rw [Qa3,Qa3,Qa3,Qa3];simp [QdC]
theorem Qwd(c:Nat)(l:List Ent):∀ (i0:Nat) (ah:Ent) (i:Nat),i<l.length→(Qdp c i0 ah l)[i]?=some (Qnv c (i0+i) ((ah :: l).getD i QaZ) (l.getD i QaZ)):=by
 induction l with
 |nil=>intro i0 ah i h;exact absurd h (Nat.not_lt_zero _)
 |cons e r ih=>
  intro i0 ah i h;cases i with
  |zero=>rfl
  |succ i=>
   have h2:=ih (i0+1) e i (by simpa using h)
   show (Qdp c (i0+1) e r)[i]?=_;rw [h2,show i0+1+i=i0+(i+1) by omega]
   rfl
theorem Qla{l:List Nat}{i x:Nat}(h:l[i]?=some x):l.take (i+1)=l.take i++[x]:=by
 obtain ⟨hi,rfl⟩:=List.getElem?_eq_some_iff.1 h;rw [List.take_succ_eq_append_getElem hi]
theorem QuQ(l:List Ent)(c i x:Nat)(hc:c<4)(h:(Qdp c 0 QaZ l)[i]?=some x):(l.length :: (QdC l c++(Qdp c 0 QaZ l).take i))++[x] <+: Qej l:=by
 rw [Qgi];have h1:QdC l (c+1) <+: QdC l 4:=by
  rcases (by omega:c=0∨c=1∨c=2∨c=3) with rfl|rfl|rfl|rfl
  ·exact ⟨Qdp 1 0 QaZ l++(Qdp 2 0 QaZ l++Qdp 3 0 QaZ l),by rw [Qa3 l 3,Qa3 l 2,Qa3 l 1];simp⟩
  ·exact ⟨Qdp 2 0 QaZ l++Qdp 3 0 QaZ l,by rw [Qa3 l 3,Qa3 l 2];simp⟩
  ·exact ⟨Qdp 3 0 QaZ l,by rw [Qa3 l 3]⟩
  ·exact ⟨[],by simp⟩
 obtain ⟨t,ht⟩:=h1;refine ⟨(Qdp c 0 QaZ l).drop (i+1)++t,?_⟩;rw [←ht,Qa3,List.cons_append,List.cons_append,List.append_assoc (QdC l c),←Qla h]
 congr 1
 rw [List.append_assoc,←List.append_assoc ((Qdp c 0 QaZ l).take (i+1)),List.take_append_drop,List.append_assoc]
end
section
open Go.RowKit Go.Shelf
attribute [local go_sem] Oper.semAt_some
def NumG(l:List Ent)(pre:List Nat)(x:Nat):Prop:=pre++[x] <+: Qej l
def Quc(l:List Ent)(J:List Nat→World→Prop)(W:World)(pre:List Nat)(wx:World):Prop:=J pre wx∧KeptC QmH W wx
def QzB(l:List Ent)(J:List Nat→World→Prop)(W:World)(A:Nat)(pre:List Nat)(ah:Ent)(wx:World):Prop:=Quc l J W pre wx∧W.heap.size≤A∧wx.heap[A]?=some (.cells #[.int .u64 (ah.1:Nat),.int .u64 (ah.2.1:Nat),.int .u32 (ah.2.2.1:Nat),.int .u32 (ah.2.2.2:Nat)] 86 (0,0))
theorem Qou:∀ (l:List Ent) (ah:Ent) (i:Nat),QpR ah.1 l→i<l.length→((ah :: l).getD i QaZ).1≤(l.getD i QaZ).1
 |[],_,_,_,h=>absurd h (Nat.not_lt_zero _)
 |e :: r,ah,0,h,_=>h.1
 |e :: r,ah,i+1,h,hi=>Qou r e i h.2 (by simpa using hi)
theorem Qws(l:List Ent)(hok:∀ e∈l,Qbl e∧QcF e=0)(i:Nat):((QaZ :: l).getD i QaZ).2.2.1<4294967296:=by
 cases i with
 |zero=>exact (by decide:(0:Nat)<4294967296)
 |succ i=>
  show (l.getD i QaZ).2.2.1<_
  by_cases h:i<l.length
  ·rw [Qb7 h];exact (hok _ (List.getElem_mem h)).1.2.2.1
  ·rw [List.getD_eq_getElem?_getD,List.getElem?_eq_none (by omega)];decide
theorem QtS{e:Ent}(h:QcF e=0):e.2.1≤1099511627776:=by
 unfold QcF at h;split at h
 ·cases h
 ·split at h
  ·cases h
  ·split at h
   ·cases h
   ·rename_i h3;unfold Qdr at h3;omega
theorem Qzd(w:World)(A:Nat)(y0 y1 y2 y3:Value):w.grownBy ((((w.setCell ⟨A,0,none⟩ y0).setCell ⟨A,1,none⟩ y1).setCell ⟨A,2,none⟩ y2).setCell ⟨A,3,none⟩ y3) (some A):=
 ⟨rfl,rfl,rfl,by simp [World.setCell],fun k _ hk=>by
  have hn:k≠A:=fun e=>hk (by rw [e])
  exact (Below.heap_setCell _ _ _ _ hn).trans ((Below.heap_setCell _ _ _ _ hn).trans ((Below.heap_setCell _ _ _ _ hn).trans (Below.heap_setCell _ _ _ _ hn)))⟩
theorem QfC(l:List Ent)(v:Value)(Bl:Nat)(m:Nat×Nat)(w:World)(hl:l.length≤4096)(hok:∀ e∈l,Qbl e∧QcF e=0)(hr:QpR 0 l)(hE:EntB w v l)(hb:w.heap[Bl]?=some (.cells #[v] 81 m)) :
  QAn Fence.wide 3 Tryz.prog 121 #[.pointer (some ⟨Bl,0,none⟩)] (fun x:Nat=>#[Value.int .u64 (x:Nat)]) QmH (NumG l) (fun xs=>xs=Qej l) w:=fun lp J W hW hJ hY h0=>by
 have hK0:KeptC QmH w W:=KeptC.of_below hW;have hE0:=hE.kept hK0;have hb0:=hK0.cl Bl _ _ m hb (.inr rfl);have HS0:Hid (Quc l J W [] W):=hid ⟨h0,KeptC.refl _ _⟩;have HEB:=hid (And.intro hE0 hb0);have HJ:=hid hJ;have HY:=hid hY;clear hE hb hW hK0 h0 hJ hY;obtain ⟨b,c,rfl,hlc,hx⟩:=hE0.at;have c0:W.cell? ⟨Bl,0,none⟩=some (.slice (some ⟨b,0,none⟩) l.length c):=(QaY hb0 0).trans rfl;clear hE0 hb0 hx;refine callsIn_of_wp Tryz.func121 rfl trivial ?_ rfl;simp only [Tryz.ntmps121,List.size_toArray,List.length_cons,List.length_nil,Nat.reduceAdd,Nat.reduceSub,Array.replicate_succ,Array.replicate_zero,List.push_toArray,List.append_toArray,List.nil_append,List.cons_append];obtain ⟨fn,tmps,assign,QcK,hy,hR⟩:=HY.out [] l.length W HS0.out.1 (by unfold NumG;rw [Qgi];exact ⟨_,rfl⟩)
 have hwl:IntKind.u64.wrap (l.length:Int)=(l.length:Int):=by rw [IntKind.wrap_u64];omega
 gi_wp2;refine hR.mono ?_;rintro e W1 ⟨rfl,hj1,hk1⟩;have HS1:Hid (Quc l J W [l.length] W1):=hid ⟨hj1,hk1⟩;clear hy hR hj1 hk1 c0;gi_wp2;gi_loopw [13] (fun u13 wr=>Hid (∃ c:Nat,c≤4∧u13 = .int .i64 (c:Nat)∧Quc l J W (l.length :: QdC l c) wr)) (fun u13 _=>4-(intOf u13).toNat)
 case atStart=>exact hid ⟨0,by decide,rfl,HS1.out⟩
 case round=>
  obtain ⟨cc,hcc,rfl,hst⟩:=hrel.out;clear hrel
  by_cases hlt:cc<4
  ·have t1:decide ((cc:Int)<4)=true:=decide_eq_true (by omega)
   obtain ⟨W0,hW0⟩:∃ W0,wr.alloc (.cells #[.int .u64 0,.int .u64 0,.int .u32 0,.int .u32 0] 86)=W0:=⟨_,rfl⟩;obtain ⟨A,hA⟩:∃ A,wr.heap.size=A:=⟨_,rfl⟩;have hk0:KeptC QmH W W0:=by rw [←hW0];exact hst.2.trans (KeptT.alloc _ _).toKeptC
   have HIn0:Hid (QzB l J W A (l.length :: QdC l cc) QaZ W0):=hid ⟨⟨by rw [←hW0];exact HJ.out.alloc _ hst.1,hk0⟩,by rw [←hA];exact hst.2.sz,by rw [←hW0,←hA];exact heap_alloc_new wr _⟩
   have c0:W0.cell? ⟨Bl,0,none⟩=some (.slice (some ⟨b,0,none⟩) l.length c):=(QaY (hk0.cl Bl _ _ m HEB.out.2 (.inr rfl)) 0).trans rfl;clear hst hk0;gi_wp2;gi_loopw [18] (fun u18 wx=>Hid (∃ i:Nat,i≤l.length∧u18 = .int .i64 (i:Nat)∧QzB l J W A (l.length :: (QdC l cc++(Qdp cc 0 QaZ l).take i)) ((QaZ :: l).getD i QaZ) wx)) (fun u18 _=>l.length-(intOf u18).toNat)
   case atStart=>exact hid ⟨0,Nat.zero_le _,rfl,by rw [List.take_zero,List.append_nil];exact HIn0.out⟩
   case round=>
    obtain ⟨i,hi,rfl,hst⟩:=hrel.out;clear hrel c0
    by_cases QAM:i<l.length
    ·have t2:decide ((i:Int)<(l.length:Int))=true:=decide_eq_true (by omega)
     have QAB:=HEB.out.1.kept hst.1.2;obtain ⟨b',c',he',-,hx'⟩:=QAB.at;obtain ⟨x0,x1,x2,x3⟩:=hx' i QAM;injection he' with q1 q2 q3
     injection q1 with q1
     injection q1 with q1
     subst q1;clear hx' QAB q2 q3;have hge:=(hok l[i] (List.getElem_mem QAM));have hxi:=Qwd cc l 0 QaZ i QAM;rw [Nat.zero_add] at hxi;have hgi:l.getD i QaZ=l[i]:=Qb7 QAM;rw [hgi] at hxi;have hrg:=Qou l QaZ i hr QAM;have hao:=Qws l hok i;rw [hgi] at hrg;obtain ⟨ah,hah⟩:∃ ah,(QaZ :: l).getD i QaZ=ah:=⟨_,rfl⟩;obtain ⟨e,he⟩:∃ e,l[i]=e:=⟨_,rfl⟩;rw [hah] at hst hxi hrg hao;rw [he] at hge hxi hrg x0 x1 x2 x3;obtain ⟨e0,e1,e2,e3⟩:=e;obtain ⟨a0,a1,a2,a3⟩:=ah;have HL:Hid (l.getD i QaZ=(e0,e1,e2,e3)):=hid (hgi.trans he);have hco:=QtS hge.2;have HN:=hid (fun W=>Qn2 cc i a0 a1 a2 a3 e0 e1 e2 e3 W hlt (by omega) hao hge.1 (.inl hrg) (by have:e1≤1099511627776:=hco;omega))
     obtain ⟨x,hx⟩:∃ x,Qnv cc i (a0,a1,a2,a3) (e0,e1,e2,e3)=x:=⟨_,rfl⟩;rw [hx] at HN hxi;have HG:=hid (QuQ l cc i x hlt hxi);have HT:=hid (Qla hxi);obtain ⟨Wb,hWb⟩:∃ Wb,wr.alloc (.cells #[.int .u64 (e0:Nat),.int .u64 (e1:Nat),.int .u32 (e2:Nat),.int .u32 (e3:Nat)] 86)=Wb:=⟨_,rfl⟩;obtain ⟨E,hEE⟩:∃ E,wr.heap.size=E:=⟨_,rfl⟩;have hAl:A<E:=by rw [←hEE];exact (gsi hst.2.2).1
     have kA:Wb.heap[A]?=_:=(by rw [←hWb];exact Below.heap_alloc _ _ _ (show A<wr.heap.size by omega):Wb.heap[A]?=wr.heap[A]?).trans hst.2.2
     have kE:Wb.heap[E]?=some (.cells #[.int .u64 (e0:Nat),.int .u64 (e1:Nat),.int .u32 (e2:Nat),.int .u32 (e3:Nat)] 86 (0,0)):=by rw [←hWb,←hEE];exact heap_alloc_new wr _
     have hjb:=HJ.out.alloc (.cells #[.int .u64 (e0:Nat),.int .u64 (e1:Nat),.int .u32 (e2:Nat),.int .u32 (e3:Nat)] 86) hst.1.1;rw [hWb] at hjb;have hkb:KeptC QmH W Wb:=by rw [←hWb];exact hst.1.2.trans (KeptT.alloc _ _).toKeptC
     have hzb:Wb.heap.size=E+1:=by rw [←hWb,World.size_alloc,hEE]
     have hwa:W.heap.size≤A:=hst.2.1;obtain ⟨⟨y0,y1,y2,y3⟩,-⟩:=QaF kA;obtain ⟨⟨z0,z1,z2,z3⟩,-⟩:=QaF kE;have HK:=hid (And.intro hjb (And.intro hkb (And.intro kA (And.intro kE (And.intro hzb (And.intro hAl hwa))))));clear hst hao hge hrg hxi hah he hgi hx hco hjb hkb kA kE hzb hAl hwa;gi_wp2_with (refine ⟨trivial,?_⟩;gi_at_call 122;refine (callsIn_wide.2 (HN.out _)).mono ?_;rintro e' w2 ⟨rfl,hb2⟩;obtain ⟨fn2,tmps2,assign2,body2,hy,hR⟩:=HY.out _ x w2 (HJ.out.below HK.out.1 hb2) HG.out);refine hR.mono ?_;rintro e' w3 ⟨rfl,hj3,hk3⟩;obtain ⟨hjb,hkb,kA,kE,hzb,hAl,hwa⟩:=HK.out;have kA3:=hk3.cl A _ _ _ ((hb2.block A (by omega)).trans kA) (.inl rfl)
     have kE3:=hk3.cl E _ _ _ ((hb2.block E (by omega)).trans kE) (.inl rfl)
     obtain ⟨⟨v0,v1,v2,v3⟩,f0,f1,f2,f3⟩:=QaF kA3;obtain ⟨⟨u0,u1,u2,u3⟩,-⟩:=QaF kE3;have hk4:KeptC QmH W w3:=hkb.trans ((KeptC.of_below hb2).trans hk3);have HK3:=hid (And.intro hj3 (And.intro hk4 (And.intro kA3 hwa)));clear hy hR hj3 hk3 hjb hkb kA kE hzb hAl hwa kA3 kE3 hk4 HK hb2 y0 y1 y2 y3 z0 z1 z2 z3 x0 x1 x2 x3;gi_wp2;obtain ⟨hj3,hk4,kA3,hwa⟩:=HK3.out;have hg:=Qzd w3 A (.int .u64 (e0:Nat)) (.int .u64 (e1:Nat)) (.int .u32 (e2:Nat)) (.int .u32 (e3:Nat));refine ⟨hid ⟨i+1,QAM,by go_num,⟨⟨?_,?_⟩,hwa,?_⟩⟩,?_⟩
     ·rw [HT.out,←List.append_assoc,←List.cons_append]
      exact HJ.out _ _ _ _ hj3 hg (fun r e=>by cases e;exact ⟨hwa,_,_,_,kA3,.inl rfl⟩)
     ·exact ⟨Nat.le_trans hk4.sz hg.size,fun k cs t m hk ht=>(hg.block k (gsi (hk4.cl k cs t m hk ht)).1 (fun e=>by cases e;have:=(gsi hk).1;omega)).trans (hk4.cl k cs t m hk ht)⟩
     ·have h4:=QdB kA3 (.int .u64 (e0:Nat)) (.int .u64 (e1:Nat)) (.int .u32 (e2:Nat)) (.int .u32 (e3:Nat))
      rw [show (QaZ :: l).getD (i+1) QaZ=(e0,e1,e2,e3) from HL.out];exact h4
     ·simp [intOf];omega
    ·have t2:decide ((i:Int)<(l.length:Int))=false:=decide_eq_false (by omega)
     obtain rfl:i=l.length:=by omega
     have QBr:Quc l J W (l.length :: QdC l (cc+1)) wr:=by
      have h:=hst.1;rw [List.take_of_length_le (by rw [Qc5];exact Nat.le_refl _),←Qa3] at h
      exact h
     have QCb:=hid QBr;clear hst QBr;gi_wp2;refine ⟨hid ⟨cc+1,by omega,by go_num,QCb.out⟩,?_⟩
     simp [intOf];omega
  ·have t1:decide ((cc:Int)<4)=false:=decide_eq_false (by omega)
   obtain rfl:cc=4:=by omega
   have HS2:=hid hst;clear hst;gi_wp2;go_end0;exact ⟨⟨_,rfl⟩,_,(Qgi l).symm,HS2.out.1⟩
end
end Go.Proofs.YtilaebjndadkhaaGreatDoor
namespace Go.Proofs
open Go.Shelf
def Tryz.lays125_ren:Go.Shelf.Ren:=⟨fun|125=>54|128=>108|129=>109|n=>n,fun|46=>132|3=>3|51=>84|53=>43|4=>4|5=>5|9=>9|n=>n,fun|n=>n⟩
theorem Tryz.lays125:Go.Proofs.Lays.n125 Tryz.prog Tryz.lays125_ren:={ mixed:=by kernel_rfl,f125:=Tryz.func54.trans (congrArg some (by kernel_rfl)),f128:=Tryz.func108.trans (congrArg some (by kernel_rfl)),f129:=Tryz.func109.trans (congrArg some (by kernel_rfl)),t3:=Tryz.underlying3,a3:=Tryz.isAgg3,z3:=Tryz.sizeOf3,v3:=Tryz.zeroValue3,t4:=Tryz.underlying4,a4:=Tryz.isAgg4,z4:=Tryz.sizeOf4,v4:=Tryz.zeroValue4,t5:=Tryz.underlying5,a5:=Tryz.isAgg5,z5:=Tryz.sizeOf5,v5:=Tryz.zeroValue5,t9:=Tryz.underlying9,a9:=Tryz.isAgg9,z9:=Tryz.sizeOf9,v9:=Tryz.zeroValue9,t46:=Tryz.underlying132,a46:=Tryz.isAgg132,z46:=Tryz.sizeOf132,v46:=Tryz.zeroValue132,t51:=Tryz.underlying84,a51:=Tryz.isAgg84,z51:=Tryz.sizeOf84,v51:=Tryz.zeroValue84,t53:=Tryz.underlying43,a53:=Tryz.isAgg43,z53:=Tryz.sizeOf43,v53:=Tryz.zeroValue43 }
theorem Tryz.bits_Len(x:Int)(w:World)(h0:0≤x)(h1:x≤18446744073709551615) :
  Calls Tryz.prog 54 #[.int .u64 x] w fun e w'=>e = .returned (.int .i64 (Lib.bitLen x.toNat))∧w'=w:=Any.bits_Len Tryz.lays125 x w h0 h1
def Tryz.lays137_ren:Go.Shelf.Ren:=⟨fun|137=>158|217=>189|266=>223|n=>n,fun|9=>9|5=>5|3=>3|n=>n,fun|n=>n⟩
theorem Tryz.lays137:Go.Proofs.Lays.n137 Tryz.prog Tryz.lays137_ren:={ mixed:=by kernel_rfl,f137:=Tryz.func158.trans (congrArg some (by kernel_rfl)),f217:=Tryz.func189.trans (congrArg some (by kernel_rfl)),f266:=Tryz.func223.trans (congrArg some (by kernel_rfl)),t3:=Tryz.underlying3,a3:=Tryz.isAgg3,z3:=Tryz.sizeOf3,v3:=Tryz.zeroValue3,t5:=Tryz.underlying5,a5:=Tryz.isAgg5,z5:=Tryz.sizeOf5,v5:=Tryz.zeroValue5,t9:=Tryz.underlying9,a9:=Tryz.isAgg9,z9:=Tryz.sizeOf9,v9:=Tryz.zeroValue9 }
open Go.RowKit in
theorem Tryz.strings_IndexByte(s:ByteArray)(c:Int)(w:World) :
  Calls Tryz.prog 158 #[.string s,.int .u8 c] w fun e w'=>e = .returned (.int .i64 (Lib.indexByte s.data.toList c.toNat.toUInt8))∧w'=w:=Any.strings_IndexByte Tryz.lays137 s c w
def Tryz.lays129_ren:Go.Shelf.Ren:=⟨fun|129=>109|n=>n,fun|53=>43|3=>3|4=>4|46=>132|5=>5|9=>9|n=>n,fun|n=>n⟩
theorem Tryz.lays129:Go.Proofs.Lays.n129 Tryz.prog Tryz.lays129_ren:={ mixed:=by kernel_rfl,f129:=Tryz.func109.trans (congrArg some (by kernel_rfl)),t3:=Tryz.underlying3,a3:=Tryz.isAgg3,z3:=Tryz.sizeOf3,v3:=Tryz.zeroValue3,t4:=Tryz.underlying4,a4:=Tryz.isAgg4,z4:=Tryz.sizeOf4,v4:=Tryz.zeroValue4,t5:=Tryz.underlying5,a5:=Tryz.isAgg5,z5:=Tryz.sizeOf5,v5:=Tryz.zeroValue5,t9:=Tryz.underlying9,a9:=Tryz.isAgg9,z9:=Tryz.sizeOf9,v9:=Tryz.zeroValue9,t46:=Tryz.underlying132,a46:=Tryz.isAgg132,z46:=Tryz.sizeOf132,v46:=Tryz.zeroValue132,t53:=Tryz.underlying43,a53:=Tryz.isAgg43,z53:=Tryz.sizeOf43,v53:=Tryz.zeroValue43 }
theorem Tryz.bits_Len64(x:Int)(w:World)(h0:0≤x)(h1:x≤18446744073709551615) :
  Calls Tryz.prog 109 #[.int .u64 x] w fun e w'=>e = .returned (.int .i64 (Lib.bitLen x.toNat))∧w'=w:=Any.bits_Len64 Tryz.lays129 x w h0 h1
end Go.Proofs
namespace Go.Proofs.YtilaebjndadkhaaGreatDoor
section
open Go.RowKit Go.Shelf
attribute [local go_sem] Oper.semAt_some
theorem QhM(l:List Ent)(h:QeC l=0):l.length≤4096∧(∀ e∈l,QcF e=0)∧QpR 0 l:=by
 unfold QeC at h
 by_cases hl:4096<l.length
 ·rw [if_pos hl] at h;cases h
 ·rw [if_neg hl] at h
  refine ⟨by omega,?_,Qki l 0 0 (Nat.le_refl _) h⟩
  have gen:∀ (l:List Ent) (f:Nat),QmM f l=0→∀ e∈l,QcF e=0:=by
   intro l
   induction l with
   |nil=>intro f _ e he;cases he
   |cons a r ih=>
    intro f hf e he;unfold QmM at hf
    by_cases hc:QcF a=0
    ·rw [if_neg (fun x=>x hc)] at hf
     split at hf
     ·cases hf
     ·rcases List.mem_cons.1 he with rfl|he
      ·exact hc
      ·exact ih _ hf e he
    ·rw [if_pos hc] at hf;exact absurd hf hc
  exact gen l 0 h
theorem EntB.holds{w:World}{v:Value}{l:List Ent}(h:EntB w v l):HoldsE w v l:=by
 obtain ⟨b,c,cs,m,h1,h2,h3,h4⟩:=h;refine ⟨QbD l,some ⟨b,0,none⟩,c,h1,h2,fun _=>⟨b,0,rfl,(gsi h3).1,fun i u hi=>?_⟩⟩
 rw [Nat.zero_add];exact (QaY h3 i).trans (h4 i u hi)
theorem EntB.below{w w':World}{v:Value}{l:List Ent}(h:EntB w v l)(hb:Below w.heap.size w w'):EntB w' v l:=h.kept (KeptC.of_below hb)
theorem Qr5(k:Nat):∀ x,x<128 ^ (k+1)→x<18446744073709551616→(Qcl k x).length=max 1 ((Lib.bitLen x+6)/7):=by
 have small:∀ x,x<128→max 1 ((Lib.bitLen x+6)/7)=1:=by
  intro x hx;have h:∀ z:Fin 128,max 1 ((Lib.bitLen z.val+6)/7)=1:=by decide +kernel
  exact h ⟨x,hx⟩
 induction k with
 |zero=>
  intro x hx _;rw [small x (by simpa using hx)];rfl
 |succ k ih=>
  intro x hx h64;unfold Qcl
  by_cases hl:x<128
  ·rw [if_pos hl,small x hl];rfl
  ·rw [if_neg hl,List.length_cons,ih (x/128) (by rw [Nat.div_lt_iff_lt_mul (by decide),←Nat.pow_succ];exact hx) (by omega)]
   have hs:=Lib.bitLen_shift 7 x (by show 128≤x;omega) h64
   rw [hs,show (2:Nat) ^ 7=128 from rfl];have hp:1≤Lib.bitLen (x/128):=by
    rcases Nat.eq_zero_or_pos (Lib.bitLen (x/128)) with h0|h0
    ·exfalso
     have hq:x/128≠0:=by omega
     rw [Lib.bitLen_half (x/128) hq (by omega)] at h0
     omega
    ·exact h0
   omega
theorem QmT(x:Nat)(hx:x<18446744073709551616)(w:World):Calls Tryz.prog 119 #[.int .u64 (x:Nat)] w fun e w'=>e = .returned (.int .i64 ((Qe6 x).length:Nat))∧w'=w:=by
 have hL:=Tryz.bits_Len64 (x:Int) w (by omega) (by omega)
 rw [Int.toNat_natCast] at hL;have HP:=hid (Qr5 9 x (by omega) hx)
 have hb:Lib.bitLen x≤70:=by
  have:=(Qox x hx).2;unfold Qe6 at this;rw [HP.out] at this
  by_cases h:Lib.bitLen x≤70
  ·exact h
  ·exfalso;omega
 generalize Lib.bitLen x=n at *;have HL:=hid hL;clear hL;go_enter Tryz.func119,Tryz.ntmps119;go_wp2_with fail;refine HL.out.mono ?_;rintro e w1 ⟨rfl,hw⟩;obtain rfl:=hw.symm;clear hw;go_wp2_with fail
 all_goals
  go_ret;refine ⟨QbE ?_,rfl⟩;unfold Qe6;rw [HP.out];omega
theorem QgT(a:Option Addr)(n c:Nat)(w:World):Calls Tryz.prog 68 #[.slice a n c] w fun e w'=>e = .returned (.func (.func 121) #[] #[.pointer (some ⟨w.heap.size,0,none⟩)])∧w'=w.alloc (.cells #[.slice a n c] 81):=by
 have hmf:∀ (fn:Fn) (first cap:Array Value) (w:World),(Instr.makeFunc fn first cap).run Tryz.prog w = .ok (.func fn first cap) w:=fun _ _ _ _=>rfl
 go_enter Tryz.func68,Tryz.ntmps68;go_wp2_with fail;go_ret;exact ⟨rfl,rfl⟩
end
section
open Go.RowKit Go.MapKept
section
variable {A B:Type} [DecidableEq A]
def QgR:List (A×B)→A→Option B
 |[],_=>none
 |p :: r,a=>if p.1=a then some p.2 else QgR r a
def Qm9:List (A×B)→A→B→List (A×B)
 |[],a,v=>[(a,v)]
 |p :: r,a,v=>if p.1=a then (a,v) :: r else p :: Qm9 r a v
def QqS:List (A×B)→A→List (A×B)
 |[],_=>[]
 |p :: r,a=>if p.1=a then r else p :: QqS r a
def Qb0(l:List (A×B)):List A:=l.map (·.1)
theorem QdA(l:List (A×B))(a:A)(h:a∉Qb0 l):QgR l a=none:=by
 induction l with
 |nil=>rfl
 |cons p r ih=>
  unfold Qb0 at h ih;rw [List.map_cons,List.mem_cons,not_or] at h;unfold QgR;rw [if_neg (fun e=>h.1 e.symm)]
  exact ih h.2
theorem QlP(l:List (A×B))(a:A)(v:B):Qb0 (Qm9 l a v)=if a∈Qb0 l then Qb0 l else Qb0 l++[a]:=by
 induction l with
 |nil=>simp [Qm9,Qb0]
 |cons p r ih=>
  unfold Qm9
  by_cases e:p.1=a
  ·rw [if_pos e]
   simp [Qb0,e]
  ·rw [if_neg e]
   unfold Qb0 at ih ⊢;rw [List.map_cons,ih,List.map_cons]
   by_cases h:a∈r.map (·.1)
   ·rw [if_pos h,if_pos (List.mem_cons_of_mem _ h)]
   ·rw [if_neg h,if_neg (by rw [List.mem_cons];rintro (h1|h1);exact e h1.symm;exact h h1)]
    rfl
theorem length_set(l:List (A×B))(a:A)(v:B):(Qm9 l a v).length=if a∈Qb0 l then l.length else l.length+1:=by
 have h:=congrArg List.length (QlP l a v);unfold Qb0 at h ⊢;rw [List.length_map] at h;rw [h];split
 ·rw [List.length_map]
 ·rw [List.length_append,List.length_map];rfl
theorem Qo6(l:List (A×B))(a c:A)(v:B):QgR (Qm9 l a v) c=if c=a then some v else QgR l c:=by
 induction l with
 |nil=>
  unfold Qm9 QgR QgR
  by_cases h:c=a
  ·rw [if_pos h.symm,if_pos h]
  ·rw [if_neg (fun e=>h e.symm),if_neg h]
 |cons p r ih=>
  unfold Qm9
  by_cases e:p.1=a
  ·rw [if_pos e]
   show (if a=c then some v else QgR r c)=_
   by_cases h:c=a
   ·rw [if_pos h.symm,if_pos h]
   ·rw [if_neg (fun e=>h e.symm),if_neg h]
    show _=(if p.1=c then some p.2 else QgR r c)
    rw [if_neg (fun e2=>h (e2.symm.trans e))]
  ·rw [if_neg e]
   show (if p.1=c then some p.2 else QgR (Qm9 r a v) c)=if c=a then some v else (if p.1=c then some p.2 else QgR r c)
   by_cases h:p.1=c
   ·rw [if_pos h,if_pos h,if_neg (fun e2=>e (h.trans e2))]
   ·rw [if_neg h,if_neg h,ih]
theorem Qs2(l:List (A×B))(a:A):(Qb0 (QqS l a)).Sublist (Qb0 l):=by
 induction l with
 |nil=>exact List.Sublist.refl _
 |cons p r ih=>
  unfold QqS;split
  ·exact List.sublist_cons_self _ _
  ·exact ih.cons_cons p.1
theorem Qqo(l:List (A×B))(a:A):(QqS l a).length=if a∈Qb0 l then l.length-1 else l.length:=by
 induction l with
 |nil=>rfl
 |cons p r ih=>
  unfold QqS
  by_cases e:p.1=a
  ·rw [if_pos e,if_pos (by unfold Qb0;rw [List.map_cons,e];exact List.mem_cons_self)];rfl
  ·rw [if_neg e,List.length_cons,ih]
   have hm:(a∈Qb0 (p :: r))↔a∈Qb0 r:=by
    unfold Qb0;rw [List.map_cons,List.mem_cons];exact ⟨fun h=>h.resolve_left (fun e1=>e e1.symm),.inr⟩
   by_cases h:a∈Qb0 r
   ·rw [if_pos h,if_pos (hm.2 h),List.length_cons]
    have:0<r.length:=by
     cases r with
     |nil=>cases h
     |cons _ _=>simp
    omega
   ·rw [if_neg h,if_neg (fun h1=>h (hm.1 h1)),List.length_cons]
theorem QvS(l:List (A×B))(hn:(Qb0 l).Nodup)(a c:A):QgR (QqS l a) c=if c=a then none else QgR l c:=by
 induction l with
 |nil=>unfold QqS QgR;split<;>rfl
 |cons p r ih=>
  have hn':p.1∉Qb0 r∧(Qb0 r).Nodup:=by
   unfold Qb0 at hn ⊢;rw [List.map_cons,List.nodup_cons] at hn;exact hn
  unfold QqS
  by_cases e:p.1=a
  ·rw [if_pos e]
   by_cases h:c=a
   ·rw [if_pos h,h,←e];exact QdA r _ hn'.1
   ·rw [if_neg h]
    show _=(if p.1=c then some p.2 else QgR r c)
    rw [if_neg (fun e2=>h (e2.symm.trans e))]
  ·rw [if_neg e]
   show (if p.1=c then some p.2 else QgR (QqS r a) c)=if c=a then none else (if p.1=c then some p.2 else QgR r c)
   by_cases h:p.1=c
   ·rw [if_pos h,if_pos h,if_neg (fun e2=>e (h.trans e2))]
   ·rw [if_neg h,if_neg h,ih hn'.2]
end
structure KeyT(P:Program)(k:TypeId){A:Type}(ek:A→Value):Prop where
 check:∀ (w:World) (em:Bool) (a:A),(Instr.checkKey em 10000 k (ek a)).run P w = .ok () w
 find:∀ (w:World) (a:A) (es:List MapEntry),(∀ e∈es,∃ c,e.key=ek c)→((Instr.findKey k (ek a) es).run P w = .ok none w∧∀ e∈es,e.key≠ek a)∨∃ j e,(Instr.findKey k (ek a) es).run P w = .ok (some (j,e.val)) w∧es[j]?=some e∧e.key=ek a∧∀ i e',i<j→es[i]?=some e'→e'.key≠ek a
 stays:∀ (w:World) (a:A),(Instr.keyThatStays (ek a) (ek a)).run P w = .ok (ek a) w
 inj:∀ a c,ek a=ek c→a=c
section
variable {A B:Type} [DecidableEq A] {P:Program} {k e t:TypeId} {ek:A→Value} {ev:B→Value} {w:World} {b:Nat}
def MapL(ek:A→Value)(ev:B→Value)(w:World)(b:Nat)(L:List (A×B)):Prop:=
 ∃ es clock,w.heap[b]?=some (.map es clock)∧es.toList.map (fun x=>(x.key,x.val))=L.map (fun p=>(ek p.1,ev p.2))
theorem Qfc{es:Array MapEntry}{L:List (A×B)}(h:es.toList.map (fun x=>(x.key,x.val))=L.map (fun p=>(ek p.1,ev p.2))):∀ x∈es.toList,∃ c,x.key=ek c:=by
 intro x hx;have:(x.key,x.val)∈L.map (fun p=>(ek p.1,ev p.2)):=by rw [←h];exact List.mem_map.2 ⟨x,hx,rfl⟩
 obtain ⟨p,-,hp⟩:=List.mem_map.1 this;exact ⟨p.1,(congrArg Prod.fst hp).symm⟩
theorem Qdj(K:KeyT P k ek):∀ (es:List MapEntry) (L:List (A×B)) (a:A),es.map (fun x=>(x.key,x.val))=L.map (fun p=>(ek p.1,ev p.2))→(∀ x∈es,x.key≠ek a)→a∉Qb0 L
 |[],[],_,_,_=>by simp [Qb0]
 |x :: es,p :: L,a,h,hn=>by
  rw [List.map_cons,List.map_cons,List.cons.injEq,Prod.mk.injEq] at h;unfold Qb0;rw [List.map_cons,List.mem_cons,not_or];exact ⟨fun e=>hn x List.mem_cons_self (by rw [h.1.1,e]),Qdj K es L a h.2 (fun y hy=>hn y (List.mem_cons_of_mem _ hy))⟩
 |[],_ :: _,_,h,_=>by cases h
 |_ :: _,[],_,h,_=>by cases h
theorem QdV(K:KeyT P k ek):∀ (es:List MapEntry) (L:List (A×B)) (a:A) (j:Nat) (e:MapEntry),es.map (fun x=>(x.key,x.val))=L.map (fun p=>(ek p.1,ev p.2))→es[j]?=some e→e.key=ek a→(∀ i e',i<j→es[i]?=some e'→e'.key≠ek a)→
  ∃ v,QgR L a=some v∧e.val=ev v∧∀ v',(es.modify j (fun y=>{ y with key:=ek a,val:=ev v' })).map (fun x=>(x.key,x.val))=(Qm9 L a v').map (fun p=>(ek p.1,ev p.2))∧(es.eraseIdx j).map (fun x=>(x.key,x.val))=(QqS L a).map (fun p=>(ek p.1,ev p.2))
 |[],_,_,_,_,_,h1,_,_=>by simp at h1
 |_ :: _,[],_,_,_,h,_,_,_=>by cases h
 |x :: es,p :: L,a,0,e,h,h1,h2,_=>by
  rw [List.map_cons,List.map_cons,List.cons.injEq,Prod.mk.injEq] at h;rw [List.getElem?_cons_zero,Option.some.injEq] at h1;subst h1;have hp:p.1=a:=K.inj _ _ (h.1.1.symm.trans h2);refine ⟨p.2,by unfold QgR;rw [if_pos hp],h.1.2,fun v'=>⟨?_,?_⟩⟩
  ·unfold Qm9
   rw [if_pos hp];simp only [List.modify_zero_cons,List.map_cons,h.2]
  ·unfold QqS
   rw [if_pos hp,List.eraseIdx_zero,List.tail_cons];exact h.2
 |x :: es,p :: L,a,j+1,e,h,h1,h2,h3=>by
  rw [List.map_cons,List.map_cons,List.cons.injEq,Prod.mk.injEq] at h;rw [List.getElem?_cons_succ] at h1;obtain ⟨v,g1,g2,g3⟩:=QdV K es L a j e h.2 h1 h2 (fun i e' hi he'=>h3 (i+1) e' (by omega) (by rw [List.getElem?_cons_succ];exact he'))
  have hp:p.1≠a:=fun e1=>h3 0 x (by omega) (by rw [List.getElem?_cons_zero]) (by rw [h.1.1,e1])
  refine ⟨v,by unfold QgR;rw [if_neg hp];exact g1,g2,fun v'=>⟨?_,?_⟩⟩
  ·unfold Qm9
   rw [if_neg hp];simp only [List.modify_succ_cons,List.map_cons,(g3 v').1];rw [h.1.1,h.1.2]
  ·unfold QqS
   rw [if_neg hp,List.eraseIdx_cons_succ,List.map_cons,List.map_cons,(g3 v').2,h.1.1,h.1.2]
def MapF(ek:A→Value)(ev:B→Value)(w:World)(b:Nat)(g:A→Option B)(n:Nat):Prop:=
 ∃ L,MapL ek ev w b L∧(Qb0 L).Nodup∧L.length=n∧∀ a,QgR L a=g a
theorem MapF.blk{g:A→Option B}{n:Nat}(h:MapF ek ev w b g n):∃ es clock,w.heap[b]?=some (.map es clock):=by
 obtain ⟨L,⟨es,clock,hb,-⟩,-⟩:=h;exact ⟨es,clock,hb⟩
theorem MapF.lt{g:A→Option B}{n:Nat}(h:MapF ek ev w b g n):b<w.heap.size:=by
 obtain ⟨es,clock,hb⟩:=h.blk;exact (gsi hb).1
theorem MapF.keep{w':World}{g:A→Option B}{n:Nat}(h:MapF ek ev w b g n)(hb:w'.heap[b]?=w.heap[b]?):MapF ek ev w' b g n:=by
 obtain ⟨L,⟨es,clock,h1,h2⟩,h3⟩:=h;exact ⟨L,⟨es,clock,hb.trans h1,h2⟩,h3⟩
theorem QoH(ek:A→Value)(ev:B→Value)(w:World):MapF ek ev (w.alloc (.map #[] 0)) w.heap.size (fun _=>none) 0:=
 ⟨[],⟨#[],0,(MapKept.heap_alloc w _).1,rfl⟩,List.nodup_nil,rfl,fun _=>rfl⟩
def QsT(z:Value)(ev:B→Value)(ok:Bool)(x:Option B):Value:=if ok then .tuple #[(x.map ev).getD z,.bool x.isSome] else (x.map ev).getD z
theorem MapF.look{g:A→Option B}{n:Nat}(h:MapF ek ev w b g n)(K:KeyT P k ek)(ht:P.underlying t=some (.map k e)){z:Value}(hz:∀ w,(zeroValue e).run P w = .ok z w)(a:A)(ok:Bool) :
  (Instr.lookup t (.map (some b)) (ek a) ok).run P w = .ok (QsT z ev ok (g a)) w:=by
 obtain ⟨L,⟨es,clock,hb,hL⟩,-,-,hg⟩:=h;rcases K.find w a es.toList (Qfc hL) with ⟨h1,h2⟩|⟨j,e0,h1,h2,h3,h4⟩
 ·have hn:=QdA L a (Qdj K es.toList L a hL h2)
  rw [hg] at hn;rw [hn];simp [Instr.lookup,run_underlying ht,MapKept.run_getObj_map hb,K.check w _ a,h1,hz,Result.andThen,QsT]
 ·obtain ⟨v,g1,g2,-⟩:=QdV K es.toList L a j e0 hL h2 h3 h4
  rw [hg] at g1;rw [g1];simp [Instr.lookup,run_underlying ht,MapKept.run_getObj_map hb,K.check w _ a,h1,Result.andThen,QsT,g2]
def Qaw(w:World)(b:Nat)(o:Obj):World:={ w with heap:=w.heap.setIfInBounds b o }
theorem MapF.put{g:A→Option B}{n:Nat}(h:MapF ek ev w b g n)(K:KeyT P k ek)(ht:P.underlying t=some (.map k e))(a:A)(v:B) :
  ∃ o,(Instr.mapUpdate t (.map (some b)) (ek a) (ev v)).run P w = .ok () (Qaw w b o)∧MapF ek ev (Qaw w b o) b (fun c=>if c=a then some v else g c) (if (g a).isSome then n else n+1):=by
 obtain ⟨L,⟨es,clock,hb,hL⟩,hnd,hlen,hg⟩:=h;have QAX:∀ o,(Qaw w b o).heap[b]?=some o:=fun o=>(heap_set hb).1
 rcases K.find w a es.toList (Qfc hL) with ⟨h1,h2⟩|⟨j,e0,h1,h2,h3,h4⟩
 ·have hm:=Qdj K es.toList L a hL h2
  have hn:=QdA L a hm;rw [hg] at hn;refine ⟨.map (es.push ⟨ek a,ev v,clock⟩) (clock+1),?_,L++[(a,v)],⟨_,_,QAX _,?_⟩,?_,?_,fun c=>?_⟩
  ·simp [Instr.mapUpdate,run_underlying ht,MapKept.run_getObj_map hb,K.check w false a,h1,MapKept.run_setObj_map _ hb,Result.andThen,Qaw]
  ·rw [Array.toList_push,List.map_append,List.map_append,hL];rfl
  ·unfold Qb0
   rw [List.map_append,List.nodup_append];refine ⟨hnd,by simp,fun x hx y hy=>?_⟩
   simp only [List.map_cons,List.map_nil,List.mem_singleton] at hy;rintro rfl;exact hm (by rw [←hy];exact hx)
  ·rw [hn,List.length_append,hlen];rfl
  ·have:L++[(a,v)]=Qm9 L a v:=by
    clear hL hnd hlen hg
    induction L with
    |nil=>rfl
    |cons p r ih=>
     unfold Qb0 at hm ih;rw [List.map_cons,List.mem_cons,not_or] at hm;unfold Qm9;rw [if_neg (fun e=>hm.1 e.symm),List.cons_append,ih hm.2]
   rw [this,Qo6];show (if c=a then some v else QgR L c)=if c=a then some v else g c
   rw [hg c]
 ·obtain ⟨v0,g1,g2,g3⟩:=QdV K es.toList L a j e0 hL h2 h3 h4
  have QBm:a∈Qb0 L:=by
   refine Classical.byContradiction fun hh=>?_
   rw [QdA L a hh] at g1;cases g1
  have g1':=g1;rw [hg] at g1';have hj:es[j]?=some e0:=by simpa using h2
  refine ⟨.map (es.modify j fun y=>{ y with key:=ek a,val:=ev v }) clock,?_,Qm9 L a v,⟨_,_,QAX _,?_⟩,?_,?_,fun c=>?_⟩
  ·simp [Instr.mapUpdate,run_underlying ht,MapKept.run_getObj_map hb,K.check w false a,h1,hj,h3,K.stays w a,MapKept.run_setObj_map _ hb,Result.andThen,Qaw]
  ·rw [Array.toList_modify]
   exact (g3 v).1
  ·rw [QlP,if_pos QBm];exact hnd
  ·rw [length_set,if_pos QBm,g1'];exact hlen
  ·rw [Qo6,hg]
theorem MapF.drop{g:A→Option B}{n:Nat}(h:MapF ek ev w b g n)(K:KeyT P k ek)(ht:P.underlying t=some (.map k e))(a:A)(ty:TypeId) :
  ∃ o,(Builtin.delete_ #[t,k] ty #[.map (some b),ek a]).run P w = .ok (.tuple #[]) (Qaw w b o)∧MapF ek ev (Qaw w b o) b (fun c=>if c=a then none else g c) (if (g a).isSome then n-1 else n):=by
 obtain ⟨L,⟨es,clock,hb,hL⟩,hnd,hlen,hg⟩:=h;have QAX:∀ o,(Qaw w b o).heap[b]?=some o:=fun o=>(heap_set hb).1
 rcases K.find w a es.toList (Qfc hL) with ⟨h1,h2⟩|⟨j,e0,h1,h2,h3,h4⟩
 ·have hm:=Qdj K es.toList L a hL h2
  have hn:=QdA L a hm;rw [hg] at hn;refine ⟨.map es clock,?_,L,⟨_,_,QAX _,hL⟩,hnd,by rw [hn];exact hlen,fun c=>?_⟩
  ·simp [Builtin.delete_,run_underlying ht,MapKept.run_getObj_map hb,K.check w _ a,h1,MapKept.run_setObj_map _ hb,Result.andThen,Qaw]
  ·show QgR L c=if c=a then none else g c
   by_cases hc:c=a
   ·rw [if_pos hc,hc,hg,hn]
   ·rw [if_neg hc];exact hg c
 ·obtain ⟨v0,g1,g2,g3⟩:=QdV K es.toList L a j e0 hL h2 h3 h4
  have QBm:a∈Qb0 L:=by
   refine Classical.byContradiction fun hh=>?_
   rw [QdA L a hh] at g1;cases g1
  have g1':=g1;rw [hg] at g1';have hjl:j<es.size:=by
   have:=(List.getElem?_eq_some_iff.1 h2).1;simpa using this
  refine ⟨.map (es.eraseIdxIfInBounds j) clock,?_,QqS L a,⟨_,_,QAX _,?_⟩,hnd.sublist (Qs2 L a),?_,fun c=>?_⟩
  ·simp [Builtin.delete_,run_underlying ht,MapKept.run_getObj_map hb,K.check w _ a,h1,MapKept.run_setObj_map _ hb,Result.andThen,Qaw]
  ·have hsub:(es.eraseIdxIfInBounds j).toList=es.toList.eraseIdx j:=by
    unfold Array.eraseIdxIfInBounds;rw [dif_pos hjl];simp
   rw [hsub];exact (g3 v0).2
  ·rw [Qqo,if_pos QBm,g1',hlen];rfl
  ·rw [QvS L hnd,hg]
theorem MapF.len{g:A→Option B}{n:Nat}(h:MapF ek ev w b g n)(ty t:TypeId)(ht:P.underlying t=some (.map k e)):(Builtin.len_ #[t] ty #[.map (some b)]).run P w = .ok (.int .i64 (n:Int)) w:=by
 obtain ⟨L,⟨es,clock,hb,hL⟩,-,hlen,-⟩:=h;have hs:es.size=n:=by
  have:=congrArg List.length hL;rw [List.length_map,List.length_map,hlen] at this;simpa using this
 simp [Builtin.len_,Builtin.lenOf,run_underlying ht,MapKept.run_getObj_map hb,hs,Result.andThen,goInt]
end
theorem Qcs(w:World)(b:Nat)(o:Obj):(Qaw w b o).heap.size=w.heap.size:=by simp [Qaw]
theorem Qah(w:World)(b:Nat)(o:Obj)(i:Nat)(h:i≠b):(Qaw w b o).heap[i]?=w.heap[i]?:=by
 simp [Qaw,Array.getElem?_setIfInBounds,Ne.symm h]
end
section
open Go.RowKit Go.MapKept
theorem QiC{P:Program}{k:TypeId}{A:Type}[DecidableEq A]{ek:A→Value}(hinj:∀ a c,ek a=ek c→a=c)(heq:∀ (w:World) (a c:A),(Op.equal k (ek a) (ek c)).run P w = .ok (decide (a=c)) w)(w:World)(a:A) :
  ∀ (es:List MapEntry) (i:Nat),(∀ e∈es,∃ c,e.key=ek c)→((Instr.findAsking k (ek a) es i).run P w = .ok none w∧∀ e∈es,e.key≠ek a)∨∃ j e,(Instr.findAsking k (ek a) es i).run P w = .ok (some (i+j,e.val)) w∧es[j]?=some e∧e.key=ek a∧∀ x e',x<j→es[x]?=some e'→e'.key≠ek a
 |[],i,_=>.inl ⟨by simp [Instr.findAsking],fun e he=>by cases he⟩
 |x :: es,i,h=>by
  obtain ⟨c,hc⟩:=h x List.mem_cons_self;have hq:=heq w a c
  by_cases hac:a=c
  ·right
   refine ⟨0,x,?_,rfl,by rw [hc,hac],fun _ _ h1=>absurd h1 (Nat.not_lt_zero _)⟩
   rw [decide_eq_true hac] at hq;unfold Instr.findAsking;rw [hc];simp [hq,Result.andThen]
  ·have hne:x.key≠ek a:=fun e=>hac (hinj _ _ (e.symm.trans hc))
   have QAr:(Instr.findAsking k (ek a) (x :: es) i).run P w=(Instr.findAsking k (ek a) es (i+1)).run P w:=by
    rw [decide_eq_false hac] at hq
    conv=>lhs;unfold Instr.findAsking
    rw [hc];simp [hq,Result.andThen]
   rw [QAr];rcases QiC hinj heq w a es (i+1) (fun e he=>h e (List.mem_cons_of_mem _ he)) with ⟨h1,h2⟩|⟨j,e,h1,h2,h3,h4⟩
   ·left
    refine ⟨h1,fun e he=>?_⟩
    rcases List.mem_cons.1 he with rfl|he
    ·exact hne
    ·exact h2 e he
   ·right
    refine ⟨j+1,e,by rw [h1];congr 3;omega,by rw [List.getElem?_cons_succ];exact h2,h3,fun y e' hy he'=>?_⟩
    cases y with
    |zero=>
     rw [List.getElem?_cons_zero,Option.some.injEq] at he';rw [←he'];exact hne
    |succ y=>
     rw [List.getElem?_cons_succ] at he';exact h4 y e' (by omega) he'
def QeS(q1 q2:IntKind)(k:Nat×Nat):Value:=.agg #[.int q1 (k.1:Nat),.int q2 (k.2:Nat)]
theorem Qlv(q1 q2:IntKind)(a c:Nat×Nat)(h:QeS q1 q2 a=QeS q1 q2 c):a=c:=by
 unfold QeS at h;obtain ⟨a1,a2⟩:=a;obtain ⟨c1,c2⟩:=c;simp only [Value.agg.injEq,Array.mk.injEq,List.cons.injEq,Value.int.injEq,true_and,and_true] at h;rw [show a1=c1 by omega,show a2=c2 by omega]
theorem Qlu{P:Program}{k:TypeId}(q1 q2:IntKind){fs:Array Field}(hu:P.underlying k=some (.struct fs))(hc:∀ (w:World) (em:Bool) (x y:Int),(Instr.checkKey em 10000 k (.agg #[.int q1 x,.int q2 y])).run P w = .ok () w)
  (heq:∀ (w:World) (a c:Nat×Nat),(Op.equal k (QeS q1 q2 a) (QeS q1 q2 c)).run P w = .ok (decide (a=c)) w):KeyT P k (QeS q1 q2) where
 check:=fun w em a=>hc w em _ _
 find:=fun w a es h=>by
  have QAw:(Instr.findKey k (QeS q1 q2 a) es).run P w=(Instr.findAsking k (QeS q1 q2 a) es).run P w:=by
   unfold Instr.findKey;cases es with
   |nil=>simp [run_underlying hu,Instr.findNow,Instr.findAsking,Result.andThen]
   |cons x es=>simp [run_underlying hu,Instr.findNow,Instr.sameNow,QeS,Result.andThen]
  rw [QAw];rcases QiC (Qlv q1 q2) heq w a es 0 h with h1|⟨j,e,h1,h2⟩
  ·exact .inl h1
  ·exact .inr ⟨j,e,by rw [h1,Nat.zero_add],h2⟩
 stays:=fun w a=>by
  unfold Instr.keyThatStays;have:Instr.sameBits 10000 (QeS q1 q2 a) (QeS q1 q2 a)=true:=by simp [QeS,Instr.sameBits]
  rw [this];simp
 inj:=Qlv q1 q2
def QbZ(q:IntKind)(n:Nat):Value:=.int q (n:Nat)
theorem QlE(q:IntKind)(a c:Nat)(h:QbZ q a=QbZ q c):a=c:=by
 unfold QbZ at h;simp only [Value.int.injEq,true_and] at h;omega
theorem QlD{q:IntKind}{d:TypeDesc}{q':IntKind}(hd:d = .int q')(a:Nat):∀ (es:List MapEntry) (i:Nat),(∀ e∈es,∃ c,e.key=QbZ q c)→(Instr.findNow d (QbZ q a) es i=some none∧∀ e∈es,e.key≠QbZ q a)∨∃ j e,Instr.findNow d (QbZ q a) es i=some (some (i+j,e.val))∧es[j]?=some e∧e.key=QbZ q a∧∀ x e',x<j→es[x]?=some e'→e'.key≠QbZ q a
 |[],i,_=>.inl ⟨rfl,fun e he=>by cases he⟩
 |x :: es,i,h=>by
  obtain ⟨c,hc⟩:=h x List.mem_cons_self;have hs:Instr.sameNow d (QbZ q a) x.key=some (decide (a=c)):=by
   rw [hc,hd];simp [Instr.sameNow,QbZ]
   by_cases hh:a=c
   ·simp [hh]
   ·have:¬((a:Int)=(c:Int)):=by omega
    simp [hh,this]
  by_cases hac:a=c
  ·right
   refine ⟨0,x,?_,rfl,by rw [hc,hac],fun _ _ h1=>by omega⟩
   unfold Instr.findNow;rw [hs];simp [hac]
  ·have hne:x.key≠QbZ q a:=fun e=>hac (QlE q _ _ (e.symm.trans hc))
   have QAr:Instr.findNow d (QbZ q a) (x :: es) i=Instr.findNow d (QbZ q a) es (i+1):=by
    conv=>lhs;unfold Instr.findNow
    rw [hs];simp [hac]
   rw [QAr];rcases QlD hd a es (i+1) (fun e he=>h e (List.mem_cons_of_mem _ he)) with ⟨h1,h2⟩|⟨j,e,h1,h2,h3,h4⟩
   ·left
    refine ⟨h1,fun e he=>?_⟩
    rcases List.mem_cons.1 he with rfl|he
    ·exact hne
    ·exact h2 e he
   ·right
    refine ⟨j+1,e,by rw [h1];congr 3;omega,by rw [List.getElem?_cons_succ];exact h2,h3,fun y e' hy he'=>?_⟩
    cases y with
    |zero=>
     rw [List.getElem?_cons_zero,Option.some.injEq] at he';rw [←he'];exact hne
    |succ y=>
     rw [List.getElem?_cons_succ] at he';exact h4 y e' (by omega) he'
theorem QoF{P:Program}{k:TypeId}(q q':IntKind)(hu:P.underlying k=some (.int q')):KeyT P k (QbZ q) where
 check:=fun w em a=>by
  unfold Instr.checkKey;simp [run_underlying hu,QbZ,Result.andThen]
 find:=fun w a es h=>by
  unfold Instr.findKey;rcases QlD (rfl:TypeDesc.int q' = .int q') a es 0 h with ⟨h1,h2⟩|⟨j,e,h1,h2⟩
  ·exact .inl ⟨by simp [run_underlying hu,h1,Result.andThen],h2⟩
  ·refine .inr ⟨j,e,?_,h2⟩
   rw [Nat.zero_add] at h1;simp [run_underlying hu,h1,Result.andThen]
 stays:=fun w a=>by
  unfold Instr.keyThatStays;have:Instr.sameBits 10000 (QbZ q a) (QbZ q a)=true:=by simp [QbZ,Instr.sameBits]
  rw [this];simp
 inj:=QlE q
end
section
open Go.RowKit
theorem Qrj(i:Nat)(t:ByteArray)(hi:i<6004799503160661)(h0:0<t.size)(h1:t.size≤65536)(w:World):Calls Tryz.prog 29 #[.int .u64 i,.string t,.bool false] w fun e w'=>e = .returned (.int .i64 0)∧w'=w:=by
 have t1:decide ((i:Int)≥6004799503160661)=false:=decide_eq_false (by omega)
 have t2:decide ((t.size:Int)>65536)=false:=decide_eq_false (by omega)
 have hl:t.toList≠[]:=by
  intro e;have h2:=Qab t;rw [←ByteArray.toList_eq] at h2;rw [e] at h2;simp at h2;omega
 have t3:(t.toList==([]:List UInt8))=false:=by rw [beq_eq_false_iff_ne];exact hl
 have t4:t.toList.isEmpty=false:=by cases h:t.toList with|nil=>exact absurd h hl|cons _ _=>rfl
 go_enter Tryz.func29,Tryz.ntmps29;go_wp2_with fail;go_ret;exact ⟨rfl,rfl⟩
theorem Qqv(v f:Value)(a:Option Addr)(c:Nat)(hv:v = .slice a 1 c)(w:World):Calls Tryz.prog 100 #[v,.int .i64 0,.int .i64 1,f] w fun e w'=>e = .returned (.tuple #[])∧w'=w:=by
 subst hv;go_enter Tryz.func100,Tryz.ntmps100;go_wp2_with fail;go_loop [8] (fun i=>i = .int .i64 1) (fun _=>0)
 case atStart=>rfl
 case round=>
  subst hrel;go_wp2_with fail
  first|go_end0|refine bodyPost_ret (results_none rfl _ _ _) rfl ?_
  exact ⟨rfl,rfl⟩
theorem Qxn(v f:Value)(l:Int)(a:Option Addr)(c:Nat)(hv:v = .slice a 1 c)(w:World):Calls Tryz.prog 53 #[v,.int .i64 0,.int .i64 1,.int .i64 l,f] w fun e w'=>e = .returned (.tuple #[])∧w'=w:=by
 have HI:=hid (Qqv v f a c hv w);subst hv;go_enter Tryz.func53,Tryz.ntmps53;go_wp2_with fail;go_loop [1,2] (fun i j=>i = .int .i64 0∧j = .int .i64 1) (fun _ _=>0)
 case atStart=>exact ⟨rfl,rfl⟩
 case round=>
  obtain ⟨rfl,rfl⟩:=hrel;go_wp2_with fail;refine HI.out.mono ?_;rintro e w1 ⟨rfl,hw⟩;obtain rfl:=hw.symm;clear hw;go_wp2_with fail
  first|go_end0|refine bodyPost_ret (results_none rfl _ _ _) rfl ?_
  exact ⟨rfl,rfl⟩
theorem QuD(v f:Value)(a:Option Addr)(c:Nat)(hv:v = .slice a 1 c)(w:World):Calls Tryz.prog 30 #[v,f] w fun e w'=>e = .returned (.tuple #[])∧w'=w:=by
 have HP:=hid (fun l=>Qxn v f l a c hv w)
 have HL:=hid (Tryz.bits_Len 1 w (by decide) (by decide))
 subst hv;go_enter Tryz.func30,Tryz.ntmps30;go_wp2_with fail;refine HL.out.mono ?_;rintro e w1 ⟨rfl,hw⟩;obtain rfl:=hw.symm;clear hw;go_wp2_with fail;refine (HP.out _).mono ?_;rintro e w1 ⟨rfl,hw⟩;obtain rfl:=hw.symm;clear hw;go_wp2_with fail
 first|go_end0|refine bodyPost_ret (results_none rfl _ _ _) rfl ?_
 exact ⟨rfl,rfl⟩
end
section
abbrev Key:=Nat×Nat
abbrev QcR:=Int×Key×Key
structure LinkOk(ks:List (Key×Int))(g:Key→Option QcR)(old new:Key):Prop where
 nd:(ks.map (·.1)).Nodup
 out:∀ a,a∉ks.map (·.1)→g a=none
 mid:∀ A p B,ks=A++p :: B→∃ o n,g p.1=some (p.2,o,n)∧(∀ q,A.getLast?=some q→o=q.1)∧(∀ q,B.head?=some q→n=q.1)
 first:∀ p,ks.head?=some p→old=p.1
 last:∀ p,ks.getLast?=some p→new=p.1
theorem Qvj(old new:Key):LinkOk [] (fun _=>none) old new where
 nd:=List.nodup_nil
 out:=fun _ _=>rfl
 mid:=fun A p B h=>by cases A<;>cases h
 first:=fun p h=>by cases h
 last:=fun p h=>by cases h
theorem QsJ{ks:List (Key×Int)}{p:Key×Int}(h:p∈ks):∃ A B,ks=A++p :: B:=List.append_of_mem h
theorem Qdg{ks:List (Key×Int)}(hn:(ks.map (·.1)).Nodup){A B:List (Key×Int)}{p q:Key×Int}(h:ks=A++p :: B)(hq:q∈A∨q∈B):q.1≠p.1:=by
 rw [h,List.map_append,List.map_cons,List.nodup_append,List.nodup_cons] at hn;rcases hq with hq|hq
 ·exact hn.2.2 _ (List.mem_map.2 ⟨q,hq,rfl⟩) _ List.mem_cons_self
 ·exact fun e=>hn.2.1.1 (by rw [←e];exact List.mem_map.2 ⟨q,hq,rfl⟩)
theorem QdT{α:Type}(l:List α){l':List α}(h:l'≠[]):(l++l').getLast?=l'.getLast?:=by
 rw [List.getLast?_append];cases h1:l'.getLast? with
 |none=>exact absurd (List.getLast?_eq_none_iff.1 h1) h
 |some x=>rfl
theorem QkN{l:List (Key×Int)}{q:Key×Int}(h:l.head?=some q):q∈l:=List.mem_of_head? h
theorem QdS{l:List (Key×Int)}{q:Key×Int}(h:l.getLast?=some q):q∈l:=List.mem_of_getLast? h
theorem LinkOk.cut{A B:List (Key×Int)}{p:Key×Int}{g g3:Key→Option QcR}{old new old' new' o n:Key}(h:LinkOk (A++p :: B) g old new)(hx:g p.1=some (p.2,o,n))
  (h0:g3 p.1=none)
  (hq:∀ q,A.getLast?=some q→∀ v qo qn,g q.1=some (v,qo,qn)→g3 q.1=some (v,qo,n))
  (hr:∀ r,B.head?=some r→∀ v ro rn,g r.1=some (v,ro,rn)→g3 r.1=some (v,o,rn))
  (hs:∀ c,c≠p.1→(∀ q,A.getLast?=some q→c≠q.1)→(∀ r,B.head?=some r→c≠r.1)→g3 c=g c)
  (ho:A = []→old'=n) (ho':A≠[]→old'=old) (hn:B = []→new'=o) (hn':B≠[]→new'=new):LinkOk (A++B) g3 old' new':=by
 obtain ⟨o0,n0,e0,eo,en⟩:=h.mid A p B rfl;rw [hx] at e0;injection e0 with e0
 injection e0 with _ e0
 injection e0 with e1 e2
 subst e1 e2;have hnd:((A++B).map (·.1)).Nodup:=h.nd.sublist (by
  rw [List.map_append,List.map_append,List.map_cons];exact (List.Sublist.refl _).append (List.sublist_cons_self _ _))
 refine ⟨hnd,fun a ha=>?_,fun A1 q B1 hsp=>?_,fun q hq1=>?_,fun q hq1=>?_⟩
 ·by_cases hap:a=p.1
  ·rw [hap];exact h0
  ·rw [hs a hap (fun q hq1 e=>ha (by rw [e];exact List.mem_map.2 ⟨q,List.mem_append_left _ (QdS hq1),rfl⟩)) (fun r hr1 e=>ha (by rw [e];exact List.mem_map.2 ⟨r,List.mem_append_right _ (QkN hr1),rfl⟩))]
   refine h.out a (fun hm=>ha ?_)
   rw [List.map_append,List.map_cons,List.mem_append,List.mem_cons] at hm;rw [List.map_append,List.mem_append];rcases hm with hm|hm|hm
   ·exact .inl hm
   ·exact absurd hm hap
   ·exact .inr hm
 ·
  rcases List.append_eq_append_iff.1 hsp with ⟨C,hC1,hC2⟩|⟨C,hC1,hC2⟩
  ·
   obtain ⟨a,b,f1,f2,f3⟩:=h.mid (A++p :: C) q B1 (by rw [hC2,List.append_assoc,List.cons_append])
   have hqp:q.1≠p.1:=Qdg h.nd rfl (.inr (by rw [hC2];simp))
   have hqA:∀ x,A.getLast?=some x→q.1≠x.1:=fun x hx1 e=>by
    have hx2:=QdS hx1;obtain ⟨S1,S2,hS⟩:=QsJ hx2;have:=Qdg (ks:=A++p :: B) h.nd (A:=S1) (B:=S2++p :: B) (p:=x) (q:=q) (by rw [hS];simp) (.inr (by rw [hC2];simp))
    exact this e
   cases C with
   |nil=>
    have hb:B.head?=some q:=by rw [hC2];rfl
    rw [hr q hb _ _ _ f1];refine ⟨o,b,rfl,fun x hx1=>?_,f3⟩
    rw [hC1,List.append_nil] at hx1;exact eo x hx1
   |cons c C=>
    have hbh:∀ r,B.head?=some r→q.1≠r.1:=fun r hr1=>by
     rw [hC2] at hr1;injection hr1 with hr1
     subst hr1;exact Qdg (ks:=A++p :: B) h.nd (A:=A++[p]) (B:=C++q :: B1) (p:=c) (by rw [hC2];simp) (.inr (by simp))
    rw [hs q.1 hqp hqA hbh];refine ⟨a,b,f1,fun x hx1=>f2 x ?_,f3⟩
    rw [hC1] at hx1;rw [QdT _ (by simp)] at hx1
    rw [QdT _ (by simp),List.getLast?_cons_cons]
    exact hx1
  ·
   cases C with
   |nil=>
    rw [List.append_nil] at hC1;rw [List.nil_append] at hC2;obtain ⟨a,b,f1,f2,f3⟩:=h.mid (A++[p]) q B1 (by rw [←hC2];simp)
    have hb:B.head?=some q:=by rw [←hC2];rfl
    rw [hr q hb _ _ _ f1];exact ⟨o,b,rfl,fun x hx1=>eo x (by rw [hC1];exact hx1),f3⟩
   |cons c C=>
    rw [List.cons_append] at hC2;injection hC2 with hc1 hc2
    subst hc1;obtain ⟨a,b,f1,f2,f3⟩:=h.mid A1 q (C++p :: B) (by rw [hC1];simp)
    have hqp:q.1≠p.1:=Qdg h.nd rfl (.inl (by rw [hC1];simp))
    have hqB:∀ r,B.head?=some r→q.1≠r.1:=fun r hr1 e=>by
     have hr2:=QkN hr1;have:=Qdg (ks:=A++p :: B) h.nd (A:=A1) (B:=C++p :: B) (p:=q) (q:=r) (by rw [hC1];simp) (.inr (by simp [hr2]))
     exact this e.symm
    cases C with
    |nil=>
     have hl:A.getLast?=some q:=by rw [hC1];simp
     rw [hq q hl _ _ _ f1];refine ⟨a,n,rfl,f2,fun x hx1=>en x ?_⟩
     rw [hc2] at hx1;exact hx1
    |cons d C=>
     have hqA:∀ x,A.getLast?=some x→q.1≠x.1:=fun x hx1 e=>by
      have hx2:x∈d :: C:=by
       rw [hC1,QdT _ (by simp),List.getLast?_cons_cons] at hx1
       exact QdS hx1
      exact Qdg (ks:=A++p :: B) h.nd (A:=A1) (B:=d :: C++p :: B) (p:=q) (q:=x) (by rw [hC1];simp) (.inr (List.mem_append_left _ hx2)) e.symm
     rw [hs q.1 hqp hqA hqB];refine ⟨a,b,f1,f2,fun x hx1=>f3 x ?_⟩
     rw [hc2] at hx1;exact hx1
 ·cases A with
  |nil=>
   rw [ho rfl];exact en q hq1
  |cons x A=>
   rw [ho' (by simp)]
   exact h.first q hq1
 ·cases B with
  |nil=>
   rw [hn rfl];rw [List.append_nil] at hq1;exact eo q hq1
  |cons x B=>
   rw [hn' (by simp)]
   refine h.last q ?_;rw [QdT _ (by simp)] at hq1 ⊢
   rw [List.getLast?_cons_cons];exact hq1
theorem LinkOk.push{ks:List (Key×Int)}{g g2:Key→Option QcR}{old new old' a:Key}{v:Int}{z:Key}(h:LinkOk ks g old new)(ha:a∉ks.map (·.1))
  (h0:g2 a=some (v,new,z)) (hl:∀ q,ks.getLast?=some q→∀ w qo qn,g q.1=some (w,qo,qn)→g2 q.1=some (w,qo,a)) (hs:∀ c,c≠a→(∀ q,ks.getLast?=some q→c≠q.1)→g2 c=g c)
  (ho:ks = []→old'=a) (ho':ks≠[]→old'=old):LinkOk (ks++[(a,v)]) g2 old' a:=by
 refine ⟨?_,fun c hc=>?_,fun A1 q B1 hsp=>?_,fun q hq1=>?_,fun q hq1=>?_⟩
 ·rw [List.map_append,List.nodup_append]
  refine ⟨h.nd,by simp,fun x hx y hy=>?_⟩
  simp only [List.map_cons,List.map_nil,List.mem_singleton] at hy;rintro rfl;exact ha (by rw [←hy];exact hx)
 ·rw [List.map_append,List.mem_append,not_or] at hc
  simp only [List.map_cons,List.map_nil,List.mem_singleton] at hc;rw [hs c hc.2 (fun q hq1 e=>hc.1 (by rw [e];exact List.mem_map.2 ⟨q,QdS hq1,rfl⟩))]
  exact h.out c hc.1
 ·rcases List.append_eq_append_iff.1 hsp with ⟨C,hC1,hC2⟩|⟨C,hC1,hC2⟩
  ·
   cases C with
   |cons c C=>simp at hC2
   |nil=>
    rw [List.nil_append] at hC2;injection hC2 with e1 e2
    subst e1 e2;rw [List.append_nil] at hC1;exact ⟨new,z,h0,fun x hx1=>h.last x (by rw [←hC1];exact hx1),fun x hx1=>by cases hx1⟩
  ·cases C with
   |nil=>
    rw [List.nil_append] at hC2;injection hC2 with e1 e2
    subst e1 e2;rw [List.append_nil] at hC1;exact ⟨new,z,h0,fun x hx1=>h.last x (by rw [hC1];exact hx1),fun x hx1=>by cases hx1⟩
   |cons c C=>
    rw [List.cons_append] at hC2;injection hC2 with hc1 hc2
    subst hc1;obtain ⟨o,n,f1,f2,f3⟩:=h.mid A1 q C hC1;have hqa:q.1≠a:=fun e=>ha (by rw [←e];exact List.mem_map.2 ⟨q,by rw [hC1];simp,rfl⟩)
    cases C with
    |nil=>
     have hlq:ks.getLast?=some q:=by rw [hC1];simp
     rw [hl q hlq _ _ _ f1];refine ⟨o,a,rfl,f2,fun x hx1=>?_⟩
     rw [hc2] at hx1;injection hx1 with hx1
     rw [←hx1]
    |cons d C=>
     have hqA:∀ x,ks.getLast?=some x→q.1≠x.1:=fun x hx1 e=>by
      have hx2:x∈d :: C:=by
       rw [hC1,QdT _ (by simp),List.getLast?_cons_cons] at hx1
       exact QdS hx1
      exact Qdg h.nd hC1 (.inr hx2) e.symm
     rw [hs q.1 hqa hqA];refine ⟨o,n,f1,f2,fun x hx1=>f3 x ?_⟩
     rw [hc2] at hx1;exact hx1
 ·cases ks with
  |nil=>
   rw [ho rfl];injection hq1 with hq1
   rw [←hq1]
  |cons x r=>
   rw [ho' (by simp)]
   exact h.first q hq1
 ·rw [QdT _ (by simp)] at hq1
  have hq2:some (a,v)=some q:=hq1;injection hq2 with hq2
  rw [←hq2]
end
section
open Go.RowKit
theorem QoX:(Tryz.prog.info? 86).map (fun i=>(i.zero,i.size,i.bytes))=some (some (.agg #[.int .u64 0,.int .u64 0,.int .u32 0,.int .u32 0]),4,24):=by kernel_rfl
theorem QsO(n:Nat):madeCells #[.int .u64 0,.int .u64 0,.int .u32 0,.int .u32 0] (n*4)=(Qay (List.replicate n QaZ)).toArray:=by
 apply Array.ext';rw [List.toList_toArray];apply List.ext_getElem?;intro i
 by_cases hi:i<n*4
 ·have hj:i/4<(List.replicate n QaZ).length:=by rw [List.length_replicate];omega
  obtain ⟨h0,h1,h2,h3⟩:=QfP (List.replicate n QaZ) (i/4) hj;rw [List.getElem_replicate] at h0 h1 h2 h3;have hm:i%4=0∨i%4=1∨i%4=2∨i%4=3:=by omega
  have lhs:(madeCells #[.int .u64 0,.int .u64 0,.int .u32 0,.int .u32 0] (n*4)).toList[i]?=some (#[Value.int .u64 0,.int .u64 0,.int .u32 0,.int .u32 0][i%4]!):=by
   simp [madeCells,hi]
  rw [lhs];rcases hm with hm|hm|hm|hm
  ·rw [hm,show i=i/4*4 by omega,h0];rfl
  ·rw [hm,show i=i/4*4+1 by omega,h1];rfl
  ·rw [hm,show i=i/4*4+2 by omega,h2];rfl
  ·rw [hm,show i=i/4*4+3 by omega,h3];rfl
 ·rw [List.getElem?_eq_none (by rw [Array.length_toList,size_madeCells];omega),List.getElem?_eq_none (by rw [QbD,List.length_replicate];omega)]
theorem QsL(n:Nat)(h:n≤1000000)(w:World):(Instr.makeSlice 81 (.int .u64 (n:Int)) (.int .u64 (n:Int))).run Tryz.prog w = .ok (.slice (some ⟨w.heap.size,0,none⟩) n n) (w.alloc (.cells (Qay (List.replicate n QaZ)).toArray 86)):=by
 obtain ⟨i0,hi,hz0,hz1,hz2⟩:=info_parts QoX;have:=run_make (P:=Tryz.prog) w 81 86 i0 _ Tryz.underlying81 hi hz0 .u64 .u64 n n (by omega) (by omega) (by rw [hz2];omega) (by omega)
 rw [this,hz1,Int.toNat_natCast];have e:(Value.agg #[.int .u64 0,.int .u64 0,.int .u32 0,.int .u32 0]).cells=#[.int .u64 0,.int .u64 0,.int .u32 0,.int .u32 0]:=rfl;rw [e,QsO]
theorem Qjm{w:World}{B:Nat}{L:List Ent}{T:TypeId}(k:w.heap[B]?=some (.cells (Qay L).toArray T (0,0)))(hn:L.length≤1000000)(base:Nat)(hb:base≤B):w.ownsRow base T 4 (.slice (some ⟨B,0,none⟩) L.length L.length) L.length (Qay L):=
 ⟨QbD L,.inr ⟨B,L.length,(Qay L).toArray,rfl,hb,k,Nat.le_refl _,by unfold maxLen;omega,by simp [QbD],by
  rw [List.toList_toArray,List.take_of_length_le (by rw [QbD];exact Nat.le_refl _)]⟩⟩
theorem QlY{w:World}{B:Nat}{L:List Ent}{T:TypeId}(k:w.heap[B]?=some (.cells (Qay L).toArray T (0,0)))(hn:L.length≤1000000):HoldsE w (.slice (some ⟨B,0,none⟩) L.length L.length) L:=HoldsR.of_own (Qjm k hn 0 (Nat.zero_le _))
theorem Qv7(c i a0 a1 a2 a3 x:Nat)(hc:c<4)(w:World)(B:Nat)(L:List Ent)(j:Nat)(T:TypeId)(hj:j<L.length)(k:w.heap[B]?=some (.cells (Qay L).toArray T (0,0)))(ha:Qbl (a0,a1,a2,a3))(hx:x<18446744073709551616) :
  Calls Tryz.prog 133 #[.int .i64 c,.int .i64 i,.agg #[.int .u64 a0,.int .u64 a1,.int .u32 a2,.int .u32 a3],.pointer (some ⟨B,j*4,none⟩),.int .u64 x] w (Qfh c i (a0,a1,a2,a3) x w B L j T):=by
 have h:c=0∨c=1∨c=2∨c=3:=by omega
 rcases h with rfl|rfl|rfl|rfl
 ·exact Qw8 i a0 a1 a2 a3 x w B L j T hj k ha.1 hx
 ·exact QuI i a0 a1 a2 a3 x w B L j T hj k hx
 ·exact Qm8 i a0 a1 a2 a3 x w B L j T hj k hx
 ·exact Qm7 i a0 a1 a2 a3 x w B L j T hj k ha.2.2.1 hx
def Qon(R:Nat×List Ent)(w:World)(e:Ending)(w':World):Prop:=
 ∃ (a:Int) (v:Value),e = .returned (.tuple #[v,.int .i64 a,.int .i64 (R.1:Nat)])∧Below w.heap.size w w'∧(R.1≠0→v = .slice none 0 0)∧(R.1=0→∃ g,v = .slice (some ⟨g,0,none⟩) R.2.length R.2.length∧w'.ownsRow w.heap.size 86 4 v R.2.length (Qay R.2))
theorem Qb8{R:Nat×List Ent}{w:World}{w':World}(a:Int)(E:Nat)(hR:R=(E,[]))(hE:E≠0)(hb:Below w.heap.size w w'):Qon R w (.returned (.tuple #[.slice none 0 0,.int .i64 a,.int .i64 (E:Nat)])) w':=by
 subst hR;exact ⟨a,_,rfl,hb,fun _=>rfl,fun h=>absurd h hE⟩
theorem QqT{L:List Ent}{R:Nat×List Ent}{w:World}{w':World}(a:Int)(g:Nat)(hR:R=(0,L))(hb:Below w.heap.size w w')(hL:L.length≤1000000)(hg:w.heap.size≤g)(k:w'.heap[g]?=some (.cells (Qay L).toArray 86 (0,0))):Qon R w (.returned (.tuple #[.slice (some ⟨g,0,none⟩) L.length L.length,.int .i64 a,.int .i64 0])) w':=by
 subst hR;exact ⟨a,_,rfl,hb,fun h=>absurd rfl h,fun _=>⟨g,rfl,Qjm k hL _ hg⟩⟩
structure DW(w wr:World)(s:ByteArray)(b6 bA:Nat)(a:Nat)(L:List Ent):Prop where
 b:Below w.heap.size w wr
 s6:wr.heap[b6]?=some (.cells #[.string s,.int .i64 a,.int .i64 0] 246 (0,0))
 sA:wr.heap[bA]?=some (.cells (Qay L).toArray 86 (0,0))
 l6:w.heap.size≤b6
 lA:w.heap.size≤bA
theorem DW.step{w wr wr':World}{s:ByteArray}{b6 bA a:Nat}{L:List Ent}(h:DW w wr s b6 bA a L)(hb:Below wr.heap.size wr wr'):DW w wr' s b6 bA a L:=
 ⟨Qaa h.b hb,Qae h.s6 hb,Qae h.sA hb,h.l6,h.lA⟩
theorem DW.ne{w wr:World}{s:ByteArray}{b6 bA a:Nat}{L:List Ent}(h:DW w wr s b6 bA a L):b6≠bA:=fun e=>by
 have h1:=h.s6;rw [e,h.sA] at h1;simp only [Option.some.injEq,Obj.cells.injEq] at h1;exact absurd h1.2.1 (by decide)
theorem Qd0(w:World)(n:Nat):Below w.heap.size w (w.drewN n):=⟨rfl,rfl,rfl,Nat.le_refl _,fun _ _=>rfl⟩
theorem QhF(W:World)(b b':Nat)(h:b'≠b)(y0 y1 y2 y3:Value):((((W.setCell ⟨b,0,none⟩ y0).setCell ⟨b,1,none⟩ y1).setCell ⟨b,2,none⟩ y2).setCell ⟨b,3,none⟩ y3).heap[b']?=W.heap[b']?:=
 (Below.heap_setCell _ _ _ _ h).trans ((Below.heap_setCell _ _ _ _ h).trans ((Below.heap_setCell _ _ _ _ h).trans (Below.heap_setCell _ _ _ _ h)))
theorem QhG(W:World)(b b':Nat)(h:b'≠b)(y0 y1 y2:Value):(((W.setCell ⟨b,0,none⟩ y0).setCell ⟨b,1,none⟩ y1).setCell ⟨b,2,none⟩ y2).heap[b']?=W.heap[b']?:=
 (Below.heap_setCell _ _ _ _ h).trans ((Below.heap_setCell _ _ _ _ h).trans (Below.heap_setCell _ _ _ _ h))
theorem DW.touch{w wr wr':World}{s:ByteArray}{b6 bA a:Nat}{L L':List Ent}(h:DW w wr s b6 bA a L)(ht:Touch (fun g=>g=bA) wr wr')(hk:wr'.heap[bA]?=some (.cells (Qay L').toArray 86 (0,0))):DW w wr' s b6 bA a L':=
 ⟨h.b.trans (ht.below (fun g hg=>by rw [show g=bA from hg];exact h.lA) h.b.size),(ht.block b6 (gsi h.s6).1 h.ne).trans h.s6,hk,h.l6,h.lA⟩
theorem DW.scan{w wr:World}{s:ByteArray}{b6 bA a:Nat}{L:List Ent}(h:DW w wr s b6 bA a L)(a':Nat):DW w (((wr.setCell ⟨b6,0,none⟩ (.string s)).setCell ⟨b6,1,none⟩ (.int .i64 a')).setCell ⟨b6,2,none⟩ (.int .i64 0)) s b6 bA a' L:=
 ⟨Qbh h.b h.l6 _ _ _,Qb2 h.s6 _ _ _,(QhG _ _ _ (fun e=>h.ne e.symm) _ _ _).trans h.sA,h.l6,h.lA⟩
theorem DW.other{w wr:World}{s:ByteArray}{b6 bA a:Nat}{L:List Ent}(h:DW w wr s b6 bA a L)(b:Nat)(hw:w.heap.size≤b)(h6:b6≠b)(hA:bA≠b)(y0 y1 y2 y3:Value):DW w ((((wr.setCell ⟨b,0,none⟩ y0).setCell ⟨b,1,none⟩ y1).setCell ⟨b,2,none⟩ y2).setCell ⟨b,3,none⟩ y3) s b6 bA a L:=
 ⟨Qc6 h.b hw _ _ _ _,(QhF _ _ _ h6 _ _ _ _).trans h.s6,(QhF _ _ _ hA _ _ _ _).trans h.sA,h.l6,h.lA⟩
end
section
open Go.RowKit
theorem Quw{w:World}{b:Nat}{x0 x1 x2:Value}{t:TypeId}(k:w.heap[b]?=some (.cells #[x0,x1,x2] t (0,0)))(y:Value):(w.setCell ⟨b,1,none⟩ y).heap[b]?=some (.cells #[x0,y,x2] t (0,0)):=by
 simp [World.setCell,Array.getElem?_modify,k]
theorem QdR(n:Nat)(w:World)(h1:1≤n)(h8:n≤8):Calls Tryz.prog 206 #[.int .i64 n] w fun e w'=>e = .returned (.bool true)∧w'=w:=by
 have t1:decide ((n:Int)≥1)=true:=decide_eq_true (by omega)
 have t1':decide (1≤n)=true:=decide_eq_true h1;have t2:decide ((n:Int)≤8)=true:=decide_eq_true (by omega)
 have t2':decide (n≤8)=true:=decide_eq_true h8;go_enter Tryz.func206,Tryz.ntmps206;go_wp2_with fail;go_ret;exact ⟨rfl,rfl⟩
theorem QkC(s:ByteArray)(a:Nat)(w:World)(ha:a≤s.size)(hs:s.size≤1000000):Calls Tryz.prog 241 #[.agg #[.string s,.int .i64 a,.int .i64 0]] w fun e w'=>e = .returned (.bool true)∧Below w.heap.size w w':=by
 obtain ⟨c0,c1,c2⟩:=Qrq w (.string s) (.int .i64 a) (.int .i64 0) 246;have t1:decide ((a:Int)≥0)=true:=decide_eq_true (by omega)
 have t2:decide (a≤s.size)=true:=decide_eq_true ha;go_enter Tryz.func241,Tryz.ntmps241;go_wp2_with fail;go_ret;exact ⟨rfl,QbR w _ _ _ _⟩
theorem Qql(s:ByteArray)(a n:Nat)(w:World)(ha:a+n≤s.size)(hs:s.size≤1000000):Calls Tryz.prog 209 #[.agg #[.string s,.int .i64 a,.int .i64 0],.int .i64 n,.bool true] w fun e w'=>e = .returned (.tuple #[.string (s.extract a (a+n)),.agg #[.string s,.int .i64 ((a+n:Nat):Int),.int .i64 0]])∧Below w.heap.size w w':=by
 have hT:=QjX w (.string s) (.int .i64 a) (.int .i64 0) (.string ⟨#[]⟩) (.int .i64 0) (.int .i64 0) 246 246;have hB:Below w.heap.size w ((w.alloc (.cells #[.string s,.int .i64 a,.int .i64 0] 246)).alloc (.cells #[.string ⟨#[]⟩,.int .i64 0,.int .i64 0] 246)):=((Below.refl _ _).alloc (Nat.le_refl _) _).alloc (by simp) _
 have HH:=hid (And.intro hT hB);have HSt:=hid (fun W=>QkC s a W (by omega) hs)
 obtain ⟨m,hm⟩:∃ m,a+n=m:=⟨_,rfl⟩;have hw0:IntKind.i64.wrap ((a:Int)+(n:Int))=(m:Int):=by rw [IntKind.wrap_i64];omega
 have hw1:IntKind.i64.wrap ((s.size:Int)-(a:Int))=((s.size-a:Nat):Int):=by rw [IntKind.wrap_i64];omega
 have t2:decide ((n:Int)>((s.size:Int)-(a:Int)))=false:=decide_eq_false (by omega)
 have t2':decide (s.size-a<n)=false:=decide_eq_false (by omega)
 have ham:a≤m:=by omega
 have hms:m≤s.size:=by omega
 rw [hm];have HM:=hid hm;obtain ⟨⟨c0,c1,c2⟩,-⟩:=Qbm hT.1;clear hT hB hm ha;go_enter Tryz.func209,Tryz.ntmps209;go_wp2_with fail;refine (HSt.out _).mono ?_;rintro e w1 ⟨rfl,hb1⟩;have H1:=hid (Qae HH.out.1.1 hb1);have H2:=hid (Qae HH.out.1.2 hb1);have HB1:=hid (Qaa HH.out.2 hb1);clear hb1 c0 c1 c2;obtain ⟨⟨c0,c1,c2⟩,f0,f1,f2⟩:=Qbm H1.out;obtain ⟨⟨g0,g1,g2⟩,q0,q1,q2⟩:=Qbm H2.out;go_wp2_with fail;have H1s:=hid (Quw H1.out (.int .i64 m));have H2s:=hid ((Below.heap_setCell w1 ⟨w.heap.size,1,none⟩ (.int .i64 m) (w.heap.size+1) (by simp)).trans H2.out)
 have HBs:=hid (HB1.out.setCell (p:=⟨w.heap.size,1,none⟩) (Nat.le_refl _) (.int .i64 m));clear c0 c1 c2 f0 f1 f2 g0 g1 g2 q0 q1 q2;generalize w1.setCell ⟨w.heap.size,1,none⟩ (.int .i64 m)=W2 at H1s H2s HBs ⊢;obtain ⟨⟨c0,c1,c2⟩,f0,f1,f2⟩:=Qbm H1s.out;obtain ⟨⟨g0,g1,g2⟩,q0,q1,q2⟩:=Qbm H2s.out;go_region
 all_goals
  go_wp2_with fail;refine QaS (A:=⟨w.heap.size+1,0,none⟩) rfl (QbN _ _ _ _ _ _ (Qb2 H2s.out _ _ _)) rfl rfl rfl ?_;exact QcB rfl (Qbh HBs.out (by omega) _ _ _).drew
theorem Qu3(X y k:Nat)(hX:X<256 ^ k)(hy:y*256 ^ k<18446744073709551616)(hX2:X<18446744073709551616):bits .or .u64 (X:Int) (IntKind.u64.wrap ((y:Int)*2 ^ (8*k)))=((X+y*256 ^ k:Nat):Int):=by
 have hp:(2:Nat) ^ (8*k)=256 ^ k:=by rw [Nat.pow_mul]
 have e:IntKind.u64.wrap ((y:Int)*2 ^ (8*k))=((y*256 ^ k:Nat):Int):=by
  rw [IntKind.wrap_u64,←hp];have e1:((y:Int)*2 ^ (8*k))=((y*2 ^ (8*k):Nat):Int):=by
   rw [Int.natCast_mul,Int.natCast_pow];rfl
  rw [e1];rw [←hp] at hy;generalize y*2 ^ (8*k)=M at hy ⊢;omega
 rw [e,QiA _ _ hX2 hy,Nat.or_comm]
 congr 1
 rw [←hp] at hX ⊢;have:=Nat.shiftLeft_add_eq_or_of_lt hX y;rw [Nat.shiftLeft_eq] at this;omega
theorem Qfb(s:ByteArray)(a n:Nat):(s.extract a (a+n)).data.toList=(s.data.toList.drop a).take n:=by
 simp [ByteArray.data_extract]
theorem Qqk(s:ByteArray)(a n:Nat)(w:World)(ha:a+n≤s.size)(hs:s.size≤1000000)(h1:1≤n)(h8:n≤8):Calls Tryz.prog 178 #[.agg #[.string s,.int .i64 a,.int .i64 0],.int .i64 n] w fun e w'=>e = .returned (.tuple #[.int .u64 (atN s.data.toList a n:Nat),.agg #[.string s,.int .i64 ((a+n:Nat):Int),.int .i64 0]])∧Below w.heap.size w w':=by
 have hT:=QjX w (.string s) (.int .i64 a) (.int .i64 0) (.string ⟨#[]⟩) (.int .i64 0) (.int .i64 0) 246 246;have hB:Below w.heap.size w ((w.alloc (.cells #[.string s,.int .i64 a,.int .i64 0] 246)).alloc (.cells #[.string ⟨#[]⟩,.int .i64 0,.int .i64 0] 246)):=((Below.refl _ _).alloc (Nat.le_refl _) _).alloc (by simp) _
 have HH:=hid (And.intro hT hB);have HC:=hid (fun W=>Qql s a n W ha hs)
 have HF:=hid (fun W=>QdR n W h1 h8)
 have hmf:∀ (fn:Fn) (first cap:Array Value) (w:World),(Instr.makeFunc fn first cap).run Tryz.prog w = .ok (.func fn first cap) w:=fun _ _ _ _=>rfl
 obtain ⟨⟨c0,c1,c2⟩,-⟩:=Qbm hT.1;obtain ⟨T,hTe⟩:∃ T,s.extract a (a+n)=T:=⟨_,rfl⟩;have hTl:=Qfb s a n;rw [hTe] at HC hTl;have hTn:T.size=n:=by
  rw [←Qab,hTl,List.length_take,List.length_drop,Qab];omega
 obtain ⟨V,hV⟩:∃ V,atN s.data.toList a n=V:=⟨_,rfl⟩;have hVl:leN T.data.toList=V:=by rw [hTl];exact hV
 rw [hV];obtain ⟨m,hm⟩:∃ m,a+n=m:=⟨_,rfl⟩;rw [hm] at HC ⊢;have HV:=hid hVl;have HTn:=hid hTn;clear hT hB hTe hTl hV hVl hm ha hTn;go_enter Tryz.func178,Tryz.ntmps178;go_wp2_with fail;refine (HF.out _).mono ?_;rintro e w1 ⟨rfl,rfl⟩;go_wp2_with fail;refine (HC.out _).mono ?_;rintro e w2 ⟨rfl,hb2⟩;have H1:=hid (Qae HH.out.1.2 hb2);have HB1:=hid (Qaa HH.out.2 hb2);have QAM:w.heap.size+1<w2.heap.size:=(gsi H1.out).1;have hN:=heap_alloc_new w2 (.cells #[.string s,.int .i64 m,.int .i64 0] 246);have hbn:=QbR w2 (.string s) (.int .i64 m) (.int .i64 0) 246;have HN:=hid hN;have H1n:=hid (Qae H1.out hbn);have HBn:=hid (Qaa HB1.out hbn);obtain ⟨⟨u0,u1,u2⟩,-⟩:=Qbm hN;clear hb2 c0 c1 c2 hmf hN hbn;obtain ⟨⟨g0,g1,g2⟩,q0,q1,q2⟩:=Qbm H1n.out;have hTs:=HTn.out;go_wp2_with fail;generalize w2.alloc (.cells #[.string s,.int .i64 m,.int .i64 0] 246)=W at HN H1n HBn u0 u1 u2 g0 g1 g2 q0 q1 q2 ⊢;go_loop [9,23] (fun x i=>∃ k X:Nat,k≤T.size∧i = .int .i64 k∧x = .int .u64 X∧Hid (X=leN (T.data.toList.take k))) (fun _ i=>T.size-(intOf i).toNat)
 case atStart=>exact ⟨0,0,by omega,rfl,rfl,hid rfl⟩
 case round=>
  obtain ⟨k,X,hk,rfl,rfl,HX⟩:=hrel
  by_cases hlt:k<T.size
  ·obtain ⟨b,hb⟩:∃ b:Nat,T[k].toNat=b:=⟨_,rfl⟩
   have hb8':b<256:=by rw [←hb];exact T[k].toNat_lt
   have hA:bits .or .u64 (X:Int) (IntKind.u64.wrap ((b:Int)*2 ^ (8*k)))=((X+b*256 ^ k:Nat):Int)∧X+b*256 ^ k=leN (T.data.toList.take (k+1)):=by
    have hkl:k<T.data.toList.length:=by rw [Qab];exact hlt
    have hlen:(T.data.toList.take k).length=k:=by rw [List.length_take];omega
    have QBb:=QwH (T.data.toList.take k);rw [hlen,←HX.out] at QBb;have hb8:b<256:=by rw [←hb];exact T[k].toNat_lt
    have hp:(256:Nat) ^ k≤256 ^ 7:=Nat.pow_le_pow_right (by decide) (by omega)
    have hm1:b*256 ^ k≤255*256 ^ 7:=Nat.mul_le_mul (by omega) hp
    have h7:(255:Nat)*256 ^ 7=18374686479671623680:=by decide
    have h7':(256:Nat) ^ 7=72057594037927936:=by decide
    refine ⟨Qu3 X b k QBb (by omega) (by omega),?_⟩
    rw [List.take_succ_eq_append_getElem hkl,Qvo,hlen,←HX.out]
    congr 2
    exact hb.symm
   obtain ⟨Y,hY⟩:∃ Y,X+b*256 ^ k=Y:=⟨_,rfl⟩;rw [hY] at hA;obtain ⟨hYe,hYs⟩:=hA;have HY:=hid hYs;have HWB:Hid (IntKind.u64.wrap (b:Int)=(b:Int)):=hid (by rw [IntKind.wrap_u64];omega)
   have HYe:=hid hYe;clear HX hY hYs hYe;go_wp2_with fail;go_round
   case rel=>exact ⟨k+1,Y,by omega,by go_num,by first|rw [HWB.out,HYe.out]|rw [HYe.out],HY⟩
   case measure=>simp [intOf];omega
  ·obtain rfl:k=T.size:=by omega
   have HXV:Hid (X=V):=hid (by
    have:=HX.out;rw [List.take_of_length_le (by rw [Qab];exact Nat.le_refl _)] at this
    exact this.trans HV.out)
   clear HX;go_wp2_with fail;go_region
   all_goals
    go_wp2_with fail;refine QaS (A:=⟨w.heap.size+1,0,none⟩) rfl (QbN _ _ _ _ _ _ (Qb2 H1n.out _ _ _)) rfl rfl rfl ?_;exact QcB (by rw [←HXV.out]<;>rfl) (Qbh HBn.out (by omega) _ _ _).drew
theorem QkD(x:Nat)(w:World)(hx:x<4294967296):Calls Tryz.prog 179 #[.int .u64 x,.int .i64 4] w fun e w'=>e = .returned (.tuple #[.int .i64 (QiL x),.int .i64 0])∧w'=w:=by
 have HF:=hid (fun W=>QdR 4 W (by decide) (by decide))
 go_enter Tryz.func179,Tryz.ntmps179;go_wp2_with fail;refine (HF.out _).mono ?_;rintro e w1 ⟨rfl,rfl⟩;go_wp2_with fail;go_ret2;refine ⟨?_,rfl⟩;have e:wrap64 ((x:Int)*4294967296)/4294967296=QiL x:=by
  unfold QiL wrap64;split<;>omega
 rw [←e]<;>rfl
def Qf4(w:World)(b:Nat)(s:ByteArray)(a:Nat):Prop:=w.heap[b]?=some (.cells #[.string s,.int .i64 a,.int .i64 0] 255 (0,0))
def Qa6(w:World)(b:Nat)(s:ByteArray)(a n:Nat)(v:Value)(e:Ending)(w':World):Prop:=e = .returned v∧Qf4 w' b s (a+n)∧Touch (fun g=>g=b) w w'
theorem Qbv(b:Nat)(s:ByteArray)(a n:Nat)(w:World)(k:Qf4 w b s a)(ha:a+n≤s.size)(hs:s.size≤1000000)(h1:1≤n)(h8:n≤8):Calls Tryz.prog 138 #[.pointer (some ⟨b,0,none⟩),.int .i64 n] w (Qa6 w b s a n (.int .u64 (atN s.data.toList a n:Nat))):=by
 have HC:=hid (fun W=>Qqk s a n W ha hs h1 h8)
 unfold Qf4 at k;obtain ⟨⟨c0,c1,c2⟩,f0,f1,f2⟩:=Qbm k;have HK:=hid k;generalize atN s.data.toList a n=V at HC ⊢;obtain ⟨m,hm⟩:∃ m,a+n=m:=⟨_,rfl⟩;unfold Qa6 Qf4;rw [hm] at HC ⊢;clear k hm;go_enter Tryz.func138,Tryz.ntmps138;go_wp2_with fail;refine (HC.out _).mono ?_;rintro e w1 ⟨rfl,hb1⟩;have H1:=hid (Qae HK.out hb1);have HT:Hid (Touch (fun g=>g=b) w w1):=hid (Touch.of_below hb1)
 clear hb1 c0 c1 c2 f0 f1 f2;obtain ⟨⟨c0,c1,c2⟩,f0,f1,f2⟩:=Qbm H1.out;go_wp2_with fail;go_ret;exact ⟨rfl,Qb2 H1.out _ _ _,Qaf (a:=⟨b,2,none⟩) _ (Qaf (a:=⟨b,1,none⟩) _ (Qaf (a:=⟨b,0,none⟩) _ HT.out (.inl rfl)) (.inl rfl)) (.inl rfl)⟩
theorem Qvh(w:World)(b:Nat)(t:TypeId)(x0 x1:Value)(h:w.heap[b]?=some (.cells #[x0,x1] t (0,0))):(loadVar 76 ⟨b,0,none⟩).run Tryz.prog w = .ok (.agg #[x0,x1]) w:=
 run_loadVar_row w b t 76 #[x0,x1] (0,0) _ h Tryz.underlying76 rfl (by kernel_rfl)
theorem Qam{w:World}{b:Nat}{x0 x1:Value}{t:TypeId}(k:w.heap[b]?=some (.cells #[x0,x1] t (0,0))) :
  (w.cell? ⟨b,0,none⟩=some x0∧w.cell? ⟨b,1,none⟩=some x1)∧w.frozen? ⟨b,0,none⟩=false∧w.frozen? ⟨b,1,none⟩=false:=by
 refine ⟨⟨?_,?_⟩,?_,?_⟩
 all_goals first
  |(unfold World.cell?;rw [k];rfl)
  |(unfold World.frozen?;rw [k];rfl)
theorem Qoq{w:World}{b:Nat}{x0 x1:Value}{t:TypeId}(k:w.heap[b]?=some (.cells #[x0,x1] t (0,0)))(y0 y1:Value):((w.setCell ⟨b,0,none⟩ y0).setCell ⟨b,1,none⟩ y1).heap[b]?=some (.cells #[y0,y1] t (0,0)):=by
 simp [World.setCell,Array.getElem?_modify,k]
theorem QcL(b:Nat)(s:ByteArray)(a:Nat)(w:World)(k:Qf4 w b s a)(ha:a+16≤s.size)(hs:s.size≤1000000):Calls Tryz.prog 137 #[.pointer (some ⟨b,0,none⟩)] w (Qa6 w b s a 16 (.agg #[.int .u64 (atN s.data.toList a 8:Nat),.int .u64 (atN s.data.toList (a+8) 8:Nat)])):=by
 have hbl:=(gsi k).1;have hb0:Below w.heap.size w (w.alloc (.cells #[.int .u64 0,.int .u64 0] 76)):=(Below.refl _ _).alloc (Nat.le_refl _) _;have HC1:=hid (Qbv b s a 8 _ (Qae k hb0) (by omega) hs (by decide) (by decide))
 have HC2:=hid (fun W (hW:Qf4 W b s (a+8))=>Qbv b s (a+8) 8 W hW (by omega) hs (by decide) (by decide))
 have HN:=hid (heap_alloc_new w (.cells #[.int .u64 0,.int .u64 0] 76));have HB0:=hid hb0;have hne:w.heap.size≠b:=by omega
 generalize atN s.data.toList a 8=V1 at HC1 ⊢;generalize atN s.data.toList (a+8) 8=V2 at HC2 ⊢;clear k hb0 ha;go_enter Tryz.func137,Tryz.ntmps137;go_wp2_with fail;refine HC1.out.mono ?_;rintro e w1 ⟨rfl,hk1,ht1⟩;have HK1:=hid hk1;have HT1:Hid (Touch (fun g=>g=b) w w1):=hid ((Touch.of_below (S:=fun g=>g=b) HB0.out).trans ht1 (fun g hg=>.inl hg))
 have HN1:=hid ((ht1.block w.heap.size (by simp) hne).trans HN.out)
 clear hk1 ht1;go_wp2_with fail;refine (HC2.out _ HK1.out).mono ?_;rintro e w2 ⟨rfl,hk2,ht2⟩;have HK2:=hid hk2;have HT2:Hid (Touch (fun g=>g=b) w w2):=hid (HT1.out.trans ht2 (fun g hg=>.inl hg))
 have HN2:=hid ((ht2.block w.heap.size (gsi HN1.out).1 hne).trans HN1.out);clear hk2 ht2;obtain ⟨⟨c0,c1⟩,f0,f1⟩:=Qam HN2.out;go_wp2_with fail;refine Qeb (A:=⟨w.heap.size,0,none⟩) rfl (Qvh _ _ _ _ _ (Qoq HN2.out _ _)) rfl rfl ?_;have hb':b≠w.heap.size:=fun e=>hne e.symm
 exact ⟨rfl,(Below.heap_setCell _ _ _ _ hb').trans ((Below.heap_setCell _ _ _ _ hb').trans HK2.out),Qaf (a:=⟨w.heap.size,1,none⟩) _ (Qaf (a:=⟨w.heap.size,0,none⟩) _ HT2.out (.inr (Nat.le_refl _))) (.inr (Nat.le_refl _))⟩
theorem Qca(b:Nat)(s:ByteArray)(a:Nat)(w:World)(k:Qf4 w b s a)(ha:a+4≤s.size)(hs:s.size≤1000000):Calls Tryz.prog 139 #[.pointer (some ⟨b,0,none⟩)] w (Qa6 w b s a 4 (.int .i64 (QiL (atN s.data.toList a 4)))):=by
 have HC1:=hid (Qbv b s a 4 _ k (by omega) hs (by decide) (by decide))
 have hV:atN s.data.toList a 4<4294967296:=Qpl _ _ _;have HS:=hid (fun W=>QkD (atN s.data.toList a 4) W hV)
 generalize QiL (atN s.data.toList a 4)=Z at HS ⊢;generalize atN s.data.toList a 4=V1 at HC1 HS hV;clear k ha hV;go_enter Tryz.func139,Tryz.ntmps139;go_wp2_with fail;refine HC1.out.mono ?_;rintro e w1 ⟨rfl,hk1,ht1⟩;have HK1:=hid (And.intro hk1 ht1);clear hk1 ht1;go_wp2_with fail;refine (HS.out _).mono ?_;rintro e w2 ⟨rfl,hw2⟩;obtain rfl:=hw2.symm;clear hw2;go_wp2_with fail;go_ret;exact ⟨rfl,HK1.out.1,HK1.out.2⟩
end
end Go.Proofs.YtilaebjndadkhaaGreatDoor
