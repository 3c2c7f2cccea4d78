/- What parts of the program compute: packed for TopCache. Conditions: none. -/
import Derived.Test.YtlpecalodphalaaGreatDoorPz2
set_option linter.all false
set_option maxRecDepth 100000
set_option maxHeartbeats 16000000
open Go.Proofs.Tryz Go.RowKit
namespace Go.Proofs.YtlpecalodphalaaGreatDoor
section
theorem QnI(w:World):(callFunc 375 #[]).run prog w=.ok (.value (.tuple #[])) w:=run_call_mark0 func375 (by kernel_rfl) (by kernel_rfl) (by kernel_rfl) .disable (by kernel_rfl) w
theorem Qrb(w:World):(callFunc 377 #[]).run prog w=.ok (.value (.tuple #[])) w:=run_call_mark0 func377 (by kernel_rfl) (by kernel_rfl) (by kernel_rfl) .enable (by kernel_rfl) w
theorem QvS(a:Addr)(w:World):(callFunc 378 #[.pointer (some a)]).run prog w=.ok (.value (.tuple #[])) w:=run_call_marked func378 (by kernel_rfl) (by kernel_rfl) (by kernel_rfl) .acquire (by kernel_rfl) a w
theorem QvR(a:Addr)(w:World):(callFunc 380 #[.pointer (some a)]).run prog w=.ok (.value (.tuple #[])) w:=run_call_marked func380 (by kernel_rfl) (by kernel_rfl) (by kernel_rfl) .releaseMerge (by kernel_rfl) a w
theorem QBR(a:Addr)(x:Value)(u:FrameMode)(w:World)(f:w.cell? a=some x)(g:w.frozen? a=false) :
  CallsD prog 362 #[.pointer (some a),.bool true] u w fun e u' w'=>u'=u/\(e=.returned (.tuple #[])/\w'=w.drew.setCell a (Jd 1)):=by
 have b:w.drew.cell? a=some x:=by go_simp
 have c:w.drew.frozen? a=false:=by go_simp
 have d:=run_call_store (P:=prog) func371 (by kernel_rfl) (by kernel_rfl) (by kernel_rfl) (by kernel_rfl) (k:=.u32) (y:=1) b c
 go_enter_d func362,ntmps362;go_wp2;go_region_calls
 all_goals (go_end0;exact⟨rfl,rfl⟩)
theorem QyL(a:Addr)(u:FrameMode)(w:World)(c:w.cell? a=some (.int .i32 1))(f:w.frozen? a=false) :
  CallsD prog 361 #[.pointer (some a)] u w fun e u' w'=>u'=u/\(e=.returned (.tuple #[])/\w'=w.setCell a (.int .i32 0)):=by
 have g:=QnI;have h:=Qrb;have i:=QvR;have b:=run_call_add (P:=prog) func381 (by kernel_rfl) (by kernel_rfl) (by kernel_rfl) .i32 (by kernel_rfl) (y:=-1) (s:=0) c f (by simp[go_sem];rfl)
 have d:=run_convert_to_unsafe (P:=prog) (src:=547) (dst:=323) underlying547 underlying323 (by kernel_rfl) c
 go_enter_d func361,ntmps361;go_wp2;go_end0;go_wp2;go_end0;exact⟨rfl,rfl⟩
theorem QDs(a:Addr)(w:World)(d:w.cell? a=some (.int .i32 0))(g:w.frozen? a=false) :
  Calls prog 360 #[.pointer (some a)] w fun e w'=>e=.returned (.tuple #[])/\w'=w.setCell a (.int .i32 1):=by
 have h:=QnI;have i:=Qrb;have j:=QvS;have c:=run_call_cas_hit (P:=prog) func376 (by kernel_rfl) (by kernel_rfl) (by kernel_rfl) .i32 (by kernel_rfl) (y:=1) d g
 have b:(w.setCell a (.int .i32 1)).cell? a=some (.int .i32 1):=World.cell?_setCell_same w a _ d;have f:=run_convert_to_unsafe (P:=prog) (src:=547) (dst:=323) underlying547 underlying323 (by kernel_rfl) b
 go_enter func360,ntmps360;go_wp2
 first|go_end0|(simp only[Exit.inBlock,Exit.then];refine bodyPost_ret (results_none rfl _ _ _) rfl ?_)|refine bodyPost_ret (results_none rfl _ _ _) rfl ?_
 go_wp2;go_end0;exact⟨rfl,rfl⟩
theorem QAL(a:Addr)(x:Int)(w:World)(b:w.cell? a=some (Jd x)) :
  Calls prog 349 #[.pointer (some a)] w (JS (.bool (x != 0)) w):=by
 have c:=run_call_load (P:=prog) func359 (by kernel_rfl) (by kernel_rfl) (by kernel_rfl) .u32 (by kernel_rfl) b
 go_enter func349,ntmps349;go_wp2;go_ret;exact⟨rfl,rfl⟩
def rcF(d st:Int)(r o:Value):Nat->Value:=fun i=>if i=0 then Jd d else if i=1 then .int .i32 st else if i=2 then Jd 0 else if i=3 then r else o
def Rp(w:World)(b:Nat)(d st:Int)(r o:Value):Prop:=w.rowIs b 501 5 (rcF d st r o)
theorem Rp.cells{w:World}{b:Nat}{d a:Int}{r o:Value}(h:Rp w b d a r o):w.cell? (Ja b 0)=some (Jd d)/\w.cell? (Ja b 1)=some (.int .i32 a)/\w.cell? (Ja b 3)=some r/\w.cell? (Ja b 4)=some o:=
 ⟨h.cell (i:=0) (by decide),h.cell (i:=1) (by decide),h.cell (i:=3) (by decide),h.cell (i:=4) (by decide)⟩
theorem Rp.lt{w:World}{b:Nat}{d a:Int}{r o:Value}(h:Rp w b d a r o):b<w.heap.size:=World.rowIs.lt h
theorem Rp.ice{w:World}{b:Nat}{d a:Int}{r o:Value}(h:Rp w b d a r o)(i:Nat):w.frozen? (Ja b i)=false:=World.rowIs.frozen h i
theorem Qgu{P:Nat->Prop}(d:P 0)(c:P 1)(a:P 2)(f:P 3)(b:P 4):∀i,i<5->P i:=by
 intro i g
 match i,g with
 |0,_=>exact d
 |1,_=>exact c
 |2,_=>exact a
 |3,_=>exact f
 |4,_=>exact b
theorem Rp.done{w:World}{b:Nat}{d a:Int}{r o:Value}(h:Rp w b d a r o)(x:Int):Rp (w.setCell (Ja b 0) (Jd x)) b x a r o:=
 World.rowIs.congr (World.rowIs.set h 0 _) (Qgu rfl rfl rfl rfl rfl)
theorem Rp.state{w:World}{b:Nat}{d a:Int}{r o:Value}(h:Rp w b d a r o)(x:Int):Rp (w.setCell (Ja b 1) (.int .i32 x)) b d x r o:=
 World.rowIs.congr (World.rowIs.set h 1 _) (Qgu rfl rfl rfl rfl rfl)
theorem Rp.with{w:World}{b:Nat}{d a:Int}{r o:Value}(h:Rp w b d a r o)(x:Value):Rp (w.setCell (Ja b 3) x) b d a x o:=
 World.rowIs.congr (World.rowIs.set h 3 _) (Qgu rfl rfl rfl rfl rfl)
theorem Rp.olds{w:World}{b:Nat}{d a:Int}{r o:Value}(h:Rp w b d a r o)(x:Value):Rp (w.setCell (Ja b 4) x) b d a r x:=
 World.rowIs.congr (World.rowIs.set h 4 _) (Qgu rfl rfl rfl rfl rfl)
def QfG:JV:=[Jt ⟨#[13]⟩,Jt ⟨#[]⟩,Jt ⟨#[10]⟩,Jt ⟨#[]⟩]
theorem QvX(w:World):∀(j:Nat) (u:Value),QfG[j]?=some u->(w.alloc (.cells #[Jt ⟨#[13]⟩,Jt ⟨#[]⟩,Jt ⟨#[10]⟩,Jt ⟨#[]⟩] 9)).cell? (((Ja w.heap.size 0):Addr).add j)=some u:=by
 intro j u h
 match j with
 |0=>rw[<-h];simp[QfG,Addr.add]
 |1=>rw[<-h];simp[QfG,Addr.add]
 |2=>rw[<-h];simp[QfG,Addr.add]
 |3=>rw[<-h];simp[QfG,Addr.add]
 |j+4=>simp[QfG] at h
theorem Qyj{w:World}{base size n:Nat}{e:JT}{v:Value}{xs:JV}(h:w.ownsRow base e size v n xs)(a:0<n):∃g cap,v = Jl g n cap:=by
 obtain⟨-,⟨h1,h2⟩|⟨g,cap,fz,h1,h2⟩⟩:=h
 ·omega
 ·exact⟨g,_,h1⟩
theorem QnK(w:World) :
  Calls prog 330 #[Jl w.heap.size 4 4] (w.alloc (.cells #[Jt ⟨#[13]⟩,Jt ⟨#[]⟩,Jt ⟨#[10]⟩,Jt ⟨#[]⟩] 9)) fun e w'=>
   ∃b g c,e=.returned (Jp b)/\g<b/\w.heap.size<=b/\Rp w' b 0 0 .nilIface (Jl g 4 c)/\w'.ownsRow w.heap.size 9 1 (Jl g 4 c) 4 QfG/\Jw w w':=by
 have m:=Z (QvX w);have l:Hi (Jw w (w.alloc (.cells #[Jt ⟨#[13]⟩,Jt ⟨#[]⟩,Jt ⟨#[10]⟩,Jt ⟨#[]⟩] 9))):=Z ((qF _ _).alloc (qC _) _);obtain⟨i0,hi,hz0,hz1,hz2⟩:=info_parts QiA;have j:(w.alloc (.cells #[Jt ⟨#[13]⟩,Jt ⟨#[]⟩,Jt ⟨#[10]⟩,Jt ⟨#[]⟩] 9)).heap.size=w.heap.size+1:=by simp
 go_enter func330,ntmps330;generalize w.alloc (.cells #[Jt ⟨#[13]⟩,Jt ⟨#[]⟩,Jt ⟨#[10]⟩,Jt ⟨#[]⟩] 9)=W at m l j ⊢;go_wp2_with (at_builtin;refine wpList_append_own _ (by rfl) _ _ 182 (by rfl) w.heap.size 9 i0 _ 1 16 underlying182 hi hz0 hz1 hz2 rfl (by decide) _ 0 [] (by rfl) (JZ _ _ _ _) (Ja w.heap.size 0) 4 4 QfG (by rfl) rfl m.o (by decide) (by decide) (by decide) (by omega) ?_;intro p h d i f;obtain⟨g,c,rfl⟩:=Qyj d (by decide);clear f)
 go_ret;have n:g<h.heap.size:=(d.lt g rfl).2;have a:Jw W h:=Below.grown (qF _ _) i (qC _) (fun k hk=>by cases hk)
 refine⟨h.heap.size,g,c,rfl,n,qD (by omega) a.size,?_,d.alloc _,Qaa l.o (a.alloc a.size _)⟩
 exact (World.rowIs_alloc h #[Jd 0,.int .i32 0,Jd 0,.nilIface,Jl g 4 c] 501 (rcF 0 0 .nilIface (Jl g 4 c)) (Qgu rfl rfl rfl rfl rfl))
end
section
def bsC(v:Value):JW:=(Array.replicate 256 (.slice none 0 0)).push v
theorem QgW(v:Value):(bsC v).size=257:=by unfold bsC;simp
theorem Qxr(a:Option Addr)(n c:Nat)(w:World):(Instr.build 528 #[(1,.slice a n c)]).run prog w=.ok (.agg (bsC (.slice a n c))) w:=run_build w _ _ _ (by kernel_rfl)
theorem QrW:(prog.info? 528).map (fun i=>(i.zero,i.size))=some (some (.agg (bsC (.slice none 0 0))),257):=by kernel_rfl
def bsF(x y v:Value):Nat->Value:=fun i=>if i=256 then v else if i=10 then x else if i=13 then y else .slice none 0 0
def BsR(w:World)(G:Nat)(x y v:Value):Prop:=w.rowIs G 528 257 (bsF x y v)
theorem QCT(v:Value):∀i,i<257->(bsC v)[i]?=some (bsF (.slice none 0 0) (.slice none 0 0) v i):=by
 intro i a;unfold bsC bsF;rw[Array.getElem?_push]
 by_cases h:i=256
 ·subst h;simp
 ·rw[JJ (by simpa using h),JJ h,Array.getElem?_replicate,JK (by omega)]
  split
  ·rfl
  ·split<;>rfl
theorem Qho{w:World}{B g c:Nat}(h:w.ownsRow B 9 1 (Jl g 4 c) 4 QfG) :
  w.cell? (Ja g 0)=some (Jt ⟨#[13]⟩)/\w.cell? (Ja g 1)=some (Jt ⟨#[]⟩)/\w.cell? (Ja g 2)=some (Jt ⟨#[10]⟩)/\w.cell? (Ja g 3)=some (Jt ⟨#[]⟩):=
 ⟨h.cellAt 0 (by decide),h.cellAt 1 (by decide),h.cellAt 2 (by decide),h.cellAt 3 (by decide)⟩
theorem Qyo{α:Type}(n:Nat)(x y v:α):((Array.replicate n x).push y).toList.set n v=((Array.replicate n x).push v).toList:=by
 rw[Array.toList_push,Array.toList_push,List.set_append_right n v (by simp)]
 simp
theorem Qyp{α:Type}(n:Nat)(x v:α)(p:α->Bool)(hx:p x=true)(a:p v=true):((Array.replicate n x).push v).all p=true:=by
 rw[<-Array.all_toList,Array.toList_push,List.all_append];simp[hx,a]
theorem QCS(v:Value):(bsC (.slice none 0 0)).toList.set 256 v=(bsC v).toList:=Qyo 256 _ _ v
theorem Qxq(w:World)(A:Obj)(a:Option Addr)(n c:Nat):(storeCells (Ja (w.heap.size+1) 0) ((bsC (.slice none 0 0)).toList.set 256 (.slice a n c)) 0).run prog ((w.alloc A).alloc (.cells (bsC (.slice none 0 0)) 528))=.ok () ((w.alloc A).alloc (.cells (bsC (.slice a n c)) 528)):=by
 have h:=run_storeCells_new (P:=prog) (w.alloc A) 528 (bsC (.slice none 0 0)) (bsC (.slice a n c)) (by rw[QgW];exact (zero_of_info QrW).2) (by rw[QgW,QgW]) (Qyp 256 _ _ _ rfl rfl)
 rw[QCS];simpa using h
theorem Qfl{w w':World}{a:Addr}(h:w'.heap[a.block]?=w.heap[a.block]?):w'.cell? a=w.cell? a:=by unfold World.cell?;rw[h]
theorem QBi(w:World):(convert 169 9 (Jl w.heap.size 1 1)).run prog (w.alloc (.cells #[Jb 10] 5))=.ok (Jt ⟨#[10]⟩) (w.alloc (.cells #[Jb 10] 5)):=
 run_convert_bytes_arg (P:=prog) (w.alloc (.cells #[Jb 10] 5)) 169 5 underlying169 underlying5 w.heap.size 0 1 1 [10] rfl (fun i hi=>by
  obtain rfl:i=0:=by omega
  simp) 9 underlying9
theorem Qng(w:World):(convert 169 9 (Jl w.heap.size 1 1)).run prog (w.alloc (.cells #[Jb 13] 5))=.ok (Jt ⟨#[13]⟩) (w.alloc (.cells #[Jb 13] 5)):=
 run_convert_bytes_arg (P:=prog) (w.alloc (.cells #[Jb 13] 5)) 169 5 underlying169 underlying5 w.heap.size 0 1 1 [13] rfl (fun i hi=>by
  obtain rfl:i=0:=by omega
  simp) 9 underlying9
def QzU(w:World):Obj:=.cells (bytesRow ⟨#[]⟩ (grownCap w 0 0 5)) 5 ((bytesRow ⟨#[]⟩ (grownCap w 0 0 5)).size,(bytesRow ⟨#[]⟩ (grownCap w 0 0 5)).size+1)
def QzV(w:World):Nat:=grownCap w 0 0 5
theorem QtU(w:World):(convert 9 169 (Jt ⟨#[]⟩)).run prog w=.ok (Jl w.heap.size 0 (QzV w)) (w.drew.alloc (QzU w)):=
 run_bytes_of_string (P:=prog) w 9 169 5 ⟨#[]⟩ underlying9 underlying169 underlying5
theorem QyT(w:World):(Instr.makeSlice 182 (Ji 0) (Ji 2)).run prog w=.ok (Jl w.heap.size 0 2) (w.alloc (.cells #[Jt ⟨#[]⟩,Jt ⟨#[]⟩] 9)):=by
 obtain⟨i0,hi,hz0,hz1,hz2⟩:=info_parts QiA;have:=run_make (P:=prog) w 182 9 i0 _ underlying182 hi hz0 .i64 .i64 0 2 (by decide) (by decide) (by rw[hz2];decide) (by decide)
 rw[this,hz1];have e:madeCells (Value.string ByteArray.empty).cells (Int.toNat 2*1)=#[Jt ⟨#[]⟩,Jt ⟨#[]⟩]:=by kernel_rfl
 rw[e];rfl
structure RS(w W:World)(g G H:Nat)(x y:Value)(k:Nat)(u v:JA):Prop where
 reps:BsR W G x y (Jl H k 2)
 olds:W.rowIs H 9 2 (fun i=>if i=0 then Jt u else Jt v)
 news:W.heap[g]?=w.heap[g]?
 bel:Jw w W
 lg:g<w.heap.size
 lG:w.heap.size<=G
 lH:w.heap.size<=H
 ne:G≠H
variable {w W:World} {g G H k:Nat} {x y:Value} {u v:JA}
theorem RS.ltG(h:RS w W g G H x y k u v):G<W.heap.size:=World.rowIs.lt h.reps
theorem RS.ltH(h:RS w W g G H x y k u v):H<W.heap.size:=World.rowIs.lt h.olds
theorem RS.alloc(h:RS w W g G H x y k u v)(A:Obj):RS w (W.alloc A) g G H x y k u v where
 reps:=World.rowIs.alloc h.reps A
 olds:=World.rowIs.alloc h.olds A
 news:=(J5 W A (qK h.lg h.bel.size)).trans h.news
 bel:=h.bel.alloc h.bel.size A
 lg:=h.lg
 lG:=h.lG
 lH:=h.lH
 ne:=h.ne
theorem RS.push(h:RS w W g G H x y 0 u v)(s:JA):RS w ((W.setCell (Ja H 0) (Jt s)).setCell (Ja G 256) (Jl H 1 2)) g G H x y 1 s v where
 reps:=World.rowIs.congr (World.rowIs.set (World.rowIs.setOther h.reps (a:=(Ja H 0)) h.ne _) 256 _) (fun i _=>by
  by_cases e:i=256
  ·rw[JK e,e];rfl
  ·rw[JJ e];unfold bsF;rw[JJ e,JJ e])
 olds:=World.rowIs.setOther (World.rowIs.congr (World.rowIs.set h.olds 0 _) (fun i _=>by
  by_cases e:i=0
  ·rw[JK e,JK e]
  ·rw[JJ e,JJ e,JJ e])) (a:=(Ja G 256)) (fun e=>h.ne e.symm) _
 news:=by
  have:=h.lg;have:=h.lG;have:=h.lH;rw[Deep.blk_setCell_other _ _ _ _ (show g≠G by omega),Deep.blk_setCell_other _ _ _ _ (show g≠H by omega)]
  exact h.news
 bel:=(h.bel.setCell h.lH _).setCell h.lG _
 lg:=h.lg
 lG:=h.lG
 lH:=h.lH
 ne:=h.ne
theorem RS.push2(h:RS w W g G H x y 1 u v)(s:JA):RS w ((W.setCell (Ja H 1) (Jt s)).setCell (Ja G 256) (Jl H 2 2)) g G H x y 2 u s where
 reps:=World.rowIs.congr (World.rowIs.set (World.rowIs.setOther h.reps (a:=(Ja H 1)) h.ne _) 256 _) (fun i _=>by
  by_cases e:i=256
  ·rw[JK e,e];rfl
  ·rw[JJ e];unfold bsF;rw[JJ e,JJ e])
 olds:=World.rowIs.setOther (World.rowIs.congr (World.rowIs.set h.olds 1 _) (fun i hi=>by
  by_cases e:i=1
  ·subst e;rfl
  ·obtain rfl:i=0:=by omega
   rfl)) (a:=(Ja G 256)) (fun e=>h.ne e.symm) _
 news:=by
  have:=h.lg;have:=h.lG;have:=h.lH;rw[Deep.blk_setCell_other _ _ _ _ (show g≠G by omega),Deep.blk_setCell_other _ _ _ _ (show g≠H by omega)]
  exact h.news
 bel:=(h.bel.setCell h.lH _).setCell h.lG _
 lg:=h.lg
 lG:=h.lG
 lH:=h.lH
 ne:=h.ne
theorem RS.fill(h:RS w W g G H x y k u v)(i:Nat)(l:i<256)(z d c:Value)(hx:d=if i=10 then z else x)(f:c=if i=13 then z else y)(b:i=10\/i=13):RS w (W.setCell (Ja G i) z) g G H d c k u v where
 reps:=World.rowIs.congr (World.rowIs.set h.reps i _) (fun j _=>by
  subst hx;subst f;unfold bsF;rcases b with rfl|rfl
  ·by_cases e:j=10
   ·subst e;rfl
   ·simp only[JJ e];rfl
  ·by_cases e:j=13
   ·subst e;rfl
   ·simp only[JJ e];rfl)
 olds:=World.rowIs.setOther h.olds (a:=(Ja G i)) (fun e=>h.ne e.symm) _
 news:=by
  have:=h.lg;have:=h.lG;rw[Deep.blk_setCell_other _ _ _ _ (show g≠G by omega)]
  exact h.news
 bel:=h.bel.setCell h.lG _
 lg:=h.lg
 lG:=h.lG
 lH:=h.lH
 ne:=h.ne
theorem RS.conv(h:RS w W g G H x y k u v):∃N C W',(convert 9 169 (Jt ⟨#[]⟩)).run prog W=.ok (.slice (some N) 0 C) W'/\RS w W' g G H x y k u v:=by
 refine⟨_,_,_,QtU W,?_⟩;have a:RS w W.drew g G H x y k u v:=⟨World.rowIs.drew h.reps,World.rowIs.drew h.olds,h.news,h.bel.drew,h.lg,h.lG,h.lH,h.ne⟩;exact a.alloc _
theorem RS.facts(h:RS w W g G H x y k u v):W.cell? (Ja G 10)=some x/\W.cell? (Ja G 13)=some y/\W.cell? (Ja G 256)=some (Jl H k 2)/\W.cell? (Ja H 0)=some (Jt u)/\W.cell? (Ja H 1)=some (Jt v):=
 ⟨World.rowIs.cell h.reps (i:=10) (by decide),World.rowIs.cell h.reps (i:=13) (by decide),World.rowIs.cell h.reps (i:=256) (by decide),World.rowIs.cell h.olds (i:=0) (by decide),World.rowIs.cell h.olds (i:=1) (by decide)⟩
theorem RS.ice(h:RS w W g G H x y k u v):W.frozen? (Ja G 10)=false/\W.frozen? (Ja G 13)=false/\W.frozen? (Ja G 256)=false/\W.frozen? (Ja H 0)=false/\W.frozen? (Ja H 1)=false:=
 ⟨World.rowIs.frozen h.reps 10,World.rowIs.frozen h.reps 13,World.rowIs.frozen h.reps 256,World.rowIs.frozen h.olds 0,World.rowIs.frozen h.olds 1⟩
theorem RS.lies(h:RS w W g G H x y k u v)(a:Jx w g 0 (Jt ⟨#[13]⟩)/\Jx w g 1 (Jt ⟨#[]⟩)/\Jx w g 2 (Jt ⟨#[10]⟩)/\Jx w g 3 (Jt ⟨#[]⟩)) :
  W.cell? (Ja g 0)=some (Jt ⟨#[13]⟩)/\W.cell? (Ja g 1)=some (Jt ⟨#[]⟩)/\W.cell? (Ja g 2)=some (Jt ⟨#[10]⟩)/\W.cell? (Ja g 3)=some (Jt ⟨#[]⟩):=
 ⟨(Qfl h.news).trans a.1,(Qfl h.news).trans a.2.1,(Qfl h.news).trans a.2.2.1,(Qfl h.news).trans a.2.2.2⟩
theorem RS.apart(h:RS w W g G H x y k u v):g≠H/\g≠G/\g≠W.heap.size/\H≠G/\H≠W.heap.size/\G≠W.heap.size/\G≠H/\g<W.heap.size/\H<W.heap.size/\G<W.heap.size:=by
 have d:=h.lg;have b:=h.lG;have i:=h.lH;have c:=h.ltG;have f:=h.ltH;have a:=h.ne;refine⟨?_,?_,?_,?_,?_,?_,?_,?_,?_,?_⟩<;>omega
theorem QsB(b g c:Nat)(d X:Int)(r:Value)(w:World)(L:Rp w b d X r (Jl g 4 c))(B:Nat)(hO:w.ownsRow B 9 1 (Jl g 4 c) 4 QfG) :
  Calls prog 351 #[Jp b] w fun e w'=>∃G x cx y cy H c,e=.returned (.iface 529 (Jp G))/\w.heap.size<=G/\w.heap.size<=H/\
   BsR w' G (.slice (some x) 0 cx) (.slice (some y) 0 cy) (Jl H 2 c)/\w'.cell? (Ja H 0)=some (Jt ⟨#[10]⟩)/\w'.cell? (Ja H 1)=some (Jt ⟨#[13]⟩)/\Jw w w':=by
 obtain⟨c0,c1,c2,c3⟩:=Qho hO;obtain⟨-,-,-,q4⟩:=L.cells;have M:=Qxr;have K:=QyT;have J:=(zero_of_info QrW).1;have E:=Qxq w;have V:=Z L;have D:=Z hO;clear L hO;go_enter func351,ntmps351;go_wp2_with fail;refine wp_loop_rounds 3 ?_;rw[rounds_succ];go_wp2_with fail;rw[rounds_succ];go_wp2_with fail;rw[rounds_succ];go_wp2_with fail;clear E K J M;have n:Jw w ((w.alloc (.cells #[Jt ⟨#[]⟩,Jt ⟨#[]⟩] 9)).alloc (.cells (bsC (Jl w.heap.size 0 2)) 528)):=((qF _ _).alloc (qC _) _).alloc (by simp) _
 have z:BsR ((w.alloc (.cells #[Jt ⟨#[]⟩,Jt ⟨#[]⟩] 9)).alloc (.cells (bsC (Jl w.heap.size 0 2)) 528)) (w.heap.size+1) (.slice none 0 0) (.slice none 0 0) (Jl w.heap.size 0 2):=by
  have:=World.rowIs_alloc (w.alloc (.cells #[Jt ⟨#[]⟩,Jt ⟨#[]⟩] 9)) (bsC (Jl w.heap.size 0 2)) 528 (bsF (.slice none 0 0) (.slice none 0 0) (Jl w.heap.size 0 2)) (by rw[QgW];exact QCT _)
  rw[QgW] at this;unfold BsR;simpa using this
 have A:((w.alloc (.cells #[Jt ⟨#[]⟩,Jt ⟨#[]⟩] 9)).alloc (.cells (bsC (Jl w.heap.size 0 2)) 528)).rowIs w.heap.size 9 2 (fun _=>Jt ⟨#[]⟩):=(World.rowIs_alloc w #[Jt ⟨#[]⟩,Jt ⟨#[]⟩] 9 (fun _=>Jt ⟨#[]⟩) (fun i hi=>by
  match i,hi with
  |0,_=>rfl
  |1,_=>rfl)).alloc _
 have t:=(D.o.alloc (.cells #[Jt ⟨#[]⟩,Jt ⟨#[]⟩] 9)).alloc (.cells (bsC (Jl w.heap.size 0 2)) 528);clear c0 c1 c2 c3;generalize (w.alloc (.cells #[Jt ⟨#[]⟩,Jt ⟨#[]⟩] 9)).alloc (.cells (bsC (Jl w.heap.size 0 2)) 528)=W at n z A t ⊢;obtain⟨c0,c1,c2,c3⟩:=Qho t;have C:g<w.heap.size:=(D.o.lt g rfl).2;have N:=Z (Qho D.o);have p:Hi (RS w W g (w.heap.size+1) w.heap.size (.slice none 0 0) (.slice none 0 0) 0 ⟨#[]⟩ ⟨#[]⟩):=Z ⟨z,World.rowIs.congr A (fun i _=>by split<;>rfl),n.block g C,n,C,Nat.le_succ _,qC _,by omega⟩
 clear t n V D q4 z A C c0 c1 c2 c3;generalize w.heap.size+1=G at p ⊢;generalize P:w.heap.size=H at p ⊢;have I:=Z P;clear P;have T:∀(w:World) (a:Option Addr) (l c:Nat),(binOp .eql 169 (.slice a l c) (.slice none 0 0)).run prog w=.ok (.bool a.isNone) w:=fun w a l c=>run_eql_slice_nil w _ _ a l c underlying169
 have S:((⟨#[10]⟩:JA)[0]'(by decide)).toNat=10:=rfl
 have U:((⟨#[13]⟩:JA)[0]'(by decide)).toNat=13:=rfl
 have R:=QBi;have O:=Qng;obtain⟨g0,g1,g2,k0,k1⟩:=p.o.facts;obtain⟨z0,z1,z2,y0,y1⟩:=p.o.ice;obtain⟨c0,c1,c2,c3⟩:=p.o.lies N.o;obtain⟨n1,n2,n3,n4,n5,n6,n7,n8,n9,n10⟩:=p.o.apart;refine wp_loop_rounds 3 ?_;rw[rounds_succ];go_wp2_with fail;have s:=Z (((p.o.push ⟨#[10]⟩).alloc (.cells #[Jb 10] 5)).alloc (.cells #[Jt ⟨#[10]⟩] 9));clear g0 g1 g2 k0 k1 z0 z1 z2 y0 y1 c0 c1 c2 c3 n1 n2 n3 n4 n5 n6 n7 n8 n9 n10;generalize (((W.setCell (Ja H 0) (Jt ⟨#[10]⟩)).setCell (Ja G 256) (Jl H 1 2)).alloc (.cells #[Jb 10] 5)).alloc (.cells #[Jt ⟨#[10]⟩] 9)=W1 at s ⊢;obtain⟨N1,C1,W2,hb,hS2⟩:=s.o.conv;have h:=Z hS2;clear hS2 p s;obtain⟨g0,g1,g2,k0,k1⟩:=h.o.facts;obtain⟨z0,z1,z2,y0,y1⟩:=h.o.ice;obtain⟨n1,n2,n3,n4,n5,n6,n7,n8,n9,n10⟩:=h.o.apart;rw[hb];simp only[Result.andThen];rw[Oper.upon_value];go_wp2_with fail;have f:=Z (h.o.fill 10 (by decide) (.slice (some N1) 0 C1) (.slice (some N1) 0 C1) (.slice none 0 0) rfl rfl (.inl rfl))
 clear g0 g1 g2 k0 k1 z0 z1 z2 y0 y1 n1 n2 n3 n4 n5 n6 n7 n8 n9 n10 hb h;generalize W2.setCell (Ja G 10) (.slice (some N1) 0 C1)=W3 at f ⊢;obtain⟨g0,g1,g2,k0,k1⟩:=f.o.facts;obtain⟨z0,z1,z2,y0,y1⟩:=f.o.ice;obtain⟨c0,c1,c2,c3⟩:=f.o.lies N.o;obtain⟨n1,n2,n3,n4,n5,n6,n7,n8,n9,n10⟩:=f.o.apart;rw[rounds_succ];go_wp2_with fail;have q:=Z (((f.o.push2 ⟨#[13]⟩).alloc (.cells #[Jb 13] 5)).alloc (.cells #[Jt ⟨#[13]⟩] 9));clear g0 g1 g2 k0 k1 z0 z1 z2 y0 y1 c0 c1 c2 c3 n1 n2 n3 n4 n5 n6 n7 n8 n9 n10;generalize (((W3.setCell (Ja H 1) (Jt ⟨#[13]⟩)).setCell (Ja G 256) (Jl H 2 2)).alloc (.cells #[Jb 13] 5)).alloc (.cells #[Jt ⟨#[13]⟩] 9)=W4 at q ⊢;obtain⟨N2,C2,W5,hb,hS5⟩:=q.o.conv;have m:=Z hS5;clear hS5 f q;obtain⟨g0,g1,g2,k0,k1⟩:=m.o.facts;obtain⟨z0,z1,z2,y0,y1⟩:=m.o.ice;obtain⟨n1,n2,n3,n4,n5,n6,n7,n8,n9,n10⟩:=m.o.apart;rw[hb];simp only[Result.andThen];rw[Oper.upon_value];go_wp2_with fail;have j:=Z (m.o.fill 13 (by decide) (.slice (some N2) 0 C2) (.slice (some N1) 0 C1) (.slice (some N2) 0 C2) rfl rfl (.inr rfl))
 clear g0 g1 g2 k0 k1 z0 z1 z2 y0 y1 n1 n2 n3 n4 n5 n6 n7 n8 n9 n10 hb m;rw[rounds_succ];go_wp2;go_ret;obtain rfl:=I.o;obtain⟨-,-,-,k0,k1⟩:=j.o.facts;exact⟨G,N1,C1,N2,C2,_,_,rfl,j.o.lG,j.o.lH,j.o.reps,k0,k1,j.o.bel⟩
end
section
def Built(w:World)(b:Nat)(d st:Int):Prop:=∃G x cx y cy H c,Rp w b d st (.iface 529 (Jp G)) (.slice none 0 0)/\b<G/\
 BsR w G (.slice (some x) 0 cx) (.slice (some y) 0 cy) (Jl H 2 c)/\w.cell? (Ja H 0)=some (Jt ⟨#[10]⟩)/\w.cell? (Ja H 1)=some (Jt ⟨#[13]⟩)/\H≠b
theorem Built.done{w:World}{b:Nat}{d f:Int}(h:Built w b d f)(z:Int):Built (w.setCell (Ja b 0) (Jd z)) b z f:=by
 obtain⟨G,x,cx,y,cy,H,c,h1,h2,h3,h4,h5,h6⟩:=h;exact⟨G,x,cx,y,cy,H,c,h1.done z,h2,World.rowIs.setOther h3 (a:=(Ja b 0)) (by simp only;omega) _,by rw[World.cell?_setCell_other _ _ _ _ (by simp[h6,Ja])];exact h4,by rw[World.cell?_setCell_other _ _ _ _ (by simp[h6,Ja])];exact h5,h6⟩
theorem Built.state{w:World}{b:Nat}{d f:Int}(h:Built w b d f)(z:Int):Built (w.setCell (Ja b 1) (.int .i32 z)) b d z:=by
 obtain⟨G,x,cx,y,cy,H,c,h1,h2,h3,h4,h5,h6⟩:=h;exact⟨G,x,cx,y,cy,H,c,h1.state z,h2,World.rowIs.setOther h3 (a:=(Ja b 1)) (by simp only;omega) _,by rw[World.cell?_setCell_other _ _ _ _ (by simp[h6,Ja])];exact h4,by rw[World.cell?_setCell_other _ _ _ _ (by simp[h6,Ja])];exact h5,h6⟩
theorem Built.drew{w:World}{b:Nat}{d a:Int}(h:Built w b d a):Built w.drew b d a:=by
 obtain⟨G,x,cx,y,cy,H,c,h1,h2,h3,h4,h5,h6⟩:=h;exact⟨G,x,cx,y,cy,H,c,World.rowIs.drew h1,h2,World.rowIs.drew h3,h4,h5,h6⟩
theorem Built.cells{w:World}{b:Nat}{d a:Int}(h:Built w b d a):w.cell? (Ja b 0)=some (Jd d)/\w.cell? (Ja b 1)=some (.int .i32 a):=by
 obtain⟨G,x,cx,y,cy,H,c,h1,-⟩:=h;exact⟨h1.cells.1,h1.cells.2.1⟩
theorem Built.ice{w:World}{b:Nat}{d a:Int}(h:Built w b d a)(i:Nat):w.frozen? (Ja b i)=false:=by
 obtain⟨G,x,cx,y,cy,H,c,h1,-⟩:=h;exact h1.ice i
theorem Qu5(b g c:Nat)(d l:Int)(w:World)(n:Rp w b d l .nilIface (Jl g 4 c))(B:Nat)(hO:w.ownsRow B 9 1 (Jl g 4 c) 4 QfG) :
  Calls prog 342 #[Jp b] w fun e w'=>e=.returned (.tuple #[])/\Built w' b d l/\Below b w w':=by
 have D:=Z (QsB b g c d l .nilIface w n B hO);have I:=Z n;have j:=n.lt;clear n hO;go_enter func342,ntmps342;go_wp2_with (go_at_call 351;refine D.o.mono ?_;rintro e t ⟨G,x,E,y,C,H,A,rfl,M,J,k,v,s,i⟩;have h:Hi (Rp t b d l .nilIface (Jl g 4 c)):=Z (World.rowIs.of_block I.o (i.block b j));obtain⟨q0,q1,q3,q4⟩:=h.o.cells;have L:=h.o.ice 3;have K:=h.o.ice 4;have p:=Z k;have z:=Z (qE v s);have r:=Z i;clear k v s i);go_end0;have q:Rp (t.setCell (Ja b 3) (.iface 529 (Jp G))) b d l (.iface 529 (Jp G)) (Jl g 4 c):=h.o.with _;have f:H≠b:=by omega
 have m:G≠b:=by omega
 refine⟨rfl,⟨G,x,E,y,C,H,A,q.olds _,by omega,World.rowIs.setOther (World.rowIs.setOther p.o (a:=(Ja b 3)) m _) (a:=(Ja b 4)) m _,?_,?_,f⟩,((r.o.mono (Nat.le_of_lt j)).setCell (qC _) _).setCell (qC _) _⟩
 ·rw[World.cell?_setCell_other _ _ _ _ (by simp[f]),World.cell?_setCell_other _ _ _ _ (by simp[f])];exact z.o.1
 ·rw[World.cell?_setCell_other _ _ _ _ (by simp[f]),World.cell?_setCell_other _ _ _ _ (by simp[f])];exact z.o.2
theorem Rp.own{w w':World}{B g c b:Nat}(h:w.ownsRow B 9 1 (Jl g 4 c) 4 QfG)(d:g<b)(a:Below b w w'):w'.ownsRow B 9 1 (Jl g 4 c) 4 QfG:=by
 obtain⟨h1,h2|⟨g',cap,cur,h2,h3,h4,h5⟩⟩:=h
 ·exact JN h2.2 (by decide)
 ·refine⟨h1,.inr ⟨g',cap,cur,h2,h3,?_,h5⟩⟩
  obtain rfl:g=g':=by
   simp only[Value.slice.injEq,J8,Addr.mk.injEq] at h2;exact h2.1.1
  rw[a.block g d];exact h4
theorem QvO(b g c:Nat)(w:World)(j:Rp w b 0 0 .nilIface (Jl g 4 c))(B:Nat)(s:g<b)(hO:w.ownsRow B 9 1 (Jl g 4 c) 4 QfG) :
  Calls prog 350 #[Jp b,.func (.func 342) #[Jp b] #[]] w fun e w'=>e=.returned (.tuple #[])/\Built w' b 1 0/\Below b w w':=by
 obtain⟨h0,h1,-,-⟩:=j.cells;have E:=j.ice 0;have D:=j.ice 1;have l:Rp (w.setCell (Ja b 1) (.int .i32 1)) b 0 1 .nilIface (Jl g 4 c):=j.state 1;have d:Below b w (w.setCell (Ja b 1) (.int .i32 1)):=Below.setCell (qF b w) (p:=(Ja b 1)) (qC b) _;have z:=Z (Qu5 b g c 0 1 _ l B (Rp.own hO s d));have C:=Z (QAL (Ja b 0) 0 (w.setCell (Ja b 1) (.int .i32 1)) ((World.cell?_setCell_other _ (Ja b 1) (Ja b 0) _ (by simp)).trans h0))
 have v:∀(x:Bool) (w:World),(Op.unary .not (.bool x)).run prog w=.ok (.bool (!x)) w:=fun _ _=>rfl
 have n:=Z d;clear j l d hO;go_enter_defers func350,ntmps350;go_wp2_with (first
  |(go_at_call 360;refine (QDs (Ja b 1) _ (by go_simp) (by go_simp)).mono ?_;rintro e w' ⟨rfl,rfl⟩)
  |(go_at_call 349;refine C.o.mono ?_;rintro e w' ⟨rfl,rfl⟩)
  |(go_at_call 342;refine z.o.mono ?_;rintro e y ⟨rfl,k,i⟩;have a:=Z k;have m:=Z i;clear k i))
 unfold bodyPostD;refine leaves_cons (f:=362) (args:=#[Jp b,.bool true]) (by simp) (by simp[go_sem]) ?_
 refine (QBR (Ja b 0) (Jd 0) .returning _ a.o.cells.1 (a.o.ice 0)).mono ?_;rintro e A q ⟨rfl,rfl,rfl⟩;have h:=a.o.drew.done 1;refine leaves_cons (f:=361) (args:=#[.pointer (some (Ja b 1))]) (by simp[settle]) (by simp[go_sem]) ?_
 refine (QyL (Ja b 1) _ _ h.cells.2 (h.ice 1)).mono ?_;rintro e A q ⟨rfl,rfl,rfl⟩;have r:=h.state 0;have t:Below b w (((y.drew).setCell (Ja b 0) (Jd 1)).setCell (Ja b 1) (.int .i32 0)):=Below.setCell (Below.setCell ((n.o.trans m.o).drew) (p:=(Ja b 0)) (qC b) _) (p:=(Ja b 1)) (qC b) _;simp[Leaves,settle,results,Tryz.results350];exact⟨r,t⟩
theorem QBP(b g c:Nat)(w:World)(j:Rp w b 0 0 .nilIface (Jl g 4 c))(B:Nat)(f:g<b)(hO:w.ownsRow B 9 1 (Jl g 4 c) 4 QfG) :
  Calls prog 341 #[Jp b,.func (.func 342) #[Jp b] #[]] w fun e w'=>e=.returned (.tuple #[])/\Built w' b 1 0/\Below b w w':=by
 have l:=Z (QAL (Ja b 0) 0 w j.cells.1);have m:=Z (QvO b g c w j B f hO);have k:∀(x:Bool) (w:World),(Op.unary .not (.bool x)).run prog w=.ok (.bool (!x)) w:=fun _ _=>rfl
 clear j hO;go_enter func341,ntmps341;go_wp2_with (first
  |(go_at_call 349;refine l.o.mono ?_;rintro e w' ⟨rfl,rfl⟩)
  |(go_at_call 350;refine m.o.mono ?_;rintro e n ⟨rfl,a,d⟩;have h:=Z a;have i:=Z d;clear a d))
 go_end0;exact⟨rfl,h.o,i.o⟩
def QcG(code:Int):JA:=
 if code=200 then ⟨#[79,75]⟩ else if code=206 then ⟨#[80,97,114,116,105,97,108,32,67,111,110,116,101,110,116]⟩
 else if code=400 then ⟨#[66,97,100,32,82,101,113,117,101,115,116]⟩ else if code=404 then ⟨#[78,111,116,32,70,111,117,110,100]⟩
 else if code=416 then ⟨#[82,97,110,103,101,32,78,111,116,32,83,97,116,105,115,102,105,97,98,108,101]⟩
 else if code=502 then ⟨#[66,97,100,32,71,97,116,101,119,97,121]⟩ else ⟨#[79,116,104,101,114]⟩
def Qb9(code:Int):Int:=if code<100\/599<code then 0 else code/100
def Qav(c:UInt8):Bool:=decide (48<=c.toNat)&&decide (c.toNat<=57)
def Qbx:JL:=[72,84,84,80,47,49,46,49,32]
def QfU(r:JL):Int×Nat:=match r with
 |a :: b :: c :: t=>if t≠[]/\t.head?≠some 32 then (0,4) else if (Qav a&&Qav b&&Qav c)=false then (0,4)
   else if Qb9 (100*((a.toNat:Int)-48)+10*((b.toNat:Int)-48)+((c.toNat:Int)-48))=0 then (0,4)
   else (100*((a.toNat:Int)-48)+10*((b.toNat:Int)-48)+((c.toNat:Int)-48),0)
 |_=>(0,4)
def Qbq(l:JL):Int×Nat:=if Qbh l=4 then (0,4) else if Qbx.isPrefixOf l=false then (0,13) else QfU (l.drop 9)
theorem Qf0(a:Int):(QcG a).size<=21:=by
 unfold QcG
 repeat' split
 all_goals decide
theorem Qj7(a:Int)(h:a<100\/599<a):Qb9 a=0:=JK h
theorem QrR(a:Int)(b:100<=a)(c:a<=599):Qb9 a=a/100:=JJ (by omega)
theorem QoB(a:Int)(b:100<=a)(c:a<=599):1<=Qb9 a/\Qb9 a<=5:=by rw[QrR a b c];omega
theorem Qj8(a:Int):Qb9 a=0↔(a<100\/599<a):=by
 constructor
 ·intro h
  rcases Classical.em (a<100\/599<a) with h'|h'
  ·exact h'
  ·have:=QoB a (by omega) (by omega);omega
 ·exact Qj7 a
def Qcc(code:Int):JA:=(⟨Qbx.toArray⟩++⟨(Go.Lib.itoa code).toArray⟩++⟨#[32]⟩)++QcG code
def Qbf(code:Int):JA:=if Qb9 code=0 then ⟨#[]⟩ else Qcc code
def Qbs(code:Int):Nat:=if Qb9 code=0 then 8 else 0
structure Env(w:World):Prop where
 m:∃m,Qr9 w m
 tab:Go.Lib.TabIs prog w "internal/strconv.uint64pow10" .u64 Go.Lib.pow10Tab
 big:6<w.heap.size
theorem QlO(a:Int)(w:World) :
  Calls prog 301 #[Ji a] w (JS (Jt (QcG a)) w):=by
 by_cases f:a=200
 ·subst f;go_enter func301,ntmps301;go_wp2;go_ret;exact⟨QbR rfl,rfl⟩
 ·by_cases c:a=206
  ·subst c;go_enter func301,ntmps301;go_wp2;go_ret;exact⟨QbR rfl,rfl⟩
  ·by_cases h:a=400
   ·subst h;go_enter func301,ntmps301;go_wp2;go_ret;exact⟨QbR rfl,rfl⟩
   ·by_cases d:a=404
    ·subst d;go_enter func301,ntmps301;go_wp2;go_ret;exact⟨QbR rfl,rfl⟩
    ·by_cases g:a=416
     ·subst g;go_enter func301,ntmps301;go_wp2;go_ret;exact⟨QbR rfl,rfl⟩
     ·by_cases b:a=502
      ·subst b;go_enter func301,ntmps301;go_wp2;go_ret;exact⟨QbR rfl,rfl⟩
      ·have H:Hi (QcG a=⟨#[79,116,104,101,114]⟩):=Z (by unfold QcG;rw[JJ f,JJ c,JJ h,JJ d,JJ g,JJ b])
       have i:(a==200)=false:=by rw[qI];exact f
       have j:(a==206)=false:=by rw[qI];exact c
       have k:(a==400)=false:=by rw[qI];exact h
       have n:(a==404)=false:=by rw[qI];exact d
       have m:(a==416)=false:=by rw[qI];exact g
       have l:(a==502)=false:=by rw[qI];exact b
       clear f c h d g b;go_enter func301,ntmps301;go_wp2;go_ret;exact⟨QbR H.out.symm,rfl⟩
theorem QdN(a:Int)(w:World) :
  Calls prog 300 #[Ji a] w (JS (Ji (Qb9 a)) w):=by
 by_cases h:a<100
 ·have H:=Z (Qj7 a (.inl h))
  go_enter func300,ntmps300;go_wp2;go_ret;exact⟨QbS H.out.symm,rfl⟩
 ·by_cases b:599<a
  ·have H:=Z (Qj7 a (.inr b))
   go_enter func300,ntmps300;go_wp2;go_ret;exact⟨QbS H.out.symm,rfl⟩
  ·have H:=Z (QrR a (by omega) (by omega))
   go_enter func300,ntmps300;go_wp2;go_ret;exact⟨QbS H.out.symm,rfl⟩
theorem QtY(w:World)(k:Nat)(a:Array Obj):Jw w (Go.Sort.grow (w.drewN k) a):=by
 refine⟨rfl,rfl,rfl,?_,fun j hj=>?_⟩
 ·show w.heap.size<=(w.heap++a).size
  simp
 ·show (w.heap++a)[j]?=w.heap[j]?
  rw[Array.getElem?_append_left hj]
theorem Qzd(n:Int)(c : -9223372036854775808<=n)(a:n<=9223372036854775807)(w:World)(b:Env w) :
  Calls prog 293 #[Ji n] w (JB (Jt (bs (Go.Lib.itoa n))) w):=
 (Tryz.strconv_Itoa n c a w b.tab).mono fun _ _ ⟨he,k,os,hw⟩=>⟨he,hw ▸ QtY w k os⟩
theorem QhJ(a:Int)(w:World)(d:Env w)(h : -9223372036854775808<=a)(g:a<=9223372036854775807) :
  Calls prog 271 #[Ji a] w (JB (.tuple #[Jt (Qbf a),Ji (Qbs a)]) w):=by
 by_cases b:Qb9 a=0
 ·have c:Hi (Qbf a=⟨#[]⟩/\Qbs a=8):=Z ⟨JK b,JK b⟩
  go_enter func271,ntmps271;go_wp2_with (go_at_call 300;refine (QdN _ _).mono ?_;rintro e w' ⟨rfl,rfl⟩);go_ret2;exact⟨by rw[c.o.1,c.o.2];rfl,qF _ _⟩
 ·have c:Hi (Qbf a=Qcc a/\Qbs a=0):=Z ⟨JJ b,JJ b⟩
  have i:(Qb9 a==0)=false:=by rw[qI];exact b
  have k:=Qzc a h g;have q:=Qf0 a;obtain⟨I,hI⟩:∃I,I=bs (Go.Lib.itoa a):=⟨_,rfl⟩;have j:I.size<=21:=by rw[hI,Qaq];exact k
  have r:(ByteArray.mk #[72,84,84,80,47,49,46,49,32]).size+I.size<=9223372036854775807:=by show 9+_<=_;omega
  have s:((ByteArray.mk #[72,84,84,80,47,49,46,49,32])++I).size+(ByteArray.mk #[32]).size<=9223372036854775807:=by rw[ByteArray.size_append];show 9+_+1<=_;omega
  have p:((ByteArray.mk #[72,84,84,80,47,49,46,49,32])++I++ByteArray.mk #[32]).size+(QcG a).size<=9223372036854775807:=by rw[ByteArray.size_append,ByteArray.size_append];show 9+_+1+_<=_;omega
  have f:=Z hI;have l:=Z d;clear b hI d;go_enter func271,ntmps271;go_wp2_with (go_at_call 300;refine (QdN _ _).mono ?_;rintro e w' ⟨rfl,rfl⟩);refine (Qzd a h g _ l.o).mono ?_;rw[<-f.o];rintro e n ⟨rfl,m⟩;go_wp2_with (go_at_call 301;refine (QlO _ _).mono ?_;rintro e w' ⟨rfl,rfl⟩);go_ret2;refine⟨?_,m⟩;rw[c.o.1,c.o.2];unfold Qcc;rw[f.o];rfl
def Qfy:JL:=[48,49,50,51,52,53,54,55,56,57]
theorem Qoq(c:UInt8):Qfy.contains c=Qav c:=by
 have h:∀n:Fin 256,Qfy.contains (UInt8.ofNat n.val)=Qav (UInt8.ofNat n.val):=by decide +kernel
 have:=h ⟨c.toNat,c.toNat_lt⟩;simpa using this
theorem Qez{p:UInt8->Bool}(l:JL):l.dropWhile p = []↔l.all p=true:=by
 induction l with
 |nil=>simp
 |cons a t ih=>
  by_cases h:p a=true
  ·rw[List.dropWhile_cons_of_pos h,ih];simp[h]
  ·rw[List.dropWhile_cons_of_neg h];simp[h]
theorem Qo0(l cs:JL):(Go.Lib.trimS l cs).isEmpty=l.all (cs.contains ·):=by
 unfold Go.Lib.trimS Go.Lib.trimLeftS Go.Lib.trimRightS;rw[qN,List.isEmpty_iff];constructor
 ·intro h
  have b:=(Qez _).1 h;rw[List.all_reverse] at b;have d:(l.reverse.dropWhile (cs.contains ·)) = []:=by
   cases f:l.reverse.dropWhile (cs.contains ·) with
   |nil=>rfl
   |cons a t=>
    have c:=List.head?_dropWhile_not (cs.contains ·) l.reverse
    rw[f] at b c;simp only[List.head?_cons] at c;simp only[List.all_cons,JD] at b;rw[b.1] at c;exact JN c (by decide)
  have g:=(Qez _).1 d
  rwa[List.all_reverse] at g
 ·intro h
  have d:(l.reverse.dropWhile (cs.contains ·)) = []:=(Qez _).2 (by rw[List.all_reverse];exact h)
  rw[d];rfl
theorem Qql(l:JL):(Go.Lib.trimS l Qfy).isEmpty=l.all Qav:=by
 rw[Qo0]
 congr 1
 funext c
 exact Qoq c
theorem three(l:JL)(h:3<=l.length):l=l[0] :: l[1] :: l[2] :: l.drop 3:=by
 match l,h with
 |a :: b :: c :: t,_=>rfl
theorem Qow(l:JL)(h:l.length<3):QfU l=(0,4):=by
 match l,h with
 |[],_=>rfl
 |[_],_=>rfl
 |[_,_],_=>rfl
def Qhm(a b c:UInt8):Int:=100*((a.toNat:Int)-48)+10*((b.toNat:Int)-48)+((c.toNat:Int)-48)
theorem QeD(a b c:UInt8)(t:JL):QfU (a :: b :: c :: t)=if t≠[]/\t.head?≠some 32 then (0,4) else if (Qav a&&Qav b&&Qav c)=false then (0,4)
   else if Qb9 (Qhm a b c)=0 then (0,4) else (Qhm a b c,0):=rfl
theorem Qj3(l:JL)(h:3<l.length)(f:l[3]≠32):QfU l=(0,4):=by
 match l,h,f with
 |a :: b :: c :: d :: t,_,f=>
  rw[QeD,JK ⟨by simp,by simpa using f⟩]
theorem Qf8(l:JL)(h:3<=l.length)(f:∀h3:3<l.length,l[3]=32) :
  QfU l=if (Qav l[0]&&Qav l[1]&&Qav l[2])=false then (0,4) else if Qb9 (Qhm l[0] l[1] l[2])=0 then (0,4) else (Qhm l[0] l[1] l[2],0):=by
 match l,h,f with
 |[a,b,c],_,_=>
  rw[QeD];rfl
 |a :: b :: c :: d :: t,_,f=>
  have g:d=32:=f (by simp)
  rw[QeD,JJ (by simp[g])];rfl
theorem QmT(l:JL)(h:3<=l.length)(a:(Qav l[0]&&Qav l[1]&&Qav l[2])=false):QfU l=(0,4):=by
 by_cases c:3<l.length
 ·by_cases b:l[3]=32
  ·rw[Qf8 l h (fun _=>b),JK a]
  ·exact Qj3 l c b
 ·rw[Qf8 l h (fun h'=>JN h' c),JK a]
theorem Qfw(c:UInt8)(h:Qav c=true):48<=c.toNat/\c.toNat<=57:=by
 unfold Qav at h;simpa using h
theorem Qt1(a b c:UInt8)(g:Qav a=true)(j:Qav b=true)(l:Qav c=true):Go.Lib.atoi [a,b,c]=some (Qhm a b c):=by
 obtain⟨a1,a2⟩:=Qfw a g;obtain⟨b1,b2⟩:=Qfw b j;obtain⟨c1,c2⟩:=Qfw c l;have i:Go.Lib.digitVal a=some (a.toNat-48):=JK ⟨a1,a2⟩;have d:Go.Lib.digitVal b=some (b.toNat-48):=JK ⟨b1,b2⟩;have f:Go.Lib.digitVal c=some (c.toNat-48):=JK ⟨c1,c2⟩;have h:(a==45)=false:=by rw[qI];intro e;subst e;simp at a1
 have k:(a==43)=false:=by rw[qI];intro e;subst e;simp at a1
 unfold Go.Lib.atoi Go.Lib.decNat;simp only[h,k,Go.Lib.decFrom,i,d,f,List.isEmpty_cons,Bool.false_eq_true,if_false,Option.map_some];unfold Qhm
 congr 1
 omega
theorem Qi2(l:JL)(h:Qbh l=4):Qbq l=(0,4):=JK h
theorem Qkt(l:JL)(h:Qbh l≠4)(a:Qbx.isPrefixOf l=false):Qbq l=(0,13):=by
 unfold Qbq;rw[JJ h,JK a]
theorem Qi3(l:JL)(h:Qbh l≠4)(a:Qbx.isPrefixOf l=true):Qbq l=QfU (l.drop 9):=by
 unfold Qbq;rw[JJ h,JJ (by simp[a])]
theorem QlP(s:JA)(w:World)(g:s.size<=9223372036854775807) :
  Calls prog 333 #[Jt s] w (JB (.bool (s.data.toList.all Qav)) w):=by
 have a:Calls prog 199 #[Jt s,Jt ⟨#[48,49,50,51,52,53,54,55,56,57]⟩] w ((JB (Jt (bs (Go.Lib.trimS s.data.toList Qfy))) w)):=
  Any.strings_Trim_laid Tryz.lays160 (by kernel_rfl) s ⟨#[48,49,50,51,52,53,54,55,56,57]⟩ w g (by decide) (Go.Proofs.ascii_of_all (by decide))
 have b:(bs (Go.Lib.trimS s.data.toList Qfy)).toList.isEmpty=s.data.toList.all Qav:=by
  rw[Qdn];exact Qql _
 obtain⟨R,hR⟩:∃R,R=bs (Go.Lib.trimS s.data.toList Qfy):=⟨_,rfl⟩;rw[<-hR] at a b;have c:=Z a;have d:=Z b;clear hR a b;go_enter func333,ntmps333;go_wp2_with fail;refine c.o.mono ?_;rintro e w' ⟨rfl,f⟩;go_wp2;go_ret;exact⟨QaP d.o,f⟩
def QeW(l:JL):Bool:=decide (3<=l.length)&&(decide (l.length=3)||l[3]? == some 32)&&((l.take 3).all Qav)
theorem Qi6(l:JL)(h:l.length<3):QeW l=false:=by
 unfold QeW;rw[qB (by omega)];rfl
theorem QkU(l:JL)(h:3<l.length)(a:l[3]?≠some 32):QeW l=false:=by
 unfold QeW;have:(l[3]? == some 32)=false:=by rw[qI];exact a
 rw[this,qB (show ¬l.length=3 by omega)];simp
theorem Qhd(l:JL)(h:3<=l.length)(d:l.length=3\/l[3]?=some 32):QeW l=(Qav l[0]&&Qav l[1]&&Qav l[2]):=by
 unfold QeW;have f:(decide (l.length=3)||l[3]? == some 32)=true:=by
  rcases d with d|d
  ·rw[qA d];rfl
  ·rw[d];simp
 rw[qA h,f,Bool.true_and,Bool.true_and]
 match l,h with
 |a :: b :: c :: t,_=>simp[Bool.and_assoc]
theorem QkY(s:JA)(k:Nat)(h:k<s.size):(s.extract k (k+1)).data.toList = [s[k]]:=by
 rw[QcC,Qai,qV (by simpa using h),List.drop_append_of_le_length (by simp;omega),List.drop_of_length_le (by simp;omega)]
 rfl
theorem Qfx(t:JA)(b:UInt8)(B:Bool)(w:World)(a:t.size<=9223372036854775807)(d:t.data.toList = [b])(c:Qav b=B) :
  Calls prog 333 #[Jt t] w (JB (.bool B) w):=by
 have h:=QlP t w a;rw[d] at h;simpa[c] using h
theorem QhI(s:JA)(w:World)(hs:s.size<=9223372036854775807) :
  Calls prog 318 #[Jt s] w (JB (.bool (QeW s.data.toList)) w):=by
 by_cases X:s.size<3
 ·have H:=Z (Qi6 s.data.toList (by rw[Qab];exact X))
  have t1:((s.size:Int)==3)=false:=by rw[qI];omega
  go_enter func318,ntmps318;go_wp2;go_ret;exact⟨QaP H.out.symm,qF _ _⟩
 ·by_cases n:∃h:3<s.size,s[3]≠32
  ·obtain⟨hlt,hne⟩:=n
   have H:=Z (QkU s.data.toList (by rw[Qab];exact hlt) (by rw[qU (by rw[Qab];exact hlt)];intro e;exact hne (qS e)))
   have y:((s[3].toNat:Int) != 32)=true:=by
    rw[bne_iff_ne];intro e;exact hne (UInt8.toNat_inj.1 (by show _=32;omega))
   clear hne;go_enter func318,ntmps318;go_wp2;go_ret;exact⟨QaP H.out.symm,qF _ _⟩
  ·have q:=Qhd s.data.toList (by rw[Qab];omega) (by
    rcases Nat.lt_or_ge 3 s.size with h|h
    ·right
     rw[qU (by rw[Qab];exact h)]
     have:s[3]=32:=Classical.byContradiction fun hne=>n ⟨h,hne⟩
     exact congrArg some this
    ·left;rw[Qab];omega)
   change QeW s.data.toList=(Qav (s[0]'(by omega))&&Qav (s[1]'(by omega))&&Qav (s[2]'(by omega))) at q
   have hx:s.data.toList.length=s.size:=Qab s;have V:(s.extract 0 3).size=3:=by rw[ByteArray.size_extract];omega
   obtain⟨a,ha⟩:∃a,a=s[0]'(by omega):=⟨_,rfl⟩
   obtain⟨b,hb⟩:∃b,b=s[1]'(by omega):=⟨_,rfl⟩
   obtain⟨c,hc⟩:∃c,c=s[2]'(by omega):=⟨_,rfl⟩
   have J:((s.extract 0 3).extract 0 1).data.toList = [a]:=by
    rw[QkY (s.extract 0 3) 0 (by omega),ByteArray.getElem_extract,ha]
   have N:((s.extract 0 3).extract 1 2).data.toList = [b]:=by
    rw[QkY (s.extract 0 3) 1 (by omega),ByteArray.getElem_extract,hb]
   have D:((s.extract 0 3).extract 2 3).data.toList = [c]:=by
    rw[QkY (s.extract 0 3) 2 (by omega),ByteArray.getElem_extract,hc]
   have K:(s.extract 0 1).data.toList = [a]:=by
    rw[QkY s 0 (by omega),ha]
   have z:(s.extract 1 2).data.toList = [b]:=by
    rw[QkY s 1 (by omega),hb]
   have S:(s.extract 2 3).data.toList = [c]:=by
    rw[QkY s 2 (by omega),hc]
   rw[<-ha,<-hb,<-hc] at q;clear ha hb hc;obtain⟨da,hda⟩:∃d,Qav a=d:=⟨_,rfl⟩;obtain⟨db,hdb⟩:∃d,Qav b=d:=⟨_,rfl⟩;obtain⟨dc,hdc⟩:∃d,Qav c=d:=⟨_,rfl⟩;rw[hda,hdb,hdc] at q;have I:((s.extract 0 3).extract 0 1).size<=9223372036854775807:=by rw[ByteArray.size_extract];omega
   have E:((s.extract 0 3).extract 1 2).size<=9223372036854775807:=by rw[ByteArray.size_extract];omega
   have P:((s.extract 0 3).extract 2 3).size<=9223372036854775807:=by rw[ByteArray.size_extract];omega
   have C:(s.extract 0 1).size<=9223372036854775807:=by rw[ByteArray.size_extract];omega
   have T:(s.extract 1 2).size<=9223372036854775807:=by rw[ByteArray.size_extract];omega
   have G:(s.extract 2 3).size<=9223372036854775807:=by rw[ByteArray.size_extract];omega
   have M:=fun w=>Qfx _ a da w I J hda
   have O:=fun w=>Qfx _ b db w E N hdb
   have B:=fun w=>Qfx _ c dc w P D hdc
   have R:=fun w=>Qfx _ a da w C K hda
   have A:=fun w=>Qfx _ b db w T z hdb
   have L:=fun w=>Qfx _ c dc w G S hdc
   clear hda hdb hdc J N D K z S I E P C T G hx;have l:=Z q;have j:=Z M;have p:=Z O;have v:=Z B;have i:=Z R;have r:=Z A;have t:=Z L;clear q M O B R A L
   by_cases W:3<s.size
   ·have y:((s[3].toNat:Int) != 32)=false:=by
     have:s[3]=32:=Classical.byContradiction fun hne=>n ⟨W,hne⟩
     rw[this];rfl
    clear n;cases da
    ·go_enter func318,ntmps318
     go_wp2_with fail;refine (j.o _).mono ?_;rintro e m ⟨rfl,f⟩;go_wp2;go_ret;exact⟨QaP (by rw[l.o];rfl),f⟩
    ·cases db
     ·go_enter func318,ntmps318
      go_wp2_with fail;refine (j.o _).mono ?_;rintro e m ⟨rfl,f⟩;go_wp2_with fail;refine (p.o _).mono ?_;rintro e x ⟨rfl,g⟩;go_wp2;go_ret;exact⟨QaP (by rw[l.o];rfl),Qaa f g⟩
     ·go_enter func318,ntmps318
      go_wp2_with fail;refine (j.o _).mono ?_;rintro e m ⟨rfl,f⟩;go_wp2_with fail;refine (p.o _).mono ?_;rintro e x ⟨rfl,g⟩;go_wp2_with fail;refine (v.o _).mono ?_;rintro e U ⟨rfl,k⟩;cases dc <;>
      ·go_wp2
       go_ret;exact⟨QaP (by rw[l.o];rfl),Qaa f (Qaa g k)⟩
   ·have Y:((s.size:Int)==3)=true:=by rw[beq_iff_eq];omega
    have t4:s.size=3:=by omega
    clear n;cases da
    ·go_enter func318,ntmps318
     go_wp2_with fail;refine (i.o _).mono ?_;rintro e m ⟨rfl,f⟩;go_wp2;go_ret;exact⟨QaP (by rw[l.o];rfl),f⟩
    ·cases db
     ·go_enter func318,ntmps318
      go_wp2_with fail;refine (i.o _).mono ?_;rintro e m ⟨rfl,f⟩;go_wp2_with fail;refine (r.o _).mono ?_;rintro e x ⟨rfl,g⟩;go_wp2;go_ret;exact⟨QaP (by rw[l.o];rfl),Qaa f g⟩
     ·go_enter func318,ntmps318
      go_wp2_with fail;refine (i.o _).mono ?_;rintro e m ⟨rfl,f⟩;go_wp2_with fail;refine (r.o _).mono ?_;rintro e x ⟨rfl,g⟩;go_wp2_with fail;refine (t.o _).mono ?_;rintro e U ⟨rfl,k⟩;cases dc <;>
      ·go_wp2
       go_ret;exact⟨QaP (by rw[l.o];rfl),Qaa f (Qaa g k)⟩
theorem Qj4(l:JL)(h:QeW l=false):QfU l=(0,4):=by
 rcases Nat.lt_or_ge l.length 3 with h3|h3
 ·exact Qow l h3
 ·by_cases a:l.length=3\/l[3]?=some 32
  ·exact QmT l h3 (by rw[<-Qhd l h3 a];exact h)
  ·have b:3<l.length:=by omega
   exact Qj3 l b (fun e=>a (.inr (by rw[qU b,e])))
theorem Qox(l:JL)(h:QeW l=true):∃a b c,3<=l.length/\l.take 3 = [a,b,c]/\Qav a=true/\Qav b=true/\Qav c=true/\QfU l=if Qb9 (Qhm a b c)=0 then (0,4) else (Qhm a b c,0):=by
 rcases Nat.lt_or_ge l.length 3 with h3|h3
 ·rw[Qi6 l h3] at h;exact JN h (by decide)
 ·by_cases f:l.length=3\/l[3]?=some 32
  ·have g:=Qhd l h3 f
   rw[h] at g;have d:=g.symm;rw[JD,JD] at d;refine⟨l[0],l[1],l[2],h3,?_,d.1.1,d.1.2,d.2,?_⟩
   ·match l,h3 with
    |a :: b :: c :: t,_=>rfl
   ·rw[Qf8 l h3 ?_,JJ (by rw[<-g];decide)]
    intro i;rcases f with f|f
    ·omega
    ·rw[qU i] at f;exact qS f
  ·have i:3<l.length:=by omega
   rw[QkU l i (fun e=>f (.inr e))] at h;exact JN h (by decide)
theorem Qlp(s:JA)(w:World)(R:JA)(B:Bool)(b:R=bs (Lib.trimPrefix s.data.toList Qbx))(a:Lib.hasPrefix s.data.toList Qbx=B) :
  Calls prog 198 #[Jt s,Jt ⟨#[72,84,84,80,47,49,46,49,32]⟩] w (JS (.tuple #[Jt R,.bool B]) w):=by
 have h:=Tryz.strings_CutPrefix s ⟨#[72,84,84,80,47,49,46,49,32]⟩ w;subst b;subst a;exact h
theorem Qdv(l:JL)(n:Int)(e:Nat)(h:Qbq l=(n,e)):Ending.returned (.tuple #[Ji n,Ji e])=.returned (.tuple #[Ji (Qbq l).1,Ji (Qbq l).2]):=by rw[h]
theorem Qnk(s:JA)(w:World)(G:s.size<=9223372036854775807) :
  Calls prog 294 #[Jt s] w (JB (.tuple #[Ji (Qbq s.data.toList).1,Ji (Qbq s.data.toList).2]) w):=by
 by_cases v:Qbh s.data.toList=4
 ·have H:=Z (Qi2 s.data.toList v)
  have f:=QgC s w G;rw[v] at f;have i:=Z f;clear f v;go_enter func294,ntmps294;go_wp2_with fail;refine i.o.mono ?_;rintro e w' ⟨rfl,rfl⟩;go_wp2;go_ret2;exact⟨Qdv _ 0 4 H.out,qF _ _⟩
 ·obtain⟨E,hE⟩:∃E,E=Qbh s.data.toList:=⟨_,rfl⟩
  have K:((E:Int)==4)=false:=by rw[qI,hE];omega
  have I:(E==4)=false:=by rw[qI,hE];omega
  have f:=QgC s w G;rw[<-hE] at f;obtain⟨PL,hPL⟩:∃PL,PL=Qe2 s:=⟨_,rfl⟩;rw[<-hPL] at f;have i:=Z f;clear f hE hPL
  by_cases j:Qbx.isPrefixOf s.data.toList=true
  ·have d:=Qi3 _ v j
   obtain⟨R,hR⟩:∃R,R=bs (Lib.trimPrefix s.data.toList Qbx):=⟨_,rfl⟩;have m:=Z (Qlp s w R true hR j);have r:R.data.toList=s.data.toList.drop 9:=by
    rw[hR,Qai];unfold Lib.trimPrefix;rw[JK (show Lib.hasPrefix s.data.toList Qbx=true from j)];rfl
   have y:R.size<=9223372036854775807:=by
    rw[<-Qab,r,JC,Qab];omega
   rw[<-r] at d;clear hR r j v;cases k:QeW R.data.toList with
   |false=>
    have H:=Z (d.trans (Qj4 _ k));have g:=fun w=>QhI R w y
    rw[k] at g;have h:=Z g;clear g k d;go_enter func294,ntmps294;go_wp2_with fail;refine i.o.mono ?_;rintro e w' ⟨rfl,rfl⟩;go_wp2_with fail;refine m.o.mono ?_;rintro e w' ⟨rfl,rfl⟩;go_wp2_with fail;refine (h.o _).mono ?_;rintro e A ⟨rfl,n⟩;go_wp2;go_ret2;exact⟨Qdv _ 0 4 H.out,n⟩
   |true=>
    obtain⟨a,b,c,h3,ht,ha,hb,hc,hcd⟩:=Qox _ k;rw[hcd] at d;rw[Qab] at h3;have g:=fun w=>QhI R w y
    rw[k] at g;have h:=Z g;have D:(R.extract 0 3).data.toList = [a,b,c]:=by rw[QcC,Qai,List.drop_zero];exact ht
    have q:=fun w=>Tryz.strconv_Atoi (R.extract 0 3) (Qhm a b c) (by rw[ByteArray.size_extract];omega) (by rw[D];exact Qt1 a b c ha hb hc) w
    have l:=Z q;obtain⟨C,hC⟩:∃C,C=Qhm a b c:=⟨_,rfl⟩;rw[<-hC] at l d;have z:0<=C/\C<=999:=by
     obtain⟨a1,a2⟩:=Qfw a ha;obtain⟨b1,b2⟩:=Qfw b hb;obtain⟨c1,c2⟩:=Qfw c hc;rw[hC];unfold Qhm;omega
    obtain⟨hC0,hC9⟩:=z;clear g k hcd ht ha hb hc D q hC
    by_cases p:Qb9 C=0
    ·rw[JK p] at d
     have H:=Z d;clear d;go_enter func294,ntmps294;go_wp2_with fail;refine i.o.mono ?_;rintro e w' ⟨rfl,rfl⟩;go_wp2_with fail;refine m.o.mono ?_;rintro e w' ⟨rfl,rfl⟩;go_wp2_with fail;refine (h.o _).mono ?_;rintro e A ⟨rfl,n⟩;go_wp2_with fail;refine (l.o _).mono ?_;rintro e J ⟨rfl,t,rfl⟩;go_wp2_with (go_at_call 300;refine (QdN _ _).mono ?_;rintro e w' ⟨rfl,rfl⟩);go_ret2;exact⟨Qdv _ 0 4 H.out,Qaa n (Go.Joins.below_bytesWorld _ _ _ _ (qC _))⟩
    ·rw[JJ p] at d
     have H:=Z d;have B:(Qb9 C==0)=false:=by rw[qI];exact p
     clear d p;go_enter func294,ntmps294;go_wp2_with fail;refine i.o.mono ?_;rintro e w' ⟨rfl,rfl⟩;go_wp2_with fail;refine m.o.mono ?_;rintro e w' ⟨rfl,rfl⟩;go_wp2_with fail;refine (h.o _).mono ?_;rintro e A ⟨rfl,n⟩;go_wp2_with fail;refine (l.o _).mono ?_;rintro e J ⟨rfl,t,rfl⟩;go_wp2_with (go_at_call 300;refine (QdN _ _).mono ?_;rintro e w' ⟨rfl,rfl⟩);go_ret2;exact⟨Qdv _ C 0 H.out,Qaa n (Go.Joins.below_bytesWorld _ _ _ _ (qC _))⟩
  ·have x:Qbx.isPrefixOf s.data.toList=false:=Bool.eq_false_iff.2 j
   have H:=Z (Qkt _ v x);obtain⟨R,hR⟩:∃R,R=bs (Lib.trimPrefix s.data.toList Qbx):=⟨_,rfl⟩;have m:=Z (Qlp s w R false hR x);clear hR j x v;go_enter func294,ntmps294;go_wp2_with fail;refine i.o.mono ?_;rintro e w' ⟨rfl,rfl⟩;go_wp2_with fail;refine m.o.mono ?_;rintro e w' ⟨rfl,rfl⟩;go_wp2;go_ret2;exact⟨Qdv _ 0 13 H.out,qF _ _⟩
def QCF(n:Nat):JL:=[UInt8.ofNat (48+n/100),UInt8.ofNat (48+n/10%10),UInt8.ofNat (48+n%10)]
theorem Qj1(n:Nat)(a:100<=n)(b:n<=999):Go.Lib.decDigits n=QCF n:=by
 rw[Go.Lib.decDigits,dif_neg (by omega),Go.Lib.decDigits,dif_neg (by omega),Go.Lib.decDigits_one (show n/10/10<10 by omega)]
 rw[show n/10/10=n/100 by omega]
 rfl
theorem QtH(n:Nat)(a:100<=n)(b:n<=999):∀k,k<10->Qav (UInt8.ofNat (48+k))=true:=by
 decide +kernel
theorem Qgj(k:Nat)(h:k<10):(UInt8.ofNat (48+k)).toNat=48+k:=by
 rw[UInt8.toNat_ofNat',Nat.mod_eq_of_lt (by omega)]
theorem QzZ(n:Nat)(a:100<=n)(b:n<=999):Qhm (UInt8.ofNat (48+n/100)) (UInt8.ofNat (48+n/10%10)) (UInt8.ofNat (48+n%10))=n:=by
 unfold Qhm;rw[Qgj _ (by omega),Qgj _ (by omega),Qgj _ (by omega)]
 omega
theorem QjZ(k:Nat)(h:k<10):QaE (UInt8.ofNat (48+k)).toNat=true:=by
 rw[Qgj k h];have:∀k,k<10->QaE (48+k)=true:=by decide
 exact this k h
theorem QoL(n:Nat)(d:100<=n)(f:n<=999)(t:JL):(Qbx++QCF n++t).all (fun c=>QaE c.toNat)=t.all (fun c=>QaE c.toNat):=by
 rw[List.all_append,List.all_append];have b:Qbx.all (fun c=>QaE c.toNat)=true:=by decide +kernel
 have a:(QCF n).all (fun c=>QaE c.toNat)=true:=by
  unfold QCF;simp only[List.all_cons,List.all_nil];rw[QjZ _ (by omega),QjZ _ (by omega),QjZ _ (by omega)];rfl
 rw[b,a,Bool.true_and,Bool.true_and]
theorem Qjl(l:JL):Qbh l=4↔l.all (fun c=>QaE c.toNat)=false:=by
 unfold Qbh;constructor
 ·intro h
  split at h
  ·assumption
  ·split at h<;>exact JN h (by decide)
 ·intro h;rw[JK h]
theorem QlQ(n:Nat)(d:100<=n)(j:n<=599)(t:JL)(i:t = []\/t.head?=some 32) :
  Qbq (Qbx++QCF n++t)=if t.all (fun c=>QaE c.toNat)=false then (0,4) else ((n:Int),0):=by
 have f:=QoL n d (by omega) t
 by_cases a:t.all (fun c=>QaE c.toNat)=false
 ·rw[JK a]
  exact Qi2 _ ((Qjl _).2 (by rw[f];exact a))
 ·rw[JJ a]
  rw[Qi3 _ (fun h=>a (by rw[<-f];exact (Qjl _).1 h)) (by
   rw[List.isPrefixOf_iff_prefix,qP];exact List.prefix_append _ _)]
  rw[qP,List.drop_append_of_le_length (by decide)]
  have g:Qbx.drop 9 = []:=by decide
  rw[g,J3];show QfU (_ :: _ :: _ :: t)=_;have b:=QtH n d (by omega)
  rw[QeD,JJ (by
   rintro⟨h3,h4⟩;rcases i with h|h
   ·exact h3 h
   ·exact h4 h),JJ (by rw[b _ (by omega),b _ (by omega),b _ (by omega)];decide),QzZ n d (by omega),JJ (by
   have:=QoB (n:Int) (by omega) (by omega);omega)]
theorem QcF(n:Nat)(a:100<=n)(b:n<=999):(Qcc (n:Int)).data.toList=Qbx++QCF n++(32 :: (QcG (n:Int)).data.toList):=by
 unfold Qcc;rw[QpX _ (by omega),Int.toNat_natCast,Qj1 n a b]
 simp[ByteArray.data_append]
theorem QhN(a:Int):(QcG a).data.toList.all (fun c=>QaE c.toNat)=true:=by
 unfold QcG
 repeat' split
 all_goals decide +kernel
theorem QfN(n:Nat)(a:100<=n)(b:n<=999):(Qcc (n:Int)).size=13+(QcG (n:Int)).size:=by
 rw[<-Qab,QcF n a b];simp[Qbx,QCF];omega
theorem Qib(n:Nat)(a:100<=n)(c:n<=599):Qbh (Qcc (n:Int)).data.toList=0:=by
 have b:=QfN n a (by omega)
 have d:=Qf0 (n:Int);unfold Qbh;rw[JJ (by
  rw[QcF n a (by omega),QoL n a (by omega),List.all_cons,QhN];decide),JJ (by rw[Qab];omega)]
theorem Qgm(n:Nat)(a:100<=n)(b:n<=599):Qbq (Qcc (n:Int)).data.toList=((n:Int),0):=by
 rw[QcF n a (by omega),QlQ n a b _ (.inr rfl),JJ (by rw[List.all_cons,QhN];decide)]
def QaG(l:JL):JL:=l.filter fun b=>b != 13&&b != 10
theorem Qlr(l:JL):(QaG l).length<=l.length:=List.length_filter_le _ _
def atF(s:JA):Nat->Int
 |0=>0
 |k+1=>Qbd s (atF s k)
def QoR(s:JA)(k:Nat)(t:JL):JL:=s.data.toList.take (atF s k).toNat++t++s.data.toList.drop ((atF s k).toNat+(QaH s (atF s k)).size)
theorem QBq:∀(l:JL) (n:Nat),(scan l n).2=0->n<=(scan l n).1/\(scan l n).1+2<=l.length+n:=by
 intro l
 induction l with
 |nil=>intro n h;exact JN (show (3:Nat)=0 from h) (by decide)
 |cons x l ih=>
  intro n h;rw[scan] at h ⊢
  by_cases a:x=13/\l = []
  ·rw[JK a] at h;exact JN (show (3:Nat)=0 from h) (by decide)
  rw[JJ a] at h ⊢
  by_cases b:x=13/\l.head?=some 10
  ·rw[JK b]
   cases l with
   |nil=>exact JN ⟨b.1,rfl⟩ a
   |cons y t=>simp only[qH];omega
  rw[JJ b] at h ⊢
  by_cases d:QaE x.toNat=false
  ·rw[JK d] at h;exact JN (show (4:Nat)=0 from h) (by decide)
  rw[JJ d] at h ⊢
  by_cases c:n=256
  ·rw[JK c] at h;exact JN (show (5:Nat)=0 from h) (by decide)
  rw[JJ c] at h ⊢;have:=ih (n+1) h;rw[qH];omega
theorem Quz(s:JA)(a:Nat)(c:a<=s.size):∃b:Nat,Qbd s (a:Int)=(b:Int)/\b<=s.size/\a+(QaH s (a:Int)).size<=s.size:=by
 unfold Qbd QaH
 by_cases h:Qbe s (a:Int)=0
 ·rw[JK h,JK h]
  rw[QcN s a c] at h;have d:=QBq (s.data.toList.drop a) 0 h;rw[JC,Qab] at d;have f:(QbT s.data.toList a 0).1+2<=s.size-a:=by unfold QbT;omega
  refine⟨a+(QbT s.data.toList a 0).1+2,by rw[Int.toNat_natCast];omega,by omega,?_⟩
  rw[Int.toNat_natCast,ByteArray.size_extract];omega
 ·rw[JJ h,JJ h]
  exact⟨a,rfl,c,c⟩
theorem QAY(s:JA):∀k,∃b:Nat,atF s k=(b:Int)/\b<=s.size
 |0=>⟨0,rfl,qL _⟩
 |k+1=>by
  obtain⟨a,h1,h2⟩:=QAY s k;obtain⟨b,h3,h4,-⟩:=Quz s a h2;exact⟨b,by rw[atF,h1];exact h3,h4⟩
def Qdy(c:JL):JM->Nat->Option Nat
 |[],_=>none
 |x :: xs,i=>if 0<i/\QaT x=0/\QaX x=c then some i else Qdy c xs (i+1)
def Qb0:JL:=[99,111,110,116,101,110,116,45,114,97,110,103,101]
def QbM:JL:=[67,111,110,116,101,110,116,45,82,97,110,103,101,58,32]
def Qca(k n:Int)(t:JL)(s:JA):JL:=
 if k=1 then []
 else if k=2 then s.data.toList.take (max 0 (min n (s.size:Int))).toNat
 else if (Qaf s).2.2≠0\/(Qaf s).1 = [] then s.data.toList
 else if k=3 then (if Qbs n≠0 then s.data.toList else QoR s 0 (Qbf n).data.toList)
 else if k=5 then (if (Qaf s).1.length<2 then s.data.toList else QoR s 1 (QaG t))
 else if k=4 then (match Qdy Qb0 (Qaf s).1 0 with|none=>s.data.toList|some i=>QoR s i (QbM++QaG t))
 else s.data.toList
def Qm3(b:UInt8):Bool:=b==10||b==13
def QiI(l:JL):Nat:=l.countP Qm3
theorem QoA(l:JL):(QaG l).length+QiI l=l.length:=by
 induction l with
 |nil=>rfl
 |cons c t ih=>
  unfold QaG QiI at ih ⊢;rw[List.filter_cons,List.countP_cons]
  by_cases h:c=10
  ·subst h;simp[Qm3] at ih ⊢;omega
  ·by_cases a:c=13
   ·subst a;simp[Qm3] at ih ⊢;omega
   ·simp[Qm3,h,a] at ih ⊢;omega
theorem Qxu(l:JL):QiI l=l.count 10+l.count 13:=by
 induction l with
 |nil=>rfl
 |cons c t ih=>
  unfold QiI at ih ⊢;rw[List.countP_cons,List.count_cons,List.count_cons,ih]
  by_cases h:c=10
  ·subst h;simp[Qm3];omega
  ·by_cases a:c=13
   ·subst a;simp[Qm3];omega
   ·simp[Qm3,h,a]
theorem QtO(l:JL)(h:QiI l=0):QaG l=l:=by
 have a:=QoA l;have:=List.filter_sublist (l:=l) (p:=fun b=>b != 13&&b != 10)
 exact List.Sublist.eq_of_length this (by show (QaG l).length=l.length;omega)
theorem Qlq(l:JL)(k:Nat)(h:k<l.length):QaG (l.take (k+1))=QaG (l.take k)++(if Qm3 l[k]=true then [] else [l[k]]):=by
 unfold QaG;rw[qV h,List.filter_append]
 congr 1
 by_cases a:l[k]=10
 ·rw[a];rfl
 ·by_cases b:l[k]=13
  ·rw[b];rfl
  ·simp[Qm3,a,b]
theorem QAk(l:JL)(k:Nat)(h:k<l.length):QiI (l.take (k+1))=QiI (l.take k)+(if Qm3 l[k]=true then 1 else 0):=by
 unfold QiI;rw[qV h,List.countP_append]
 congr 1
 by_cases a:Qm3 l[k]=true
 ·rw[JK a];simp[a]
 ·rw[JJ a];simp[a]
theorem QgT(l:JL)(k:Nat):(QaG (l.take k)).length<=(QaG l).length:=
 ((List.take_sublist k l).filter _).length_le
theorem Qw7(d:Option Addr)(n c:Nat)(x:Addr)(b:Nat)(f:JT)(w:World):(Builtin.copy_ #[169,169] f #[.slice d n c,.slice (some x) 0 b]).run prog w=.ok (Ji 0) w:=by
 have a:∀w,(Go.sizeOf 5).run prog w=.ok 1 w:=fun w=>by simp
 cases d<;>simp[Builtin.copy_,run_underlying underlying169,Builtin.lenOf,Builtin.firstCells,a,storeCells,loadCells,goInt,loadCellsFrom]
theorem QBW(w:World)(a:Option Addr)(l c:Nat):(binOp .neq 169 (.slice a l c) (.slice none 0 0)).run prog w=.ok (.bool (!a.isNone)) w:=run_neq_slice_nil w _ _ a l c underlying169
def QAI(s:JA)(k:Nat):Nat:=if k=0 then 0 else if k=1 then s.data.toList.count 10 else s.data.toList.count 10+s.data.toList.count 13
theorem QxZ(s:JA):QAI s 2=QiI s.data.toList:=(Qxu _).symm
theorem QrV(s:JA)(h:QiI s.data.toList=0):s=bs (QaG s.data.toList):=by rw[QtO _ h,Qb1]
theorem QmX{b:UInt8}(h:Qm3 b=true){x y:Addr}{c a:Nat}{v:Value}:∃x' cx',bsF (.slice (some x) 0 c) (.slice (some y) 0 a) v b.toNat=.slice (some x') 0 cx':=by
 unfold Qm3 at h;rw[Bool.or_eq_true,beq_iff_eq,beq_iff_eq] at h;rcases h with rfl|rfl
 ·exact⟨x,c,rfl⟩
 ·exact⟨y,a,rfl⟩
theorem QjL{b:UInt8}(h:¬Qm3 b=true){x y v:Value}:bsF x y v b.toNat=.slice none 0 0:=by
 unfold Qm3 at h;rw[Bool.or_eq_true,beq_iff_eq,beq_iff_eq] at h;have a:b.toNat≠10:=fun e=>h (.inl (UInt8.toNat_inj.1 e))
 have c:b.toNat≠13:=fun e=>h (.inr (UInt8.toNat_inj.1 e))
 have d:=UInt8.toNat_lt b;unfold bsF;rw[JJ (by omega),JJ a,JJ c]
theorem Qs0(N:Nat)(h:N<=1000000)(w:World):(Instr.makeSlice 169 (Ji (N:Int)) (Ji (N:Int))).run prog w=.ok (Jl w.heap.size N N) (w.alloc (.cells (madeCells #[Jb 0] N) 5)):=by
 obtain⟨i0,hi,hz0,hz1,hz2⟩:=info_parts (show (prog.info? 5).map (fun i=>(i.zero,i.size,i.bytes))=some (some (Jb 0),1,1) by kernel_rfl)
 have:=run_make (P:=prog) w 169 5 i0 _ underlying169 hi hz0 .i64 .i64 N N (by omega) (by omega) (by rw[hz2];omega) (by omega)
 rw[this,hz1,Int.toNat_natCast,Nat.mul_one];rfl
theorem QrO{w:World}{B N:Nat}{l:JL}(h:w.rowIs B 5 N (Lib.Lz.bytes l))(a:N=l.length):(convert 169 9 (Jl B N N)).run prog w=.ok (Jt (bs l)) w:=by
 subst a;refine run_convert_bytes_back (P:=prog) w 169 9 5 (Ja B 0) l.length l underlying169 underlying5 underlying9 (fun j hj=>?_)
 have e:((Ja B 0):Addr).add j=(Ja B j):=by unfold Addr.add;split<;>simp_all
 rw[e,World.rowIs.cell h hj];unfold Lib.Lz.bytes;rw[qU hj];rfl
structure BSt(w0 w:World)(G:Nat)(x y:Value)(H c:Nat):Prop where
 reps:BsR w G x y (Jl H 2 c)
 h0:w.cell? (Ja H 0)=some (Jt ⟨#[10]⟩)
 h1:w.cell? (Ja H 1)=some (Jt ⟨#[13]⟩)
 bel:Jw w0 w
theorem BSt.drewN{w0 w:World}{G:Nat}{x y:Value}{H c:Nat}(h:BSt w0 w G x y H c)(n:Nat):BSt w0 (w.drewN n) G x y H c where
 reps:=World.rowIs.of_block h.reps rfl
 h0:=h.h0
 h1:=h.h1
 bel:=⟨h.bel.os,h.bel.tape,h.bel.output,h.bel.size,h.bel.block⟩
theorem BSt.cells{w0 w:World}{G:Nat}{x y:Value}{H c:Nat}(h:BSt w0 w G x y H c):w.cell? (Ja G 256)=some (Jl H 2 c)/\w.cell? (Ja G 10)=some x/\w.cell? (Ja G 13)=some y/\w.cell? (Ja H 0)=some (Jt ⟨#[10]⟩)/\w.cell? (Ja H 1)=some (Jt ⟨#[13]⟩):=
 ⟨World.rowIs.cell h.reps (i:=256) (by decide),World.rowIs.cell h.reps (i:=10) (by decide),World.rowIs.cell h.reps (i:=13) (by decide),h.h0,h.h1⟩
theorem QqW{w:World}{B N J:Nat}{l:JL}{b:UInt8}(h:w.rowIs B 5 N (Lib.Lz.bytes l))(a:l.length=J):(w.setCell (Ja B J) (Jb (b.toNat:Int))).rowIs B 5 N (Lib.Lz.bytes (l++[b])):=by
 subst a;refine World.rowIs.congr (World.rowIs.set h l.length _) (fun i _=>?_)
 unfold Lib.Lz.bytes
 by_cases e:i=l.length
 ·subst e
  rw[JK rfl,List.getElem?_append_right (qC _)];simp
 ·rw[JJ e]
  rcases Nat.lt_or_ge i l.length with h1|h1
  ·rw[List.getElem?_append_left h1]
  ·rw[List.getElem?_eq_none h1,List.getElem?_eq_none (by simp;omega)]
theorem QqC(s:JA)(G H c:Nat)(x y:Addr)(v t:Nat)(w0:World)(hB:BsR w0 G (.slice (some x) 0 v) (.slice (some y) 0 t) (Jl H 2 c))
  (k0:w0.cell? (Ja H 0)=some (Jt ⟨#[10]⟩)) (k1:w0.cell? (Ja H 1)=some (Jt ⟨#[13]⟩)) (hs:s.size<=1000000) :
  Calls prog 449 #[Jp G,Jt s] w0 (JB (Jt (bs (QaG s.data.toList))) w0):=by
 have g2:Jx w0 G 256 (Jl H 2 c):=World.rowIs.cell hB (i:=256) (by decide)
 have qm:=Z (fun c W=>Any.strings_Count_one Tryz.lays138 s c W)
 have qk:Hi (BSt w0 w0 G (.slice (some x) 0 v) (.slice (some y) 0 t) H c):=Z ⟨hB,k0,k1,qF _ _⟩;have d:=QoA s.data.toList;rw[Qab] at d;obtain⟨N,hN⟩:∃N,(QaG s.data.toList).length=N:=⟨_,rfl⟩;have X:=Z hN.symm;rw[hN] at d;have Y:N<=1000000:=by omega
 have R:=Z Y;have C:=Z d;have T:=Qs0 N Y;have qp:=QBW;have qe:=Qw7;clear hN hB d Y k0 k1
 by_cases qs:(16:Int)<=(s.size:Int)
 ·go_enter func449,ntmps449
  go_wp2_with fail;go_loopg [5,6,32] 2 (fun gk s5 s6 s32 wr=>∃k:Nat,k+gk=2/\s5 = Ji ((s.size:Int)-(QAI s k:Int))/\s6=.bool (decide (QAI s k≠0))/\s32 = Ji (k:Int)/\BSt w0 wr G (.slice (some x) 0 v) (.slice (some y) 0 t) H c)
  case atStart=>exact⟨0,by omega,by simp[QAI],by simp[QAI],rfl,qk.o⟩
  case round=>
   obtain⟨k,hgk,rfl,rfl,rfl,hw⟩:=hrel;generalize wr=w at hw ⊢;have q:=Z hw;clear hw g2;cases gk with
   |zero=>
    obtain rfl:k=2:=by omega
    rw[QxZ]
    by_cases K:QiI s.data.toList=0
    ·have HT:=Z K
     rw[K];clear K;go_wp2;go_ret;exact⟨QbR (QrV s HT.o),q.o.bel⟩
    ·have I:decide (QiI s.data.toList≠0)=true:=qA K
     have E:(s.size:Int)-(QiI s.data.toList:Int)=(N:Int):=by have:=C.o;omega
     rw[I,E];clear I E K;go_wp2_with fail;have j:=World.rowIs_made w (Jb 0) N 5;have l:Jw w (w.alloc (.cells (madeCells #[Jb 0] N) 5)):=(qF _ _).alloc (qC _) _;generalize w.alloc (.cells (madeCells #[Jb 0] N) 5)=W0 at j l ⊢;clear T;go_loopg [13,14] s.size (fun gk s13 s14 wr=>∃k:Nat,k+gk=s.size/\s13 = Ji ((QaG (s.data.toList.take k)).length:Int)/\s14 = Ji (k:Int)/\wr.rowIs w.heap.size 5 N (Lib.Lz.bytes (QaG (s.data.toList.take k)))/\Jw w wr)
     case atStart=>exact⟨0,by omega,rfl,rfl,j,l⟩
     case round=>
      obtain⟨k,hgk,rfl,rfl,hr,hb⟩:=hrel;cases gk with
      |zero=>
       obtain rfl:k=s.size:=by omega
       have qb:=QrO hr (by rw[X.o,qX (by rw[Qab];exact qC _)])
       rw[qX (by rw[Qab];exact qC _)] at qb
       have qa:=Z hb;clear hr hb j l X;go_wp2;go_ret;exact⟨rfl,Qaa q.o.bel qa.o⟩
      |succ gm=>
       have V:k<s.size:=by omega
       have D:k<s.data.toList.length:=by rw[Qab];exact V
       have qf:(k:Int)<(s.size:Int):=by omega
       have a:=Qlq s.data.toList k D;have g:=QgT s.data.toList (k+1);have r:BsR wr G (.slice (some x) 0 v) (.slice (some y) 0 t) (Jl H 2 c):=World.rowIs.of_block q.o.reps (hb.block G (World.rowIs.lt q.o.reps));obtain⟨b,hbx⟩:∃b:UInt8,s[k]'V=b:=⟨_,rfl⟩;have m:s.data.toList[k]=b:=by rw[<-hbx];rfl
       rw[m] at a;have qi:(b.toNat:Int)<256:=by have:=UInt8.toNat_lt b;omega
       have Qak:Jx wr G b.toNat (bsF (.slice (some x) 0 v) (.slice (some y) 0 t) (Jl H 2 c) b.toNat):=World.rowIs.cell r (i:=b.toNat) (by omega)
       have qj:IntKind.i64.wrap ((k:Int)+1)=(k:Int)+1:=by rw[JR];omega
       by_cases d:Qm3 b=true
       ·rw[JK d,qT] at a
        have f:=Z a;have P:(QaG (s.data.toList.take k)).length<=N:=by rw[a] at g;rw[X.o];exact g
        obtain⟨x',cx',hv⟩:∃x' cx',bsF (.slice (some x) 0 v) (.slice (some y) 0 t) (Jl H 2 c) b.toNat=.slice (some x') 0 cx':=QmX d;rw[hv] at Qak;have n:=Z (qE hr hb);obtain⟨J,hJ⟩:∃J,(QaG (s.data.toList.take k)).length=J:=⟨_,rfl⟩;have z:=Z hJ;rw[hJ] at P ⊢;have L:(J:Int)<=(N:Int):=by omega
        have qc:IntKind.i64.wrap (J:Int)=(J:Int):=by rw[JR];have:=R.o;omega
        clear a g r m hv hr hb hJ j l d
        by_cases qd:N=J
        ·subst qd
         clear P L;go_wp2_with fail;go_region;go_wp2_with fail;go_roundg gm
         case measure=>omega
         case rel=>exact⟨k+1,by omega,by rw[f.o,z.o],rfl,by rw[f.o];exact n.o.1,n.o.2.drew⟩
        ·go_wp2_with fail
         go_region;go_wp2_with fail;go_roundg gm
         case measure=>omega
         case rel=>exact⟨k+1,by omega,by rw[f.o,z.o],rfl,by rw[f.o];exact n.o.1,n.o.2.drew⟩
       ·rw[JJ d] at a
        have f:=Z a;rw[QjL d] at Qak;obtain⟨J,hJ⟩:∃J,(QaG (s.data.toList.take k)).length=J:=⟨_,rfl⟩;have z:=Z hJ;have P:J<N:=by rw[a,qG,hJ] at g;rw[X.o];simp only[qH,List.length_nil] at g;omega
        have n:=Z (qE hr hb);rw[hJ];have L:(J:Int)<(N:Int):=by omega
        have qc:IntKind.i64.wrap ((J:Int)+1)=(J:Int)+1:=by rw[JR];have:=R.o;omega
        have a:=World.rowIs.cell hr P;have qo:=World.rowIs.frozen hr J;clear a g r m hr hb hJ j l d;have a:=World.rowIs.cell n.o.1 P;go_wp2_with fail;go_roundg gm
        case measure=>omega
        case rel=>exact⟨k+1,by omega,by rw[f.o,qG,z.o];rfl,rfl,by rw[f.o];exact QqW n.o.1 z.o,n.o.2.setCell (p:=(Ja w.heap.size J)) (qC _) _⟩
   |succ gm=>
    have qn:k=0\/k=1:=by omega
    have qh:s.data.toList.count 10+s.data.toList.count 13<=s.size:=by rw[<-Qxu];have:=C.o;omega
    have U:=qm.o 10 w;have S:=qm.o 13 w;unfold Lib.countByte at U S;have h:Hi (QAI s 0=0/\QAI s 1=s.data.toList.count 10/\QAI s 2=s.data.toList.count 10+s.data.toList.count 13):=Z ⟨rfl,rfl,rfl⟩;have w1:IntKind.i64.wrap (0-1) = -1:=by rw[JR];omega
    have qq:((⟨#[10]⟩:JA)[0]'(by decide)).toNat=10:=rfl
    have qr:((⟨#[13]⟩:JA)[0]'(by decide)).toNat=13:=rfl
    generalize s.data.toList.count 10=A at qh U h;generalize s.data.toList.count 13=B at qh S h;have qg:=Z U;have ql:=Z S;clear T qe U S;obtain⟨g2,g10,g13,k0,k1⟩:=q.o.cells;rcases qn with rfl|rfl
    ·rw[h.o.1]
     by_cases hA:A=0
     ·subst hA
      go_wp2_with (go_at_call 357;refine qg.o.mono ?_;rintro e w' ⟨rfl,rfl⟩);go_roundg gm
      case measure=>omega
      case rel=>exact⟨1,by omega,by rw[h.o.2.1];simp,by rw[h.o.2.1];rfl,rfl,q.o⟩
     ·have e1:((A:Int) != 0)=true:=by rw[bne_iff_ne];omega
      have e2:decide (A≠0)=true:=qA hA;have w2:IntKind.i64.wrap ((A:Int) * -1) = - (A:Int):=by rw[JR];omega
      have w3:IntKind.i64.wrap ((s.size:Int) + - (A:Int))=(s.size:Int)-(A:Int):=by rw[JR];omega
      go_wp2_with (go_at_call 357;refine qg.o.mono ?_;rintro e w' ⟨rfl,rfl⟩);go_quiet (fail);go_wp2_with fail;go_roundg gm
      case measure=>omega
      case rel=>exact⟨1,by omega,by rw[h.o.2.1],by rw[h.o.2.1,e2],rfl,q.o.drewN _⟩
    ·rw[h.o.2.1]
     by_cases hB:B=0
     ·subst hB
      go_wp2_with (go_at_call 357;refine ql.o.mono ?_;rintro e w' ⟨rfl,rfl⟩);go_roundg gm
      case measure=>omega
      case rel=>exact⟨2,by omega,by rw[h.o.2.2];rfl,by rw[h.o.2.2];simp,rfl,q.o⟩
     ·have e1:((B:Int) != 0)=true:=by rw[bne_iff_ne];omega
      have e2:decide (A+B≠0)=true:=qA (by omega)
      have w2:IntKind.i64.wrap ((B:Int) * -1) = - (B:Int):=by rw[JR];omega
      have w3:IntKind.i64.wrap ((s.size:Int)-(A:Int) + - (B:Int))=(s.size:Int)-((A+B:Nat):Int):=by rw[JR];omega
      go_wp2_with (go_at_call 357;refine ql.o.mono ?_;rintro e w' ⟨rfl,rfl⟩);go_quiet (fail);go_wp2_with fail;go_roundg gm
      case measure=>omega
      case rel=>exact⟨2,by omega,by rw[h.o.2.2,Int.natCast_add],by rw[h.o.2.2,e2],rfl,q.o.drewN _⟩
 ·go_enter func449,ntmps449
  go_wp2_with fail;go_loopg [5,6,10] s.size (fun gk s5 s6 s10 wr=>∃k:Nat,k+gk=s.size/\s5 = Ji ((s.size:Int)-(QiI (s.data.toList.take k):Int))/\s6=.bool (decide (QiI (s.data.toList.take k)≠0))/\s10 = Ji (k:Int)/\BSt w0 wr G (.slice (some x) 0 v) (.slice (some y) 0 t) H c)
  case atStart=>exact⟨0,by omega,by simp[QiI],by simp[QiI],rfl,qk.o⟩
  case round=>
   obtain⟨k,hgk,rfl,rfl,rfl,hw⟩:=hrel;generalize wr=w at hw ⊢;have q:=Z hw;clear hw g2;cases gk with
   |zero=>
    obtain rfl:k=s.size:=by omega
    rw[qX (by rw[Qab];exact qC _)]
    by_cases K:QiI s.data.toList=0
    ·have HT:=Z K
     rw[K];clear K;go_wp2;go_ret;exact⟨QbR (QrV s HT.o),q.o.bel⟩
    ·have I:decide (QiI s.data.toList≠0)=true:=qA K
     have E:(s.size:Int)-(QiI s.data.toList:Int)=(N:Int):=by have:=C.o;omega
     rw[I,E];clear I E K;go_wp2_with fail;have j:=World.rowIs_made w (Jb 0) N 5;have l:Jw w (w.alloc (.cells (madeCells #[Jb 0] N) 5)):=(qF _ _).alloc (qC _) _;generalize w.alloc (.cells (madeCells #[Jb 0] N) 5)=W0 at j l ⊢;clear T;go_loopg [13,14] s.size (fun gk s13 s14 wr=>∃k:Nat,k+gk=s.size/\s13 = Ji ((QaG (s.data.toList.take k)).length:Int)/\s14 = Ji (k:Int)/\wr.rowIs w.heap.size 5 N (Lib.Lz.bytes (QaG (s.data.toList.take k)))/\Jw w wr)
     case atStart=>exact⟨0,by omega,rfl,rfl,j,l⟩
     case round=>
      obtain⟨k,hgk,rfl,rfl,hr,hb⟩:=hrel;cases gk with
      |zero=>
       obtain rfl:k=s.size:=by omega
       have qb:=QrO hr (by rw[X.o,qX (by rw[Qab];exact qC _)])
       rw[qX (by rw[Qab];exact qC _)] at qb
       have qa:=Z hb;clear hr hb j l X;go_wp2;go_ret;exact⟨rfl,Qaa q.o.bel qa.o⟩
      |succ gm=>
       have V:k<s.size:=by omega
       have D:k<s.data.toList.length:=by rw[Qab];exact V
       have qf:(k:Int)<(s.size:Int):=by omega
       have a:=Qlq s.data.toList k D;have g:=QgT s.data.toList (k+1);have r:BsR wr G (.slice (some x) 0 v) (.slice (some y) 0 t) (Jl H 2 c):=World.rowIs.of_block q.o.reps (hb.block G (World.rowIs.lt q.o.reps));obtain⟨b,hbx⟩:∃b:UInt8,s[k]'V=b:=⟨_,rfl⟩;have m:s.data.toList[k]=b:=by rw[<-hbx];rfl
       rw[m] at a;have qi:(b.toNat:Int)<256:=by have:=UInt8.toNat_lt b;omega
       have Qak:Jx wr G b.toNat (bsF (.slice (some x) 0 v) (.slice (some y) 0 t) (Jl H 2 c) b.toNat):=World.rowIs.cell r (i:=b.toNat) (by omega)
       have qj:IntKind.i64.wrap ((k:Int)+1)=(k:Int)+1:=by rw[JR];omega
       by_cases d:Qm3 b=true
       ·rw[JK d,qT] at a
        have f:=Z a;have P:(QaG (s.data.toList.take k)).length<=N:=by rw[a] at g;rw[X.o];exact g
        obtain⟨x',cx',hv⟩:∃x' cx',bsF (.slice (some x) 0 v) (.slice (some y) 0 t) (Jl H 2 c) b.toNat=.slice (some x') 0 cx':=QmX d;rw[hv] at Qak;have n:=Z (qE hr hb);obtain⟨J,hJ⟩:∃J,(QaG (s.data.toList.take k)).length=J:=⟨_,rfl⟩;have z:=Z hJ;rw[hJ] at P ⊢;have L:(J:Int)<=(N:Int):=by omega
        have qc:IntKind.i64.wrap (J:Int)=(J:Int):=by rw[JR];have:=R.o;omega
        clear a g r m hv hr hb hJ j l d
        by_cases qd:N=J
        ·subst qd
         clear P L;go_wp2_with fail;go_region;go_wp2_with fail;go_roundg gm
         case measure=>omega
         case rel=>exact⟨k+1,by omega,by rw[f.o,z.o],rfl,by rw[f.o];exact n.o.1,n.o.2.drew⟩
        ·go_wp2_with fail
         go_region;go_wp2_with fail;go_roundg gm
         case measure=>omega
         case rel=>exact⟨k+1,by omega,by rw[f.o,z.o],rfl,by rw[f.o];exact n.o.1,n.o.2.drew⟩
       ·rw[JJ d] at a
        have f:=Z a;rw[QjL d] at Qak;obtain⟨J,hJ⟩:∃J,(QaG (s.data.toList.take k)).length=J:=⟨_,rfl⟩;have z:=Z hJ;have P:J<N:=by rw[a,qG,hJ] at g;rw[X.o];simp only[qH,List.length_nil] at g;omega
        have n:=Z (qE hr hb);rw[hJ];have L:(J:Int)<(N:Int):=by omega
        have qc:IntKind.i64.wrap ((J:Int)+1)=(J:Int)+1:=by rw[JR];have:=R.o;omega
        have a:=World.rowIs.cell hr P;have qo:=World.rowIs.frozen hr J;clear a g r m hr hb hJ j l d;have a:=World.rowIs.cell n.o.1 P;go_wp2_with fail;go_roundg gm
        case measure=>omega
        case rel=>exact⟨k+1,by omega,by rw[f.o,qG,z.o];rfl,rfl,by rw[f.o];exact QqW n.o.1 z.o,n.o.2.setCell (p:=(Ja w.heap.size J)) (qC _) _⟩
   |succ gm=>
    have V:k<s.size:=by omega
    have D:k<s.data.toList.length:=by rw[Qab];exact V
    have qf:(k:Int)<(s.size:Int):=by omega
    have a:=QAk s.data.toList k D;have M:QiI (s.data.toList.take k)<=k:=qD List.countP_le_length (List.length_take_le k _);obtain⟨b,hbx⟩:∃b:UInt8,s[k]'V=b:=⟨_,rfl⟩;have m:s.data.toList[k]=b:=by rw[<-hbx];rfl
    rw[m] at a;have qi:(b.toNat:Int)<256:=by have:=UInt8.toNat_lt b;omega
    have Qak:Jx w G b.toNat (bsF (.slice (some x) 0 v) (.slice (some y) 0 t) (Jl H 2 c) b.toNat):=World.rowIs.cell q.o.reps (i:=b.toNat) (by omega)
    have qj:IntKind.i64.wrap ((k:Int)+1)=(k:Int)+1:=by rw[JR];omega
    have w1:IntKind.i64.wrap (0-1) = -1:=by rw[JR];omega
    have f:=Z a;obtain⟨A,hA⟩:∃A,QiI (s.data.toList.take k)=A:=⟨_,rfl⟩;have HA:=Z hA;rw[hA] at M;rw[hA];have w3:IntKind.i64.wrap ((s.size:Int)-(A:Int) + -1)=(s.size:Int)-(A:Int) + -1:=by rw[JR];omega
    clear a m T qe hA
    by_cases d:Qm3 b=true
    ·obtain⟨x',cx',hv⟩:∃x' cx',bsF (.slice (some x) 0 v) (.slice (some y) 0 t) (Jl H 2 c) b.toNat=.slice (some x') 0 cx':=QmX d
     rw[hv] at Qak;have O:Hi (QiI (s.data.toList.take (k+1))=A+1):=Z (by rw[f.o,HA.o,JK d])
     clear hv d M;go_wp2_with fail;go_roundg gm
     case measure=>omega
     case rel=>exact⟨k+1,by omega,by rw[O.o];congr 1;omega,by rw[O.o];simp,rfl,q.o⟩
    ·rw[QjL d] at Qak
     have O:Hi (QiI (s.data.toList.take (k+1))=A):=Z (by rw[f.o,HA.o,JJ d,qM])
     clear d M;go_wp2_with fail;go_roundg gm
     case measure=>omega
     case rel=>exact⟨k+1,by omega,by rw[O.o],by rw[O.o],rfl,q.o⟩
theorem QnN(v:Value)(w:World):(Go.method 700 529 v "Replace").run prog w=.ok (449,v) w:=by kernel_rfl
theorem Qnt(s:JA)(b g c:Nat)(w:World)(q:Rp w b 0 0 .nilIface (Jl g 4 c))(B:Nat)(m:g<b)(hO:w.ownsRow B 9 1 (Jl g 4 c) 4 QfG)(E:s.size<=1000000) :
  Calls prog 331 #[Jp b,Jt s] w fun e w'=>e=.returned (Jt (bs (QaG s.data.toList)))/\Below b w w':=by
 have I:=Z (QBP b g c w q B m hO);have A:∀(fn:Fn) (first d:JW) (w:World),(Instr.makeFunc fn first d).run prog w=.ok (.func fn first d) w:=fun _ _ _ _=>rfl
 clear q hO;go_enter func331,ntmps331;have K:=QnN;go_wp2_with (first
  |(go_at_call 341;refine I.o.mono ?_;rintro e r ⟨rfl,⟨G,x,C,y,z,H,v,j,D,a,p,n,t⟩,h⟩;obtain⟨-,-,q3,-⟩:=j.cells;have J:=Z (QqC s G H v x y C z r a p n E);have k:=Z h;have i:=Z j.lt;clear j a p n h)
  |(go_at_call 449;refine J.o.mono ?_;rintro e L ⟨rfl,f⟩;have l:=Z f;clear f))
 go_ret;exact⟨rfl,k.o.trans (l.o.mono (Nat.le_of_lt i.o))⟩
theorem QjR(s:JA)(w:World)(n:s.size<=1000000) :
  Calls prog 313 #[Jt s] w (JB (Jt (bs (QaG s.data.toList))) w):=by
 have p:=Z (QnK w);go_enter func313,ntmps313;go_wp2_with (first
  |(go_at_call 330;refine p.o.mono ?_;rintro e m ⟨b,g,c,rfl,f,h,l,k,a⟩;have q:=Z (Qnt s b g c m l w.heap.size f k n);have i:=Z a;clear l k a)
  |(go_at_call 331;refine q.o.mono ?_;rintro e r ⟨rfl,d⟩;have j:=Z d;clear d))
 go_ret;exact⟨rfl,i.o.trans (j.o.mono h)⟩
theorem Qvj(s t:JA)(k b l:Nat)(c:atF s k=(b:Int))(a:(QaH s (b:Int)).size=l):s.extract 0 b++t++s.extract (b+l) s.size=bs (QoR s k t.data.toList):=by
 apply ByteArray.ext;apply Array.toList_inj.1;rw[Qai];unfold QoR;rw[c,a,Int.toNat_natCast,ByteArray.data_append,ByteArray.data_append,Array.toList_append,Array.toList_append,Go.Lib.extract_data,Go.Lib.extract_data];simp only[List.drop_zero,Nat.sub_zero]
 congr 1
 exact qX (by rw[JC,Qab];omega)
theorem QjQ(s t:JA)(k:Nat)(w:World)(A:s.size<=1000000)(y:t.size<=1000000)(z:k<=1000000) :
  Calls prog 312 #[Jt s,Ji (k:Int),Jt t] w (JB (Jt (bs (QoR s k t.data.toList))) w):=by
 have j:=Z (fun a w=>Qd9 s a w (by omega))
 obtain⟨b,hb,hbs⟩:=QAY s k;obtain⟨-,-,-,hl0⟩:=Quz s b hbs;obtain⟨l,hl⟩:∃l,(QaH s (b:Int)).size=l:=⟨_,rfl⟩;have h:=Qvj s t k b l hb hl;rw[hl] at hl0;have q:=Z h;have v:=Z hl;have g:=Z hb;have p:(b:Int)<=(s.size:Int):=by omega
 have x:(b:Int)+(l:Int)<=(s.size:Int):=by omega
 have n:IntKind.i64.wrap ((b:Int)+(l:Int))=(b:Int)+(l:Int):=by rw[JR];omega
 have D:(s.extract 0 b).size<=1000000:=by rw[ByteArray.size_extract];omega
 have B:(s.extract (b+l) s.size).size<=1000000:=by rw[ByteArray.size_extract];omega
 have c:=fun w=>run_string_add_sum (P:=prog) w (s.extract 0 b) t (by omega)
 have d:=fun w=>run_string_add_sum (P:=prog) w (s.extract 0 b++t) (s.extract (b+l) s.size) (by rw[ByteArray.size_append];omega)
 have C:((b:Int)+(l:Int)).toNat=b+l:=by omega
 clear h hl hb;go_enter func312,ntmps312;go_wp2_with fail;go_loopg [7,12] k (fun gk s7 s8 wr=>∃i:Nat,i+gk=k/\s7 = Ji (atF s i)/\s8 = Ji (i:Int)/\wr=w)
 case atStart=>exact⟨0,by omega,rfl,rfl,rfl⟩
 case round=>
  obtain⟨i,hgk,rfl,rfl,rfl⟩:=hrel;cases gk with
  |zero=>
   obtain rfl:i=k:=by omega
   rw[g.o];go_wp2_with (go_at_call 284;refine (j.o _ _).mono ?_;rintro e w' ⟨rfl,rfl⟩;have f:=v.o;generalize QaH s (b:Int)=LN at f);go_quiet (fail);go_wp2;go_ret;exact⟨QbR q.o,⟨rfl,rfl,rfl,qC _,fun _ _=>rfl⟩⟩
  |succ gm=>
   have m:(i:Int)<(k:Int):=by omega
   have r:IntKind.i64.wrap ((i:Int)+1)=(i:Int)+1:=by rw[JR];omega
   clear c d;go_wp2_with (go_at_call 284;refine (j.o _ _).mono ?_;rintro e w' ⟨rfl,rfl⟩);go_roundg gm
   case measure=>omega
   case rel=>exact⟨i+1,by omega,rfl,rfl,rfl⟩
def Anchor(R:Nat)(w:World):Prop:=∃wa,EnvF wa/\wa.heap.size=R/\Below R wa w
theorem Anchor.env{R:Nat}{w:World}(h:Anchor R w):EnvF w:=by
 obtain⟨wa,h1,rfl,h3⟩:=h;exact h1.below h3
theorem Anchor.step{R:Nat}{w w':World}(h:Anchor R w)(a:Below R w w'):Anchor R w':=by
 obtain⟨wa,h1,h2,h3⟩:=h;exact⟨wa,h1,h2,h3.trans a⟩
def HoldsLt(w:World)(R:Nat)(v:Value)(xs:JM):Prop:=
 ∃a c,v=.slice a xs.length c/\xs.length<=c/\(xs≠[]->∃b o,a=some (Ja b o)/\b<R/\∀j (hj:j<xs.length),w.cell? (Ja b (o+j))=some (Jt (bs xs[j])))
theorem HoldsLt.holds{w:World}{R:Nat}{v:Value}{xs:JM}(h:HoldsLt w R v xs)(d:R<=w.heap.size):HoldsS w v xs:=by
 obtain⟨a,c,h1,h2,h3⟩:=h;exact⟨a,c,h1,h2,fun hn=>let ⟨b,o,e1,e2,e3⟩:=h3 hn;⟨b,o,e1,qK e2 d,e3⟩⟩
theorem HoldsLt.step{w w':World}{R:Nat}{v:Value}{xs:JM}(h:HoldsLt w R v xs)(d:Below R w w'):HoldsLt w' R v xs:=by
 obtain⟨a,c,h1,h2,h3⟩:=h;exact⟨a,c,h1,h2,fun hn=>let ⟨b,o,e1,e2,e3⟩:=h3 hn;⟨b,o,e1,e2,fun j hj=>(d.cell (p:=(Ja b (o+j))) e2).trans (e3 j hj)⟩⟩
theorem HoldsLt.of{w:World}{v:Value}{xs:JM}(h:HoldsS w v xs):HoldsLt w w.heap.size v xs:=h
def QeR:JM->Nat
 |[]=>0
 |l :: t=>if QaT l≠0 then QaT l else QeR t
def QbZ(ls:JM):List (List UInt8×JL):=ls.map fun l=>(QaX l,Qbc l)
theorem Qoe(xs:JM):∀k,(∀j (a:j<xs.length),j<k->QaT xs[j]=0)->QeR xs=QeR (xs.drop k):=by
 induction xs with
 |nil=>intro k _;simp
 |cons x t ih=>
  intro k h;cases k with
  |zero=>rfl
  |succ k=>
   have b:=h 0 (by simp) (by omega)
   show (if QaT x≠0 then QaT x else QeR t)=QeR (t.drop k)
   rw[JJ (fun hh=>hh b)]
   exact ih k (fun j a hk=>h (j+1) (by simp;omega) (by omega))
theorem QwM(xs:JM)(k:Nat)(a:k<xs.length)(h:∀j (c:j<xs.length),j<k->QaT xs[j]=0)(b:QaT xs[k]≠0):QeR xs=QaT xs[k]:=by
 rw[Qoe xs k h,List.drop_eq_getElem_cons a];exact JK b
theorem QrF(xs:JM)(h:∀j (a:j<xs.length),QaT xs[j]=0):QeR xs=0:=by
 rw[Qoe xs xs.length (fun j a _=>h j a),List.drop_length];rfl
theorem Qod(xs:JM)(k:Nat)(a:k<xs.length):QbZ (xs.take (k+1))=QbZ (xs.take k)++[(QaX xs[k],Qbc xs[k])]:=by
 unfold QbZ;rw[qV a,qY];rfl
theorem Qnj{i:Array Oper}{o:Oper}{a:Act}{K:Act->World->Prop}{Q:Exit->Act->World->Prop}{E:Prop}(W:World)(d:o.guard=none)(s x:Operand)
  (l:o.op=.call { callee:=.builtin .append,args:=#[s,x],argTypes:=#[357,357] })
  (base:Nat) (v:Value) (c:List (List UInt8×JL)) (q:a.eval s=v) (k:W.ownsRow base 403 2 v c.length (QaB c))
  (B:Nat) (f:JL×JL) (p:W.heap[B]?=some (.cells #[Jt (bs f.1),Jt (bs f.2)] 403 (0,0))) (hx:a.eval x = Jl B 1 1) (r:c.length<2147483648) (j:base<=W.heap.size)
  (h:∀g b w',w'.ownsRow base 403 2 (Jl g (c.length+1) b) (c++[f]).length (QaB (c++[f]))->W.grownBy w' v.ownBlock->K (a.put o.dst (Jl g (c.length+1) b)) w') :
  if Region.wanted o (yielded i a.tmps)=true then Oper.wp prog o a W K Q else E:=by
 obtain⟨i0,hi,hz0,hz1,hz2⟩:=info_parts Qld;refine step_append_lies W d s x 357 l base 403 i0 _ 2 32 underlying357 hi hz0 hz1 hz2 rfl (by decide) v c.length (QaB c) q k (Ja B 0) 1 1 [Jt (bs f.1),Jt (bs f.2)] hx rfl (World.news_of_block p) (by simp[Value.oneCell']) (by decide) (by unfold maxLen;omega) (by omega) j _ rfl ?_
 intro g b w' n m _ _;refine h g b w' ?_ m;rw[qG,QgO];exact n
theorem Qlg{w w':World}{v:Value}{base R:Nat}{e:JT}{size n:Nat}{xs:JV}(c:w.grownBy w' v.ownBlock)(b:w.ownsRow base e size v n xs)(d:R<base)(a:R<w.heap.size):w'.heap[R]?=w.heap[R]?:=
 c.block R a (fun h=>by have:=(b.lt R h.symm).1;omega)
def QAG(R:Nat)(W w':World)(l v p h a b:Value):Prop:=RdB w' R l v p h a b/\W.grownBy w' (some R)
theorem QuG{A:Array Oper}{o:Oper}{a:Act}{K:Act->World->Prop}{Q:Exit->Act->World->Prop}{E:Prop}{R base:Nat}(w0:World)(O:w0.heap.size=base)(t:R<base){l v p h x y:Value}{q:World}{d:List (List UInt8×JL)}(W:World)(r:o.guard=none)(s z:Operand)
  (L:o.op=.call { callee:=.builtin .append,args:=#[s,z],argTypes:=#[357,357] })
  (n:RdB q R l v p h x y) (D:q.ownsRow base 403 2 v d.length (QaB d)) (m:w0.grownBy q (some R)) (M:a.eval s=v) (N:d.length<2147483648) (c:Jw q W)
  (B:Nat) (f:JL×JL) (P:W.heap[B]?=some (.cells #[Jt (bs f.1),Jt (bs f.2)] 403 (0,0))) (hx:a.eval z = Jl B 1 1)
  (I:∀g cap w',w'.ownsRow base 403 2 (Jl g (d.length+1) cap) (d++[f]).length (QaB (d++[f]))->w'.cell? (Ja R 1)=some v->w'.frozen? (Ja R 1)=false->QAG R w0 w' l v p h x y->K (a.put o.dst (Jl g (d.length+1) cap)) w') :
  if Region.wanted o (yielded A a.tmps)=true then Oper.wp prog o a W K Q else E:=by
 have j:=Qbj D c;have G:=n.lt;have J:=c.size;have H:=m.size;refine Qnj W r s z L base v d M j B f P hx N (by omega) (fun g cap w' h1 h2=>?_)
 have i:RdB w' R l v p h x y:=(Qlg h2 j t (by omega)).trans (n.below c)
 have b:=m.below c;have C:w0.grownBy w' (some R):=⟨h2.os.trans b.os,h2.tape.trans b.tape,h2.output.trans b.output,qD b.size h2.size,fun k hk hne=>
  (h2.block k (qK hk b.size) (fun h=>by have:=(j.lt k h.symm).1;omega)).trans (b.block k hk hne)⟩
 exact I g cap w' h1 i.cells.2.1 i.free.2.1 ⟨i,C⟩
theorem QvF{w w':World}{R B:Nat}{e:JT}{k:Nat}{v:Value}{n:Nat}{xs:JV}(h:w.ownsRow B e k v n xs)(g:w.grownBy w' (some R))(a:R<B):w'.ownsRow B e k v n xs:=by
 refine⟨h.1,?_⟩;rcases h.2 with h0|⟨b,cap,cur,e1,e2,e3,e4⟩
 ·exact .inl h0
 ·exact .inr ⟨b,cap,cur,e1,e2,(g.block b (gsi e3).1 (fun e=>by have:=qS e;omega)).trans e3,e4⟩
def QxH(R:Nat)(w:World)(lv p h a b:Value)(ls:JM)(e:Ending)(w':World):Prop:=
 e=.returned (Ji (QeR ls.tail:Nat))/\(∃fv,RdB w' R lv fv p h a b/\(QeR ls.tail=0->w'.ownsRow w.heap.size 403 2 fv (QbZ ls.tail).length (QaB (QbZ ls.tail))))/\w.grownBy w' (some R)
theorem Qxv(R:Nat)(w:World)(lv p h a b:Value)(y:JM)(M:RdB w R lv (.slice none 0 0) p h a b)(hl:HoldsLt w R lv y)(hne:y≠[])(hlen:y.length<=1000000)(hx:∀x∈y,x.length<=1000000)(hA:Anchor R w) :
  Calls prog 309 #[Jp R] w (QxH R w lv p h a b y):=by
 obtain⟨k0,-,-,-,-,-⟩:=M.cells;have s:=M.lt;obtain⟨av,c,rfl,hc,hh⟩:=hl;obtain⟨B,o,rfl,hBl,Qak⟩:=hh hne;obtain⟨O,ts,rfl⟩:∃x ts,y=x :: ts:=by cases y with
  |nil=>exact JN rfl hne
  |cons x ts=>exact⟨x,ts,rfl⟩
 have HC:Hi (∀j (l:j<ts.length),w.cell? (Ja B (o+1+j))=some (Jt (bs ts[j]))):=Z (fun j l=>by
  have:=Qak (j+1) (by simp;omega)
  rw[show o+1+j=o+(j+1) by omega];exact this)
 have HX:Hi (∀x∈ts,x.length<=1000000):=Z (fun x hxx=>hx x (JY _ hxx))
 have HA:=Z hA;have HR:=Z M;have t:((O :: ts).length:Nat)=ts.length+1:=rfl;rw[t] at hc hlen k0;have I:Hi (RdB w R (.slice (some (Ja B o)) (ts.length+1) c) (.slice none 0 0) p h a b):=HR;have D:Hi ((O :: ts).tail=ts):=Z rfl;rw[t];generalize (O :: ts)=LS at D ⊢;clear Qak hh hx hA M hne t HR;have qg:ts.length<=1000000:=by omega
 by_cases h1:c=1
 ·have qb:ts = []:=List.length_eq_zero_iff.1 (by omega)
  subst qb;subst h1;have n:Hi (QeR LS.tail=0/\QbZ LS.tail = []):=Z (by rw[D.o];exact⟨rfl,rfl⟩)
  clear D HC HX;go_enter func309,ntmps309;go_wp2_with fail;refine wp_loop_rounds 1 ?_;rw[rounds_succ];go_wp2;go_ret;exact⟨by rw[n.o.1];rfl,⟨_,I.o,fun _=>by rw[n.o.2];exact JZ _ _ _ _⟩,GR.refl _ _⟩
 ·have qh:1<c:=by omega
  go_enter func309,ntmps309;go_wp2_with fail;go_loopg [13] ts.length (fun gk s13 wr=>∃(k:Nat) (N:Value),s13 = Ji (k:Int)/\k+gk=ts.length/\RdB wr R (.slice (some (Ja B o)) (ts.length+1) c) N p h a b/\wr.ownsRow w.heap.size 403 2 N (QbZ (ts.take k)).length (QaB (QbZ (ts.take k)))/\w.grownBy wr (some R)/\Hi (∀j (l:j<ts.length),j<k->QaT ts[j]=0))
  case atStart=>exact⟨0,_,by simp,by omega,I.o,by rw[List.take_zero];exact JZ _ _ _ _,GR.refl _ _,Z (fun j l h=>JN h (JH _))⟩
  case round=>
   obtain⟨k,N,rfl,hgk,hRr,QE2,hgr,HK⟩:=hrel;have v:=Z hgr;have q:=hgr.toBelow (Nat.le_of_lt s);clear hgr;have HO:=Z QE2;have A:=Z hRr;clear QE2 hRr
   by_cases L:k<ts.length
   ·obtain⟨g',rfl⟩:∃g',gk=g'+1:=⟨gk-1,by omega⟩
    have tk:decide ((k:Int)<(ts.length:Int))=true:=qA (by omega)
    have c0:=(q.cell (p:=(Ja B (o+1+k))) hBl).trans (HC.o k L);obtain⟨S,hS⟩:∃S,bs ts[k]=S:=⟨_,rfl⟩;have J:S.data.toList=ts[k]:=by rw[<-hS,Qai]
    have U:S.size<=1000000:=by rw[<-hS,Qaq];exact HX.o _ (JG L)
    rw[hS] at c0;have n:=Z (fun w hE=>Qh1 S w U hE)
    rw[J] at n;have HE:=Z (HA.o.step q).env;have P:Hi ((QbZ (ts.take k)).length<2147483648):=Z (by unfold QbZ;rw[qQ,qW];omega)
    clear hS J
    by_cases E:QaT ts[k]=0
    ·rw[E] at n
     have qa:Hi (∀j (l:j<ts.length),j<k+1->QaT ts[j]=0):=Z (fun j l h=>by
      by_cases e:j=k
      ·subst e;exact E
      ·exact HK.o j l (by omega))
     have Y:Hi (QbZ (ts.take (k+1))=QbZ (ts.take k)++[(QaX ts[k],Qbc ts[k])]):=Z (Qod ts k L);clear E HK;go_wp2_with fail;refine (n.o _ HE.o).mono ?_;rintro e m ⟨rfl,d⟩;have f:=Z (A.o.below d);have K:=Z (Qbj HO.o d);have r:=Z (v.o.below d);have H:=f.o.lt;clear d q c0;go_wp2_with fail;have i:RdB (m.alloc (.cells #[Jt (bs (QaX ts[k])),Jt (bs (Qbc ts[k]))] 403)) R (.slice (some (Ja B o)) (ts.length+1) c) N p h a b:=f.o.below ((qF _ _).alloc (qC _) _);have C:=Qbj K.o ((qF m.heap.size m).alloc (qC _) (.cells #[Jt (bs (QaX ts[k])),Jt (bs (Qbc ts[k]))] 403));have z:=r.o.below ((qF m.heap.size m).alloc (qC _) (.cells #[Jt (bs (QaX ts[k])),Jt (bs (Qbc ts[k]))] 403));obtain⟨j0,j1⟩:=QAV m (Jt (bs (QaX ts[k]))) (Jt (bs (Qbc ts[k]))) 403;have l:m.heap.size<(m.alloc (.cells #[Jt (bs (QaX ts[k])),Jt (bs (Qbc ts[k]))] 403)).heap.size:=by simp
     generalize m.alloc (.cells #[Jt (bs (QaX ts[k])),Jt (bs (Qbc ts[k]))] 403)=W2 at i C z j0 j1 l ⊢;have W:=Z i;have X:=Z C;have V:=Z z;obtain⟨-,k1,-,-,-,-⟩:=i.cells;obtain⟨-,f1,-,-,-,-⟩:=i.free;have qc:=i.lt;clear i C z f K r;go_region_law (refine QuG w rfl s _ rfl _ _ rfl W.o X.o V.o rfl P.out ?_ W2.heap.size (QaX ts[k],Qbc ts[k]) ?_ rfl ?_;exact ((qF _ _).alloc (qC _) _).drew;exact JI W2 _;intro g qf w3 T qd qe G)
     all_goals
      go_wp2_with fail;go_roundg g'
      case measure=>omega
      case rel=>
       refine⟨k+1,_,by simp,by omega,G.1.set1 _,?_,G.2.set 1 _,qa⟩
       rw[Y.o];exact ownsRow_setCell_below T (a:=(Ja R 1)) s _
    ·have HF:Hi (QeR LS.tail=QaT ts[k]/\QeR LS.tail≠0):=Z (by rw[D.o,QwM ts k L HK.o E];exact⟨rfl,E⟩)
     have tz:((QaT ts[k]:Int) != 0)=true:=by rw[bne_iff_ne];omega
     clear E HK;go_wp2_with fail;refine (n.o _ HE.o).mono ?_;rintro e m ⟨rfl,d⟩;have f:=Z (A.o.below d);have r:=Z (v.o.below d);have H:=f.o.lt;clear d q c0;go_wp2;go_ret;exact⟨by rw[HF.o.1];rfl,⟨_,f.o.below ((qF _ _).alloc (qC _) _),fun h=>JN h HF.o.2⟩,r.o.below ((qF _ _).alloc (qC _) _)⟩
   ·obtain rfl:k=ts.length:=by omega
    have tk:decide ((ts.length:Int)<(ts.length:Int))=false:=qB (by omega)
    have n:Hi (QeR LS.tail=0/\QbZ LS.tail=QbZ (ts.take ts.length)):=Z (by rw[D.o,List.take_length];exact⟨QrF ts (fun j l=>HK.o j l l),rfl⟩)
    clear D HK;go_wp2;go_ret;exact⟨by rw[n.o.1];rfl,⟨_,A.o,fun _=>by rw[n.o.2];exact HO.o⟩,v.o⟩
def Qco:JL:=[104,111,115,116]
def Qa1:JL:=[114,97,110,103,101]
def QoO(fs:List (List UInt8×JL)):Nat:=if Qde fs Qco≠0 then Qde fs Qco else if Qfb (QbB fs Qco)=false then 2 else 0
def Qg8(fs:List (List UInt8×JL)):Nat:=if Qde fs Qa1≠0 then Qde fs Qa1 else QbW (QbB fs Qa1)
def QAu(R:Nat)(w:World)(lv fv p a b:Value)(fs:List (List UInt8×JL))(e:Ending)(w':World):Prop:=
 e=.returned (Ji (QoO fs:Nat))/\RdB w' R lv fv p (Jt (bs (QbB fs Qco))) a b/\w.grownBy w' (some R)
def QAv(R:Nat)(w:World)(lv fv p h:Value)(fs:List (List UInt8×JL))(e:Ending)(w':World):Prop:=
 e=.returned (Ji (Qg8 fs:Nat))/\(∃a b,RdB w' R lv fv p h a b/\(Qg8 fs=0->a = Ji (Qc9 (QbB fs Qa1))/\b = Ji (Qc8 (QbB fs Qa1))))/\w.grownBy w' (some R)
theorem QCr(v:Value)(a:List (List UInt8×JL))(n:JA)(k:JL)(c:n.data.toList=k)(w:World)(b:HoldsF w v a)(hlen:a.length<=1000000) :
  Calls prog 239 #[v,Jt n] w (JB (.tuple #[Jt (bs (QbB a k)),Ji (Qde a k)]) w):=by
 subst c;exact Qll v a n w b hlen
theorem QAo(R:Nat)(w:World)(lv y p a b:Value)(D:JA)(f:List (List UInt8×JL))(x:RdB w R lv y p (Jt D) a b)(A:HoldsF w y f)(hlen:f.length<=1000000) :
  Calls prog 310 #[Jp R] w (QAu R w lv y p a b f):=by
 obtain⟨-,k1,-,-,-,-⟩:=x.cells;have q:=Z (QCr y f ⟨#[104,111,115,116]⟩ Qco rfl w A hlen);obtain⟨H,hH⟩:∃H,bs (QbB f Qco)=H:=⟨_,rfl⟩;have s:H.data.toList=QbB f Qco:=by rw[<-hH,Qai]
 have t:=Z (fun w=>Qke H w)
 rw[s] at t;rw[hH] at q;have m:=Z hH;have z:=Z x;have B:=x.lt;clear x A hH s
 by_cases l:Qde f Qco=0
 ·rw[l] at q
  cases n:Qfb (QbB f Qco) with
  |false=>
   rw[n] at t;have r:Hi (QoO f=2):=Z (by unfold QoO;rw[JJ (fun h=>h l),JK n])
   clear l n;go_enter func310,ntmps310;go_wp2_with fail;refine q.o.mono ?_;rintro e v ⟨rfl,d⟩;have c:=Z (z.o.below d);obtain⟨-,-,-,k3,-,-⟩:=c.o.cells;obtain⟨-,-,-,f3,-,-⟩:=c.o.free;have i:=Z d;clear d k1;go_wp2_with fail;have g:=Z (c.o.set3 (Jt H));have j:=Z (((GR.refl R w).below i.o).set 3 (Jt H));generalize v.setCell (Ja R 3) (Jt H)=w2 at g j ⊢;refine (t.o _).mono ?_;rintro e C ⟨rfl,k⟩;go_wp2;go_ret;exact⟨by rw[r.o];rfl,by rw[m.o];exact g.o.below k,j.o.below k⟩
  |true=>
   rw[n] at t;have r:Hi (QoO f=0):=Z (by unfold QoO;rw[JJ (fun h=>h l),JJ (by rw[n];decide)])
   clear l n;go_enter func310,ntmps310;go_wp2_with fail;refine q.o.mono ?_;rintro e v ⟨rfl,d⟩;have c:=Z (z.o.below d);obtain⟨-,-,-,k3,-,-⟩:=c.o.cells;obtain⟨-,-,-,f3,-,-⟩:=c.o.free;have i:=Z d;clear d k1;go_wp2_with fail;have g:=Z (c.o.set3 (Jt H));have j:=Z (((GR.refl R w).below i.o).set 3 (Jt H));generalize v.setCell (Ja R 3) (Jt H)=w2 at g j ⊢;refine (t.o _).mono ?_;rintro e C ⟨rfl,k⟩;go_wp2;go_ret;exact⟨by rw[r.o];rfl,by rw[m.o];exact g.o.below k,j.o.below k⟩
 ·have r:Hi (QoO f=Qde f Qco):=Z (by unfold QoO;rw[JK l])
  have E:((Qde f Qco:Int) != 0)=true:=by rw[bne_iff_ne];omega
  generalize Qde f Qco=Zq at q r E;clear l;go_enter func310,ntmps310;go_wp2_with fail;refine q.o.mono ?_;rintro e v ⟨rfl,d⟩;have c:=Z (z.o.below d);obtain⟨-,-,-,k3,-,-⟩:=c.o.cells;obtain⟨-,-,-,f3,-,-⟩:=c.o.free;have i:=Z d;clear d k1;go_wp2;go_ret;exact⟨by rw[r.o];rfl,by rw[m.o];exact c.o.set3 _,((GR.refl R w).below i.o).set 3 _⟩
theorem QAp(R:Nat)(w:World)(lv n p h:Value)(C b0:Int)(b:List (List UInt8×JL))(m:RdB w R lv n p h (Ji C) (Ji b0))(v:HoldsF w n b)(hlen:b.length<=1000000)(x:(QbB b Qa1).length<=1000000)(s:Anchor R w) :
  Calls prog 311 #[Jp R] w (QAv R w lv n p h b):=by
 obtain⟨-,k1,-,-,-,-⟩:=m.cells;have j:=Z (QCr n b ⟨#[114,97,110,103,101]⟩ Qa1 rfl w v hlen);obtain⟨H,hH⟩:∃H,bs (QbB b Qa1)=H:=⟨_,rfl⟩;have l:H.data.toList=QbB b Qa1:=by rw[<-hH,Qai]
 have y:=Z (fun w hE=>Qnu H w (by rw[<-hH,Qaq];exact x) hE)
 rw[l] at y;rw[hH] at j;have t:=Z m;have D:=Z s.env;have A:=m.lt;clear m v hH l x s
 by_cases i:Qde b Qa1=0
 ·rw[i] at j
  have k:Hi (Qg8 b=QbW (QbB b Qa1)):=Z (by unfold Qg8;rw[JJ (fun h=>h i)])
  clear i;go_enter func311,ntmps311;go_wp2_with fail;refine j.o.mono ?_;rintro e z ⟨rfl,a⟩;have d:=Z (t.o.below a);have f:=Z a;have r:=Z (D.o.below a);clear a k1;go_wp2_with fail;refine (y.o _ r.o).mono ?_;rintro e E ⟨rfl,g⟩;have c:=Z (d.o.below g);obtain⟨-,-,-,-,k4,k5⟩:=c.o.cells;obtain⟨-,-,-,-,f4,f5⟩:=c.o.free;have q:=Z (Qaa f.o g);clear g;go_wp2;go_ret;exact⟨by rw[k.o];rfl,⟨_,_,c.o.set45 _ _,fun _=>⟨rfl,rfl⟩⟩,(((GR.refl R w).below q.o).set 4 _).set 5 _⟩
 ·have k:Hi (Qg8 b=Qde b Qa1/\Qg8 b≠0):=Z (by unfold Qg8;rw[JK i];exact⟨rfl,i⟩)
  have B:((Qde b Qa1:Int) != 0)=true:=by rw[bne_iff_ne];omega
  generalize Qde b Qa1=Zq at j k B;clear i;go_enter func311,ntmps311;go_wp2_with fail;refine j.o.mono ?_;rintro e z ⟨rfl,a⟩;have d:=Z (t.o.below a);have f:=Z a;clear a k1;go_wp2;go_ret;exact⟨by rw[k.o.1];rfl,⟨_,_,d.o,fun h=>JN h k.o.2⟩,(GR.refl R w).below f.o⟩
theorem Qnd(s:JA)(a:Int):(QaH s a).data.toList.length<=256:=by
 unfold QaH;split
 ·rename_i h
  have:=(QDl (s.data.toList.drop a.toNat) 0 (by omega)).2.2.1
  rw[Qab,ByteArray.size_extract];unfold QbT;omega
 ·exact qL _
theorem Qp6(s:JA):∀(f:Nat) (a:Int) (xs:JM),(∀x∈xs,x.length<=256)->xs.length<=17->(∀x∈(Qc6 f s a xs).1,x.length<=256)/\(Qc6 f s a xs).1.length<=17:=by
 intro f
 induction f with
 |zero=>intro a xs _ _;exact⟨fun x h=>by simp[Qc6] at h,by simp[Qc6]⟩
 |succ f ih=>
  intro a xs b c;unfold Qc6;split
  ·exact⟨fun x h=>by simp at h,by simp⟩
  ·split
   ·exact⟨b,c⟩
   ·split
    ·exact⟨fun x h=>by simp at h,by simp⟩
    ·rename_i d
     refine ih _ _ (fun x hx=>?_) (by rw[qG,List.length_singleton];omega)
     rw[J1,J2] at hx;rcases hx with hx|rfl
     ·exact b x hx
     ·exact Qnd s a
theorem QcB(s:JA):(∀x∈(Qaf s).1,x.length<=256)/\(Qaf s).1.length<=17:=Qp6 s 18 0 [] (fun x h=>by simp at h) (by decide)
theorem Qk0(l:JL):(Qbc l).length<=l.length:=by
 unfold Qbc;split
 ·unfold Qem
  have:=QlE (l.drop ((Qaw l).length+1));rw[JC] at this;omega
 ·exact qL _
theorem QzE(a:List (List UInt8×JL))(k:JL):QbB a k = []\/∃f∈a,QbB a k=f.2:=by
 unfold QbB;split
 ·rename_i v h
  right;have b:v∈QfI a k:=by rw[h];exact List.mem_singleton.2 rfl
  unfold QfI at b;obtain⟨f,hf,rfl⟩:=List.mem_map.1 b;exact⟨f,(List.mem_filter.1 hf).1,rfl⟩
 ·exact .inl rfl
theorem QrC(a:JM)(k:JL)(h:∀x∈a,x.length<=256):(QbB (QbZ a) k).length<=256:=by
 rcases QzE (QbZ a) k with e|⟨f,hf,e⟩
 ·rw[e];exact qL _
 ·rw[e]
  unfold QbZ at hf;obtain⟨x,hx,rfl⟩:=List.mem_map.1 hf;exact qD (Qk0 x) (h x hx)
def lnE(ls:JM):Nat:=if QcI ls≠0 then QcI ls else if QeR ls.tail≠0 then QeR ls.tail else if QoO (QbZ ls.tail)≠0 then QoO (QbZ ls.tail) else Qg8 (QbZ ls.tail)
def Qih(s:JA):Nat:=if (Qaf s).2.2≠0 then (Qaf s).2.2 else lnE (Qaf s).1
def QcZ(s:JA):JL:=if Qih s=0 then QiM (Qaf s).1 else []
def Qc0(s:JA):JL:=if Qih s=0 then QbB (QbZ (Qaf s).1.tail) Qco else []
def QoU(s:JA):Int:=if Qih s=0 then Qc9 (QbB (QbZ (Qaf s).1.tail) Qa1) else 0
def QoT(s:JA):Int:=if Qih s=0 then Qc8 (QbB (QbZ (Qaf s).1.tail) Qa1) else 0
def QoS(s:JA):Int:=if Qih s=0 then (Qaf s).2.1 else 0
def QCX(s:JA):Value:=.tuple #[.agg #[Jt (bs (QcZ s)),Jt (bs (Qc0 s)),Ji (QoU s),Ji (QoT s)],Ji (QoS s),Ji (Qih s:Nat)]
theorem Qg1(s:JA)(e:Nat)(h:Qih s=e)(b:e≠0):QCX s=.tuple #[.agg #[Jt ⟨#[]⟩,Jt ⟨#[]⟩,Ji 0,Ji 0],Ji 0,Ji e]:=by
 have a:Qih s≠0:=by rw[h];exact b
 unfold QCX QcZ Qc0 QoU QoT QoS;rw[JJ a,JJ a,JJ a,JJ a,JJ a,h];rfl
structure PSt(w:World)(R:Nat)(lv:Value)(ls:JM)(wx:World):Prop where
 anc:Anchor R wx
 hold:HoldsLt wx R lv ls
 fs:wx.heap[R+1]?=some (.cells #[.func (.func 308) #[] #[],.func (.func 309) #[] #[],.func (.func 310) #[] #[],.func (.func 311) #[] #[]] 462 (0,0))
 res:wx.heap[w.heap.size]?=some (.cells #[Jt ⟨#[]⟩,Jt ⟨#[]⟩,Ji 0,Ji 0] 142 (0,0))
 bel:Jw w wx
 Rlt:w.heap.size<R
theorem PSt.lt{w wx:World}{R:Nat}{lv:Value}{a:JM}(h:PSt w R lv a wx):R+1<wx.heap.size:=(gsi h.fs).1
theorem PSt.keep{w wx b:World}{R:Nat}{lv:Value}{d:JM}(h:PSt w R lv d wx)(g:wx.grownBy b (some R)):PSt w R lv d b:=by
 have f:=h.lt;have a:=g.toBelow (by omega)
 have c:=h.Rlt;exact⟨h.anc.step a,h.hold.step a,(g.block (R+1) f (by simp)).trans h.fs,(g.block w.heap.size (by omega) (fun e=>by have:=qS e;omega)).trans h.res,h.bel.trans (a.mono (Nat.le_of_lt c)),c⟩
theorem PSt.alloc{w wx:World}{R:Nat}{lv:Value}{a:JM}(h:PSt w R lv a wx)(o:Obj):PSt w R lv a (wx.alloc o):=
 h.keep ((GR.refl R wx).below ((qF _ _).alloc (qC _) o))
theorem RdB.alloc{w:World}{R:Nat}{l f p h a b:Value}(k:RdB w R l f p h a b)(o:Obj):RdB (w.alloc o) R l f p h a b:=k.below ((qF _ _).alloc (qC _) o)
theorem PSt.cells{w wx:World}{R:Nat}{lv:Value}{a:JM}(h:PSt w R lv a wx) :
  wx.cell? (Ja (R+1) 0)=some (.func (.func 308) #[] #[])/\wx.cell? (Ja (R+1) 1)=some (.func (.func 309) #[] #[])/\wx.cell? (Ja (R+1) 2)=some (.func (.func 310) #[] #[])/\wx.cell? (Ja (R+1) 3)=some (.func (.func 311) #[] #[]):=by
 have k:=h.fs;refine⟨?_,?_,?_,?_⟩<;>(unfold World.cell?;rw[k];rfl)
theorem Qhu{w:World}{b:Nat}{x y z u:Value}{t:JT}(k:w.heap[b]?=some (.cells #[x,y,z,u] t (0,0))) :
  (w.cell? (Ja b 0)=some x/\w.cell? (Ja b 1)=some y/\w.cell? (Ja b 2)=some z/\w.cell? (Ja b 3)=some u)/\(w.frozen? (Ja b 0)=false/\w.frozen? (Ja b 1)=false/\w.frozen? (Ja b 2)=false/\w.frozen? (Ja b 3)=false):=by
 refine⟨⟨?_,?_,?_,?_⟩,⟨?_,?_,?_,?_⟩⟩<;>first|(unfold World.cell?;rw[k];rfl)|(unfold World.frozen?;rw[k];rfl)
theorem PSt.start{w a:World}{lv:Value}{f:JM}(g:EnvF a)(h:HoldsLt a a.heap.size lv f)(d:Below (w.alloc (.cells #[Jt ⟨#[]⟩,Jt ⟨#[]⟩,Ji 0,Ji 0] 142)).heap.size (w.alloc (.cells #[Jt ⟨#[]⟩,Jt ⟨#[]⟩,Ji 0,Ji 0] 142)) a)(o:Obj) :
  PSt w a.heap.size lv f ((a.alloc o).alloc (.cells #[.func (.func 308) #[] #[],.func (.func 309) #[] #[],.func (.func 310) #[] #[],.func (.func 311) #[] #[]] 462)):=by
 have b:Jw a ((a.alloc o).alloc (.cells #[.func (.func 308) #[] #[],.func (.func 309) #[] #[],.func (.func 310) #[] #[],.func (.func 311) #[] #[]] 462)):=((qF _ _).alloc (qC _) o).alloc (by simp) _
 have c:w.heap.size<a.heap.size:=by have:=d.size;simp at this;omega
 refine⟨⟨a,g,rfl,b⟩,h.step b,heap_alloc2_new a o _,?_,(QbC w _ _ _ _ _).trans ((d.mono (by simp)).trans (b.mono (Nat.le_of_lt c))),c⟩
 exact (b.block w.heap.size c).trans ((d.block w.heap.size (by simp)).trans (JI w _))
theorem Qxy(s:JA)(a:JM)(n:Int)(h:Qaf s=(a,n,0))(c:lnE a=0) :
  QCX s=.tuple #[.agg #[Jt (bs (QiM a)),Jt (bs (QbB (QbZ a.tail) Qco)),Ji (Qc9 (QbB (QbZ a.tail) Qa1)),Ji (Qc8 (QbB (QbZ a.tail) Qa1))],Ji n,Ji 0]:=by
 have b:Qih s=0:=by unfold Qih;rw[h];exact c
 unfold QCX QcZ Qc0 QoU QoT QoS;rw[JK b,JK b,JK b,JK b,JK b,b,h];rfl
theorem Qwy(s:JA)(w:World)(a:s.size<=9223372036854775807):Calls prog 248 #[Jt s] w (QfC s w):=Qhr s w a
theorem QoI(s:JA)(w:World)(hs:s.size<=1000000)(hE:EnvF w) :
  Calls prog 276 #[Jt s] w (JB (QCX s) w):=by
 have L:=Z (Qwy s (w.alloc (.cells #[Jt ⟨#[]⟩,Jt ⟨#[]⟩,Ji 0,Ji 0] 142)) (by omega))
 obtain⟨V,hV⟩:∃V,QCX s=V:=⟨_,rfl⟩;rw[hV];have M:=Z hV;have HE:=Z (hE.below (QbC w (Jt ⟨#[]⟩) (Jt ⟨#[]⟩) (Ji 0) (Ji 0) 142));have y:=QcB s;unfold QfC at L;obtain⟨⟨a,n,e⟩,hh⟩:∃T,Qaf s=T:=⟨_,rfl⟩;rw[hh] at L y;have E:=Z hh;change (∀x∈a,x.length<=256)/\a.length<=17 at y;change Hi (Calls _ _ _ _ fun r w'=>∃v,r=.returned (.tuple #[v,Ji n,Ji e])/\w'.ownsRow _ 9 1 v a.length (QfY a)/\_) at L
 have j:=Z y;clear hE hV y hh
 by_cases he:e=0
 ·subst he
  have HL:Hi (Qih s=lnE a):=Z (by unfold Qih;rw[E.o];rfl)
  go_enter func276,ntmps276;go_wp2_with fail;refine L.o.mono ?_;rintro e I ⟨v,rfl,G,d⟩;obtain⟨av,cv,rfl⟩:=Qat G;have t:=Z d;have W:=Z (HE.o.below d);have HS:=Z (HoldsLt.of (HoldsS.of_own G));clear d G;go_wp2_with fail;have m:=PSt.start W.o HS.o t.o (.cells #[.slice av a.length cv,.slice none 0 0,Jt ⟨#[]⟩,Jt ⟨#[]⟩,Ji 0,Ji 0] 459);have H:RdB ((I.alloc (.cells #[.slice av a.length cv,.slice none 0 0,Jt ⟨#[]⟩,Jt ⟨#[]⟩,Ji 0,Ji 0] 459)).alloc (.cells #[.func (.func 308) #[] #[],.func (.func 309) #[] #[],.func (.func 310) #[] #[],.func (.func 311) #[] #[]] 462)) I.heap.size (.slice av a.length cv) (.slice none 0 0) (Jt ⟨#[]⟩) (Jt ⟨#[]⟩) (Ji 0) (Ji 0):=RdB.alloc (JI I _) _;generalize (I.alloc (.cells #[.slice av a.length cv,.slice none 0 0,Jt ⟨#[]⟩,Jt ⟨#[]⟩,Ji 0,Ji 0] 459)).alloc (.cells #[.func (.func 308) #[] #[],.func (.func 309) #[] #[],.func (.func 310) #[] #[],.func (.func 311) #[] #[]] 462)=W1 at m H ⊢;have l:=Z m;have qc:=Z H;obtain⟨q0,-,-,-⟩:=m.cells;generalize hR:I.heap.size=R at l qc q0 ⊢;have qo:=Z HS.o;clear m H HS t W hR qo HE L;refine wp_loop_rounds 5 ?_;rw[rounds_succ];go_wp2_with fail;refine (Qxw R _ _ _ _ _ _ _ a (qc.o.alloc _) ((l.o.alloc _).hold.holds (by have:=(l.o.alloc (.cells #[.func (.func 308) #[] #[]] 462)).lt;omega)) (fun x hx=>by have:=j.o.1 x hx;omega) (l.o.alloc _).anc.env).mono ?_
  rintro e w2 ⟨rfl,P,qa⟩;have c:=Z ((l.o.alloc _).keep qa);obtain⟨-,q1,-,-⟩:=c.o.cells;have X:=Z P;clear P qa q0
  by_cases p:QcI a=0
  case neg=>
   have b:=Z (Qg1 s (QcI a) (by rw[HL.o];unfold lnE;rw[JK p]) p)
   have tz:((QcI a:Int) != 0)=true:=by rw[bne_iff_ne];omega
   obtain⟨⟨d0,d1,d2,d3⟩,⟨g0,g1,g2,g3⟩⟩:=Qhu c.o.res;clear p q1;go_wp2_with fail;refine QaW (A:=(Ja w.heap.size 0)) rfl (Qft _ _ _ _ _ _ _ (Qfv c.o.res _ _ _ _)) rfl rfl rfl rfl ?_;exact⟨by rw[<-M.o,b.o];rfl,Qdq c.o.bel _ (qC _) _ _ _ _⟩
  have hne:a≠[]:=by intro e;rw[e] at p;exact JN p (by decide)
  have qb:Hi (RdB w2 R (.slice av a.length cv) (.slice none 0 0) (Jt (bs (QiM a))) (Jt ⟨#[]⟩) (Ji 0) (Ji 0)):=Z (by have:=X.o;rw[JK p] at this;exact this)
  have H1:=Z p;rw[p];have HN:=Z hne;clear p X hne;go_wp2_with fail;rw[rounds_succ];go_wp2_with fail;refine (Qxv R _ _ _ _ _ _ a (qb.o.alloc _) (c.o.alloc _).hold HN.o (by have:=j.o.2;omega) (fun x hx=>by have:=j.o.1 x hx;omega) (c.o.alloc _).anc).mono ?_
  rintro e w3 ⟨rfl,⟨fv,qh,S⟩,U⟩;have k:=Z ((c.o.alloc _).keep U);obtain⟨-,-,q2,-⟩:=k.o.cells;have qk:=Z qh;have qd:=Z S;clear qh U q1 S
  by_cases z:QeR a.tail=0
  case neg=>
   have b:=Z (Qg1 s (QeR a.tail) (by rw[HL.o];unfold lnE;rw[JJ (fun h=>h H1.o),JK z]) z)
   have tz:((QeR a.tail:Int) != 0)=true:=by rw[bne_iff_ne];omega
   obtain⟨⟨d0,d1,d2,d3⟩,⟨g0,g1,g2,g3⟩⟩:=Qhu k.o.res;clear z q2;go_wp2_with fail;refine QaW (A:=(Ja w.heap.size 0)) rfl (Qft _ _ _ _ _ _ _ (Qfv k.o.res _ _ _ _)) rfl rfl rfl rfl ?_;exact⟨by rw[<-M.o,b.o];rfl,Qdq k.o.bel _ (qC _) _ _ _ _⟩
  have D:=Z (qd.o z);have qj:Hi (R<(w2.alloc (.cells #[.func (.func 309) #[] #[]] 462)).heap.size):=Z (by have:=(c.o.alloc (.cells #[.func (.func 309) #[] #[]] 462)).lt;omega)
  have H2:=Z z;rw[z];obtain⟨f,hfs⟩:∃f,QbZ a.tail=f:=⟨_,rfl⟩;rw[hfs] at D;have HF:Hi (HoldsF w3 fv f):=Z (HoldsF.of_own D.o);have qe:f.length<=17:=by rw[<-hfs];unfold QbZ;rw[qQ,List.length_tail];have:=j.o.2;omega
  have qf:(QbB f Qa1).length<=256:=by rw[<-hfs];exact QrC a.tail Qa1 (fun x hx=>j.o.1 x (List.mem_of_mem_tail hx))
  have q:=Z hfs;have C:=Z (qE qe qf);clear z qd hfs qe qf;go_wp2_with fail;rw[rounds_succ];go_wp2_with fail;refine (QAo R _ _ fv _ _ _ _ f (qk.o.alloc _) (HF.o.below ((qF _ _).alloc (qC _) _)) (by have:=C.o.1;omega)).mono ?_
  rintro e w4 ⟨rfl,N,B⟩;have g:=Z ((k.o.alloc _).keep B);obtain⟨-,-,-,q3⟩:=g.o.cells;have qp:=Z N;have qq:=Z B;clear N B q2
  by_cases K:QoO f=0
  case neg=>
   have b:=Z (Qg1 s (QoO f) (by rw[HL.o];unfold lnE;rw[JJ (fun h=>h H1.o),JJ (fun h=>h H2.o),q.o,JK K]) K)
   have tz:((QoO f:Int) != 0)=true:=by rw[bne_iff_ne];omega
   obtain⟨⟨d0,d1,d2,d3⟩,⟨g0,g1,g2,g3⟩⟩:=Qhu g.o.res;clear K q3;go_wp2_with fail;refine QaW (A:=(Ja w.heap.size 0)) rfl (Qft _ _ _ _ _ _ _ (Qfv g.o.res _ _ _ _)) rfl rfl rfl rfl ?_;exact⟨by rw[<-M.o,b.o];rfl,Qdq g.o.bel _ (qC _) _ _ _ _⟩
  have H3:=Z K;rw[K];clear K;go_wp2_with fail;rw[rounds_succ];go_wp2_with fail;have ql:Hi (HoldsF w4 fv f):=Z (HoldsF.of_own (QvF (Qbj D.o ((qF _ _).alloc (qC _) _)) qq.o qj.out));refine (QAp R _ _ fv _ _ _ _ f (qp.o.alloc _) (ql.o.below ((qF _ _).alloc (qC _) _)) (by have:=C.o.1;omega) (by have:=C.o.2;omega) (g.o.alloc _).anc).mono ?_
  rintro e w5 ⟨rfl,⟨a5,b5,O,Y⟩,qi⟩;have i:=Z ((g.o.alloc _).keep qi);have qm:=Z O;have qg:=Z Y;clear O qi q3 Y
  by_cases J:Qg8 f=0
  case neg=>
   have b:=Z (Qg1 s (Qg8 f) (by rw[HL.o];unfold lnE;rw[JJ (fun h=>h H1.o),JJ (fun h=>h H2.o),q.o,JJ (fun h=>h H3.o)]) J)
   have tz:((Qg8 f:Int) != 0)=true:=by rw[bne_iff_ne];omega
   obtain⟨⟨d0,d1,d2,d3⟩,⟨g0,g1,g2,g3⟩⟩:=Qhu i.o.res;clear J;go_wp2_with fail;refine QaW (A:=(Ja w.heap.size 0)) rfl (Qft _ _ _ _ _ _ _ (Qfv i.o.res _ _ _ _)) rfl rfl rfl rfl ?_;exact⟨by rw[<-M.o,b.o];rfl,Qdq i.o.bel _ (qC _) _ _ _ _⟩
  obtain⟨rfl,rfl⟩:=qg.o J;have qn:=Z (Qxy s a n E.o (by unfold lnE;rw[JJ (fun h=>h H1.o),JJ (fun h=>h H2.o),q.o,JJ (fun h=>h H3.o)];exact J))
  rw[J];obtain⟨-,-,r2,r3,r4,r5⟩:=qm.o.cells;obtain⟨⟨d0,d1,d2,d3⟩,⟨g0,g1,g2,g3⟩⟩:=Qhu i.o.res;clear J qg;go_wp2_with fail;rw[rounds_succ];go_wp2_with fail;refine QaW (A:=(Ja w.heap.size 0)) rfl (Qft _ _ _ _ _ _ _ (Qfv i.o.res _ _ _ _)) rfl rfl rfl rfl ?_;exact⟨by rw[<-M.o,qn.o,q.o];rfl,Qdq i.o.bel _ (qC _) _ _ _ _⟩
 ·have b:=Z (Qg1 s e (by unfold Qih;rw[E.o];exact JK he) he)
  have tz:((e:Int) != 0)=true:=by rw[bne_iff_ne];omega
  clear he;go_enter func276,ntmps276;go_wp2_with fail;refine L.o.mono ?_;rintro e I ⟨v,rfl,-,d⟩;have t:=Z d;have HK:=Z ((d.block w.heap.size (by simp)).trans (JI w _))
  obtain⟨⟨d0,d1,d2,d3⟩,⟨g0,g1,g2,g3⟩⟩:=Qhu HK.o;clear d;go_wp2_with fail;refine QaW (A:=(Ja w.heap.size 0)) rfl (Qft _ _ _ _ _ _ _ (Qfv HK.o _ _ _ _)) rfl rfl rfl rfl ?_;exact⟨by rw[<-M.o,b.o];rfl,Qdq (Qaa (QbC w _ _ _ _ _) t.o) _ (qC _) _ _ _ _⟩
theorem Qnc(s:JA)(a:Int)(h:Qbe s a=0)(j:0<=a):a+2<=Qbd s a/\Qbd s a<=(s.size:Int):=by
 have c:¬(a<0\/(s.size:Int)<a):=by
  intro d;rw[QiU s a d] at h;exact JN h (by decide)
 obtain⟨i,rfl⟩:∃i:Nat,a=(i:Int):=⟨a.toNat,by omega⟩
 have f:i<=s.size:=by omega
 have b:=h;rw[QcN s i f] at b;unfold Qbd;rw[JK h,Int.toNat_natCast];have:=QuR (s.data.toList.drop i) 0 b;unfold QbT;have g:(s.data.toList.drop i).length=s.size-i:=by rw[JC,Qab]
 omega
theorem Qzr(s:JA):∀(f:Nat) (a:Int) (xs:JM),0<=a->(Qc6 f s a xs).2.2=0->0<f->a+2<=(Qc6 f s a xs).2.1/\(Qc6 f s a xs).2.1<=(s.size:Int):=by
 intro f
 induction f with
 |zero=>intro a xs _ _ i;omega
 |succ f ih=>
  intro a xs g b _
  by_cases h:Qbe s a=0
  ·obtain⟨b1,b2⟩:=Qnc s a h g
   by_cases c:(QaH s a).toList.isEmpty=true
   ·rw[QgI f s a xs h c]
    exact⟨b1,b2⟩
   ·rw[Bool.not_eq_true] at c
    by_cases d:xs.length=17
    ·rw[Qle f s a xs h c d] at b
     exact JN b (by decide)
    ·rw[Qea f s a xs h c d] at b ⊢
     rcases f with _|f
     ·simp[Qc6] at b
     ·obtain⟨c1,c2⟩:=ih (Qbd s a) _ (by omega) b (by omega)
      exact⟨by omega,c2⟩
  ·rw[Qfd f s a xs h] at b
   exact JN b h
theorem Qn9(s:JA)(h:(Qaf s).2.2=0):0<(Qaf s).2.1/\(Qaf s).2.1<=(s.size:Int):=by
 have:=Qzr s 18 0 [] (by omega) h (by omega)
 unfold Qaf;exact⟨by omega,this.2⟩
theorem Quk(p:JL)(h:∀c∈p,c≠32):Qc3 p = [p]:=by
 induction p with
 |nil=>rfl
 |cons c t ih=>
  rw[Qc3,JJ (h c (JF ..)),ih fun c hc=>h c (JY _ hc)]
theorem Qm6(p r:JL)(h:∀c∈p,c≠32):Qc3 (p++32 :: r)=p :: Qc3 r:=by
 induction p with
 |nil=>rw[J3,Qc3,JK rfl]
 |cons c t ih=>
  rw[J4,Qc3,JJ (h c (JF ..)),ih fun c hc=>h c (JY _ hc)]
theorem QvC(p:JL)(h:QfF p=true):∀c∈p,c≠32:=by
 intro c a e;subst e;exact JN ((Qjp p h).2.1 32 a) (by decide)
theorem QjB(p:JL)(h:QfF p=true):Qc3 (QcU p) = [[71,69,84],p,[72,84,84,80,47,49,46,49]]:=by
 have e:QcU p = [71,69,84]++32 :: (p++32 :: [72,84,84,80,47,49,46,49]):=by unfold QcU;simp
 rw[e,Qm6 _ _ (by decide),Qm6 _ _ (QvC p h),Quk _ (by decide)]
theorem QpT(h:JL)(a:Qfb h=true):QdL h=QaN Qco h:=by
 have hne:=(QgG h a).2.2;unfold QdL QaN QiW;rw[JJ (by cases h<;>simp_all),show Qgf true Qco = [72,111,115,116] by decide]
 rfl
theorem Qzl(h:JL)(j:Qfb h=true):QbL Qco h=true:=by
 obtain⟨-,h2,h3⟩:=QgG h j;have f:∀c∈h,QwI c=false:=by
  intro c b;have:=Qf2 c.toNat (h2 c b);have g:c≠9:=by rintro rfl;exact JN (h2 9 b) (by decide)
  have d:c≠32:=by rintro rfl;exact JN (h2 32 b) (by decide)
  rw[<-Qcg];unfold QjN;simp[g,d]
 have a:∀l:JL,(∀c∈l,QwI c=false)->QcV l=false:=by
  intro l i;cases l with
  |nil=>rfl
  |cons c t=>exact i c (JF ..)
 unfold QbL;rw[show Qep Qco=true by decide,Bool.true_and,JD]
 refine⟨List.all_eq_true.2 fun c b=>(Qf2 c.toNat (h2 c b)).1,?_⟩
 unfold Qhn;rw[a h f,a h.reverse (fun c b=>f c (List.mem_reverse.1 b))]
 rfl
theorem Qgw(a b:Int)(h:QdK a b=0):QhF a b=Qfn++(Go.Lib.decDigits a.toNat++45 :: Go.Lib.decDigits b.toNat):=by
 obtain⟨h1,h2,h3⟩:=QcP a b h;unfold QhF QfX QeB;rw[JK h,JJ (by omega),JJ (by omega)]
theorem QpS(a b:Int)(h:QdK a b=0):QdX a b=QaN Qa1 (QhF a b):=by
 unfold QdX QaN QiW;rw[Qgw a b h,JJ (by simp[Qfn]),show Qgf true Qa1 = [82,97,110,103,101] by decide]
 rfl
theorem Qor(n:Nat):∀c∈Go.Lib.decDigits n,QwI c=false/\c≠45/\c≠47:=by
 intro c b;have:=QmP _ (List.all_eq_true.1 (Qdk n) c b);have d:c≠9:=by rintro rfl;exact JN this (by decide)
 have a:c≠32:=by rintro rfl;exact JN this (by decide)
 refine⟨?_,by rintro rfl;exact JN this (by decide),by rintro rfl;exact JN this (by decide)⟩
 rw[<-Qcg];unfold QjN;simp[d,a]
theorem QmO(n:Nat)(x:JL):QcV (x++Go.Lib.decDigits n).reverse=false:=by
 rw[List.reverse_append];cases e:(Go.Lib.decDigits n).reverse with
 |nil=>exact JN (List.reverse_eq_nil_iff.1 e) (Qfj n)
 |cons c t=>exact (Qor n c (by rw[<-List.mem_reverse,e];exact JF ..)).1
theorem Qvc(a b:Int)(h:QdK a b=0):QbL Qa1 (QhF a b)=true:=by
 unfold QbL;rw[show Qep Qa1=true by decide,Bool.true_and,JD]
 refine⟨List.all_eq_true.2 fun c hc=>Qlw a b c hc,?_⟩
 unfold Qhn;rw[Qgw a b h];have f:QcV (Qfn++(Go.Lib.decDigits a.toNat++45 :: Go.Lib.decDigits b.toNat))=false:=by
  unfold Qfn;rfl
 have d:Qfn++(Go.Lib.decDigits a.toNat++45 :: Go.Lib.decDigits b.toNat)=(Qfn++(Go.Lib.decDigits a.toNat++[45]))++Go.Lib.decDigits b.toNat:=by simp
 rw[f,d,QmO];rfl
theorem QeU(c:UInt8)(x t:JL)(h:∀d∈x,d≠c):QfD c (x++c :: t)=x:=by
 unfold QfD;rw[List.takeWhile_append_of_pos (fun d hd=>by simpa using h d hd),List.takeWhile_cons_of_neg (by simp)]
 simp
theorem Qp8(c:UInt8)(x t:JL)(h:∀d∈x,d≠c):QiE c (x++c :: t)=true:=by
 unfold QiE;rw[QeU c x t h];simp
theorem Qc7(c:UInt8)(x t:JL)(h:∀d∈x,d≠c):Qbp c (x++c :: t)=t:=by
 unfold Qbp;rw[QeU c x t h,<-List.drop_drop,List.drop_left];rfl
theorem Qcr(n:Nat)(h:n<=9007199254740991):Qc2 (Go.Lib.decDigits n)=0/\QcK (Go.Lib.decDigits n)=n:=by
 have e:Qc2 (Go.Lib.decDigits n)=0:=by
  unfold Qc2;rw[QsT,JJ (by decide),QfT,JJ (by omega)]
 refine⟨e,?_⟩;unfold QcK;rw[JK e,QfT]
theorem QoJ(a b:Int)(h:QdK a b=0):QbW (QhF a b)=0/\Qc9 (QhF a b)=a/\Qc8 (QhF a b)=b:=by
 obtain⟨h1,h2,h3⟩:=QcP a b h;have f:(QhF a b).drop 6=Go.Lib.decDigits a.toNat++45 :: Go.Lib.decDigits b.toNat:=by rw[Qgw a b h];rfl
 have c:∀d∈Go.Lib.decDigits a.toNat,d≠45:=fun d f=>(Qor _ d f).2.1
 have g:Qkf (QhF a b)=true:=by
  unfold Qkf;rw[f,Qp8 _ _ _ c,Qgw a b h,Bool.and_true];exact List.isPrefixOf_iff_prefix.2 (List.prefix_append _ _)
 have k:Qh8 (QhF a b)=a.toNat:=by unfold Qh8;rw[f,QeU _ _ _ c,(Qcr _ (by omega)).2]
 have j:Qh7 (QhF a b)=b.toNat:=by unfold Qh7;rw[f,Qc7 _ _ _ c,(Qcr _ (by omega)).2]
 have i:QbW (QhF a b)=0:=by
  unfold QbW;rw[JJ (by rw[g];decide),k,j,f,QeU _ _ _ c,Qc7 _ _ _ c]
  unfold Qsf;rw[(Qcr _ (by omega)).1,(Qcr _ (by omega)).1,JJ (by decide),Int.toNat_of_nonneg h1,Int.toNat_of_nonneg (by omega)]
  exact h
 refine⟨i,?_,?_⟩
 ·unfold Qc9;rw[JK i,k];exact Int.toNat_of_nonneg h1
 ·unfold Qc8;rw[JK i,j];exact Int.toNat_of_nonneg (by omega)
theorem Qlk(h:JL)(a b:Int)(c:Qfb h=true)(d:QdK a b=0):QeR [QdL h,QdX a b]=0/\QbZ [QdL h,QdX a b] = [(Qco,h),(Qa1,QhF a b)]:=by
 obtain⟨x1,x2,x3⟩:=Qct Qco h (Qzl h c);obtain⟨y1,y2,y3⟩:=Qct Qa1 (QhF a b) (Qvc a b d);rw[QpT h c,QpS a b d];refine⟨?_,?_⟩
 ·unfold QeR QeR QeR
  rw[x3,y3];rfl
 ·unfold QbZ
  simp[x1,x2,y1,y2]
theorem Qry(x y:JL):Qde [(Qco,x),(Qa1,y)] Qco=0/\QbB [(Qco,x),(Qa1,y)] Qco=x/\Qde [(Qco,x),(Qa1,y)] Qa1=0/\QbB [(Qco,x),(Qa1,y)] Qa1=y:=by
 have c:(Qa1==Qco)=false:=by decide
 have d:(Qco==Qa1)=false:=by decide
 have a:QfI [(Qco,x),(Qa1,y)] Qco = [x]:=by unfold QfI;simp[List.filter,c]
 have b:QfI [(Qco,x),(Qa1,y)] Qa1 = [y]:=by unfold QfI;simp[List.filter,d]
 unfold Qde QbB;rw[a,b];exact⟨rfl,rfl,rfl,rfl⟩
theorem QDx(p h:JL)(a b:Int)(c:Qg7 p h a b=0):lnE [QcU p,QdL h,QdX a b]=0/\QiM [QcU p,QdL h,QdX a b]=p:=by
 obtain⟨hp,hh,hr⟩:=Qfo p h a b c;obtain⟨f1,f2⟩:=Qlk h a b hh hr;obtain⟨g1,g2,g3,g4⟩:=Qry h (QhF a b);obtain⟨k1,k2,k3⟩:=QoJ a b hr;have d:QcI [QcU p,QdL h,QdX a b]=0:=by
  unfold QcI QgK;rw[JJ (by simp),show ([QcU p,QdL h,QdX a b]:JM).getD 0 []=QcU p from rfl,QjB p hp]
  simp[hp]
 refine⟨?_,?_⟩
 ·unfold lnE
  rw[d,List.tail_cons,f1,f2];unfold QoO Qg8;rw[g1,g2,g3,g4,hh,k1];rfl
 ·unfold QiM
  rw[show ([QcU p,QdL h,QdX a b]:JM).getD 0 []=QcU p from rfl,QjB p hp];rfl
theorem Qk8(p h:JL)(a b:Int)(c:Qg7 p h a b=0)(d:a<=9223372036854775807)(f:b<=9223372036854775807):∀x∈[QcU p,QdL h,QdX a b],QcH x:=by
 obtain⟨hp,hh,hr⟩:=Qfo p h a b c;intro x hx;simp only[List.mem_cons,List.not_mem_nil,or_false] at hx;rcases hx with rfl|rfl|rfl
 ·have:=Qdx _ (QnU p hp);exact⟨by simp[QcU],this.1,this.2⟩
 ·have:=Qdx _ (QnT h hh);exact⟨by simp[QdL],this.1,this.2⟩
 ·have:=Qdx _ (QnS a b d f);exact⟨by simp[QdX],this.1,this.2⟩
theorem QCV(p h:JL)(a b:Int)(g:Qg7 p h a b=0)(i:a<=9223372036854775807)(k:b<=9223372036854775807)(s:JA)(c:JL)(j:s.data.toList=Qm2 p h a b++c) :
  Qih s=0/\QcZ s=p/\Qc0 s=h/\QoU s=a/\QoT s=b/\QoS s=(Qm2 p h a b).length:=by
 obtain⟨hp,hh,hr⟩:=Qfo p h a b g;have d:Qaf s=([QcU p,QdL h,QdX a b],((Qm2 p h a b).length:Int),0):=by
  have:=Qp5 s c [QcU p,QdL h,QdX a b] [] [] 18 (Qk8 p h a b g i k) (by simp) (by simp) (by rw[j];unfold Qm2;simp)
  unfold Qaf;rw[show (0:Int)=((([]:JL).length:Nat):Int) from rfl,this];unfold Qm2;simp
 obtain⟨l1,l2⟩:=QDx p h a b g;obtain⟨f1,f2⟩:=Qlk h a b hh hr;obtain⟨g1,g2,g3,g4⟩:=Qry h (QhF a b);obtain⟨k1,k2,k3⟩:=QoJ a b hr;have f:Qih s=0:=by unfold Qih;rw[d];simpa using l1
 refine⟨f,?_,?_,?_,?_,?_⟩
 ·unfold QcZ;rw[JK f,d];exact l2
 ·unfold Qc0;rw[JK f,d];simp only[List.tail_cons];rw[f2,g2]
 ·unfold QoU;rw[JK f,d];simp only[List.tail_cons];rw[f2,g4,k2]
 ·unfold QoT;rw[JK f,d];simp only[List.tail_cons];rw[f2,g4,k3]
 ·unfold QoS;rw[JK f,d]
theorem Qxx(s:JA)(d:Qih s=0):Qg7 (QcZ s) (Qc0 s) (QoU s) (QoT s)=0/\0<QoS s/\QoS s<=(s.size:Int)/\0<=QoU s/\QoU s<=9007199254740990/\0<=QoT s/\QoT s<=9007199254740990:=by
 have i:(Qaf s).2.2=0:=by
  by_cases h:(Qaf s).2.2=0
  ·exact h
  ·unfold Qih at d;rw[JK h] at d;exact d
 have a:lnE (Qaf s).1=0:=by unfold Qih at d;rw[JJ (by simp[i])] at d;exact d
 have c:QcI (Qaf s).1=0:=by
  by_cases h:QcI (Qaf s).1=0
  ·exact h
  ·unfold lnE at a;rw[JK h] at a;exact a
 unfold lnE at a;rw[JJ (by simp[c])] at a
 have l:QeR (Qaf s).1.tail=0:=by
  by_cases h:QeR (Qaf s).1.tail=0
  ·exact h
  ·rw[JK h] at a;exact a
 rw[JJ (by simp[l])] at a
 have f:QoO (QbZ (Qaf s).1.tail)=0:=by
  by_cases h:QoO (QbZ (Qaf s).1.tail)=0
  ·exact h
  ·rw[JK h] at a;exact a
 rw[JJ (by simp[f])] at a
 have k:QfF (QiM (Qaf s).1)=true:=by
  unfold QcI QgK at c;unfold QiM;split at c
  ·exact JN c (by decide)
  split at c
  ·exact JN c (by decide)
  split at c
  ·exact JN c (by decide)
  split at c
  ·exact JN c (by decide)
  split at c
  ·exact JN c (by decide)
  ·rename_i hx
   simpa using hx
 have m:Qfb (QbB (QbZ (Qaf s).1.tail) Qco)=true:=by
  unfold QoO at f;split at f
  ·rename_i hx;exact JN f hx
  split at f
  ·exact JN f (by decide)
  ·rename_i hx
   simpa using hx
 have g:QbW (QbB (QbZ (Qaf s).1.tail) Qa1)=0:=by
  unfold Qg8 at a;split at a
  ·rename_i hx;exact JN a hx
  ·exact a
 have j:QdK (Qh8 (QbB (QbZ (Qaf s).1.tail) Qa1)) (Qh7 (QbB (QbZ (Qaf s).1.tail) Qa1))=0:=by
  have b:=g;unfold QbW at b;split at b
  ·exact JN b (by decide)
  split at b
  ·rename_i hx;exact JN b hx
  ·exact b
 obtain⟨n1,n2⟩:=Qn9 s i;obtain⟨r1,r2,r3⟩:=QcP _ _ j;unfold QcZ Qc0 QoU QoT QoS;rw[JK d,JK d,JK d,JK d,JK d];unfold Qc9 Qc8;rw[JK g,JK g];refine⟨?_,n1,n2,r1,by omega,by omega,r3⟩
 unfold Qg7;rw[JJ (by simp[k,m])]
 exact j
theorem QCW(s:JA)(a:Qih s≠0):QcZ s = []/\Qc0 s = []/\QoU s=0/\QoT s=0/\QoS s=0:=by
 unfold QcZ Qc0 QoU QoT QoS;rw[JJ a,JJ a,JJ a,JJ a,JJ a];exact⟨rfl,rfl,rfl,rfl,rfl⟩
def Qbl:JL:=[99,111,110,116,101,110,116,45,108,101,110,103,116,104]
def Qpx:List (List UInt8×JL)->Nat
 |[]=>0
 |f :: t=>if f.1=Qbl then 22 else if QaU f.1 f.2≠0 then QaU f.1 f.2 else Qpx t
def QeT(c:Int)(fs:List (List UInt8×JL)):Nat:=if Qbs c≠0 then Qbs c else if 15<fs.length then 21 else Qpx fs
def Qag(c:Int)(fs:List (List UInt8×JL))(n:Nat):JM:=(Qbf c).data.toList :: QaN Qbl (QeB n) :: fs.map (fun f=>QaN f.1 f.2)
def Qg5(c:Int)(fs:List (List UInt8×JL))(b:JL):JL:=Qa2 (Qag c fs b.length)++13 :: 10 :: b
def QoQ(c:Int)(fs:List (List UInt8×JL))(b:JL):JL:=if QeT c fs=0 then Qg5 c fs b else []
theorem QvK(xs:List (List UInt8×JL)):∀k,(∀j (b:j<xs.length),j<k->xs[j].1≠Qbl/\QaU xs[j].1 xs[j].2=0)->Qpx xs=Qpx (xs.drop k):=by
 induction xs with
 |nil=>intro k _;simp
 |cons x t ih=>
  intro k h;cases k with
  |zero=>rfl
  |succ k=>
   have a:x.1≠Qbl/\QaU x.1 x.2=0:=h 0 (by simp) (by omega)
   show (if x.1=Qbl then 22 else if QaU x.1 x.2≠0 then QaU x.1 x.2 else Qpx t)=Qpx (t.drop k)
   rw[JJ a.1,JJ (fun hh=>hh a.2)]
   exact ih k (fun j b hk=>h (j+1) (by simp;omega) (by omega))
theorem QvI(b:List (List UInt8×JL))(h:Qpx b=0):∀f∈b,f.1≠Qbl/\QaU f.1 f.2=0:=by
 induction b with
 |nil=>intro f a;simp at a
 |cons x t ih=>
  unfold Qpx at h;split at h
  ·exact JN h (by decide)
  ·rename_i d
   split at h
   ·rename_i c;exact JN h c
   ·rename_i c
    intro f a;rcases List.mem_cons.1 a with rfl|a
    ·exact⟨d,Decidable.not_not.1 c⟩
    ·exact ih h f a
theorem Qe1(c:Int)(a:List (List UInt8×JL))(h:QeT c a=0):100<=c/\c<=599/\a.length<=15/\∀f∈a,f.1≠Qbl/\QaU f.1 f.2=0:=by
 unfold QeT at h;split at h
 ·rename_i hx;exact JN h hx
 ·rename_i hx
  split at h
  ·exact JN h (by decide)
  ·have b:Qb9 c≠0:=fun e=>hx (by unfold Qbs;rw[JK e];decide)
   rw[Ne,Qj8] at b;exact⟨by omega,by omega,by omega,QvI a h⟩
theorem QtN:Qep Qbl=true:=by decide
theorem Qqm(n:Nat):Qhn (Go.Lib.decDigits n)=true:=by
 have a:QcV (Go.Lib.decDigits n)=false:=by
  cases e:Go.Lib.decDigits n with
  |nil=>rfl
  |cons c t=>exact (Qor n c (by rw[e];exact JF ..)).1
 unfold Qhn;rw[a];have:=QmO n [];rw[J3] at this;rw[this];rfl
theorem Qfz(n:Nat):QeB (n:Int)=Go.Lib.decDigits n:=by unfold QeB;rw[JJ (by omega),Int.toNat_natCast]
theorem Qj6(n:Nat)(b:n<=1000000):QaU Qbl (QeB n)=0:=by
 have a:QbL Qbl (QeB n)=true:=by
  unfold QbL;rw[QtN,Bool.true_and,JD];refine⟨List.all_eq_true.2 fun c hc=>Qhy n c hc,?_⟩
  rw[Qfz];exact Qqm n
 unfold QaU;rw[JK a,JJ];have:=Qdj n (by omega)
 unfold QaN QiW;rw[Qfz];split
 ·simp[QlH,Qbl]
 ·simp only[qG,qH,QlH]
  rw[show Qbl.length=14 from rfl];omega
theorem Qvq(n v:JL):QaN n v≠[]:=by unfold QaN;simp
theorem Qlh(n v:JL)(h:QaU n v=0):QcH (QaN n v):=by
 have:=Qdx _ (Qvp n v h);exact⟨Qvq n v,this.1,this.2⟩
theorem Qnx(c:Int)(a:100<=c)(b:c<=599):Qbf c=Qcc c:=by
 unfold Qbf;rw[JJ (by rw[Qj8];omega)]
theorem Qew(c:Int)(a:100<=c)(b:c<=599):QcH (Qbf c).data.toList/\Qbq (Qbf c).data.toList=(c,0):=by
 obtain⟨n,rfl⟩:∃n:Nat,c=n:=⟨c.toNat,by omega⟩
 rw[Qnx _ a b];have:=Qdx _ (Qib n (by omega) (by omega))
 refine⟨⟨?_,this.1,this.2⟩,Qgm n (by omega) (by omega)⟩
 rw[QcF n (by omega) (by omega)];simp[Qbx]
theorem Qdp(c:Int)(a:List (List UInt8×JL))(n:Nat)(h:QeT c a=0)(b:n<=1000000):(∀x∈Qag c a n,QcH x)/\(Qag c a n).length<=17:=by
 obtain⟨h1,h2,h3,h4⟩:=Qe1 c a h;refine⟨?_,by unfold Qag;simp;omega⟩
 intro x hx;unfold Qag at hx;rcases List.mem_cons.1 hx with rfl|hx
 ·exact (Qew c h1 h2).1
 rcases List.mem_cons.1 hx with rfl|hx
 ·exact Qlh _ _ (Qj6 n b)
 ·obtain⟨f,hf,rfl⟩:=List.mem_map.1 hx
  exact Qlh _ _ (h4 f hf).2
theorem QjO(x:JL)(t:JM)(h:QaT x=0):QeR (x :: t)=QeR t:=JJ (fun hh=>hh h)
theorem QwK(a:List (List UInt8×JL))(h:∀f∈a,QaU f.1 f.2=0):QeR (a.map (fun f=>QaN f.1 f.2))=0/\QbZ (a.map (fun f=>QaN f.1 f.2))=a:=by
 induction a with
 |nil=>exact⟨rfl,rfl⟩
 |cons f t ih=>
  obtain⟨x1,x2,x3⟩:=Qct f.1 f.2 (QcW _ _ (h f (JF ..))).1;obtain⟨i1,i2⟩:=ih (fun g hg=>h g (JY _ hg))
  refine⟨by rw[J0,QjO _ _ x3,i1],?_⟩
  unfold QbZ at i2 ⊢;rw[J0,J0,i2,x1,x2]
def hdE(ls:JM):Nat:=if ls = [] then 4 else if (Qbq (ls.getD 0 [])).2≠0 then (Qbq (ls.getD 0 [])).2 else if QeR ls.tail≠0 then QeR ls.tail else if Qde (QbZ ls.tail) Qbl≠0 then Qde (QbZ ls.tail) Qbl else Qc2 (QbB (QbZ ls.tail) Qbl)
def hdC(ls:JM):Int:=(Qbq (ls.getD 0 [])).1
def hdN(ls:JM):Nat:=QcK (QbB (QbZ ls.tail) Qbl)
def Qe0(fs:List (List UInt8×JL)):List (List UInt8×JL):=fs.filter (fun f=>f.1 != Qbl)
def Qdm(s:JA)(most:Int):Nat:=if (Qaf s).2.2≠0 then (Qaf s).2.2 else if hdE (Qaf s).1≠0 then hdE (Qaf s).1 else if most<(hdN (Qaf s).1:Int) then 5 else if (s.size:Int)-(Qaf s).2.1<(hdN (Qaf s).1:Int) then 3 else 0
def Qks(s:JA)(most:Int):Int:=if Qdm s most=0 then hdC (Qaf s).1 else 0
def Qcb(s:JA)(most:Int):List (List UInt8×JL):=if Qdm s most=0 then Qe0 (QbZ (Qaf s).1.tail) else []
def Qfp(s:JA)(most:Int):JL:=if Qdm s most=0 then (s.data.toList.take ((Qaf s).2.1.toNat+hdN (Qaf s).1)).drop (Qaf s).2.1.toNat else []
def QhH(s:JA)(most:Int):Int:=if Qdm s most=0 then (Qaf s).2.1+(hdN (Qaf s).1:Int) else 0
theorem QBf(s:JA)(a:Int)(h:Qdm s a≠0):Qks s a=0/\Qcb s a = []/\Qfp s a = []/\QhH s a=0:=by
 unfold Qks Qcb Qfp QhH;rw[JJ h,JJ h,JJ h,JJ h];exact⟨rfl,rfl,rfl,rfl⟩
theorem Qje(a:List (List UInt8×JL))(h:∀f∈a,f.1≠Qbl):Qe0 a=a/\QfI a Qbl = []:=by
 refine⟨List.filter_eq_self.2 (fun f hf=>bne_iff_ne.2 (h f hf)),?_⟩
 unfold QfI;rw[List.filter_eq_nil_iff.2 (fun f hf=>by simpa using h f hf)];rfl
theorem QwD(c:Int)(a:List (List UInt8×JL))(n:Nat)(h:QeT c a=0)(l:n<=1000000) :
  hdE (Qag c a n)=0/\hdC (Qag c a n)=c/\hdN (Qag c a n)=n/\Qe0 (QbZ (Qag c a n).tail)=a:=by
 obtain⟨h1,h2,h3,h4⟩:=Qe1 c a h;have i:=(Qew c h1 h2).2;obtain⟨i1,i2⟩:=QwK a (fun f hf=>(h4 f hf).2)
 obtain⟨x1,x2,x3⟩:=Qct Qbl (QeB n) (QcW _ _ (Qj6 n l)).1;obtain⟨r1,r2⟩:=Qje a (fun f hf=>(h4 f hf).1)
 have j:(Qag c a n).getD 0 []=(Qbf c).data.toList:=rfl;have g:(Qag c a n).tail=QaN Qbl (QeB n) :: a.map (fun f=>QaN f.1 f.2):=rfl
 have b:QbZ (Qag c a n).tail=(Qbl,QeB n) :: a:=by
  rw[g];unfold QbZ at i2 ⊢;rw[J0,i2,x1,x2]
 have k:QeR (Qag c a n).tail=0:=by rw[g,QjO _ _ x3,i1]
 have d:QfI ((Qbl,QeB n) :: a) Qbl = [QeB n]:=by
  unfold QfI at r2 ⊢;rw[List.filter_cons_of_pos (by simp),J0,r2]
 obtain⟨n1,n2⟩:=Qcr n (by omega)
 refine⟨?_,?_,?_,?_⟩
 ·unfold hdE
  rw[JJ (by unfold Qag;simp),j,i,JJ (by simp),k,JJ (by simp),b]
  unfold Qde QbB;rw[d];show (if (0:Nat)≠0 then 0 else Qc2 (QeB n))=0
  rw[JJ (by simp),Qfz,n1]
 ·unfold hdC;rw[j,i]
 ·unfold hdN;rw[b];unfold QbB;rw[d]
  show QcK (QeB n)=n;rw[Qfz,n2]
 ·rw[b]
  unfold Qe0 at r1 ⊢;rw[List.filter_cons_of_neg (by simp),r1]
theorem QiC(c:Int)(d:List (List UInt8×JL))(b a:JL)(s:JA)(h:QeT c d=0)(f:b.length<=1000000)(g:s.data.toList=Qa2 (Qag c d b.length)++13 :: 10 :: a) :
  Qaf s=(Qag c d b.length,((Qa2 (Qag c d b.length)).length:Int)+2,0):=by
 obtain⟨g1,g2⟩:=Qdp c d b.length h f;have:=Qp5 s a (Qag c d b.length) [] [] 18 g1 (by simpa using g2) (by simp) (by simpa using g)
 unfold Qaf;rw[show (0:Int)=((([]:JL).length:Nat):Int) from rfl,this];simp
theorem Ql2(c:Int)(f:List (List UInt8×JL))(b d:JL)(s:JA)(a:Int)(h:QeT c f=0)(k:b.length<=1000000)(j:s.data.toList=Qg5 c f b++d)(p:(b.length:Int)<=a) :
  Qdm s a=0/\Qks s a=c/\Qcb s a=f/\Qfp s a=b/\QhH s a=(Qg5 c f b).length:=by
 have g:=QiC c f b (b++d) s h k (by rw[j];unfold Qg5;simp)
 obtain⟨e1,e2,e3,e4⟩:=QwD c f b.length h k;have n:s.size=(Qa2 (Qag c f b.length)).length+2+b.length+d.length:=by
  rw[<-Qab,j];unfold Qg5;simp only[qG,qH];omega
 have i:Qdm s a=0:=by
  unfold Qdm;rw[g];simp only[e1,e3];rw[JJ (by simp),JJ (by simp),JJ (by omega),JJ (by omega)]
 refine⟨i,?_,?_,?_,?_⟩
 ·unfold Qks;rw[JK i,g];exact e2
 ·unfold Qcb;rw[JK i,g];exact e4
 ·unfold Qfp;rw[JK i,g]
  simp only[e3];have m:(((Qa2 (Qag c f b.length)).length:Int)+2).toNat=(Qa2 (Qag c f b.length)++[13,10]).length:=by simp;omega
  rw[m,j];unfold Qg5;have l:Qa2 (Qag c f b.length)++13 :: 10 :: b++d=(Qa2 (Qag c f b.length)++[13,10])++(b++d):=by simp
  rw[l,List.take_length_add_append,List.drop_left,List.take_left]
 ·unfold QhH;rw[JK i,g]
  simp only[e3];unfold Qg5;simp only[qG,qH];omega
theorem QqZ(c:Int)(f:List (List UInt8×JL))(b a:JL)(s:JA)(d:Int)(h:QeT c f=0)(g:b.length<=1000000)(k:s.data.toList=Qg5 c f b++a)(j:d<(b.length:Int)):Qdm s d=5:=by
 have i:=QiC c f b (b++a) s h g (by rw[k];unfold Qg5;simp)
 obtain⟨e1,e2,e3,e4⟩:=QwD c f b.length h g;unfold Qdm;rw[i];simp only[e1,e3];rw[JJ (by simp),JJ (by simp),JK j]
theorem QBA(c:Int)(a:List (List UInt8×JL))(b:JL)(s:JA)(k:Nat)(h:QeT c a=0)(j:b.length<=1000000)(n:k<(Qg5 c a b).length)(i:s.data.toList=(Qg5 c a b).take k):Qdm s (b.length:Int)=3:=by
 obtain⟨g1,g2⟩:=Qdp c a b.length h j
 by_cases l:k<(Qa2 (Qag c a b.length)).length+2
 ·have g:s.data.toList=(Qa2 (Qag c a b.length)++[13,10]).take k:=by
   rw[i];unfold Qg5;have d:Qa2 (Qag c a b.length)++13 :: 10 :: b=(Qa2 (Qag c a b.length)++[13,10])++b:=by simp
   rw[d,List.take_append_of_le_length (by simp;omega)]
  have:=Qzq s (Qag c a b.length) [] [] 18 k g1 (by simpa using g2) (by simp) l (by rw[g];simp)
  have f:Qaf s=([],0,3):=by
   unfold Qaf;rw[show (0:Int)=((([]:JL).length:Nat):Int) from rfl,this];rfl
  unfold Qdm;rw[f];rfl
 ·have p:(Qg5 c a b).length=(Qa2 (Qag c a b.length)).length+2+b.length:=by unfold Qg5;simp only[qG,qH];omega
  have f:=QiC c a b (b.take (k-((Qa2 (Qag c a b.length)).length+2))) s h j (by
   rw[i];unfold Qg5;have d:∀x,Qa2 (Qag c a b.length)++13 :: 10 :: x=(Qa2 (Qag c a b.length)++[13,10])++x:=fun x=>by simp
   rw[d,d,List.take_append,qX (by simp;omega)]
   simp)
  obtain⟨e1,e2,e3,e4⟩:=QwD c a b.length h j;have m:s.size=k:=by rw[<-Qab,i,qW];omega
  unfold Qdm;rw[f];simp only[e1,e3];rw[JJ (by simp),JJ (by simp),JJ (by omega),JK (by omega)]
theorem QqS(s:JA)(a:Int)(h:Qdm s a=0):(Qaf s).2.2=0/\hdE (Qaf s).1=0/\(hdN (Qaf s).1:Int)<=a/\(hdN (Qaf s).1:Int)<=(s.size:Int)-(Qaf s).2.1:=by
 unfold Qdm at h;split at h
 ·rename_i hx;exact JN h hx
 rename_i b
 split at h
 ·rename_i hx;exact JN h hx
 rename_i c
 split at h
 ·exact JN h (by decide)
 split at h
 ·exact JN h (by decide)
 exact⟨Decidable.not_not.1 b,Decidable.not_not.1 c,by omega,by omega⟩
theorem Qzu(a:JM)(h:hdE a=0):a≠[]/\(Qbq (a.getD 0 [])).2=0/\QeR a.tail=0/\Qde (QbZ a.tail) Qbl=0/\Qc2 (QbB (QbZ a.tail) Qbl)=0:=by
 unfold hdE at h;split at h
 ·exact JN h (by decide)
 rename_i d
 split at h
 ·rename_i hx;exact JN h hx
 rename_i b
 split at h
 ·rename_i hx;exact JN h hx
 rename_i f
 split at h
 ·rename_i hx;exact JN h hx
 rename_i c
 exact⟨d,Decidable.not_not.1 b,Decidable.not_not.1 f,Decidable.not_not.1 c,h⟩
theorem QwL(b:JM)(h:QeR b=0):∀x∈b,QaT x=0:=by
 induction b with
 |nil=>intro x hx;simp at hx
 |cons y t ih=>
  unfold QeR at h;split at h
  ·rename_i hx;exact JN h hx
  ·rename_i hx
   intro x a;rcases List.mem_cons.1 a with rfl|a
   ·exact Decidable.not_not.1 hx
   ·exact ih h x a
theorem QuI(g:List (List UInt8×JL))(h:Qde g Qbl=0):∃a x b,g=a++x :: b/\x.1=Qbl/\(∀y∈a,y.1≠Qbl)/\(∀y∈b,y.1≠Qbl)/\Qe0 g=a++b:=by
 have i:(g.filter (fun f=>f.1==Qbl)).length=1:=by
  unfold Qde QfI at h;cases e:(g.filter (fun f=>f.1==Qbl)) with
  |nil=>rw[e] at h;exact JN h (by decide)
  |cons x t=>
   cases t with
   |nil=>rfl
   |cons y u=>rw[e] at h;exact JN h (by simp)
 clear h
 induction g with
 |nil=>simp at i
 |cons f t ih=>
  by_cases d:f.1=Qbl
  ·rw[List.filter_cons_of_pos (by simp[d]),qH] at i
   have k:t.filter (fun f=>f.1==Qbl) = []:=List.length_eq_zero_iff.1 (by omega)
   have j:∀y∈t,y.1≠Qbl:=fun y c e=>by
    have:=List.filter_eq_nil_iff.1 k y c;simp[e] at this
   refine⟨[],f,t,rfl,d,fun y c=>by simp at c,j,?_⟩
   unfold Qe0;rw[List.filter_cons_of_neg (by simp[d])]
   exact (Qje t j).1
  ·rw[List.filter_cons_of_neg (by simp[d])] at i
   obtain⟨a,x,b,e1,e2,e3,e4,e5⟩:=ih i;refine⟨f :: a,x,b,by rw[e1];rfl,e2,?_,e4,?_⟩
   ·intro y c
    rcases List.mem_cons.1 c with rfl|c
    ·exact d
    ·exact e3 y c
   ·unfold Qe0 at e5 ⊢
    rw[List.filter_cons_of_pos (by simp[d]),e5];rfl
end
end Go.Proofs.YtlpecalodphalaaGreatDoor
namespace Go.Proofs
open Go.Shelf
def Qmv:Go.Shelf.Ren:=⟨fun|41=>273|n=>n,fun|22=>357|23=>403|4=>4|n=>n,fun|n=>n⟩
theorem QjE:Go.Proofs.SlLaysE0.n41 prog Qmv:={ mixed:=by kernel_rfl,f41:=⟨Tryz.f273.name,by decide,JX func273 (by kernel_rfl)⟩,t4:=underlying4,a4:=Tryz.isAgg4,z4:=Tryz.sizeOf4,v4:=Tryz.zeroValue4,t22:=underlying357,a22:=Tryz.isAgg357,z22:=Tryz.sizeOf357,v22:=Tryz.zeroValue357 }
def Qmu:Go.Shelf.Ren:=⟨fun|6=>323|n=>n,fun|22=>357|23=>403|25=>427|3=>3|0=>0|4=>4|n=>n,fun|n=>n⟩
theorem Qwf:Go.Proofs.SlLaysH0.n6 prog Qmu:={ mixed:=by kernel_rfl,f6:=⟨Tryz.f323.name,by decide,JX func323 (by kernel_rfl)⟩,t0:=underlying0,a0:=Tryz.isAgg0,z0:=Tryz.sizeOf0,v0:=Tryz.zeroValue0,t3:=underlying3,a3:=Tryz.isAgg3,z3:=Tryz.sizeOf3,v3:=Tryz.zeroValue3,t4:=underlying4,a4:=Tryz.isAgg4,z4:=Tryz.sizeOf4,v4:=Tryz.zeroValue4,t22:=underlying357,a22:=Tryz.isAgg357,z22:=Tryz.sizeOf357,v22:=Tryz.zeroValue357,t25:=underlying427,a25:=Tryz.isAgg427,z25:=Tryz.sizeOf427,v25:=Tryz.zeroValue427 }
end Go.Proofs
namespace Go.Proofs.YtlpecalodphalaaGreatDoor
section
open Go.RowKit Go.Shelf Go.Lib
def QDR(x:JL×JL):JV:=[Jt (bs x.1),Jt (bs x.2)]
theorem QEP{w:World}{b o:Nat}{c:List (List UInt8×JL)}(h:∀j (d:j<c.length),Jx w b (o+j*2) (Jt (bs c[j].1))/\Jx w b (o+j*2+1) (Jt (bs c[j].2))) :
  ∀j,j<c.length->∀i v,(QDR c[j]!)[i]?=some v->w.cell? (Ja b (o+j*2+i))=some v:=by
 intro j d i v a;rw[getElem!_pos c j d] at a;obtain⟨h1,h2⟩:=h j d
 match i,a with
 |0,a=>simp only[QDR,List.getElem?_cons_zero,J8] at a;subst a;exact h1
 |1,a=>simp only[QDR,List.getElem?_cons_succ,List.getElem?_cons_zero,J8] at a;subst a;exact h2
theorem QjJ:(prog.info? 403).map (fun i=>(i.zero,i.size,i.bytes))=some (some (.agg #[Jt ByteArray.empty,Jt ByteArray.empty]),2,32):=by kernel_rfl
theorem Qlm(b:List (List UInt8×JL)):∀u∈QaB b,u.oneCell'=true:=by
 induction b with
 |nil=>intro u a;cases a
 |cons f t ih=>
  intro u a;rcases List.mem_cons.1 a with rfl|a
  ·rfl
  rcases List.mem_cons.1 a with rfl|a
  ·rfl
  ·exact ih u a
theorem QwQ{w:World}{b o:Nat}{a:List (List UInt8×JL)}(h:∀j (i:j<a.length),Jx w b (o+j*2) (Jt (bs a[j].1))/\Jx w b (o+j*2+1) (Jt (bs a[j].2))) :
  ∀j u,(QaB a)[j]?=some u->w.cell? (Ja b (o+j))=some u:=by
 intro j u c;have i:j<a.length*2:=by rw[<-QbG];exact (List.getElem?_eq_some_iff.1 c).1
 have f:j/2<a.length:=by omega
 obtain⟨g1,g2⟩:=Qdr a (j/2) f;obtain⟨h1,h2⟩:=h (j/2) f;rcases Nat.mod_two_eq_zero_or_one j with e|e
 ·have d:j/2*2=j:=by omega
  rw[d] at g1 h1;rw[g1] at c;rw[<-qS c];exact h1
 ·have d:j/2*2+1=j:=by omega
  have g:o+j/2*2+1=o+j:=by omega
  rw[d] at g2;rw[g] at h2;rw[g2] at c;rw[<-qS c];exact h2
theorem Qoy(v:Value)(d:List (List UInt8×JL))(w:World)(h:HoldsF w v d)(hne:d≠[])(l:d.length<=1000000) :
  Calls prog 273 #[v] w fun e w'=>∃g,e=.returned g/\w'.ownsRow w.heap.size 403 2 g d.length (QaB d)/\Jw w w':=by
 obtain⟨a,c,rfl,h1,h2⟩:=h;obtain⟨b,o,rfl,hlt,hc⟩:=h2 hne;have f:=QjJ;cases e:prog.info? 403 with
 |none=>rw[e] at f;cases f
 |some i=>
  rw[e] at f;simp only[Option.map_some,J8,Prod.mk.injEq] at f;obtain⟨i1,i2,i3⟩:=f;refine (AnyE.slices_Clone QjE i _ 2 32 e i1 i2 i3 rfl (by decide) Tryz.sizeOf403 b o d.length c (QaB d) w (QbG d) (by unfold maxLen;omega) (by omega) (QwQ hc) (Qlm d)).mono ?_
  rintro e w' ⟨g,rfl,k,-,j⟩;exact⟨g,rfl,k,j⟩
theorem Qj5(a:Option Addr)(c:Nat)(w:World)(g:∀p,a=some p->∃b o,p=(Ja b o)) :
  Calls prog 273 #[.slice a 0 c] w fun e w'=>∃f,e=.returned f/\w'.ownsRow w.heap.size 403 2 f 0 []/\Jw w w':=by
 cases a with
 |none=>
  refine (AnyE.slices_Clone_nil QjE 0 c w).mono ?_;rintro e w' ⟨rfl,rfl⟩;exact⟨_,rfl,⟨rfl,.inl ⟨rfl,rfl⟩⟩,qF _ _⟩
 |some p=>
  obtain⟨b,o,rfl⟩:=g p rfl;have d:=QjJ;cases e:prog.info? 403 with
  |none=>rw[e] at d;cases d
  |some i=>
   rw[e] at d;simp only[Option.map_some,J8,Prod.mk.injEq] at d;obtain⟨i1,i2,i3⟩:=d;refine (AnyE.slices_Clone QjE i _ 2 32 e i1 i2 i3 rfl (by decide) Tryz.sizeOf403 b o 0 c [] w rfl (qL _) (by omega) (fun j u hu=>by simp at hu) (fun u hu=>by cases hu)).mono ?_
   rintro e w' ⟨f,rfl,k,-,h⟩;exact⟨f,rfl,k,h⟩
end
section
variable {P:Program}
theorem QbK(w:World)(x A D b:JT)(k m g o d h:Nat)(a:Addr)(f n:Nat)(c:JW)(t:JT)(cs:JV)
  (C:P.underlying x=some (.slice b)) (s:(P.info? b).map (·.size)=some k) (H:Nat.min f d=m) (G:m*k=cs.length)
  (y:w.heap[g]?=some (.cells c t (0,0)))
  (p:∀j v,cs[j]?=some v->w.cell? (a.add j)=some v) (r:o+cs.length<=c.size) (z:∀v∈cs,v.oneCell'=true) :
  (Builtin.copy_ #[x,A] D #[.slice (some (Ja g o)) d h,.slice (some a) f n]).run P w=.ok (goInt m) (w.setRow g (splice c.toList o cs).toArray):=by
 have B:=run_loadCells_list (P:=P) w a cs p;have l:=run_storeCells_at P g o t cs 0 c w y (by simpa using r) z
 rw[qP] at l;cases q:P.info? b with
 |none=>simp[q] at s
 |some i=>
  have E:i.size=k:=by simpa[q] using s
  simp[Builtin.copy_,run_underlying C,Builtin.lenOf,Builtin.firstCells,sizeOf,typeInfo,q,E,H,G,B,l,splice]
end
section
open Go.RowKit Go.Shelf Go.Lib
theorem QfZ(p q:JL)(w:World):Calls prog 274 #[.agg #[Jt (bs p),Jt (bs q)]] w (JB (.bool (decide (p=Qbl))) w):=by
 obtain⟨r,hr⟩:∃r,decide (p=Qbl)=r:=⟨_,rfl⟩;have a:((bs p).toList == [99,111,110,116,101,110,116,45,108,101,110,103,116,104])=r:=by rw[<-hr];exact QrU p Qbl
 rw[hr];clear hr;go_enter func274,ntmps274;go_wp2;go_ret;exact⟨rfl,(qF _ _).alloc (qC _) _⟩
theorem QpI(w:World):PredBelow prog 274 #[] (fun x=>.agg (QDR x).toArray) (fun x=>decide (x.1=Qbl)) w:=fun W x hb=>by
 show Calls prog 274 #[.agg #[Jt (bs x.1),Jt (bs x.2)]] W _;refine (QfZ x.1 x.2 W).mono ?_;rintro e w' ⟨rfl,h⟩;exact⟨rfl,Qaa hb h⟩
theorem QCl(a b:List (List UInt8×JL))(h:JL×JL)(f:h.1=Qbl)(d:∀x∈a,x.1≠Qbl):Lib.idxBy (fun _ y=>decide (y.1=Qbl)) (a++h :: b) (default:JL×JL)=(a.length:Int):=by
 unfold Lib.idxBy;rw[Lib.idxByFrom_hit _ _ _ a.length 0 (by simp)]
 ·simp
 ·rw[getElem!_pos _ _ (by simp)];simp[f]
 ·intro j c
  rw[getElem!_pos _ _ (by simp;omega),List.getElem_append_left c]
  exact qB (d _ (JG c))
theorem Qp2(g n b:Nat)(a:List (List UInt8×JL))(w:World)(h:n=a.length)(k:a.length<=1000000)(d:g<w.heap.size)
  (f:∀j (i:j<a.length),w.cell? (Ja g (0+j*2))=some (Jt (bs a[j].1))/\w.cell? (Ja g (0+j*2+1))=some (Jt (bs a[j].2))) :
  Calls prog 323 #[Jl g n b,.func (.func 274) #[] #[]] w (JB (Ji (Lib.idxBy (fun _ y=>decide (y.1=Qbl)) a default)) w):=by
 subst h;have c:∀args w,(callFunc 274 args).run prog w=.ok (.enter 274 args) w:=enters_of func274 (by kernel_rfl) rfl
 have:=AnyQ.slices_IndexFunc Qwf 2 Tryz.isAgg403 Tryz.sizeOf403 QDR (fun _=>rfl) (fun x=>decide (x.1=Qbl)) 274 #[] c g 0 a.length b a w (QpI w) (qC _) (by omega) d (QEP f)
 rw[List.take_length] at this;exact this
theorem Qgp{P:Program}(w:World)(t e n:JT)(z:Value)(m:P.underlying t=some (.slice e))(k:∀w,(zeroValue e).run P w=.ok z w)(g o c:Nat)(a:JW)(te:JT)(p:w.heap[g]?=some (.cells a te (0,0)))
  (f:o+z.cells.toList.length<=a.size) (h:∀v∈z.cells.toList,v.oneCell'=true) :
  (Builtin.clear_ #[t] n #[.slice (some (Ja g o)) 1 c]).run P w=.ok (.tuple #[]) (w.setRow g (splice a.toList o z.cells.toList).toArray):=by
 have d:(Builtin.zeroCells z.cells 1).toList=z.cells.toList:=by
  apply List.ext_getElem
  ·simp[Builtin.zeroCells]
  ·intro i h l
   have j:i<z.cells.size:=by simpa using l
   simp[Builtin.zeroCells,Nat.mod_eq_of_lt j,getElem!_pos z.cells i j]
 have b:=run_storeCells_at P g o te z.cells.toList 0 a w p (by simpa using f) h
 simp only[qM] at b;rw[qP] at b;simp[Builtin.clear_,run_underlying m,k,d,b,splice]
theorem Qtw(L:List (List UInt8×JL))(i:Nat)(f:JL×JL):QaB (L.set i f)=((QaB L).set (i*2) (Jt (bs f.1))).set (i*2+1) (Jt (bs f.2)):=by
 induction L generalizing i with
 |nil=>rfl
 |cons x t ih=>
  cases i with
  |zero=>rfl
  |succ i=>
   show _ :: _ :: QaB (t.set i f)=_;rw[ih,show (i+1)*2=i*2+1+1 by omega]
   rfl
theorem Qyi{w:World}{g:Nat}{a:JW}{t:JT}(h:w.heap[g]?=some (.cells a t (0,0)))(i j:Nat)(p q:Value) :
  ((w.setCell (Ja g i) p).setCell (Ja g j) q).heap[g]?=some (.cells ((a.setIfInBounds i p).setIfInBounds j q) t (0,0)):=by
 simp[World.setCell,J6,h]
theorem QB1(a b:List (List UInt8×JL))(x y:JL×JL)(k i:Nat)(c:k<b.length)(f:b[k]=y)(d:a.length+k=i):(a++(b.take k++x :: b.drop k)).set i y=a++(b.take (k+1)++y :: b.drop (k+1)):=by
 subst d f;rw[List.set_append_right _ _ (by omega),Nat.add_sub_cancel_left,List.set_append_right _ _ (by rw[qW];omega),qW,Nat.min_eq_left (by omega),Nat.sub_self,List.set_cons_zero,qV c,qP,List.drop_eq_getElem_cons c]
 rfl
theorem QB3(a b:List (List UInt8×JL))(x:JL×JL)(k:Nat)(c:k<b.length)(h:a.length+1+k<(a++(b.take k++x :: b.drop k)).length):(a++(b.take k++x :: b.drop k))[a.length+1+k]=b[k]:=by
 apply qS;rw[<-qU h,List.getElem?_append_right (by omega),List.getElem?_append_right (by rw[qW];omega),qW,Nat.min_eq_left (by omega),show a.length+1+k-a.length-k=1 by omega,List.drop_eq_getElem_cons c]
 rfl
structure MidRow(wr:World)(g cap N:Nat)(L:List (List UInt8×JL)):Prop where
 ex:∃cur,wr.heap[g]?=some (.cells cur 403 (0,0))/\cur.size=cap*2/\cur.toList.take (N*2)=QaB L/\L.length=N/\N<=cap/\cap<=maxLen
theorem MidRow.below{w w':World}{g a N:Nat}{L:List (List UInt8×JL)}(h:MidRow w g a N L)(b:Jw w w'):MidRow w' g a N L:=by
 obtain⟨cur,h1,h2⟩:=h.ex;exact⟨cur,(b.block g (gsi h1).1).trans h1,h2⟩
theorem MidRow.lt{w:World}{g a N:Nat}{L:List (List UInt8×JL)}(h:MidRow w g a N L):g<w.heap.size:=by
 obtain⟨cur,h1,h2⟩:=h.ex;exact (gsi h1).1
theorem MidRow.cells{w:World}{g b N:Nat}{L:List (List UInt8×JL)}(h:MidRow w g b N L)(j:Nat)(i:j<N)(y:JL×JL)(c:L[j]?=some y) :
  w.cell? (Ja g (j*2))=some (Jt (bs y.1))/\w.cell? (Ja g (j*2+1))=some (Jt (bs y.2))/\w.frozen? (Ja g (j*2))=false/\w.frozen? (Ja g (j*2+1))=false:=by
 obtain⟨cur,h1,h2,h3,h4,h5,h6⟩:=h.ex;have a:j<L.length:=by omega
 obtain⟨g1,g2⟩:=Qdr L j a;rw[qU a] at c;obtain rfl:=qS c;have key:∀k u,k<N*2->(QaB L)[k]?=some u->w.cell? (Ja g k)=some u:=by
  intro k u f d;rw[cell_of_row w g k cur _ (0,0) h1,<-Array.getElem?_toList];rw[<-h3,List.getElem?_take,JK f] at d;exact d
 refine⟨key _ _ (by omega) g1,key _ _ (by omega) g2,?_,?_⟩
 ·unfold World.frozen?;rw[h1];rfl
 ·unfold World.frozen?;rw[h1];rfl
theorem MidRow.set{w:World}{g a N:Nat}{L:List (List UInt8×JL)}(h:MidRow w g a N L)(i:Nat)(y:JL×JL) :
  MidRow ((w.setCell (Ja g (i*2)) (Jt (bs y.1))).setCell (Ja g (i*2+1)) (Jt (bs y.2))) g a N (L.set i y):=by
 obtain⟨cur,h1,h2,h3,h4,h5,h6⟩:=h.ex;refine⟨_,Qyi h1 _ _ _ _,by simp[h2],?_,by rw[List.length_set,h4],h5,h6⟩
 rw[Array.toList_setIfInBounds,Array.toList_setIfInBounds,List.take_set,List.take_set,h3,Qtw]
theorem MidRow.clear{w:World}{g a i:Nat}{L:List (List UInt8×JL)}(h:MidRow w g a (i+1) L)(base:Nat)(c:base<=g) :
  ∃w',(∀ty dc,(Builtin.clear_ #[357] ty #[.slice (some (Ja g (i*2))) 1 dc]).run prog w=.ok (.tuple #[]) w')/\w'.ownsRow base 403 2 (Jl g i a) i (QaB (L.take i))/\w.grownBy w' (some g):=by
 obtain⟨cur,h1,h2,h3,h4,h5,h6⟩:=h.ex;have f:=Tryz.zeroValue403;refine⟨_,fun ty dc=>Qgp w 357 403 ty _ underlying357 f g (i*2) dc cur 403 h1 (by show i*2+2<=_;omega) (by simp[Value.cells,Value.oneCell']),?_,?_⟩
 ·refine⟨by rw[QbG,qW];omega,.inr ⟨g,a,_,rfl,c,setRow_heap w g cur _ _ _ h1,by omega,?_,?_,?_⟩⟩
  ·exact h6
  ·rw[List.size_toArray,length_splice _ _ _ (by show i*2+2<=_;rw[Array.length_toList];omega),Array.length_toList,h2]
  ·have b:QaB L=QaB (L.take i)++QaB (L.drop i):=by rw[<-QgO,List.take_append_drop]
   have d:(QaB (L.take i)).length=i*2:=by rw[QbG,qW];omega
   unfold splice;rw[List.toList_toArray,List.take_left' (by rw[qW,Array.length_toList];omega)]
   have:cur.toList.take (i*2)=(cur.toList.take ((i+1)*2)).take (i*2):=by rw[List.take_take];congr 1;omega
   rw[this,h3,b,List.take_left' d]
 ·exact⟨rfl,rfl,rfl,by simp[World.setRow],fun k hk hn=>setRow_other w g k _ (fun e=>hn (by rw[e]))⟩
theorem Qqa{w a c:World}{r:Option Nat}(h:w.grownBy a r)(k:a.grownBy c r):w.grownBy c r:=
 ⟨k.os.trans h.os,k.tape.trans h.tape,k.output.trans h.output,qD h.size k.size,fun b hb hn=>(k.block b (qK hb h.size) hn).trans (h.block b hb hn)⟩
def QxN(g base cap:Nat)(fs:List (List UInt8×JL))(w:World)(e:Ending)(w':World):Prop:=
 e=.returned (Jl g fs.length cap)/\w'.ownsRow base 403 2 (Jl g fs.length cap) fs.length (QaB fs)/\w.grownBy w' (some g)
theorem Qos(g base c n:Nat)(a b:List (List UInt8×JL))(h:JL×JL)(w:World)(B:n=(a++h :: b).length)(hh:h.1=Qbl)(U:∀x∈a,x.1≠Qbl)(P:∀x∈b,x.1≠Qbl)(hl:n<=1000000)
  (f:w.ownsRow base 403 2 (Jl g n c) n (QaB (a++h :: b))) :
  Calls prog 297 #[Jl g n c,.func (.func 274) #[] #[]] w (QxN g base c (a++b) w):=by
 obtain⟨hM,QE9⟩:MidRow w g c n (a++h :: b)/\base<=g:=by
  rcases f.2 with⟨h0,-⟩|⟨g',cap',cur,K,h1,h2,h3,h4,h5,h6⟩
  ·cases h0
  ·cases K
   exact⟨⟨cur,h2,h5,h6,B.symm,h3,h4⟩,h1⟩
 have H:=hM.lt;have D:=Z (Qp2 g n c (a++h :: b) w B (by omega) H (fun j hj=>by
  obtain⟨h1,h2,-,-⟩:=hM.cells j (by omega) _ (qU hj)
  rw[Nat.zero_add];exact⟨h1,h2⟩))
 rw[QCl a b h hh U] at D;obtain⟨i,hi⟩:∃i,a.length+b.length=i:=⟨_,rfl⟩;have J:n=i+1:=by rw[B];simp;omega
 subst J;have R:i+1<=c:=by obtain⟨cur,h1,h2,h3,h4,h5,h6⟩:=hM.ex;exact h5
 have O:c<=9223372036854775807:=by obtain⟨cur,h1,h2,h3,h4,h5,h6⟩:=hM.ex;unfold maxLen at h6;exact h6
 have W:=Z hM;have HB:=Z P;have N:a.length<=i:=by omega
 have t1:((a.length:Int) == -1)=false:=by rw[qI];omega
 obtain⟨al,hAL⟩:∃al,a.length=al:=⟨_,rfl⟩;obtain⟨bl,hBL⟩:∃bl,b.length=bl:=⟨_,rfl⟩;rw[hAL] at D t1 N;have d:=Z (qE hAL hBL);rw[hAL,hBL] at hi;clear f hM B P U hAL hBL;go_enter func297,ntmps297;go_wp2_with fail;refine D.o.mono ?_;rintro e w1 ⟨rfl,s⟩;have L:=Z (W.o.below s);have M:=Z ((GR.refl g w).below s);clear s D;go_wp2_with fail;go_loopg [5,6,7] bl (fun gk s5 s6 _ wr=>∃(k:Nat) (x:JL×JL),s5 = Ji ((al+k:Nat):Int)/\s6 = Ji ((al+1+k:Nat):Int)/\k+gk=bl/\Hi (MidRow wr g c (i+1) (a++(b.take k++x :: b.drop k)))/\Hi (w.grownBy wr (some g)))
 case atStart=>exact⟨0,h,by simp,by simp,by omega,L,M⟩
 case round=>
  obtain⟨k,x,rfl,rfl,hgk,HR,HG⟩:=hrel;obtain⟨p,hp⟩:∃p,al+k=p:=⟨_,rfl⟩;obtain⟨q,hq⟩:∃q,al+1+k=q:=⟨_,rfl⟩;have t:Hi (q=p+1):=Z (by omega)
  have qa:=HR.o.lt;rw[hp,hq]
  by_cases X:k<bl
  ·obtain⟨g',rfl⟩:∃g',gk=g'+1:=⟨gk-1,by omega⟩
   have Y:decide ((q:Int)<(i:Int)+1)=true:=qA (by have:=t.o;omega)
   have l:k<b.length:=by rw[d.o.2];exact X
   obtain⟨y,hy⟩:∃y,b[k]=y:=⟨_,rfl⟩;have S:Hi ((a++(b.take k++x :: b.drop k))[q]?=some y):=Z (by
    have hlen:a.length+1+k<(a++(b.take k++x :: b.drop k)).length:=by
     simp only[qG,qH,qW,JC];omega
    have:=QB3 a b x k l hlen;rw[<-hq,<-d.o.1,qU hlen,this,hy])
   have HS:Hi ((a++(b.take k++x :: b.drop k)).set p y=a++(b.take (k+1)++y :: b.drop (k+1))):=Z (QB1 a b x y k p l hy (by rw[d.o.1];exact hp))
   have A:decide (y.1=Qbl)=false:=qB (by rw[<-hy];exact HB.o _ (JG l))
   obtain⟨c0,c1,-,-⟩:=HR.o.cells q (by omega) y S.o
   have T:=Z (fun w=>QfZ y.1 y.2 w)
   rw[A] at T;clear A hy S l;go_wp2_with fail;refine (T.o _).mono ?_;rintro e C ⟨rfl,m⟩;have v:=Z ((HR.o.below ((qF _ _).alloc (qC _) (.cells #[Jt (bs y.1),Jt (bs y.2)] 403))).below m);have G:=Z ((HG.o.below ((qF _ _).alloc (qC _) (.cells #[Jt (bs y.1),Jt (bs y.2)] 403))).below m);obtain⟨z,hz⟩:∃z,(a++(b.take k++x :: b.drop k))[p]?=some z:=⟨_,qU (by
    have:=d.o;simp only[qG,qH,qW,JC];omega)⟩
   obtain⟨d0,d1,f0,f1⟩:=v.o.cells p (by omega) z hz
   have r:Jh C wr.heap.size #[Jt (bs y.1),Jt (bs y.2)] 403:=(m.block wr.heap.size (by simp)).trans (JI wr _)
   have k0:C.cell? (Ja wr.heap.size 0)=some (Jt (bs y.1)):=by unfold World.cell?;rw[r];rfl
   have k1:C.cell? (Ja wr.heap.size 1)=some (Jt (bs y.2)):=by unfold World.cell?;rw[r];rfl
   clear m c0 c1 r hz;go_wp2_with fail;go_roundg g'
   case measure=>omega
   case rel=>exact⟨k+1,y,by go_num,by go_num,by omega,Z (by rw[<-HS.o];exact v.o.set p y),Z ((G.o.set _ _).set _ _)⟩
  ·obtain rfl:k=bl:=by omega
   have E:p=i:=by omega
   subst E;have Y:decide ((q:Int)<(p:Int)+1)=false:=qB (by have:=t.o;omega)
   obtain⟨C,hcl,f,hg⟩:=HR.o.clear base QE9;have HO:=Z f;have I:=Z hg;have V:Hi ((a++(b.take k++x :: b.drop k)).take p=a++b/\(a++b).length=p):=Z (by
    have:=d.o;have K:b.take k=b:=qX (by omega)
    rw[K,<-qP];exact⟨List.take_left' (by rw[qG];omega),by rw[qG];omega⟩)
   clear f hg;go_wp2;go_ret;unfold QxN;rw[V.o.2];have:=HO.o;rw[V.o.1] at this;exact⟨rfl,this,Qqa HG.o I.o⟩
end
section
def RpB(w:World)(R:Nat)(c f b:Value):Prop:=w.heap[R]?=some (.cells #[c,f,b] 359 (0,0))
theorem RpB.below{w w':World}{R:Nat}{c f b:Value}(k:RpB w R c f b)(a:Jw w w'):RpB w' R c f b:=
 (a.block R (gsi k).1).trans k
theorem RpB.lt{w:World}{R:Nat}{c f b:Value}(k:RpB w R c f b):R<w.heap.size:=(gsi k).1
theorem RpB.cells{w:World}{R:Nat}{c f b:Value}(k:RpB w R c f b) :
  w.cell? (Ja R 0)=some c/\w.cell? (Ja R 1)=some f/\w.cell? (Ja R 2)=some b:=by
 unfold RpB at k;refine⟨?_,?_,?_⟩<;>(unfold World.cell?;rw[k];rfl)
theorem RpB.free{w:World}{R:Nat}{c f b:Value}(k:RpB w R c f b) :
  w.frozen? (Ja R 0)=false/\w.frozen? (Ja R 1)=false/\w.frozen? (Ja R 2)=false:=by
 unfold RpB at k;refine⟨?_,?_,?_⟩<;>(unfold World.frozen?;rw[k];rfl)
theorem RpB.set0{w:World}{R:Nat}{c f b:Value}(k:RpB w R c f b)(v:Value):RpB (w.setCell (Ja R 0) v) R v f b:=by
 unfold RpB at k ⊢;simp[World.setCell,J6,k]
theorem RpB.set1{w:World}{R:Nat}{c f b:Value}(k:RpB w R c f b)(v:Value):RpB (w.setCell (Ja R 1) v) R c v b:=by
 unfold RpB at k ⊢;simp[World.setCell,J6,k]
def QxR(R:Nat)(W w':World)(c v b:Value):Prop:=RpB w' R c v b/\W.grownBy w' (some R)
theorem QuH{x:Array Oper}{o:Oper}{a:Act}{K:Act->World->Prop}{Q:Exit->Act->World->Prop}{E:Prop}{R base:Nat}(w0:World)(M:w0.heap.size=base)(t:R<base){c v b:Value}{q:World}{j:List (List UInt8×JL)}(W:World)(r:o.guard=none)(s z:Operand)
  (I:o.op=.call { callee:=.builtin .append,args:=#[s,z],argTypes:=#[357,357] })
  (p:RpB q R c v b) (A:q.ownsRow base 403 2 v j.length (QaB j)) (n:w0.grownBy q (some R)) (J:a.eval s=v) (L:j.length<2147483648) (i:Jw q W)
  (B:Nat) (f:JL×JL) (N:W.heap[B]?=some (.cells #[Jt (bs f.1),Jt (bs f.2)] 403 (0,0))) (hx:a.eval z = Jl B 1 1)
  (G:∀g cap w',w'.ownsRow base 403 2 (Jl g (j.length+1) cap) (j++[f]).length (QaB (j++[f]))->w'.cell? (Ja R 1)=some v->w'.frozen? (Ja R 1)=false->QxR R w0 w' c v b->K (a.put o.dst (Jl g (j.length+1) cap)) w') :
  if Region.wanted o (yielded x a.tmps)=true then Oper.wp prog o a W K Q else E:=by
 have m:=Qbj A i;have C:=p.lt;have H:=i.size;have D:=n.size;refine Qnj W r s z I base v j J m B f N hx L (by omega) (fun g cap w' h1 h2=>?_)
 have l:RpB w' R c v b:=(Qlg h2 m t (by omega)).trans (p.below i)
 have d:=n.below i;have y:w0.grownBy w' (some R):=⟨h2.os.trans d.os,h2.tape.trans d.tape,h2.output.trans d.output,qD d.size h2.size,fun k hk hne=>
  (h2.block k (qK hk d.size) (fun h=>by have:=(m.lt k h.symm).1;omega)).trans (d.block k hk hne)⟩
 exact G g cap w' h1 l.cells.2.1 l.free.2.1 ⟨l,y⟩
def QA3(R:Nat)(w:World)(b:Value)(ls:JM)(e:Ending)(w':World):Prop:=
 (hdE ls≠0/\e=.returned (.tuple #[Ji 0,.iface 38 (Ji (hdE ls:Nat))])/\(∃c f,RpB w' R c f b)/\w.grownBy w' (some R))\/
 (hdE ls=0/\e=.returned (.tuple #[Ji (hdN ls:Nat),.iface 400 (Jt ⟨#[116,97,107,101,110]⟩)])/\(∃f,RpB w' R (Ji (hdC ls)) f b/\w'.ownsRow w.heap.size 403 2 f (Qe0 (QbZ ls.tail)).length (QaB (Qe0 (QbZ ls.tail))))/\w.grownBy w' (some R))
theorem QrB(v:Value)(a:List (List UInt8×JL))(w:World)(b:HoldsF w v a)(hlen:a.length<=1000000) :
  Calls prog 239 #[v,Jt ⟨#[99,111,110,116,101,110,116,45,108,101,110,103,116,104]⟩] w (JB (.tuple #[Jt (bs (QbB a Qbl)),Ji (Qde a Qbl:Nat)]) w):=
 Qll v a ⟨#[99,111,110,116,101,110,116,45,108,101,110,103,116,104]⟩ w b hlen
theorem QzD(w:World):Calls prog 239 #[.slice none 0 0,Jt ⟨#[99,111,110,116,101,110,116,45,108,101,110,103,116,104]⟩] w (JB (.tuple #[Jt ⟨#[]⟩,Ji 6]) w):=
 QrB (.slice none 0 0) [] w (HoldsF.nil _ _ _) (by decide)
theorem QsA(R:Nat)(w:World)(lv b:Value)(ls:JM)(hR:RpB w R (Ji 0) (.slice none 0 0) b)(hl:HoldsS w lv ls)(hlen:ls.length<=17)(hx:∀x∈ls,x.length<=256)(hA:Anchor R w)(qk:lv.ownBlock≠some R) :
  Calls prog 263 #[Jp R,lv] w (QA3 R w b ls):=by
 have qb:=hR.lt
 by_cases hne:ls = []
 ·subst hne
  obtain⟨av,c,rfl,hc,hh⟩:=hl;have HR:=Z hR;clear hR hh hx hA qk;go_enter func263,ntmps263;go_wp2;go_ret2;exact .inl ⟨by decide,rfl,⟨_,_,HR.o⟩,GR.refl _ _⟩
 obtain⟨L,ts,rfl⟩:∃x ts,ls=x :: ts:=by cases ls with
  |nil=>exact JN rfl hne
  |cons x ts=>exact⟨x,ts,rfl⟩
 obtain⟨av,c,rfl,hc,hh⟩:=hl;obtain⟨B,o,rfl,hBl,Qak⟩:=hh (by simp)
 have Y:=Qak 0 (by simp)
 rw[qM] at Y;change w.cell? (Ja B o)=some (Jt (bs L)) at Y;have HC:Hi (∀j (K:j<ts.length),w.cell? (Ja B (o+1+j))=some (Jt (bs ts[j]))):=Z (fun j K=>by
  have:=Qak (j+1) (by simp;omega)
  rw[show o+1+j=o+(j+1) by omega];exact this)
 have HX:Hi (∀x∈ts,x.length<=256):=Z (fun x hxx=>hx x (JY _ hxx))
 have zl:=hx L (JF ..);have HA:=Z hA;have HR:=Z hR;have qu:Hi (B<w.heap.size/\B≠R):=Z ⟨hBl,fun e=>qk (by rw[e];rfl)⟩
 clear qk;obtain⟨X0,hX0⟩:∃X,bs L=X:=⟨_,rfl⟩;have qs:X0.data.toList=L:=by rw[<-hX0,Qai]
 have HS:=Z (fun w=>Qnk X0 w (by rw[<-hX0,Qaq];omega))
 rw[qs] at HS;rw[hX0] at Y;have qn:(L :: ts).length=ts.length+1:=rfl;rw[qn] at hc hlen ⊢;have tl:(((ts.length:Int)+1)==0)=false:=by rw[qI];omega
 have I:Hi ((L :: ts).getD 0 []=L/\(L :: ts).tail=ts/\(L :: ts)≠[]):=Z ⟨rfl,rfl,by simp⟩
 generalize (L :: ts)=LS at I ⊢;clear Qak hh hx hA hR hne hX0 qs qn;have zr:ts.length<=16:=by omega
 obtain⟨⟨C,e0⟩,hst⟩:∃T,Qbq L=T:=⟨_,rfl⟩;rw[hst] at HS
 by_cases he:e0=0
 case neg=>
  have E:Hi (hdE LS=e0/\e0≠0):=Z ⟨by unfold hdE;rw[JJ I.o.2.2,I.o.1,hst,JK he],he⟩
  have tz:((e0:Int) != 0)=true:=by rw[bne_iff_ne];omega
  clear he hst;go_enter func263,ntmps263;go_wp2_with fail;refine (HS.o _).mono ?_;rintro e G ⟨rfl,d⟩;have i:=Z (HR.o.below d);have n:=Z ((GR.refl R w).below d);clear d Y;go_wp2;go_ret2;exact .inl ⟨by rw[E.o.1];exact E.o.2,by rw[E.o.1];rfl,⟨_,_,i.o⟩,n.o⟩
 subst he;have ql:Hi ((Qbq (LS.getD 0 [])).2=0/\hdC LS=C):=Z ⟨by rw[I.o.1,hst],by unfold hdC;rw[I.o.1,hst]⟩
 clear hst;have qc:Hi (QeR ts≠0->hdE LS=QeR ts):=Z (fun h=>by unfold hdE;rw[JJ I.o.2.2,JJ (by rw[ql.o.1];simp),I.o.2.1,JK h])
 have P:Hi (QeR ts=0->hdE LS=if Qde (QbZ ts) Qbl≠0 then Qde (QbZ ts) Qbl else Qc2 (QbB (QbZ ts) Qbl)):=Z (fun h=>by unfold hdE;rw[JJ I.o.2.2,JJ (by rw[ql.o.1];simp),I.o.2.1,JJ (by rw[h];simp)])
 have M:Hi (hdN LS=QcK (QbB (QbZ ts) Qbl)/\Qe0 (QbZ LS.tail)=Qe0 (QbZ ts)):=Z ⟨by unfold hdN;rw[I.o.2.1],by rw[I.o.2.1]⟩
 clear I
 by_cases h1:c=1
 ·have ze:ts = []:=List.length_eq_zero_iff.1 (by omega)
  subst ze;subst h1;have HP:Hi (hdE LS=6):=Z (by rw[P.o rfl];rfl)
  have y:=Z (fun w=>QzD w)
  clear HC HX qc P M;go_enter func263,ntmps263;go_wp2_with fail;refine (HS.o _).mono ?_;rintro e G ⟨rfl,d⟩;have i:=Z (HR.o.below d);have n:=Z ((GR.refl R w).below d);obtain⟨k0,k1,-⟩:=i.o.cells;obtain⟨f0,f1,-⟩:=i.o.free;clear d Y;go_wp2_with fail;refine wp_loop_rounds 1 ?_;rw[rounds_succ];go_wp2_with fail;refine (y.o _).mono ?_;rintro e w2 ⟨rfl,f⟩;have l:=Z ((i.o.set0 (Ji C)).below f);have m:=Z ((n.o.set 0 (Ji C)).below f);clear f k0 k1 f0 f1;go_wp2;go_ret2;exact .inl ⟨by rw[HP.o];decide,by rw[HP.o];rfl,⟨_,_,l.o⟩,m.o⟩
 ·have zo:1<c:=by omega
  go_enter func263,ntmps263;go_wp2_with fail;refine (HS.o _).mono ?_;rintro e G ⟨rfl,d⟩;have i:=Z (HR.o.below d);have n:=Z ((GR.refl R w).below d);obtain⟨k0,k1,-⟩:=i.o.cells;obtain⟨f0,f1,-⟩:=i.o.free;clear d Y;go_wp2_with fail;have p:=i.o.set0 (Ji C);have qg:=n.o.set 0 (Ji C);generalize G.setCell (Ja R 0) (Ji C)=W1 at p qg ⊢;have l:=Z p;have m:=Z qg;clear p qg k0 k1 f0 f1 i n;go_loopg [36] ts.length (fun gk s36 wr=>∃(k:Nat) (fv:Value),s36 = Ji (k:Int)/\k+gk=ts.length/\RpB wr R (Ji C) fv b/\wr.ownsRow w.heap.size 403 2 fv (QbZ (ts.take k)).length (QaB (QbZ (ts.take k)))/\w.grownBy wr (some R)/\Hi (∀j (K:j<ts.length),j<k->QaT ts[j]=0))
  case atStart=>exact⟨0,_,by simp,by omega,l.o,by rw[List.take_zero];exact JZ _ _ _ _,m.o,Z (fun j K h=>JN h (JH _))⟩
  case round=>
   obtain⟨k,fv,rfl,hgk,hRr,QE2,hgr,HK⟩:=hrel;have H:=Z hgr;have qa:=hgr.toBelow (Nat.le_of_lt qb);have qi:=(HA.o.step qa);have HE:=Z qi.env;have zj:=Z qi;clear hgr;have HO:=Z QE2;have v:=Z hRr;clear QE2 hRr qi
   by_cases hk:k<ts.length
   ·obtain⟨g',rfl⟩:∃g',gk=g'+1:=⟨gk-1,by omega⟩
    have tk:decide ((k:Int)<(ts.length:Int))=true:=qA (by omega)
    have Y:wr.cell? (Ja B (o+1+k))=some (Jt (bs ts[k])):=by
     have zi:=H.o.block B qu.out.1 (fun e=>qu.out.2 (qS e))
     have:=HC.o k hk;unfold World.cell? at this ⊢;rw[zi];exact this
    obtain⟨S,hS⟩:∃S,bs ts[k]=S:=⟨_,rfl⟩;have qt:S.data.toList=ts[k]:=by rw[<-hS,Qai]
    have qx:S.size<=1000000:=by rw[<-hS,Qaq];have:=HX.o _ (JG hk);omega
    rw[hS] at Y;have HP:=Z (fun w hE=>Qh1 S w qx hE)
    rw[qt] at HP;have zf:Hi ((QbZ (ts.take k)).length<2147483648):=Z (by unfold QbZ;rw[qQ,qW];omega)
    clear hS qt
    by_cases s:QaT ts[k]=0
    ·rw[s] at HP
     have zd:Hi (∀j (K:j<ts.length),j<k+1->QaT ts[j]=0):=Z (fun j K h=>by
      by_cases e:j=k
      ·subst e;exact s
      ·exact HK.o j K (by omega))
     have zc:Hi (QbZ (ts.take (k+1))=QbZ (ts.take k)++[(QaX ts[k],Qbc ts[k])]):=Z (Qod ts k hk);clear s HK;go_wp2_with fail;refine (HP.o _ HE.o).mono ?_;rintro e G ⟨rfl,d⟩;have i:=Z (v.o.below d);have qo:=Z (Qbj HO.o d);have n:=Z (H.o.below d);have qr:=i.o.lt;clear d qa Y;go_wp2_with fail;have p:RpB (G.alloc (.cells #[Jt (bs (QaX ts[k])),Jt (bs (Qbc ts[k]))] 403)) R (Ji C) fv b:=i.o.below ((qF _ _).alloc (qC _) _);have qd:=Qbj qo.o ((qF G.heap.size G).alloc (qC _) (.cells #[Jt (bs (QaX ts[k])),Jt (bs (Qbc ts[k]))] 403));have qj:=n.o.below ((qF G.heap.size G).alloc (qC _) (.cells #[Jt (bs (QaX ts[k])),Jt (bs (Qbc ts[k]))] 403));obtain⟨j0,j1⟩:=QAV G (Jt (bs (QaX ts[k]))) (Jt (bs (Qbc ts[k]))) 403;have K:G.heap.size<(G.alloc (.cells #[Jt (bs (QaX ts[k])),Jt (bs (Qbc ts[k]))] 403)).heap.size:=by simp
     generalize G.alloc (.cells #[Jt (bs (QaX ts[k])),Jt (bs (Qbc ts[k]))] 403)=W2 at p qd qj j0 j1 K ⊢;have l:=Z p;have qf:=Z qd;have m:=Z qj;obtain⟨-,k1,-⟩:=p.cells;obtain⟨-,f1,-⟩:=p.free;have zk:=p.lt;clear p qd qj i qo n;go_region_law (refine QuH w rfl qb _ rfl _ _ rfl l.o qf.o m.o rfl zf.out ?_ W2.heap.size (QaX ts[k],Qbc ts[k]) ?_ rfl ?_;exact ((qF _ _).alloc (qC _) _).drew;exact JI W2 _;intro g r w3 zb zq zn qp)
     all_goals
      go_wp2_with fail;go_roundg g'
      case measure=>omega
      case rel=>
       refine⟨k+1,_,by simp,by omega,qp.1.set1 _,?_,qp.2.set 1 _,zd⟩
       rw[zc.o];exact ownsRow_setCell_below zb (a:=(Ja R 1)) qb _
    ·have E:Hi (hdE LS=QaT ts[k]/\hdE LS≠0):=Z (by
      have qv:=QwM ts k hk HK.o s;have:=qc.o (by rw[qv];exact s)
      rw[this,qv];exact⟨rfl,s⟩)
     have tz:((QaT ts[k]:Int) != 0)=true:=by rw[bne_iff_ne];omega
     clear s HK;go_wp2_with fail;refine (HP.o _ HE.o).mono ?_;rintro e G ⟨rfl,d⟩;have i:=Z (v.o.below d);have n:=Z (H.o.below d);have qr:=i.o.lt;clear d qa Y;go_wp2;go_ret2;exact .inl ⟨E.o.2,by rw[E.o.1];rfl,⟨_,_,i.o.below ((qF _ _).alloc (qC _) _)⟩,n.o.below ((qF _ _).alloc (qC _) _)⟩
   ·obtain rfl:k=ts.length:=by omega
    have tk:decide ((ts.length:Int)<(ts.length:Int))=false:=qB (by omega)
    have s:QeR ts=0:=QrF ts (fun j K=>HK.o j K K)
    rw[List.take_length] at HO;obtain⟨q,hfs⟩:∃q,QbZ ts=q:=⟨_,rfl⟩;have zp:q.length<=16:=by rw[<-hfs];unfold QbZ;rw[qQ];omega
    have zm:(QbB q Qbl).length<=256:=by rw[<-hfs];exact QrC ts Qbl HX.o
    have V:=Z (P.o s);rw[hfs] at HO V M;have y:=Z (fun w h=>QrB fv q w h (by omega))
    have U:=Z (fun w hE=>QgM (bs (QbB q Qbl)) w (by rw[Qaq];omega) hE)
    rw[Qai] at U;obtain⟨-,k1,-⟩:=v.o.cells;clear s HK hfs qa
    by_cases s:Qde q Qbl=0
    case neg=>
     have E:Hi (hdE LS=Qde q Qbl/\hdE LS≠0):=Z (by rw[V.o,JK s];exact⟨rfl,s⟩)
     have tz:((Qde q Qbl:Int) != 0)=true:=by rw[bne_iff_ne];omega
     clear s;go_wp2_with fail;refine (y.o _ (HoldsF.of_own HO.o)).mono ?_;rintro e w2 ⟨rfl,f⟩;have l:=Z (v.o.below f);have m:=Z (H.o.below f);clear f k1;go_wp2;go_ret2;exact .inl ⟨E.o.2,by rw[E.o.1];rfl,⟨_,_,l.o⟩,m.o⟩
    rw[s] at y;have qz:Hi (Qde q Qbl=0):=Z s;rw[s,JJ (by simp)] at V
    clear s
    by_cases hn:Qc2 (QbB q Qbl)=0
    case neg=>
     have E:Hi (hdE LS=Qc2 (QbB q Qbl)/\hdE LS≠0):=Z (by rw[V.o];exact⟨rfl,hn⟩)
     have tz:((Qc2 (QbB q Qbl):Int) != 0)=true:=by rw[bne_iff_ne];omega
     clear hn;go_wp2_with fail;refine (y.o _ (HoldsF.of_own HO.o)).mono ?_;rintro e w2 ⟨rfl,f⟩;have l:=Z (v.o.below f);have m:=Z (H.o.below f);have qh:=Z (HE.o.below f);clear f k1;go_wp2_with fail;refine (U.o _ qh.o).mono ?_;rintro e w3 ⟨rfl,t⟩;have O:=Z (l.o.below t);have D:=Z (m.o.below t);clear t;go_wp2;go_ret2;exact .inl ⟨E.o.2,by rw[E.o.1];rfl,⟨_,_,O.o⟩,D.o⟩
    have E:Hi (hdE LS=0):=Z (by rw[V.o];exact hn)
    rw[hn] at U;obtain⟨N,hN⟩:∃N,QcK (QbB q Qbl)=N:=⟨_,rfl⟩;rw[hN] at U M;obtain⟨A,x,Bf,e1,e2,e3,e4,e5⟩:=QuI q qz.out;have J:=Z (qE e1 (qE e2 (qE e3 (qE e4 e5))));have zg:0<q.length:=by rw[e1,qG,qH];omega
    obtain⟨g,r,hfv,hgb⟩:∃g r,fv = Jl g q.length r/\w.heap.size<=g:=by
     rcases HO.o.2 with⟨-,h0⟩|⟨g,r,cur,hv,hb,-⟩
     ·omega
     ·exact⟨g,r,hv,hb⟩
    subst hfv;obtain⟨nn,hnn⟩:∃nn,q.length=nn:=⟨_,rfl⟩;rw[hnn] at HO k1 v y;have HD:=Z (fun W (h:W.ownsRow w.heap.size 403 2 (Jl g nn r) nn (QaB q))=>Qos g w.heap.size r nn A Bf x W (by rw[<-hnn,J.o.1]) J.o.2.1 J.o.2.2.1 J.o.2.2.2.1 (by omega) (by rw[J.o.1] at h;exact h))
    obtain⟨rs,hrs⟩:∃rs,A++Bf=rs:=⟨_,rfl⟩;rw[hrs] at HD;have qw:Hi (Qe0 q=rs):=Z (e5.trans hrs);clear hn e1 e2 e3 e4 e5 hN hnn zg hrs;go_wp2_with fail;refine (y.o _ (by have:=HoldsF.of_own HO.o;exact this)).mono ?_
    rintro e w2 ⟨rfl,f⟩;have l:=Z (v.o.below f);have m:=Z (H.o.below f);have qh:=Z (HE.o.below f);have qf:=Z (Qbj HO.o f);clear f k1;go_wp2_with fail;refine (U.o _ qh.o).mono ?_;rintro e w3 ⟨rfl,t⟩;have O:=Z (l.o.below t);have D:=Z (m.o.below t);have zh:=Z (Qbj qf.o t);obtain⟨-,k1,-⟩:=O.o.cells;have qm:=D.o.size;clear t;go_wp2_with fail;refine (HD.o _ zh.o).mono ?_;rintro e w4 ⟨rfl,qq,z⟩;have qe:Hi (RpB w4 R (Ji C) (Jl g nn r) b):=Z ((z.block R O.o.lt (fun e=>by have:=qS e;omega)).trans O.o)
    have za:Hi (w.grownBy w4 (some R)):=Z ⟨z.os.trans D.o.os,z.tape.trans D.o.tape,z.output.trans D.o.output,qD qm z.size,fun k hk hne=>(z.block k (qK hk qm) (fun e=>by have:=qS e;omega)).trans (D.o.block k hk hne)⟩
    have qy:=Z qq;obtain⟨-,k1,-⟩:=qe.o.cells;obtain⟨-,f1,-⟩:=qe.o.free;clear qq z;go_wp2;go_ret2;refine .inr ⟨E.o,by rw[M.o.1];rfl,⟨Jl g rs.length r,?_,?_⟩,za.o.set 1 _⟩
    ·rw[ql.o.2];exact qe.o.set1 _
    ·rw[M.o.2,qw.o];exact ownsRow_setCell_below qy.o (a:=(Ja R 1)) qb _
end
section
open Go.RowKit Go.Extern.Stop Go.Stop Go.Extern Go.Extern.Rtype
theorem Qnp(v:Value)(w:World):(Extern.ReflectliteType.typeOf #[.iface 400 v]).run prog w=.ok (.iface 411 (.agg #[.pointer (some (Ja 9 400))])) w:=by kernel_rfl
theorem Qgq(w:World):((Extern.ReflectliteType.method fun t=>do noPackHeld "Comparable" t;Functor.map (fun a=>Value.bool a.comparable) (typeInfo t)) #[.agg #[.pointer (some (Ja 9 400))]]).run prog w=.ok (.bool true) w:=by kernel_rfl
theorem Qnr(v:Value)(w:World):(Go.method 700 411 v "Comparable").run prog w=.ok (427,v) w:=by kernel_rfl
theorem QBx(w:World):(binOp .eql 247 (.iface 400 (Jt ⟨#[116,97,107,101,110]⟩)) (.iface 400 (Jt ⟨#[116,97,107,101,110]⟩))).run prog w=.ok (.bool true) w:=by kernel_rfl
theorem Qyk(e:Int)(w:World):(binOp .eql 247 (.iface 38 (Ji e)) (.iface 400 (Jt ⟨#[116,97,107,101,110]⟩))).run prog w=.ok (.bool false) w:=by kernel_rfl
theorem QBy(v:Value)(a:JT)(w:World):(Instr.typeAssert (.iface 38 v) a 475 true).run prog w=.ok (.tuple #[.nilIface,.bool false]) w:=run_typeAssert_lacksB underlying475 (by kernel_rfl) (by kernel_rfl) v a w
theorem Qpf(v:Value)(a:JT)(w:World):(Instr.typeAssert (.iface 38 v) a 419 true).run prog w=.ok (.tuple #[.nilIface,.bool false]) w:=run_typeAssert_lacksB underlying419 (by kernel_rfl) (by kernel_rfl) v a w
theorem Qnq(v:Value)(a:JT)(w:World):(Instr.typeAssert (.iface 38 v) a 421 true).run prog w=.ok (.tuple #[.nilIface,.bool false]) w:=run_typeAssert_lacksB underlying421 (by kernel_rfl) (by kernel_rfl) v a w
theorem Qze(w:World):Calls prog 264 #[.iface 400 (Jt ⟨#[116,97,107,101,110]⟩),.iface 400 (Jt ⟨#[116,97,107,101,110]⟩)] w (JS (.bool true) w):=by
 have c:=@run_callFunc_extern prog 268 _ Extern.ReflectliteType.typeOf func268 (by kernel_rfl) (by kernel_rfl) (by kernel_rfl) (by kernel_rfl)
 have a:=@run_callFunc_extern prog 427 _ (Extern.ReflectliteType.method fun t=>do noPackHeld "Comparable" t;pure (.bool (<-typeInfo t).comparable)) func427 (by kernel_rfl) (by kernel_rfl) (by kernel_rfl) (by kernel_rfl)
 have g:=Qnp;have f:=Qgq;have d:=Qnr;have b:=QBx;go_enter func264,ntmps264;go_wp2;refine wp_loop_rounds 1 ?_;rw[rounds_succ];go_wp2;go_ret;exact⟨rfl,rfl⟩
theorem Qzf(n:Int)(w:World):Calls prog 264 #[.iface 38 (Ji n),.iface 400 (Jt ⟨#[116,97,107,101,110]⟩)] w (JS (.bool false) w):=by
 have c:=@run_callFunc_extern prog 268 _ Extern.ReflectliteType.typeOf func268 (by kernel_rfl) (by kernel_rfl) (by kernel_rfl) (by kernel_rfl)
 have a:=@run_callFunc_extern prog 427 _ (Extern.ReflectliteType.method fun t=>do noPackHeld "Comparable" t;pure (.bool (<-typeInfo t).comparable)) func427 (by kernel_rfl) (by kernel_rfl) (by kernel_rfl) (by kernel_rfl)
 have h:=Qnp;have g:=Qgq;have d:=Qnr;have b:=Qyk n;have f:=QBy;have i:=Qpf;have vE:=Qnq;go_enter func264,ntmps264;go_wp2;refine wp_loop_rounds 1 ?_;rw[rounds_succ];go_wp2;go_ret;exact⟨rfl,rfl⟩
end
section
theorem Qa0(w:World)(x y z:Value)(t:JT):Jw w (w.alloc (.cells #[x,y,z] t)):=(qF _ _).alloc (qC _) _
def Three(w:World)(b:Nat)(x y z:Value):Prop:=b<w.heap.size/\w.cell? (Ja b 0)=some x/\w.cell? (Ja b 1)=some y/\w.cell? (Ja b 2)=some z
theorem Three.below{w w':World}{b:Nat}{x y z:Value}(h:Three w b x y z)(a:Jw w w'):Three w' b x y z:=
 ⟨qK h.1 a.size,(a.cell (p:=(Ja b 0)) h.1).trans h.2.1,(a.cell (p:=(Ja b 1)) h.1).trans h.2.2.1,(a.cell (p:=(Ja b 2)) h.1).trans h.2.2.2⟩
theorem Three.alloc{w:World}{b:Nat}{x y z:Value}(h:Three w b x y z)(o:Obj):Three (w.alloc o) b x y z:=h.below ((qF _ _).alloc (qC _) o)
theorem Three.new(w:World)(x y z:Value)(t:JT):Three (w.alloc (.cells #[x,y,z] t)) w.heap.size x y z:=by
 have a:=JI w (.cells #[x,y,z] t);refine⟨by simp,?_,?_,?_⟩<;>(unfold World.cell?;rw[a];rfl)
theorem Qeq(w:World)(b:Nat)(t:JT)(x y z:Value)(h:w.heap[b]?=some (.cells #[x,y,z] t (0,0))):(loadVar 359 (Ja b 0)).run prog w=.ok (.agg #[x,y,z]) w:=
 run_loadVar_row w b t 359 #[x,y,z] (0,0) _ h underlying359 rfl (by kernel_rfl)
theorem Qd0{w:World}{b:Nat}{x y z:Value}{t:JT}(h:w.heap[b]?=some (.cells #[x,y,z] t (0,0)))(a d c:Value) :
  (((w.setCell (Ja b 0) a).setCell (Ja b 1) d).setCell (Ja b 2) c).heap[b]?=some (.cells #[a,d,c] t (0,0)):=by
 simp[World.setCell,J6,h]
theorem Qsm{w:World}{b:Nat}{x y z:Value}{t:JT}(h:w.heap[b]?=some (.cells #[x,y,z] t (0,0)))(a:Value) :
  (w.setCell (Ja b 2) a).heap[b]?=some (.cells #[x,y,a] t (0,0)):=by
 simp[World.setCell,J6,h]
theorem QcM{B:Nat}{w0 w:World}(h:Below B w0 w)(b:Nat)(a:B<=b)(c f d:Value):Below B w0 (((w.setCell (Ja b 0) c).setCell (Ja b 1) f).setCell (Ja b 2) d):=
 ((h.setCell (p:=(Ja b 0)) a _).setCell (p:=(Ja b 1)) a _).setCell (p:=(Ja b 2)) a _
theorem Qas{w:World}{b:Nat}{x y z:Value}{t:JT}(h:w.heap[b]?=some (.cells #[x,y,z] t (0,0))) :
  w.cell? (Ja b 0)=some x/\w.cell? (Ja b 1)=some y/\w.cell? (Ja b 2)=some z/\w.frozen? (Ja b 0)=false/\w.frozen? (Ja b 1)=false/\w.frozen? (Ja b 2)=false:=by
 refine⟨?_,?_,?_,?_,?_,?_⟩
 ·unfold World.cell?;rw[h];rfl
 ·unfold World.cell?;rw[h];rfl
 ·unfold World.cell?;rw[h];rfl
 ·unfold World.frozen?;rw[h];rfl
 ·unfold World.frozen?;rw[h];rfl
 ·unfold World.frozen?;rw[h];rfl
theorem QuZ(v:Value)(w:World):(Instr.typeAssert (.iface 38 v) 247 38 true).run prog w=.ok (.tuple #[v,.bool true]) w:=by kernel_rfl
theorem Qhi{w:World}{c a:Nat}{e:JT}{s n:Nat}{v:Value}{x:JV}(h:w.ownsRow c e s v n x)(d:a<=c):w.ownsRow a e s v n x:=by
 refine⟨h.1,?_⟩;rcases h.2 with h0|⟨b,cap,cur,e1,e2,e3⟩
 ·exact .inl h0
 ·exact .inr ⟨b,cap,cur,e1,qD d e2,e3⟩
def QEl(s:JA)(most:Int)(fv:Value):Value:=.tuple #[.agg #[Ji (Qks s most),fv,Jt (bs (Qfp s most))],Ji (QhH s most),Ji (Qdm s most:Nat)]
def Qg4(s:JA)(most:Int)(w:World)(e:Ending)(w':World):Prop:=
 ∃fv,e=.returned (QEl s most fv)/\w'.ownsRow w.heap.size 403 2 fv (Qcb s most).length (QaB (Qcb s most))/\Jw w w'
theorem Qgz(s:JA)(a:Int)(e:Nat)(h:Qdm s a=e)(b:e≠0)(w w':World)(c:Jw w w') :
  Qg4 s a w (.returned (.tuple #[.agg #[Ji 0,.slice none 0 0,Jt ⟨#[]⟩],Ji 0,Ji e])) w':=by
 obtain⟨h1,h2,h3,h4⟩:=QBf s a (by rw[h];exact b)
 refine⟨.slice none 0 0,?_,?_,c⟩
 ·unfold QEl;rw[h1,h3,h4,h];rfl
 ·rw[h2];exact JZ _ _ _ _
theorem QsL(s:JA)(a:Int)(h:Qdm s a=0)(w w':World)(c:Value)(b:w'.ownsRow w.heap.size 403 2 c (Qcb s a).length (QaB (Qcb s a)))(i:Jw w w')(C n:Int)(B:JA)(f:Qks s a=C)(d:QhH s a=n)(g:bs (Qfp s a)=B) :
  Qg4 s a w (.returned (.tuple #[.agg #[Ji C,c,Jt B],Ji n,Ji 0])) w':=by
 refine⟨c,?_,b,i⟩;unfold QEl;rw[f,d,g,h];rfl
theorem Qpg(s:JA)(b:Int)(w:World)(hs:s.size<=1000000)(hE:EnvF w) :
  Calls prog 238 #[Jt s,Ji b] w (Qg4 s b w):=by
 have V:=Z (Qhr s (w.alloc (.cells #[Ji 0,.slice none 0 0,Jt ⟨#[]⟩] 359)) (by omega))
 have K:=QcB s;have B:=Qn9 s;unfold QfC at V;obtain⟨⟨d,n,e⟩,hh⟩:∃T,Qaf s=T:=⟨_,rfl⟩;rw[hh] at V K B;have m:=Z hh;change (∀x∈d,x.length<=256)/\d.length<=17 at K;change e=0->0<n/\n<=(s.size:Int) at B;change Hi (Calls _ _ _ _ fun r w'=>∃v,r=.returned (.tuple #[v,Ji n,Ji e])/\w'.ownsRow _ 9 1 v d.length (QfY d)/\_) at V
 have X:=Z K;have L:=Z (Qa0 w (Ji 0) (.slice none 0 0) (Jt ⟨#[]⟩) 359);have HE:=Z hE;clear hE K hh
 by_cases he:e=0
 case neg=>
  have j:Hi (Qdm s b=e/\e≠0):=Z ⟨by unfold Qdm;rw[m.o];exact JK he,he⟩
  have tz:((e:Int) != 0)=true:=by rw[bne_iff_ne];omega
  clear he B;go_enter func238,ntmps238;go_wp2_with fail;refine V.o.mono ?_;rintro r G ⟨v,rfl,-,h⟩;have I:=Z h;have O:=Z ((h.block w.heap.size (by simp)).trans (JI w _))
  obtain⟨d0,d1,d2,g0,g1,g2⟩:=Qas O.o;clear h;go_wp2_with fail;refine QaW (A:=(Ja w.heap.size 0)) rfl (Qeq _ _ _ _ _ _ (Qd0 O.o _ _ _)) rfl rfl rfl rfl ?_;exact Qgz s b e j.o.1 j.o.2 w _ (QcM (Qaa L.o I.o) _ (qC _) _ _ _)
 subst he;obtain⟨n1,n2⟩:=B rfl;obtain⟨g,rfl⟩:∃g:Nat,n=g:=⟨n.toNat,by omega⟩
 have H:Hi (∀q,Qdm s b=q↔(if hdE d≠0 then hdE d else if b<(hdN d:Int) then 5 else if (s.size:Int)-g<(hdN d:Int) then 3 else 0)=q):=Z (fun q=>by unfold Qdm;rw[m.o];rfl)
 clear B;have W:Hi (∀(G:World) (v:Value),Below (w.alloc (.cells #[Ji 0,.slice none 0 0,Jt ⟨#[]⟩] 359)).heap.size (w.alloc (.cells #[Ji 0,.slice none 0 0,Jt ⟨#[]⟩] 359)) G->G.ownsRow (w.alloc (.cells #[Ji 0,.slice none 0 0,Jt ⟨#[]⟩] 359)).heap.size 9 1 v d.length (QfY d)->
   Calls prog 263 #[Jp w.heap.size,v] G (QA3 w.heap.size G (Jt ⟨#[]⟩) d)):=Z (fun G v h1 h2=>by
  have hK:=(h1.block w.heap.size (by simp)).trans (JI w _)
  refine QsA w.heap.size G v _ d hK (HoldsS.of_own h2) X.o.2 X.o.1 ⟨w,HE.o,rfl,L.o.trans (h1.mono (by simp))⟩ (fun e=>?_)
  have:=(h2.lt _ e).1;simp at this;omega)
 go_enter func238,ntmps238;go_wp2_with fail;refine V.o.mono ?_;rintro r G ⟨v,rfl,qa,h⟩;have I:=Z (Qaa L.o h);have HC:=Z (W.o G v h qa);have i:w.heap.size<G.heap.size:=by have:=h.size;simp at this;omega
 clear h qa W V;go_wp2_with fail;refine HC.o.mono ?_;rintro r w2 (⟨R,rfl,⟨c,f,t⟩,z⟩|⟨R,rfl,⟨f,t,M⟩,z⟩)
 ·have j:Hi (Qdm s b=hdE d/\hdE d≠0):=Z ⟨(H.o _).2 (JK R),R⟩
  have y:=Z (fun w=>Qzf (hdE d:Int) w)
  have qd:=fun w=>QuZ (Ji (hdE d:Int)) w
  have D:=Z (I.o.trans (z.toBelow (Nat.le_of_lt i)));have O:=Z t;obtain⟨d0,d1,d2,g0,g1,g2⟩:=Qas O.o;clear R z t;generalize hdE d=E at *;go_wp2_with fail;refine (y.o _).mono ?_;rintro r w' ⟨rfl,rfl⟩;go_wp2_with fail;refine QaW (A:=(Ja w.heap.size 0)) rfl (Qeq _ _ _ _ _ _ (Qd0 O.o _ _ _)) rfl rfl rfl rfl ?_;exact Qgz s b _ j.o.1 j.o.2 w _ (QcM D.o _ (qC _) _ _ _)
 ·have y:=Z (fun w=>Qze w)
  have D:=Z (I.o.trans (z.toBelow (Nat.le_of_lt i)));obtain⟨af,cf,rfl⟩:=Qat M;have Y:=Z M;have O:=Z t;have l:Hi (w2.heap[w.heap.size]?=some (.cells #[Ji (hdC d),.slice af (Qe0 (QbZ d.tail)).length cf,Jt ⟨#[]⟩] 359 (0,0))):=Z t;obtain⟨d0,d1,d2,g0,g1,g2⟩:=Qas l.o;obtain⟨rs,hrs⟩:∃rs,Qe0 (QbZ d.tail)=rs:=⟨_,rfl⟩;have qb:=Z hrs;rw[hrs] at Y l d1;clear hrs;obtain⟨N,hN⟩:∃N,hdN d=N:=⟨_,rfl⟩;obtain⟨C,hC⟩:∃C,hdC d=C:=⟨_,rfl⟩;have k:=Z (qE hN hC);have P:=Z R;rw[hN];rw[hC] at d0 l;clear R z t M O hN hC HC
  by_cases U:b<(N:Int)
  ·have j:Hi (Qdm s b=5):=Z ((H.o 5).2 (by rw[JJ (by rw[P.out];simp),k.o.1,JK U]))
   have tm:decide ((N:Int)>b)=true:=qA (by omega)
   clear U;go_wp2_with fail;refine (y.o _).mono ?_;rintro r w' ⟨rfl,rfl⟩;go_wp2_with fail;refine QaW (A:=(Ja w.heap.size 0)) rfl (Qeq _ _ _ _ _ _ (Qd0 l.o _ _ _)) rfl rfl rfl rfl ?_;exact Qgz s b 5 j.o (by decide) w _ (QcM D.o _ (qC _) _ _ _)
  have tm:decide ((N:Int)>b)=false:=qB (by omega)
  have tw:IntKind.i64.wrap ((s.size:Int)-(g:Int))=(s.size:Int)-(g:Int):=by rw[JR];omega
  by_cases J:(s.size:Int)-(g:Int)<(N:Int)
  ·have j:Hi (Qdm s b=3):=Z ((H.o 3).2 (by rw[JJ (by rw[P.out];simp),k.o.1,JJ U,JK J]))
   have ts:decide ((N:Int)>(s.size:Int)-(g:Int))=true:=qA (by omega)
   clear U J;go_wp2_with fail;refine (y.o _).mono ?_;rintro r w' ⟨rfl,rfl⟩;go_wp2_with fail;refine QaW (A:=(Ja w.heap.size 0)) rfl (Qeq _ _ _ _ _ _ (Qd0 l.o _ _ _)) rfl rfl rfl rfl ?_;exact Qgz s b 3 j.o (by decide) w _ (QcM D.o _ (qC _) _ _ _)
  ·have S:Qdm s b=0:=(H.o 0).2 (by rw[JJ (by rw[P.out];simp),k.o.1,JJ U,JJ J])
   have j:Hi (Qdm s b=0/\Qks s b=C/\Qcb s b=Qe0 (QbZ d.tail)/\QhH s b=(g:Int)+(N:Int)/\bs (Qfp s b)=s.extract g (g+N)):=Z ⟨S,by unfold Qks;rw[JK S,m.o];exact k.o.2,by unfold Qcb;rw[JK S,m.o],by unfold QhH;rw[JK S,m.o];exact congrArg (fun q:Nat=>(g:Int)+(q:Int)) k.o.1,by
    unfold Qfp;rw[JK S,m.o,QcC];show bs ((s.data.toList.take ((g:Int).toNat+hdN d)).drop (g:Int).toNat)=_;rw[k.o.1,Int.toNat_natCast]⟩
   have ts:decide ((N:Int)>(s.size:Int)-(g:Int))=false:=qB (by omega)
   have ta:IntKind.i64.wrap ((g:Int)+(N:Int))=(g:Int)+(N:Int):=by rw[JR];omega
   have qe:g+N<=s.size:=by omega
   have qc:(g:Int)+(N:Int)<=(s.size:Int):=by omega
   clear U J S;go_wp2_with fail;refine (y.o _).mono ?_;rintro r w' ⟨rfl,rfl⟩;go_wp2_with fail;refine QaW (A:=(Ja w.heap.size 0)) rfl (Qeq _ _ _ _ _ _ (Qd0 (Qsm l.o _) _ _ _)) rfl rfl rfl rfl ?_;refine QsL s b j.o.1 w _ _ ?_ (QcM (D.o.setCell (p:=(Ja w.heap.size 2)) (qC _) _) _ (qC _) _ _ _) _ _ _ j.o.2.1 j.o.2.2.2.1 j.o.2.2.2.2;rw[j.o.2.2.1,qb.o];exact Qhi (ownsRow_setCell_below (ownsRow_setCell_below (ownsRow_setCell_below (ownsRow_setCell_below Y.o (a:=(Ja w.heap.size 2)) i _) (a:=(Ja w.heap.size 0)) i _) (a:=(Ja w.heap.size 1)) i _) (a:=(Ja w.heap.size 2)) i _) (Nat.le_of_lt i)
theorem Qna(L:JV)(n:Nat)(x y:Value)(c:2<=L.length)(f:n*2+2<=L.length) :
  (splice (splice L 2 (L.take (n*2))) 0 [x,y]).take ((n+1)*2)=x :: y :: L.take (n*2)/\(splice (splice L 2 (L.take (n*2))) 0 [x,y]).length=L.length:=by
 have a:(L.take (n*2)).length=n*2:=by rw[qW];omega
 have b:(splice L 2 (L.take (n*2))).length=L.length:=length_splice _ _ _ (by rw[a];omega)
 refine⟨?_,by rw[length_splice _ _ _ (by rw[b];simpa using c),b]⟩
 have d:(L.take 2).length=2:=by rw[qW];omega
 unfold splice;rw[List.take_zero,J3,show 0 + [x,y].length=2 from rfl,List.drop_left' d];rw[show (n+1)*2=n*2+1+1 by omega]
 simp only[J4,J3,List.take_succ_cons];rw[List.take_left' a]
theorem QjK:(prog.info? 403).map (fun i=>(i.zero,i.size,i.bytes))=some (some (.agg #[Jt ByteArray.empty,Jt ByteArray.empty]),2,32):=by kernel_rfl
theorem QpZ(g n c b:Nat)(a:JW)(x y:Value)(w:World)(s:0<n)(G:n+1<=c)(P:c<=maxLen)(A:w.heap[g]?=some (.cells a 403 (0,0)))(i:a.size=c*2)
  (B:w.heap[b]?=some (.cells #[x,y] 403 (0,0))) (hx:x.oneCell'=true) (J:y.oneCell'=true) (E:∀u∈a.toList.take (n*2),u.oneCell'=true) (hne:b≠g) :
  Calls prog 272 #[Jl g n c,Ji 0,Jl b 1 1] w fun e w'=>
   e=.returned (Jl g (n+1) c)/\∃cur',w'.heap[g]?=some (.cells cur' 403 (0,0))/\cur'.size=c*2/\cur'.toList.take ((n+1)*2)=x :: y :: a.toList.take (n*2)/\w.grownBy w' (some g):=by
 obtain⟨i0,hi0,hz0,hzs,hzb⟩:=info_parts QjK;unfold maxLen at P;have u30:=underlying357;have r:(prog.info? 403).map (·.size)=some 2:=by kernel_rfl
 have t:∀w,(Go.sizeOf 403).run prog w=.ok 2 w:=fun w=>by simp[sizeOf,typeInfo,hi0,hzs]
 have C:∀lb cb,(callFunc 302 #[Jl b 1 1,.slice (some (Ja g 2)) lb cb]).run prog w=.ok (.value (.bool false)) w:=fun lb cb=>by
  rw[run_callFunc_extern func302 (by kernel_rfl) (by kernel_rfl) (by kernel_rfl) (e:=Extern.SlicesOverlaps.overlaps #[357,357] #[4]) (by kernel_rfl),
   Lib.run_overlaps_apart w 357 4 403 u30 2 t (Ja b 0) (Ja g 2) 1 1 lb cb hne 403 403 2 a.size (by simp[World.shape?,B]) (by simp[World.shape?,A]) (by omega) (by simp[World.frozen?,B]) (by simp[World.frozen?,B])]
  rfl
 have I:¬((0:Int)=(n:Int)):=by omega
 have M:¬((c:Int)<(n:Int)+1):=by omega
 have L:¬(c=1):=by omega
 have d:(a.toList.take (n*2)).length=n*2:=by rw[qW,Array.length_toList];omega
 have l:∀ty dc sc,(Builtin.copy_ #[357,357] ty #[.slice (some (Ja g 2)) n dc,Jl g (n+1) sc]).run prog w.drew=.ok (goInt n) (w.drew.setRow g (splice a.toList 2 (a.toList.take (n*2))).toArray):=fun ty dc sc=>
  QbK w.drew 357 357 ty 403 2 n g 2 n dc (Ja g 0) (n+1) sc a 403 (a.toList.take (n*2)) u30 r (by simp only[Nat.min_def];split<;>omega) d.symm A
   (fun j u hj=>by
    rw[List.getElem?_take] at hj;split at hj
    ·rw[Addr.add_lit,Nat.zero_add]
     show w.cell? _=_;unfold World.cell?;rw[A];simpa using hj
    ·cases hj) (by rw[d,i];omega) E
 have p:∀(W:World) cs,(W.setRow g cs).heap.size=W.heap.size:=fun W cs=>by simp[World.setRow]
 have D:prog.follows Departure.mixedOrders=true:=by kernel_rfl
 have K:IntKind.i64.wrap (1:Int)=1:=by decide
 have O:(1:Int)<=(n:Int)+1:=by omega
 have N:¬(c=0):=by omega
 have H:(0:Int)<=(n:Int)+1:=by omega
 obtain⟨p1,p2⟩:=Qna a.toList n x y (by rw[Array.length_toList];omega) (by rw[Array.length_toList];omega)
 have q:(splice a.toList 2 (a.toList.take (n*2))).length=c*2:=by rw[length_splice _ _ _ (by rw[d,Array.length_toList];omega),Array.length_toList,i]
 obtain⟨L1,hL1⟩:∃L1,splice a.toList 2 (a.toList.take (n*2))=L1:=⟨_,rfl⟩;rw[hL1] at l p1 p2 q;obtain⟨W1,hW1⟩:∃W1,w.drew.setRow g L1.toArray=W1:=⟨_,rfl⟩;have f:W1.heap[g]?=some (.cells L1.toArray 403 (0,0)):=by rw[<-hW1];exact setRow_heap w.drew g a _ 403 _ A
 have m:W1.heap[b]?=some (.cells #[x,y] 403 (0,0)):=by rw[<-hW1,setRow_other w.drew g b _ hne];exact B
 rw[hW1] at l;have z:∀ty dc,(Builtin.copy_ #[357,357] ty #[Jl g (n+1) dc,Jl b 1 1]).run prog W1=.ok (goInt 1) (W1.setRow g (splice L1 0 [x,y]).toArray):=fun ty dc=>
  QbK W1 357 357 ty 403 2 1 g 0 (n+1) dc (Ja b 0) 1 1 L1.toArray 403 [x,y] u30 r (by simp only[Nat.min_def];split<;>omega) rfl f
   (fun j u hj=>by
    rw[Addr.add_lit,Nat.zero_add];unfold World.cell?;rw[m]
    match j,hj with
    |0,hj=>simpa using hj
    |1,hj=>simpa using hj
    |j+2,hj=>simp at hj) (by simp;omega) (fun u hu=>by
    rcases List.mem_cons.1 hu with rfl|hu
    ·exact hx
    ·rcases List.mem_cons.1 hu with rfl|hu
     ·exact J
     ·cases hu)
 have v:Hi (W1.setRow g (splice L1 0 [x,y]).toArray=W1.setRow g (splice L1 0 [x,y]).toArray/\W1.heap[g]?=some (.cells L1.toArray 403 (0,0))/\(splice L1 0 [x,y]).take ((n+1)*2)=x :: y :: a.toList.take (n*2)/\(splice L1 0 [x,y]).length=c*2/\w.grownBy W1 (some g)):=Z ⟨rfl,f,p1,by rw[p2,Array.length_toList,i],by
  rw[<-hW1];exact⟨rfl,rfl,rfl,by rw[p];exact qC _,fun k hk s=>setRow_other w.drew g k _ (fun e=>s (by rw[e]))⟩⟩
 generalize (splice L1 0 [x,y])=L2 at z v;clear hL1 hW1 f m p1 p2 q d E hz0 hzs hzb hi0;go_enter func272,ntmps272;go_wp2_with (simp only[C]);go_region_law_o (refine Go.Proofs.step_copy_runI rfl _ _ 357 357 rfl _ _ (by simp[Act.eval,Act.put]) (by simp[Act.eval,Act.put]) (l _ _ _) ?_)
 go_wp2_with (at_builtin;refine Go.Proofs.wpList_copy_runI _ rfl _ _ 357 357 rfl _ _ rfl rfl (z _ _) ?_);go_ret;refine⟨rfl,L2.toArray,setRow_heap W1 g L1.toArray _ 403 _ v.o.2.1,?_,?_,?_⟩
 ·have:=v.o.2.2.2.1;simpa using this
 ·have:=v.o.2.2.1;simpa using this
 ·have h:=v.o.2.2.2.2
  exact⟨h.os,h.tape,h.output,qD h.size (by rw[p];exact qC _),fun k hk s=>(setRow_other W1 g k _ (fun e=>s (by rw[e]))).trans (h.block k hk s)⟩
theorem QfL(z:JW)(k:Nat):(Builtin.zeroCells z k).size=k*z.size:=by simp[Builtin.zeroCells]
theorem Qp1(g n m:Nat)(a:JW)(x y:Value)(w:World)(hn:0<n)(qd:n<=1000000)(O:w.heap[g]?=some (.cells a 403 (0,0)))(d:a.size=n*2)
  (R:w.heap[m]?=some (.cells #[x,y] 403 (0,0))) (hx:x.oneCell'=true) (X:y.oneCell'=true) (T:∀u∈a.toList,u.oneCell'=true) :
  Calls prog 272 #[Jl g n n,Ji 0,Jl m 1 1] w fun e w'=>
   ∃cap cur',e=.returned (Jl w.heap.size (n+1) cap)/\n+1<=cap/\cap<=maxLen/\w'.heap[w.heap.size]?=some (.cells cur' 403 (0,0))/\cur'.size=cap*2/\cur'.toList.take ((n+1)*2)=x :: y :: a.toList/\Jw w w':=by
 obtain⟨i0,hi0,hz0,hzs,hzb⟩:=info_parts QjK;have u30:=underlying357;have E:(prog.info? 403).map (·.size)=some 2:=by kernel_rfl
 have N:g<w.heap.size:=(gsi O).1;have J:m<w.heap.size:=(gsi R).1;have f:(Builtin.firstCells i0.size 0 (Jl g 0 n)).run prog w.drew=.ok ([]:JV).toArray w.drew:=
  run_firstCells_some w.drew i0.size 0 (Ja g 0) 0 n [] (by simp) (fun j v hj=>by simp at hj)
 obtain⟨G,hG⟩:∃G,G=grownCap w (0+(n+1)) n 403:=⟨_,rfl⟩;have M:n+1<=G:=by rw[hG];have:=grownCap_ge w (0+(n+1)) n 403;omega
 have p:G<=maxLen:=by rw[hG];exact grownCap_le_maxLen w _ _ _ (by unfold maxLen;omega)
 obtain⟨ROW,hROW⟩:∃ROW:JW,ROW=([]:JV).toArray++Builtin.zeroCells (Value.agg #[Jt ByteArray.empty,Jt ByteArray.empty]).cells (n+1)++Builtin.zeroCells (Value.agg #[Jt ByteArray.empty,Jt ByteArray.empty]).cells (G-(0+(n+1))):=⟨_,rfl⟩;have q:ROW.size=G*2:=by
  rw[hROW,Array.size_append,Array.size_append,QfL,QfL];show 0+(n+1)*2+(G-(0+(n+1)))*2=_;omega
 obtain⟨W1,hW1⟩:∃W1,W1=w.drew.alloc (.cells ROW 403):=⟨_,rfl⟩;have L:∀ty,(Builtin.append_ #[357,3] ty #[Jl g 0 n,Ji ((n:Int)+1)]).run prog w =
   .ok (Jl w.heap.size (n+1) G) W1:=fun ty=>by
  have h:=Lib.run_append_grow_zeros w 357 3 ty 403 i0 _ .i64 .i64 u30 underlying3 hi0 hz0 (some (Ja g 0)) 0 n [] f (n+1) (by omega) (by omega) (by omega) (by omega) (by rw[hzb];omega) (by rw[hzb];exact growslice_fits (by omega) (by omega))
  rw[<-hG,<-hROW,<-hW1,Nat.zero_add] at h;exact h
 have r:W1.heap[w.heap.size]?=some (.cells ROW 403 (0,0)):=by rw[hW1];exact JI w.drew _
 have b:Jw w W1:=by rw[hW1];exact ((qF _ _).drew).alloc (qC _) _
 have B:Jh W1 g a 403:=(b.block g N).trans O;have z:Jh W1 m #[x,y] 403:=(b.block m J).trans R;have A:∀(W:World) k cs,(W.setRow k cs).heap.size=W.heap.size:=fun W k cs=>by simp[World.setRow]
 have t:∀ty dc,(Builtin.copy_ #[357,357] ty #[Jl w.heap.size (n+1) dc,Jl m 1 1]).run prog W1=.ok (goInt 1) (W1.setRow w.heap.size (splice ROW.toList 0 [x,y]).toArray):=fun ty dc=>
  QbK W1 357 357 ty 403 2 1 w.heap.size 0 (n+1) dc (Ja m 0) 1 1 ROW 403 [x,y] u30 E (by simp only[Nat.min_def];split<;>omega) rfl r
   (fun j u hj=>by
    rw[Addr.add_lit,Nat.zero_add];unfold World.cell?;rw[z]
    match j,hj with
    |0,hj=>simpa using hj
    |1,hj=>simpa using hj
    |j+2,hj=>simp at hj) (by simp;omega) (fun u hu=>by
    rcases List.mem_cons.1 hu with rfl|hu
    ·exact hx
    ·rcases List.mem_cons.1 hu with rfl|hu
     ·exact X
     ·cases hu)
 obtain⟨L1,hL1⟩:∃L1,splice ROW.toList 0 [x,y]=L1:=⟨_,rfl⟩;rw[hL1] at t;have c:L1.length=G*2:=by rw[<-hL1,length_splice _ _ _ (by show 0+2<=ROW.toList.length;rw[Array.length_toList,q];omega),Array.length_toList,q]
 have i:L1.take 2 = [x,y]:=by rw[<-hL1];unfold splice;simp
 obtain⟨W2,hW2⟩:∃W2,W1.setRow w.heap.size L1.toArray=W2:=⟨_,rfl⟩;rw[hW2] at t;have s:W2.heap[w.heap.size]?=some (.cells L1.toArray 403 (0,0)):=by rw[<-hW2];exact setRow_heap W1 _ ROW _ 403 _ r
 have C:W2.heap[g]?=some (.cells a 403 (0,0)):=by rw[<-hW2,setRow_other W1 _ g _ (by omega)];exact B
 have H:∀(W:World),W.heap=W2.heap->∀ty dc sc,(Builtin.copy_ #[357,357] ty #[.slice (some (Ja w.heap.size 2)) n dc,Jl g n sc]).run prog W=.ok (goInt n) (W.setRow w.heap.size (splice L1 2 a.toList).toArray):=fun W hW ty dc sc=>
  QbK W 357 357 ty 403 2 n w.heap.size 2 n dc (Ja g 0) n sc L1.toArray 403 a.toList u30 E (by simp only[Nat.min_def];split<;>omega) (by rw[Array.length_toList,d]) (by rw[hW];exact s)
   (fun j u hj=>by
    rw[Addr.add_lit,Nat.zero_add];unfold World.cell?;rw[hW,C];simpa using hj) (by rw[Array.length_toList,d];simp;omega) T
 have D:Jw w W2:=by
  rw[<-hW2];exact⟨b.os,b.tape,b.output,by rw[A];exact b.size,fun k hk=>(setRow_other W1 _ k _ (by omega)).trans (b.block k hk)⟩
 have l:(splice L1 2 a.toList).take ((n+1)*2)=x :: y :: a.toList/\(splice L1 2 a.toList).length=G*2:=by
  refine⟨?_,by rw[length_splice _ _ _ (by rw[c,Array.length_toList,d];omega),c]⟩
  unfold splice;rw[i];have:(n+1)*2=n*2+1+1:=by omega
  rw[this];simp only[J4,J3,List.take_succ_cons];rw[List.take_left' (by rw[Array.length_toList,d])]
 have I:=Z (qE s (qE D l));have K:prog.follows Departure.mixedOrders=true:=by kernel_rfl
 have V:¬((0:Int)=(n:Int)):=by omega
 have qa:(n:Int)<(n:Int)+1:=by omega
 have Y:IntKind.i64.wrap (1:Int)=1:=by decide
 have qe:(1:Int)<=(n:Int)+1:=by omega
 have U:(0:Int)<=(n:Int)+1:=by omega
 have S:¬(G=1):=by omega
 have qb:¬(G=0):=by omega
 have qc:¬(n=0):=by omega
 unfold maxLen at p;have P:G<=9223372036854775807:=p;clear hG hROW q hW1 r b B z hL1 c i hW2 s C D l f hz0 hzs hzb hi0;go_enter func272,ntmps272;go_wp2_with (first
  |(at_builtin;refine Lib.wpList_append_run _ rfl _ _ _ _ rfl _ _ rfl rfl _ _ (L _) ?_)
  |(at_builtin;refine wpList_copy_runI _ rfl _ _ 357 357 rfl _ _ rfl rfl (t _ _) ?_)
  |(at_builtin;refine wpList_copy_runI _ rfl _ _ 357 357 rfl _ _ rfl rfl (H _ (by rfl) _ _ _) ?_))
 go_region_law_o (refine step_copy_runI rfl _ _ 357 357 rfl (.slice (some (Ja w.heap.size 2)) n (G-1)) (Jl g n n) (by simp[Act.eval,Act.put]) (by simp[Act.eval,Act.put]) (H _ (by rfl) _ _ _) ?_)
 go_wp2;go_ret;refine⟨G,(splice L1 2 a.toList).toArray,rfl,M,p,?_,?_,?_,?_⟩
 ·exact setRow_heap _ _ L1.toArray _ 403 _ I.o.1
 ·have:=I.o.2.2.2;simpa using this
 ·have:=I.o.2.2.1;simpa using this
 ·have h:=I.o.2.1
  exact⟨h.os,h.tape,h.output,qD h.size (by rw[A];exact qC _),fun k hk=>(setRow_other _ _ k _ (by omega)).trans (h.block k hk)⟩
theorem Qp0(v:Value)(d base:Nat)(f:JL×JL)(w:World)(b:w.ownsRow base 403 2 v 0 [])(j:w.heap[d]?=some (.cells #[Jt (bs f.1),Jt (bs f.2)] 403 (0,0)))(i:base<=w.heap.size) :
  Calls prog 272 #[v,Ji 0,Jl d 1 1] w fun e w'=>∃v',e=.returned v'/\w'.ownsRow base 403 2 v' 1 (QaB [f])/\w.grownBy w' v.ownBlock:=by
 obtain⟨i0,hi,hz0,hz1,hz2⟩:=info_parts Qld;obtain⟨av,cv,rfl⟩:∃a c,v=.slice a 0 c:=by
  rcases b.2 with⟨rfl,-⟩|⟨g,h,cur,rfl,-⟩
  ·exact⟨_,_,rfl⟩
  ·exact⟨_,_,rfl⟩
 have hO:=Z b;have m:=Z j;clear b j;go_enter func272,ntmps272;go_wp2_with (at_builtin;go_loud (refine wpList_append_lies _ rfl _ _ 357 (by rfl) base 403 i0 _ 2 32 underlying357 hi hz0 hz1 hz2 rfl (by decide) _ 0 [] (by rfl) hO.out (Ja d 0) 1 1 [Jt (bs f.1),Jt (bs f.2)] (by rfl) rfl (World.news_of_block m.out) (by simp[Value.oneCell']) (by decide) (by decide) (by decide) i _ rfl ?_);intro g h n l k q p)
 go_ret;exact⟨_,rfl,l,k⟩
theorem Qtg(v:Value)(a:List (List UInt8×JL))(f:JL×JL)(h base:Nat)(w:World)(n:w.ownsRow base 403 2 v a.length (QaB a))(x:w.heap[h]?=some (.cells #[Jt (bs f.1),Jt (bs f.2)] 403 (0,0)))(hne:v.ownBlock≠some h)(B:a.length<=1000000)(l:base<=w.heap.size) :
  Calls prog 272 #[v,Ji 0,Jl h 1 1] w fun e w'=>∃v',e=.returned v'/\w'.ownsRow base 403 2 v' (a.length+1) (QaB (f :: a))/\w.grownBy w' v.ownBlock:=by
 by_cases z:a = []
 ·subst z
  exact Qp0 v h base f w n x l
 ·have j:0<a.length:=List.length_pos_iff.2 z
  have C:=QbG a;rcases n.2 with⟨-,h0⟩|⟨g,b,cur,rfl,hb,hg,hle,hm,hs,ht⟩
  ·omega
  ·have D:g<w.heap.size:=(gsi hg).1
   have d:∀u∈cur.toList.take (a.length*2),u.oneCell'=true:=by rw[ht];exact Qlm a
   have t:h≠g:=fun e=>hne (by rw[e];rfl)
   by_cases y:a.length+1<=b
   ·refine (QpZ g a.length b h cur _ _ w j y hm hg hs x rfl rfl d t).mono ?_
    rintro e w' ⟨rfl,c,r,p,s,q⟩;refine⟨_,rfl,⟨by rw[QbG,qH],.inr ⟨g,b,c,rfl,hb,r,y,hm,p,?_⟩⟩,q⟩
    rw[s,ht];rfl
   ·obtain rfl:b=a.length:=by omega
    have i:cur.toList.take (a.length*2)=cur.toList:=qX (by rw[Array.length_toList,hs];exact qC _)
    rw[i] at ht d;refine (Qp1 g a.length h cur _ _ w j B hg hs x rfl rfl d).mono ?_;rintro e w' ⟨b,c,rfl,r,p,s,q,A,m⟩;refine⟨_,rfl,⟨by rw[QbG,qH],.inr ⟨w.heap.size,b,c,rfl,l,s,r,p,q,?_⟩⟩,⟨m.os,m.tape,m.output,m.size,fun k hk _=>m.block k hk⟩⟩
    rw[A,ht];rfl
theorem QCP(s:JA)(w:World)(a:s.size<=9223372036854775807) :
  Calls prog 306 #[Jt s,Jt ⟨#[32,9]⟩] w (JB (Jt (bs (Go.Lib.trimRightS s.data.toList QjN))) w):=
 Any.strings_TrimRight_laid Tryz.lays162 (by kernel_rfl) s ⟨#[32,9]⟩ w (by omega) (by decide) (Go.Proofs.ascii_of_all (by decide))
theorem Qgr{x a:JA}{E b:Int}(h:x=a)(c:E=b):Ending.returned (.tuple #[Jt x,Ji E])=.returned (.tuple #[Jt a,Ji b]):=by rw[h,c]
theorem Qhw(n v:JL)(h:QbL n v=false):QaU n v=4/\QgN n v = []:=by
 have a:QaU n v=4:=by unfold QaU;rw[h];rfl
 exact⟨a,by unfold QgN;rw[a];rfl⟩
theorem Qxt(w:World)(n v:JA)(t:JT):(w.alloc (.cells #[Jt n,Jt v] t)).cell? (Ja w.heap.size 0)=some (Jt n)/\(w.alloc (.cells #[Jt n,Jt v] t)).cell? (Ja w.heap.size 1)=some (Jt v):=by
 have a:=JI w (.cells #[Jt n,Jt v] t);exact⟨by unfold World.cell?;rw[a];rfl,by unfold World.cell?;rw[a];rfl⟩
theorem QtZ(w:World)(x y:Value)(t:JT):Jw w (w.alloc (.cells #[x,y] t)):=(qF _ _).alloc (qC _) _
theorem Qtv(n v:JL)(h:QbL n v=true):(256<(QaN n v).length->QaU n v=5/\QgN n v = [])/\((QaN n v).length<=256->QaU n v=0/\QgN n v=QaN n v):=by
 constructor
 ·intro b
  have a:QaU n v=5:=by unfold QaU;rw[h,JK rfl,JK b]
  exact⟨a,by unfold QgN;rw[a];rfl⟩
 ·intro b
  have a:QaU n v=0:=by unfold QaU;rw[h,JK rfl,JJ (by omega)]
  exact⟨a,by unfold QgN;rw[a];rfl⟩
theorem Qoh(n v:JA)(w:World)(hn:n.size<=1000000)(hv:v.size<=1000000) :
  Calls prog 275 #[.agg #[Jt n,Jt v]] w (JB (.tuple #[Jt (bs (QgN n.data.toList v.data.toList)),Ji (QaU n.data.toList v.data.toList)]) w):=by
 have i:=Z (fun w=>QjP n w)
 have k:=Z (fun w=>Qff v w (by omega))
 have l:=Z (fun w=>QAS v w hv)
 obtain⟨N,hN⟩:∃N,N=n.data.toList:=⟨_,rfl⟩;obtain⟨V,hV⟩:∃V,V=v.data.toList:=⟨_,rfl⟩;rw[<-hN] at i;rw[<-hV] at k l;rw[<-hN,<-hV];have m:=Z (qE hN hV);clear hN hV;have b:=Qxt w n v 403;have d:=QtZ w (Jt n) (Jt v) 403;have f:w.heap.size<(w.alloc (.cells #[Jt n,Jt v] 403)).heap.size:=by simp
 cases H:Qep N with
 |false=>
  have r:=Z (Qhw N V (by unfold QbL;rw[H];rfl))
  rw[H] at i;clear H k l;go_enter func275,ntmps275;go_wp2_with fail;generalize h:w.alloc (.cells #[Jt n,Jt v] 403)=W0 at b d f ⊢;clear h;have x:∀p:BelowOf W0,Jx p.world w.heap.size 0 (Jt n):=fun p=>QaD p f b.1
  have t:∀p:BelowOf W0,Jx p.world w.heap.size 1 (Jt v):=fun p=>QaD p f b.2
  have d:=Z d;clear b;refine Qae (by kernel_rfl) (by kernel_rfl) ?_
  repeat (go_big_quiet_step ((go_at_call 304;exact QaA (i.o _))))
  refine wpQuiet_nil ?_;intro q a;have g:=QaQ a;clear a;go_wp2;go_ret2;exact⟨Qgr (by rw[r.o.2];rfl) (by rw[r.o.1];rfl),Qaa d.o g⟩
 |true=>
  rw[H] at i;have I:=Z H;clear H;cases G:(V.all fun c=>QaE c.toNat) with
  |false=>
   have r:=Z (Qhw N V (by unfold QbL Qbi;rw[G,Bool.and_false];rfl))
   rw[G] at k;clear G l;go_enter func275,ntmps275;go_wp2_with fail;generalize h:w.alloc (.cells #[Jt n,Jt v] 403)=W0 at b d f ⊢;clear h;have x:∀p:BelowOf W0,Jx p.world w.heap.size 0 (Jt n):=fun p=>QaD p f b.1
   have t:∀p:BelowOf W0,Jx p.world w.heap.size 1 (Jt v):=fun p=>QaD p f b.2
   have d:=Z d;clear b;refine Qae (by kernel_rfl) (by kernel_rfl) ?_
   repeat (go_big_quiet_step ((first
    |(go_at_call 304;exact QaA (i.o _))
    |(go_at_call 305;exact QfA (k.o _))
    |fail)))
   refine wpQuiet_nil ?_;intro q a;have g:=QaQ a;clear a;go_wp2;go_ret2;exact⟨Qgr (by rw[r.o.2];rfl) (by rw[r.o.1];rfl),Qaa d.o g⟩
  |true=>
   rw[G] at k;have M:=Z G;clear G;obtain⟨T,hT⟩:∃T,T=bs (Go.Lib.trimS V QjN):=⟨_,rfl⟩;rw[<-hT] at l;cases C:Qhn V with
   |false=>
    have r:=Z (Qhw N V (by unfold QbL;rw[C,Bool.and_false]))
    have U:(v.toList==T.toList)=false:=by
     rw[qI,hT,J7,J7,Qai,<-m.o.2];intro e;have:=(QiQ V).1 e.symm;rw[C] at this;exact JN this (by decide)
    clear C hT;go_enter func275,ntmps275;go_wp2_with fail;generalize h:w.alloc (.cells #[Jt n,Jt v] 403)=W0 at b d f ⊢;clear h;have x:∀p:BelowOf W0,Jx p.world w.heap.size 0 (Jt n):=fun p=>QaD p f b.1
    have t:∀p:BelowOf W0,Jx p.world w.heap.size 1 (Jt v):=fun p=>QaD p f b.2
    have d:=Z d;clear b;refine Qae (by kernel_rfl) (by kernel_rfl) ?_
    repeat (go_big_quiet_step ((first
     |(go_at_call 304;exact QaA (i.o _))
     |(go_at_call 305;exact QfA (k.o _))
     |(go_at_call 199;exact QaA (l.o _)))))
    refine wpQuiet_nil ?_;intro q a;have g:=QaQ a;clear a;go_wp2;go_ret2;exact⟨Qgr (by rw[r.o.2];rfl) (by rw[r.o.1];rfl),Qaa d.o g⟩
   |true=>
    have L:QbL N V=true:=by unfold QbL;rw[I.out,C];rw[show Qbi V=true from M.out];rfl
    have r:=Z (Qtv N V L);have U:(v.toList==T.toList)=true:=by
     rw[beq_iff_eq,hT,J7,J7,Qai,<-m.o.2];exact ((QiQ V).2 C).symm
    have y:=Qjy N I.out;have E:=Z (fun w=>QmJ n w hn (fun j hj=>by
     have:=QgB _ (y.1 n[j] (by rw[m.o.1];exact JG (by rw[Qab];exact hj)))
     omega))
    obtain⟨A,hA⟩:∃A,A=bs (Qgf true n.data.toList):=⟨_,rfl⟩;have W:A.size<=32:=by rw[hA,Qaq,QlH,<-m.o.1];exact y.2.2
    have P:(A++⟨#[58,32]⟩++v).size<=9223372036854775807:=by rw[ByteArray.size_append,ByteArray.size_append];show A.size+2+v.size<=_;omega
    have B:=Z (fun w=>QCP (A++⟨#[58,32]⟩++v) w P)
    obtain⟨R,hR⟩:∃R,R=bs (Go.Lib.trimRightS (A++⟨#[58,32]⟩++v).data.toList QjN):=⟨_,rfl⟩;have z:R=bs (QaN N V):=by
     rw[hR,QrM,QrM,hA,Qai,<-m.o.1,<-m.o.2];exact congrArg bs (Qo1 (Qgf true N) V C)
    have s:R.size=(QaN N V).length:=by rw[z,Qaq]
    rw[<-hA] at E;rw[<-hR] at B;have O:=Z z;have qa:A.size+2<=9223372036854775807:=by omega
    have Y:A.size+2+v.size<=9223372036854775807:=by omega
    clear C hT y L hA hR z
    by_cases S:256<R.size
    ·have K:=Z (r.o.1 (by rw[<-s];exact S))
     have X:decide ((R.size:Int)>256)=true:=qA (by omega)
     clear s;go_enter func275,ntmps275;go_wp2_with fail;generalize h:w.alloc (.cells #[Jt n,Jt v] 403)=W0 at b d f ⊢;clear h;have x:∀p:BelowOf W0,Jx p.world w.heap.size 0 (Jt n):=fun p=>QaD p f b.1
     have t:∀p:BelowOf W0,Jx p.world w.heap.size 1 (Jt v):=fun p=>QaD p f b.2
     have d:=Z d;clear b;refine Qae (by kernel_rfl) (by kernel_rfl) ?_
     repeat (go_big_quiet_step ((first
      |(go_at_call 304;exact QaA (i.o _))
      |(go_at_call 305;exact QfA (k.o _))
      |(go_at_call 199;exact QaA (l.o _)))))
     refine wpQuiet_nil ?_;intro q a;have g:=QaQ a;clear a;go_wp2_with fail;have x:∀p:BelowOf q,Jx p.world w.heap.size 0 (Jt n):=fun p=>(QaD p (qK f g.size) (x ⟨q,g⟩))
     have t:∀p:BelowOf q,Jx p.world w.heap.size 1 (Jt v):=fun p=>(QaD p (qK f g.size) (t ⟨q,g⟩))
     refine Qae (by kernel_rfl) (by kernel_rfl) ?_
     repeat (go_big_quiet_step ((first
      |(go_at_call 307;exact QaA (E.o _))
      |(go_at_call 306;exact QaA (B.o _)))))
     refine wpQuiet_nil ?_;intro W2 a;have D:=QaQ a;clear a;go_wp2;go_ret2;exact⟨Qgr (by rw[K.o.2];rfl) (by rw[K.o.1];rfl),Qaa d.o (Qaa g D)⟩
    ·have J:=Z (r.o.2 (by rw[<-s];omega))
     have X:decide ((R.size:Int)>256)=false:=qB (by omega)
     clear s;go_enter func275,ntmps275;go_wp2_with fail;generalize h:w.alloc (.cells #[Jt n,Jt v] 403)=W0 at b d f ⊢;clear h;have x:∀p:BelowOf W0,Jx p.world w.heap.size 0 (Jt n):=fun p=>QaD p f b.1
     have t:∀p:BelowOf W0,Jx p.world w.heap.size 1 (Jt v):=fun p=>QaD p f b.2
     have d:=Z d;clear b;refine Qae (by kernel_rfl) (by kernel_rfl) ?_
     repeat (go_big_quiet_step ((first
      |(go_at_call 304;exact QaA (i.o _))
      |(go_at_call 305;exact QfA (k.o _))
      |(go_at_call 199;exact QaA (l.o _)))))
     refine wpQuiet_nil ?_;intro q a;have g:=QaQ a;clear a;go_wp2_with fail;have x:∀p:BelowOf q,Jx p.world w.heap.size 0 (Jt n):=fun p=>(QaD p (qK f g.size) (x ⟨q,g⟩))
     have t:∀p:BelowOf q,Jx p.world w.heap.size 1 (Jt v):=fun p=>(QaD p (qK f g.size) (t ⟨q,g⟩))
     refine Qae (by kernel_rfl) (by kernel_rfl) ?_
     repeat (go_big_quiet_step ((first
      |(go_at_call 307;exact QaA (E.o _))
      |(go_at_call 306;exact QaA (B.o _)))))
     refine wpQuiet_nil ?_;intro W2 a;have D:=QaQ a;clear a;go_wp2;go_ret2;exact⟨Qgr (by rw[J.o.2,O.o]) (by rw[J.o.1];rfl),Qaa d.o (Qaa g D)⟩
theorem Qmf{w:World}{base:Nat}{e:JT}{size:Nat}{v:Value}{n:Nat}{xs:JV}(h:w.ownsRow base e size v n xs)(g:Nat)(a:v.ownBlock=some g):∃cur,w.heap[g]?=some (.cells cur e (0,0)):=by
 rcases h.2 with⟨rfl,_⟩|⟨g',cap,cur,rfl,_,hgg,_⟩
 ·cases a
 ·obtain rfl:g'=g:=by simpa[Value.ownBlock] using a
  exact⟨cur,hgg⟩
theorem QsQ{w:World}{f m:Nat}{b d:JT}{n i k q:Nat}{a c:Value}{p r:JV}(l:w.ownsRow f b n a k p)(j:w.ownsRow m d i c q r)(hne:b≠d):a.ownBlock=none\/a.ownBlock≠c.ownBlock:=by
 cases h:a.ownBlock with
 |none=>exact .inl rfl
 |some g=>
  refine .inr (fun e=>?_)
  obtain⟨c1,k1⟩:=Qmf l g h;obtain⟨c2,k2⟩:=Qmf j g e.symm;rw[k1] at k2;simp only[J8,Obj.cells.injEq] at k2;exact hne k2.2.1
theorem QnB{w w':World}{d p:Nat}{a j:JT}{k m f q:Nat}{i h:Value}{l r:JV}(c:w.ownsRow d a k i f l)(n:w.ownsRow p j m h q r)(hne:a≠j)(g:w.grownBy w' h.ownBlock):w'.ownsRow d a k i f l:=by
 refine⟨c.1,?_⟩;rcases c.2 with h0|⟨b,cap,cur,e,e2',e3,e4⟩
 ·exact .inl h0
 ·refine .inr ⟨b,cap,cur,e,e2',(g.block b (gsi e3).1 (fun hh=>?_)).trans e3,e4⟩
  rcases QsQ c n hne with hx|hx
  ·rw[e] at hx;cases hx
  ·rw[e] at hx;exact hx hh
theorem QyB{w:World}{c a:Nat}{e:JT}{s n:Nat}{v:Value}{x:JV}(h:w.ownsRow c e s v n x)(d:a<=c):w.ownsRow a e s v n x:=by
 refine⟨h.1,?_⟩;rcases h.2 with h0|⟨b,cap,cur,e1,e2,e3⟩
 ·exact .inl h0
 ·exact .inr ⟨b,cap,cur,e1,qD d e2,e3⟩
theorem Qxa(v:Value)(a:List (List UInt8×JL))(B:Nat)(w:World)(h:w.ownsRow B 403 2 v a.length (QaB a))(c:a.length<=1000000) :
  Calls prog 273 #[v] w fun e w'=>∃v',e=.returned v'/\w'.ownsRow w.heap.size 403 2 v' a.length (QaB a)/\Jw w w':=by
 by_cases b:a = []
 ·subst b
  rcases h.2 with⟨rfl,-⟩|⟨g,cap,cur,rfl,-⟩
  ·exact Qj5 none 0 w (fun p hp=>by cases hp)
  ·exact Qj5 _ cap w (fun p hp=>⟨g,0,(qS hp).symm⟩)
 ·exact Qoy v a w (HoldsF.of_own h) b c
theorem QsO{w:World}{base:Nat}{e:JT}{size n:Nat}{v:Value}{xs:JV}(h:w.ownsRow base e size v n xs):∃a c,v=.slice a n c:=by
 rcases h.2 with⟨rfl,rfl⟩|⟨g,cap,cur,rfl,_⟩
 ·exact⟨_,_,rfl⟩
 ·exact⟨_,_,rfl⟩
theorem EnvF.env{w:World}(h:EnvF w):Env w:=⟨h.m,h.pow,h.big⟩
theorem QvG{w:World}{base n g b:Nat}{e:JT}{a:List (List UInt8×JL)}(h:w.ownsRow base e 2 (Jl g n b) n (QaB a))(j:Nat)(c:j<a.length) :
  w.cell? (Ja g (j*2))=some (Jt (bs a[j].1))/\w.cell? (Ja g (j*2+1))=some (Jt (bs a[j].2)):=by
 have f:=h.cells (g:=g) rfl (j*2) _ (Qdr a j c).1;have d:=h.cells (g:=g) rfl (j*2+1) _ (Qdr a j c).2;have i:∀k,((Ja g 0):Addr).add k=(Ja g k):=fun k=>by unfold Addr.add;split<;>simp_all
 rw[i] at f d;exact⟨f,d⟩
theorem QvE{w:World}{base n g a:Nat}{e:JT}{xs:JM}(h:w.ownsRow base e 1 (Jl g n a) n (QfY xs))(j:Nat)(c:j<xs.length) :
  w.cell? (Ja g j)=some (Jt (bs xs[j])):=by
 have b:=h.cells (g:=g) rfl j _ (QlN xs j c);have d:∀k,((Ja g 0):Addr).add k=(Ja g k):=fun k=>by unfold Addr.add;split<;>simp_all
 rw[d] at b;exact b
theorem QnD{w:World}{base n:Nat}{e:JT}{size:Nat}{v:Value}{xs:JV}(h:w.ownsRow base e size v n xs):∀k,v.ownBlock=some k->k<w.heap.size:=by
 intro k a;obtain⟨cur,hc⟩:=Qmf h k a;exact (gsi hc).1
theorem QyC{w:World}{base n:Nat}{e:JT}{size:Nat}{v:Value}{xs:JV}(h:w.ownsRow base e size v n xs)(a:0<n):∃g cap,v = Jl g n cap/\base<=g:=by
 rcases h.2 with⟨-,h0⟩|⟨g,cap,cur,hv,hb,-⟩
 ·omega
 ·exact⟨g,cap,hv,hb⟩
def Qkn(base N:Nat)(gs:List (List UInt8×JL))(w:World)(e:Ending)(w':World):Prop:=
 ∃g cap,e=.returned (Jl g N cap)/\w'.ownsRow base 403 2 (Jl g N cap) N (QaB gs)/\Below base w w'
theorem Qwo(d:Value)(a:List (List UInt8×JL))(f:JL×JL)(h base j N:Nat)(W:World)(r:a.length+1=N)(i:W.ownsRow j 403 2 d a.length (QaB a))(q:base<=j)(m:W.heap[h]?=some (.cells #[Jt (bs f.1),Jt (bs f.2)] 403 (0,0)))(hne:d.ownBlock≠some h)(p:a.length<=1000000)(c:base<=W.heap.size) :
  Calls prog 272 #[d,Ji 0,Jl h 1 1] W (Qkn base N (f :: a) W):=by
 subst r;have b:=QyB i q;refine (Qtg d a f h base W b m hne p c).mono ?_;rintro e w' ⟨s,rfl,l,n⟩;obtain⟨g,cap,rfl,-⟩:=QyC l (by omega)
 exact⟨g,cap,rfl,l,(qF _ _).grown n c (fun k hk=>(b.lt k hk).1)⟩
theorem QCj(g:Value)(b:List (List UInt8×JL))(f:JL×JL)(base d N:Nat)(wc a:World)(n:b.length+1=N)(h:wc.ownsRow d 403 2 g b.length (QaB b))(l:base<=d)(j:b.length<=1000000)(m:base<=wc.heap.size)(c:Jw wc a) :
  Calls prog 272 #[g,Ji 0,Jl a.heap.size 1 1] (a.alloc (.cells #[Jt (bs f.1),Jt (bs f.2)] 403)) (Qkn base N (f :: b) (a.alloc (.cells #[Jt (bs f.1),Jt (bs f.2)] 403))):=by
 have i:=Qbj h c;have k:=Qbj i ((qF a.heap.size a).alloc (qC _) (.cells #[Jt (bs f.1),Jt (bs f.2)] 403));have p:=c.size;refine Qwo g b f a.heap.size base d N _ n k l (JI a _) (fun e=>?_) j (by simp;omega)
 have:=QnD i _ e;omega
theorem QCi(g:Value)(b:List (List UInt8×JL))(f:JL×JL)(base N:Nat)(a wc:World)(k:b.length+1=N)(d:wc.ownsRow (a.alloc (.cells #[Jt (bs f.1),Jt (bs f.2)] 403)).heap.size 403 2 g b.length (QaB b))(i:b.length<=1000000)(j:base<=a.heap.size)(c:Below (a.alloc (.cells #[Jt (bs f.1),Jt (bs f.2)] 403)).heap.size (a.alloc (.cells #[Jt (bs f.1),Jt (bs f.2)] 403)) wc) :
  Calls prog 272 #[g,Ji 0,Jl a.heap.size 1 1] wc (Qkn base N (f :: b) wc):=by
 have h:=c.size;simp at h;refine Qwo g b f a.heap.size base _ N _ k d (by simp;omega) ((c.block a.heap.size (by simp)).trans (JI a _)) (fun e=>?_) i (by omega)
 have:=(d.lt _ e).1;simp at this;omega
theorem Qgb{f:Array Oper}{d:List Oper}{o:Oper}{a:Act}{Q:Exit->Act->World->Prop}(w0:World)(j:o.guard=none)(s x:Operand)
  (q:o.op=.call { callee:=.builtin .append,args:=#[s,x],argTypes:=#[182,182] })
  (base n:Nat) (v:Value) (xs:JM) (y:a.eval s=v) (p:w0.ownsRow base 9 1 v n (QfY xs))
  (b:JA) (l:JL) (m:b=bs l) (hx:a.eval x = Jl w0.heap.size 1 1) (B:n<2147483648) (t:base<=w0.heap.size)
  (h:∀g c w',w'.ownsRow base 9 1 (Jl g (n+1) c) (n+1) (QfY (xs++[l]))->w0.grownBy w' v.ownBlock->wpList prog f Q d (a.put o.dst (Jl g (n+1) c)) w') :
  wpList prog f Q (o :: d) a (w0.alloc (.cells #[Jt b] 9)):=by
 obtain⟨i0,hi,hz0,hz1,hz2⟩:=info_parts QiA;subst m;refine wpList_append_lies _ j s x 182 q base 9 i0 _ 1 16 underlying182 hi hz0 hz1 hz2 rfl (by decide) v n (QfY xs) y (p.alloc _) (Ja w0.heap.size 0) 1 1 [Jt (bs l)] hx rfl (cell_one_new w0 _ _) (by simp[Value.oneCell']) (by decide) (by unfold maxLen;omega) (by omega) (by simp;omega) _ rfl ?_
 intro g c w' r i z A;refine h g c w' ?_ ?_
 ·rw[Qi1,QlM];exact r
 ·exact⟨i.os,i.tape,i.output,qD (by simp) i.size,fun k hk hne=>(i.block k (by simp;omega) hne).trans (J5 w0 _ hk)⟩
theorem QyD(a:List (List UInt8×JL))(j:Nat)(c:j<a.length)(b:∀i (d:i<a.length),i<j->a[i].1≠Qbl/\QaU a[i].1 a[i].2=0) :
  (a[j].1=Qbl->Qpx a=22)/\(a[j].1≠Qbl->QaU a[j].1 a[j].2≠0->Qpx a=QaU a[j].1 a[j].2):=by
 rw[QvK a j b,List.drop_eq_getElem_cons c];refine⟨fun h=>JK h,fun h1 h2=>?_⟩
 unfold Qpx;rw[JJ h1,JK h2]
theorem QvJ(a:List (List UInt8×JL))(b:∀i (c:i<a.length),a[i].1≠Qbl/\QaU a[i].1 a[i].2=0):Qpx a=0:=by
 rw[QvK a a.length (fun j hj _=>b j hj),List.drop_length];rfl
def QC2(c:Int)(fs:List (List UInt8×JL))(b:JL)(w:World)(e:Ending)(w':World):Prop:=
 e=.returned (.tuple #[Jt (bs (QoQ c fs b)),Ji (QeT c fs:Nat)])/\Jw w w'
theorem Qjf(c:Int)(fv:Value)(a:List (List UInt8×JL))(b:JA)(B:Nat)(w:World)(hE:EnvF w)(zE : -9223372036854775808<=c)(zO:c<=9223372036854775807)
  (qq:w.ownsRow B 403 2 fv a.length (QaB a)) (hl:a.length<=1000000) (hf:∀f∈a,f.1.length<=1000000/\f.2.length<=1000000) (hb:b.size<=1000000) :
  Calls prog 245 #[.agg #[Ji c,fv,Jt b]] w (QC2 c a b.data.toList w):=by
 have HS:=Z (fun w hE=>QhJ c w hE zE zO)
 obtain⟨av,cv,rfl⟩:=QsO qq;have B1:=Qa0 w (Ji c) (.slice av a.length cv) (Jt b) 359;have T1:=Three.new w (Ji c) (.slice av a.length cv) (Jt b) 359;have qa:=Z (hE.below B1);have qz:=Z (Qbj qq B1);have qh:=Z B1;clear hE qq B1;obtain⟨l1,t0,t1,t2⟩:=T1
 by_cases he:Qbs c=0
 case neg=>
  have HR:Hi (QeT c a=Qbs c/\QoQ c a b.data.toList = []):=Z (by
   have:QeT c a=Qbs c:=JK he;exact⟨this,by unfold QoQ;rw[JJ (by rw[this];exact he)]⟩)
  have tz:((Qbs c:Int) != 0)=true:=by rw[bne_iff_ne];omega
  clear he hf;go_enter func245,ntmps245;go_wp2_with fail;refine (HS.o _ qa.o.env).mono ?_;rintro e t ⟨rfl,m⟩;have C:=Z (Qaa qh.o m);clear m t0 t1 t2;go_wp2;go_ret2;exact⟨by rw[HR.o.1,HR.o.2];rfl,C.o⟩
 have HZ:=Z he;rw[he] at HS;have zQ:(a.length:Int)<=1000000:=by omega
 by_cases hm:15<a.length
 ·have HR:Hi (QeT c a=21/\QoQ c a b.data.toList = []):=Z (by
   have:QeT c a=21:=by unfold QeT;rw[JJ (by rw[he];simp),JK hm]
   exact⟨this,by unfold QoQ;rw[JJ (by rw[this];simp)]⟩)
  have tm:decide ((a.length:Int)>15)=true:=qA (by omega)
  clear he hf;go_enter func245,ntmps245;go_wp2_with fail;refine (HS.o _ qa.o.env).mono ?_;rintro e t ⟨rfl,m⟩;have C:=Z (Qaa qh.o m);obtain⟨l2,u0,u1,u2⟩:=Three.below ⟨l1,t0,t1,t2⟩ m;clear m t0 t1 t2;go_wp2;go_ret2;exact⟨by rw[HR.o.1,HR.o.2];rfl,C.o⟩
 have tm:decide ((a.length:Int)>15)=false:=qB (by omega)
 have HR:Hi (QeT c a=Qpx a):=Z (by unfold QeT;rw[JJ (by rw[he];simp),JJ hm])
 have HD:=Z (fun w hE=>Qdi (b.size:Int) (by omega) (by omega) w hE)
 obtain⟨D,hD⟩:∃D,QeB (b.size:Int)=D:=⟨_,rfl⟩;rw[hD] at HD;have qx:=Z hD;obtain⟨P0,hP0⟩:∃P,Qbf c=P:=⟨_,rfl⟩;rw[hP0] at HS;have zz:=Z hP0;have HM:Hi (a.length<=15):=Z (by omega)
 clear he hm hD hP0;go_enter func245,ntmps245;go_wp2_with fail;refine (HS.o _ qa.o.env).mono ?_;rintro e t ⟨rfl,m⟩;have C:=Z (Qaa qh.o m);obtain⟨l2,u0,u1,u2⟩:=Three.below ⟨l1,t0,t1,t2⟩ m;have zv:=Z (qa.o.below m);have zd:=Z (Qbj qz.o m);have ql:=m.size;clear m t0 t1 t2 l1 qh qa qz;go_wp2_with fail;have qg:=Z (C.o.alloc (by have:=C.o.size;omega) (.cells #[Jt P0] 9))
 obtain⟨l3,v0,v1,v2⟩:=Three.alloc ⟨l2,u0,u1,u2⟩ (.cells #[Jt P0] 9);have zm:=Z (zv.o.below ((qF _ _).alloc (qC _) (.cells #[Jt P0] 9)));have qy:=Z (Qbj zd.o ((qF _ _).alloc (qC _) (.cells #[Jt P0] 9)));have qw:=Z (JI t (.cells #[Jt P0] 9));have hA:t.heap.size<(t.alloc (.cells #[Jt P0] 9)).heap.size:=by simp
 generalize (t.alloc (.cells #[Jt P0] 9))=W2 at qg zm qy qw hA l3 v0 v1 v2 ⊢;have HC:=Z (fun W (h:Jw W2 W)=>Qxa (.slice av a.length cv) a B W (Qbj qy.o h) hl)
 have zt:=Z (fun W (h:Jw W2 W)=>HD.o W (zm.o.below h))
 have d:Hi (∀W,Jw W2 W->Jx W w.heap.size 1 (.slice av a.length cv)/\Jx W w.heap.size 2 (Jt b)):=Z (fun W hW=>⟨(hW.cell (p:=(Ja w.heap.size 1)) l3).trans v1,(hW.cell (p:=(Ja w.heap.size 2)) l3).trans v2⟩)
 obtain⟨N,hN⟩:∃N,a.length+1=N:=⟨_,rfl⟩;have qp:Hi (∀(vc:Value) (B0:Nat) (wc v:World),wc.ownsRow B0 403 2 vc a.length (QaB a)->W2.heap.size<=B0->W2.heap.size<=wc.heap.size->Jw wc v->
   Calls prog 272 #[vc,Ji 0,Jl v.heap.size 1 1] (v.alloc (.cells #[Jt ⟨#[99,111,110,116,101,110,116,45,108,101,110,103,116,104]⟩,Jt (bs D)] 403)) (Qkn W2.heap.size N ((Qbl,D) :: a) (v.alloc (.cells #[Jt ⟨#[99,111,110,116,101,110,116,45,108,101,110,103,116,104]⟩,Jt (bs D)] 403)))):=Z (fun vc B0 wc v h1 h2 h3 h4=>QCj vc a (Qbl,D) W2.heap.size B0 N wc v hN h1 h2 hl h3 h4)
 have zi:Hi (∀(vc:Value) (v wc:World),wc.ownsRow (v.alloc (.cells #[Jt ⟨#[99,111,110,116,101,110,116,45,108,101,110,103,116,104]⟩,Jt (bs D)] 403)).heap.size 403 2 vc a.length (QaB a)->Below (v.alloc (.cells #[Jt ⟨#[99,111,110,116,101,110,116,45,108,101,110,103,116,104]⟩,Jt (bs D)] 403)).heap.size (v.alloc (.cells #[Jt ⟨#[99,111,110,116,101,110,116,45,108,101,110,103,116,104]⟩,Jt (bs D)] 403)) wc->W2.heap.size<=v.heap.size->
   Calls prog 272 #[vc,Ji 0,Jl v.heap.size 1 1] wc (Qkn W2.heap.size N ((Qbl,D) :: a) wc)):=Z (fun vc v wc h1 h2 h3=>QCi vc a (Qbl,D) W2.heap.size N v wc hN h1 hl h3 h2)
 clear u0 u1 u2 l2 C zv zd;go_region_held3 (fun w'=>Jx w' w.heap.size 1 (.slice av a.length cv)/\Jx w' w.heap.size 2 (Jt b)) (first|exact d.o _ (qF _ _).drew|exact d.o _ l.o|exact d.o _ s.o|exact d.o _ (l.o.alloc l.o.size _)|exact d.o _ (s.o.alloc s.o.size _)|exact d.o _ qe.o)
  (first
   |(go_at_call 273;refine (HC.o _ (by first|exact (qF _ _).drew|exact l.o|exact l.o.alloc l.o.size _)).mono ?_;rintro e wc ⟨vc,rfl,zr,M⟩;(first|(have s:Hi (Jw W2 wc):=Z (Qaa l.o M))|(have s:Hi (Jw W2 wc):=Z (Qaa (l.o.alloc l.o.size _) M))|(have l:Hi (Jw W2 wc):=Z (Qaa (qF _ _).drew M)));have qc:=Z zr;have zb:=Z M;clear zr M)
   |(go_at_call 262;refine (zt.o _ (by first|exact (qF _ _).drew|exact l.o)).mono ?_;rintro e v ⟨rfl,R⟩;(first|(have s:Hi (Jw W2 v):=Z (Qaa l.o R))|(have l:Hi (Jw W2 v):=Z (Qaa (qF _ _).drew R)));have qd:=Z R;clear R)
   |(go_at_call 272;(first|refine (qp.o _ _ _ _ qc.o (qC _) l.o.size qd.o).mono ?_|refine (qp.o _ _ _ _ qc.o l.o.size s.o.size (qF _ _)).mono ?_|refine (zi.o _ _ _ qc.o zb.o l.o.size).mono ?_);rintro e wi ⟨gi,ci,rfl,zh,qo⟩;(first|(have qe:Hi (Jw W2 wi):=Z ((s.o.alloc s.o.size _).trans qo))|(have qe:Hi (Jw W2 wi):=Z (s.o.trans qo)));have zf:=Z zh;clear zh qo))
 have zw:∀f∈(Qbl,D) :: a,f.1.length<=1000000/\f.2.length<=1000000:=by
  intro f qs;rcases List.mem_cons.1 qs with rfl|qs
  ·refine⟨by show Qbl.length<=_;decide,?_⟩
   have:=QeA (b.size:Int) (by omega)
   rw[qx.o] at this;show D.length<=_;omega
  ·exact hf f qs
 have zk:=Z zw;have zK:Hi (QaU Qbl D=0):=Z (by rw[<-qx.o];exact Qj6 b.size (by omega))
 have qf:Hi (∀j (I:j<((Qbl,D) :: a).length),0<j->∃h:j-1<a.length,((Qbl,D) :: a)[j]=a[j-1]):=Z (fun j I h0=>by
  obtain⟨i,rfl⟩:∃i,j=i+1:=⟨j-1,by omega⟩
  exact⟨by simpa using I,rfl⟩)
 have qt:Hi ((Qag c a b.size)=P0.data.toList :: ((Qbl,D) :: a).map (fun f=>QaN f.1 f.2)):=Z (by unfold Qag;rw[zz.o,qx.o];rfl)
 have zo:Hi ((Qbl,D) :: a≠[]/\∀h:0<((Qbl,D) :: a).length,((Qbl,D) :: a)[0]=(Qbl,D)):=Z ⟨by simp,fun _=>rfl⟩
 have zA:((Qbl,D) :: a).length=N:=hN;generalize (Qbl,D) :: a=gs at zf zk qf qt zo zA;have zN:Hi (wi.ownsRow t.heap.size 9 1 (Jl t.heap.size 1 1) 1 (QfY [P0.data.toList])):=Z ⟨rfl,.inr ⟨t.heap.size,1,_,rfl,qC _,(qe.o.block t.heap.size hA).trans qw.o,qC _,by decide,rfl,by rw[QlM,Qb1];rfl⟩⟩
 have zB:Hi (Below t.heap.size W2 wi):=Z (qe.o.mono (Nat.le_of_lt hA));have zS:N<=1000001:=by omega
 have r:Hi (w.heap.size<t.heap.size/\t.heap.size<W2.heap.size):=Z ⟨by have:=ql;simp at this;omega,hA⟩
 have zH:=Z hN;clear zw hf hN qc zb qd l s qp zi HC zt d qw hA qy ql HS HD;go_wp2_with fail;go_simp;go_loopg [6,44] N (fun gk s6 s44 wr=>∃k:Nat,s44 = Ji (k:Int)/\k+gk=N/\Hi (wr.ownsRow t.heap.size 9 1 s6 (k+1) (QfY (P0.data.toList :: (gs.take k).map (fun f=>QaN f.1 f.2))))/\Hi (wr.ownsRow W2.heap.size 403 2 (Jl gi N ci) N (QaB gs))/\Hi (Below t.heap.size W2 wr)/\Hi (∀j (I:j<gs.length),j<k->(0<j->gs[j].1≠Qbl)/\QaU gs[j].1 gs[j].2=0))
 case atStart=>exact⟨0,by simp,by omega,zN,zf,zB,Z (fun j I h=>JN h (JH _))⟩
 case round=>
  obtain⟨k,rfl,hgk,QGx,HOFr,HBr,HK⟩:=hrel
  by_cases hk:k<N
  ·obtain⟨g',rfl⟩:∃g',gk=g'+1:=⟨gk-1,by omega⟩
   have qb:k<gs.length:=by omega
   obtain⟨y,hy⟩:∃y,gs[k]=y:=⟨_,rfl⟩;obtain⟨c0,c1⟩:=QvG HOFr.o k qb;rw[hy] at c0 c1;have qi:=zk.o _ (JG qb);rw[hy] at qi;have HP:=Z (fun w=>Qoh (bs y.1) (bs y.2) w (by rw[Qaq];exact qi.1) (by rw[Qaq];exact qi.2))
   rw[Qai,Qai] at HP;have HN:=Z (fun w=>QfZ y.1 y.2 w)
   have HY:=Z hy;have zF:decide ((k:Int)<(N:Int))=true:=qA (by omega)
   clear hy qi;have zx:Hi (P0.data.toList :: (gs.take (k+1)).map (fun f=>QaN f.1 f.2)=(P0.data.toList :: (gs.take k).map (fun f=>QaN f.1 f.2))++[QaN y.1 y.2]):=Z (by
    rw[qV qb,qY,HY.o];rfl)
   by_cases n:k=0
   ·have zp:y=(Qbl,D):=by rw[<-HY.o];subst n;exact zo.o.2 qb
    have K:QaU y.1 y.2=0:=by rw[zp];exact zK.o
    have qv:Hi (∀j (I:j<gs.length),j<k+1->(0<j->gs[j].1≠Qbl)/\QaU gs[j].1 gs[j].2=0):=Z (fun j I h=>by
     obtain rfl:j=k:=by omega
     rw[HY.o];exact⟨fun h=>by omega,K⟩)
    have S:QgN y.1 y.2=QaN y.1 y.2:=JK K;rw[K,S] at HP;have zD:decide ((k:Int)>0)=false:=qB (by omega)
    have zy:decide (0<k)=false:=qB (by omega)
    have zJ:¬(0<k):=by omega
    clear zp K S n HK HY;go_wp2_with fail;refine (HP.o _).mono ?_;rintro e w3 ⟨rfl,q⟩;have g:=Qaa ((qF wr.heap.size wr).alloc (qC _) (.cells #[Jt (bs y.1),Jt (bs y.2)] 403)) q;clear q c0 c1;have G:=Z (Qbj QGx.o g);have U:=Z (Qbj HOFr.o g);have Y:=Z (HBr.o.trans (g.mono (by have:=HBr.o.size;have:=r.o;omega)))
    have d:Hi (k+1<2147483648/\t.heap.size<=w3.heap.size):=Z ⟨by omega,by have:=g.size;have:=HBr.o.size;have:=r.o;omega⟩
    clear g;go_wp2_with (at_builtin;go_loud (refine Qgb w3 (by rfl) _ _ (by rfl) t.heap.size (k+1) _ _ (by rfl) G.o _ (QaN y.1 y.2) rfl (by rfl) d.o.1 d.o.2 ?_);intro g3 qk w4 J z)
    go_roundg g'
    case measure=>omega
    case rel=>
     refine⟨k+1,by simp,by omega,Z ?_,Z (QnB U.o G.o (by decide) z),Z (QgY Y.o z G.o (qC _) d.o.2),qv⟩
     rw[zx.o];exact J
   ·have zD:decide ((k:Int)>0)=true:=qA (by omega)
    have zy:decide (0<k)=true:=qA (by omega)
    have zJ:0<k:=by omega
    obtain⟨hj1,hj2⟩:=qf.o k qb (by omega)
    have zq:a[k-1]=y:=by rw[<-hj2,HY.o]
    have qn:∀i (hi:i<a.length),i<k-1->a[i].1≠Qbl/\QaU a[i].1 a[i].2=0:=by
     intro i hi zR;obtain⟨q1,q2⟩:=HK.o (i+1) (by omega) (by omega)
     obtain⟨r1,r2⟩:=qf.o (i+1) (by omega) (by omega)
     rw[r2] at q1 q2;exact⟨q1 (by omega),q2⟩
    obtain⟨o1,o2⟩:=QyD a (k-1) hj1 qn;rw[zq] at o1 o2;have zl:=Z (qE o1 o2);clear hj2 zq qn o1 o2 n
    by_cases A:y.1=Qbl
    ·have HF:Hi (QeT c a=22/\QoQ c a b.data.toList = []):=Z (by
      have:QeT c a=22:=by rw[HR.o];exact zl.o.1 A
      exact⟨this,by unfold QoQ;rw[JJ (by rw[this];simp)]⟩)
     rw[qA A] at HN;clear A HK HY;go_wp2_with fail;refine (HN.o _).mono ?_;rintro e w3 ⟨rfl,q⟩;have g:=Qaa ((qF wr.heap.size wr).alloc (qC _) (.cells #[Jt (bs y.1),Jt (bs y.2)] 403)) q;have qu:=Z (qg.o.trans ((HBr.o.trans (g.mono (by have:=HBr.o.size;have:=r.o;omega))).mono (Nat.le_of_lt r.o.1)))
     clear q c0 c1 g;go_wp2;go_ret2;exact⟨by rw[HF.o.1,HF.o.2];rfl,qu.o⟩
    ·rw[qB A] at HN
     have zg:=Z A
     by_cases K:QaU y.1 y.2=0
     ·have qv:Hi (∀j (I:j<gs.length),j<k+1->(0<j->gs[j].1≠Qbl)/\QaU gs[j].1 gs[j].2=0):=Z (fun j I h=>by
       by_cases e:j=k
       ·subst e;rw[HY.o];exact⟨fun _=>zg.o,K⟩
       ·exact HK.o j I (by omega))
      have S:QgN y.1 y.2=QaN y.1 y.2:=JK K;rw[K,S] at HP;clear K S A HK HY;go_wp2_with fail;refine (HN.o _).mono ?_;rintro e w2 ⟨rfl,E⟩;have T:=Qaa ((qF wr.heap.size wr).alloc (qC _) (.cells #[Jt (bs y.1),Jt (bs y.2)] 403)) E;have n:Jh w2 wr.heap.size #[Jt (bs y.1),Jt (bs y.2)] 403:=(E.block wr.heap.size (by simp)).trans (JI wr _)
      have k0:w2.cell? (Ja wr.heap.size 0)=some (Jt (bs y.1)):=by unfold World.cell?;rw[n];rfl
      have k1:w2.cell? (Ja wr.heap.size 1)=some (Jt (bs y.2)):=by unfold World.cell?;rw[n];rfl
      have V:=Z T;clear E c0 c1 n T;go_wp2_with fail;refine (HP.o _).mono ?_;rintro e w3 ⟨rfl,q⟩;have g:=Qaa V.o q;clear q k0 k1;have G:=Z (Qbj QGx.o g);have U:=Z (Qbj HOFr.o g);have Y:=Z (HBr.o.trans (g.mono (by have:=HBr.o.size;have:=r.o;omega)))
      have d:Hi (k+1<2147483648/\t.heap.size<=w3.heap.size):=Z ⟨by omega,by have:=g.size;have:=HBr.o.size;have:=r.o;omega⟩
      clear g;go_wp2_with (at_builtin;go_loud (refine Qgb w3 (by rfl) _ _ (by rfl) t.heap.size (k+1) _ _ (by rfl) G.o _ (QaN y.1 y.2) rfl (by rfl) d.o.1 d.o.2 ?_);intro g3 qk w4 J z)
      go_roundg g'
      case measure=>omega
      case rel=>
       refine⟨k+1,by simp,by omega,Z ?_,Z (QnB U.o G.o (by decide) z),Z (QgY Y.o z G.o (qC _) d.o.2),qv⟩
       rw[zx.o];exact J
     ·have HF:Hi (QeT c a=QaU y.1 y.2/\QoQ c a b.data.toList = []):=Z (by
       have:QeT c a=QaU y.1 y.2:=by rw[HR.o];exact zl.o.2 zg.o K
       exact⟨this,by unfold QoQ;rw[JJ (by rw[this];exact K)]⟩)
      have tz:((QaU y.1 y.2:Int) != 0)=true:=by rw[bne_iff_ne];omega
      clear K A HK HY;go_wp2_with fail;refine (HN.o _).mono ?_;rintro e w2 ⟨rfl,E⟩;have T:=Qaa ((qF wr.heap.size wr).alloc (qC _) (.cells #[Jt (bs y.1),Jt (bs y.2)] 403)) E;have n:Jh w2 wr.heap.size #[Jt (bs y.1),Jt (bs y.2)] 403:=(E.block wr.heap.size (by simp)).trans (JI wr _)
      have k0:w2.cell? (Ja wr.heap.size 0)=some (Jt (bs y.1)):=by unfold World.cell?;rw[n];rfl
      have k1:w2.cell? (Ja wr.heap.size 1)=some (Jt (bs y.2)):=by unfold World.cell?;rw[n];rfl
      have V:=Z T;clear E c0 c1 n T;go_wp2_with fail;refine (HP.o _).mono ?_;rintro e w3 ⟨rfl,q⟩;have g:=Qaa V.o q;have qu:=Z (qg.o.trans ((HBr.o.trans (g.mono (by have:=HBr.o.size;have:=r.o;omega))).mono (Nat.le_of_lt r.o.1)))
      clear q k0 k1 g;go_wp2;go_ret2;exact⟨by rw[HF.o.1,HF.o.2];rfl,qu.o⟩
  ·obtain rfl:k=N:=by omega
   have hN:=zH.o;have zF:decide ((k:Int)<(k:Int))=false:=qB (by omega)
   have zP:k<=16:=by have:=HM.o;omega
   have za:Qpx a=0:=QvJ a (fun i hi=>by
    obtain⟨q1,q2⟩:=HK.o (i+1) (by omega) (by omega)
    obtain⟨r1,r2⟩:=qf.o (i+1) (by omega) (by omega)
    rw[r2] at q1 q2;exact⟨q1 (by omega),q2⟩)
   have qj:QeT c a=0:=by rw[HR.o];exact za
   have HF:Hi (QeT c a=0/\QoQ c a b.data.toList=Qa2 (Qag c a b.size)++13 :: 10 :: b.data.toList):=Z ⟨qj,by unfold QoQ;rw[JK qj];unfold Qg5;rw[Qab]⟩
   have qm:P0.data.toList :: (gs.take k).map (fun f=>QaN f.1 f.2)=Qag c a b.size:=by rw[qt.o,qX (by omega)]
   have qr:=Qdp c a b.size qj (by omega)
   obtain⟨L,hL⟩:∃L,Qag c a b.size=L:=⟨_,rfl⟩;rw[qm,hL] at QGx;rw[hL] at HF qr;have zs:L.length=k+1:=by rw[<-hL,qt.o,qH,qQ];omega
   have ze:Hi (∀j (I:j<(L++[[]]).length),(L++[[]])[j].length<=256/\Qbh (L++[[]])[j]=0):=Z (fun j I=>by
    by_cases H:j<L.length
    ·rw[List.getElem_append_left H]
     obtain⟨-,g1,g2⟩:=qr.1 _ (JG H);exact⟨g2,Qq0 _ g1 g2⟩
    ·rw[List.getElem_append_right (by omega)]
     have:j-L.length=0:=by simp at I;omega
     simp only[this,List.getElem_cons_zero];exact⟨by decide,by decide⟩)
   have zu:=Z zs;have d:Hi (k+1<2147483648/\t.heap.size<=wr.heap.size):=Z ⟨by omega,by have:=HBr.o.size;have:=r.o;omega⟩
   clear za qj qm qr hL zs HK hN;go_wp2_with (at_builtin;go_loud (refine Qgb wr (by rfl) _ _ (by rfl) t.heap.size (k+1) _ _ (by rfl) QGx.o _ [] rfl (by rfl) d.o.1 d.o.2 ?_);intro g3 qk w4 J z)
   have zn:=Z (QgY HBr.o z QGx.o (qC _) d.o.2);have zC:=Z J;have zc:Jx w4 w.heap.size 2 (Jt b):=(zn.o.cell (p:=(Ja w.heap.size 2)) r.o.1).trans v2;have qd:=Z zc;clear J z zc QGx HOFr;go_loopg [11,72] (k+2) (fun gk s11 s72 wy=>∃(j:Nat) (O:JA),s11 = Jt O/\s72 = Ji (j:Int)/\wy=w4/\j+gk=k+2/\O.size<=j*260/\Hi (O=bs (Qa2 ((L++[[]]).take j))))
   case atStart=>exact⟨0,⟨#[]⟩,rfl,by simp,rfl,by omega,by decide,Z rfl⟩
   case round=>
    obtain⟨j,O,rfl,rfl,rfl,hgj,hOs,HO⟩:=hrel
    by_cases I:j<k+2
    ·obtain⟨g',rfl⟩:∃g',gk=g'+1:=⟨gk-1,by omega⟩
     have H:j<(L++[[]]).length:=by have:=zu.o;simp;omega
     have tk:decide ((j:Int)<(k:Int)+1+1)=true:=qA (by omega)
     have hc:=QvE zC.o j H;obtain⟨p1,p2⟩:=ze.o j H;obtain⟨x,hx⟩:∃x,(L++[[]])[j]=x:=⟨_,rfl⟩;rw[hx] at hc p1 p2;obtain⟨X,hX⟩:∃X,bs x=X:=⟨_,rfl⟩;have zG:X.size<=256:=by rw[<-hX,Qaq];exact p1
     have zI:=Z (fun w=>Qgx X w zG (by rw[<-hX,Qai];exact p2))
     rw[hX] at hc;have zL:Hi (O++(X++⟨#[13,10]⟩)=bs (Qa2 ((L++[[]]).take (j+1)))):=Z (by
      rw[HO.o,<-hX,show (⟨#[13,10]⟩:JA)=bs [13,10] from rfl,Qeh,Qeh,qV H,hx,QcX];rfl)
     have zj:=fun w=>run_string_add_sum (P:=prog) w O (X++⟨#[13,10]⟩) (by rw[ByteArray.size_append];show _+(_+2)<=_;omega)
     clear p1 p2 hx hX;go_wp2_with fail;refine (zI.o _).mono ?_;rintro e w' ⟨rfl,rfl⟩;go_wp2_with fail;go_roundg g'
     case measure=>omega
     case rel=>exact⟨j+1,_,rfl,by simp,rfl,by omega,by rw[ByteArray.size_append,ByteArray.size_append];show _+(_+2)<=_;omega,Z zL.o⟩
    ·obtain rfl:j=k+2:=by omega
     have R:=qd.o;have tk:decide (((k:Int)+2)<(k:Int)+1+1)=false:=qB (by omega)
     have zj:=fun w=>run_string_add_sum (P:=prog) w O b (by omega)
     have zM:Hi (O++b=bs (QoQ c a b.data.toList)):=Z (by
      rw[HO.o,HF.o.2]
      conv=>lhs;rhs;rw[<-Qb1 b]
      rw[Qeh,qX (by have:=zu.o;simp;omega),QcX]
      congr 1
      simp[Qa2])
     go_wp2;go_ret2;exact⟨by rw[HF.o.1,<-zM.o];rfl,qg.o.trans (zn.o.mono (Nat.le_of_lt r.o.1))⟩
theorem Qu4(a:List (List UInt8×JL)):(Qe0 a).length<=a.length:=List.length_filter_le _ _
theorem EnvW.env{w:World}(h:EnvW w):Env w:=⟨h.m,h.pow,h.big⟩
theorem QCR(s:JA)(m:Nat):s.extract 0 m=bs (s.data.toList.take m):=by rw[QcC,List.drop_zero]
theorem Qtz(k n:Int)(t s:JA)(v:Value)(w:World) :
  Calls prog 278 #[.agg #[Jb k,Ji n,Jt t],Jt s,v] w (JB (Jt s) w):=by
 have a:=Z (Qa0 w (Jb k) (Ji n) (Jt t) 137);go_enter func278,ntmps278;go_wp2;go_ret;exact⟨rfl,a.o⟩
theorem Qty(k n:Int)(t s:JA)(v:Value)(w:World) :
  Calls prog 279 #[.agg #[Jb k,Ji n,Jt t],Jt s,v] w (JB (Jt ⟨#[]⟩) w):=by
 have a:=Z (Qa0 w (Jb k) (Ji n) (Jt t) 137);go_enter func279,ntmps279;go_wp2;go_ret;exact⟨rfl,a.o⟩
theorem QwR(k n:Int)(t s:JA)(v:Value)(w:World) :
  Calls prog 280 #[.agg #[Jb k,Ji n,Jt t],Jt s,v] w fun e w'=>e=.returned (Jt (bs (s.data.toList.take (max 0 (min n (s.size:Int))).toNat)))/\Jw w w':=by
 have a:=Z (Qa0 w (Jb k) (Ji n) (Jt t) 137);go_enter func280,ntmps280;go_wp2;go_ret;exact⟨QbR (QCR _ _),a.o⟩
def Qqt(n:Int)(s:JA):JL:=if Qbs n≠0 then s.data.toList else QoR s 0 (Qbf n).data.toList
theorem QhO(n:Int):(Qbf n).size<=100:=by
 unfold Qbf;split
 ·exact qL _
 ·rename_i h
  rw[Qj8] at h;obtain⟨m,rfl⟩:∃m:Nat,n=m:=⟨n.toNat,by omega⟩
  have a:=QfN m (by omega) (by omega)
  have b:=Qf0 (m:Int);omega
theorem QtA(k n:Int)(t s:JA)(v:Value)(w:World)(g:EnvW w)(z : -9223372036854775808<=n)(y:n<=9223372036854775807)(x:s.size<=1000000) :
  Calls prog 281 #[.agg #[Jb k,Ji n,Jt t],Jt s,v] w (JB (Jt (bs (Qqt n s))) w):=by
 have l:=Qa0 w (Jb k) (Ji n) (Jt t) 137;have f:=Z (g.below l);have p:=Z l;have i:=Z (fun w g=>QhJ n w g z y)
 have A:=Z (fun W=>QjQ s (Qbf n) 0 W x (qD (QhO n) (by decide)) (by decide))
 clear l g
 by_cases c:Qbs n=0
 ·have j:Hi (Qqt n s=QoR s 0 (Qbf n).data.toList):=Z (JJ (fun h=>h c))
  rw[c] at i;clear c;go_enter func281,ntmps281;go_wp2_with (first
   |(go_at_call 271;refine (i.o _ f.o.env).mono ?_;rintro e q ⟨rfl,a⟩;have b:=Z a;clear a)
   |(go_at_call 312;refine (A.o _).mono ?_;rintro e B ⟨rfl,d⟩;have m:=Z d;clear d))
  go_ret;exact⟨QbR (by rw[j.o]),Qaa (Qaa p.o b.o) m.o⟩
 ·have j:Hi (s=bs (Qqt n s)):=Z (by unfold Qqt;rw[JK c,Qb1])
  have r:((Qbs n:Int) != 0)=true:=by rw[bne_iff_ne];omega
  generalize Qbs n=E at i r;clear c;go_enter func281,ntmps281;go_wp2_with (first
   |(go_at_call 271;refine (i.o _ f.o.env).mono ?_;rintro e q ⟨rfl,a⟩;have b:=Z a;clear a))
  go_ret;exact⟨QbR j.o,Qaa p.o b.o⟩
def Qfe(t:JL)(s:JA)(ls:JM):JL:=if ls.length<2 then s.data.toList else QoR s 1 (QaG t)
theorem QhB(t:JA):(bs (QaG t.data.toList)).size<=t.size:=by rw[Qaq,<-Qab t];exact Qlr _
theorem Qoj(k n:Int)(t s:JA)(a:Option Addr)(c:Nat)(b:JM)(w:World)(v:s.size<=1000000)(r:t.size<=1000000) :
  Calls prog 283 #[.agg #[Jb k,Ji n,Jt t],Jt s,.slice a b.length c] w (JB (Jt (bs (Qfe t.data.toList s b))) w):=by
 have m:=Z (Qa0 w (Jb k) (Ji n) (Jt t) 137);have q:=Z (fun W=>QjR t W r)
 have p:=Z (fun W=>QjQ s (bs (QaG t.data.toList)) 1 W v (qD (QhB t) r) (by decide))
 by_cases l:b.length<2
 ·have g:Hi (s=bs (Qfe t.data.toList s b)):=Z (by unfold Qfe;rw[JK l,Qb1])
  have h:(b.length:Int)<2:=by omega
  go_enter func283,ntmps283;go_wp2;go_ret;exact⟨QbR g.o,m.o⟩
 ·have g:Hi (Qfe t.data.toList s b=QoR s 1 (bs (QaG t.data.toList)).data.toList):=Z (by unfold Qfe;rw[JJ l,Qai])
  have h:¬((b.length:Int)<2):=by omega
  generalize bs (QaG t.data.toList)=Q at q p g;go_enter func283,ntmps283;go_wp2_with (first
   |(go_at_call 313;refine (q.o _).mono ?_;rintro e x ⟨rfl,d⟩;have i:=Z d;clear d)
   |(go_at_call 312;refine (p.o _).mono ?_;rintro e y ⟨rfl,f⟩;have j:=Z f;clear f))
  go_ret;exact⟨QbR (by rw[g.o]),Qaa (Qaa m.o i.o) j.o⟩
def QhQ(t:JL)(s:JA)(ls:JM):JL:=match Qdy Qb0 ls 0 with|none=>s.data.toList|some i=>QoR s i (QbM++QaG t)
theorem QsH(c:JL):∀(xs:JM) (i:Nat),(∀j (a:j<xs.length),¬(0<i+j/\QaT xs[j]=0/\QaX xs[j]=c))->Qdy c xs i=none:=by
 intro xs
 induction xs with
 |nil=>intro i _;rfl
 |cons x t ih=>
  intro i h;unfold Qdy;rw[JJ (by have:=h 0 (by simp);simpa using this)]
  exact ih (i+1) (fun j a=>by
   have:=h (j+1) (by simp;omega)
   simp only[List.getElem_cons_succ] at this;rw[show i+1+j=i+(j+1) by omega];exact this)
theorem Qvz(c:JL):∀(xs:JM) (i k:Nat) (a:k<xs.length),(∀j (d:j<xs.length),j<k->¬(0<i+j/\QaT xs[j]=0/\QaX xs[j]=c))->(0<i+k/\QaT xs[k]=0/\QaX xs[k]=c)->Qdy c xs i=some (i+k):=by
 intro xs
 induction xs with
 |nil=>intro i k a;simp at a
 |cons x t ih=>
  intro i k a h b;cases k with
  |zero=>
   unfold Qdy;rw[JK (by simpa using b)];rfl
  |succ k=>
   unfold Qdy;rw[JJ (by have:=h 0 (by simp) (by omega);simpa using this)]
   have:=ih (i+1) k (by simpa using a) (fun j d hjk=>by
    have:=h (j+1) (by simp;omega) (by omega)
    simp only[List.getElem_cons_succ] at this;rw[show i+1+j=i+(j+1) by omega];exact this) (by
    simp only[List.getElem_cons_succ] at b;rw[show i+1+k=i+(k+1) by omega];exact b)
   rw[this];congr 1;omega
def Qj2:JA:=⟨#[67,111,110,116,101,110,116,45,82,97,110,103,101,58,32]⟩
theorem QtK(l:JL):Qj2++bs l=bs (QbM++l):=by
 apply ByteArray.ext;apply Array.toList_inj.1;simp[bs,Qj2,QbM]
theorem Qqi(k n:Int)(t s:JA)(v:Value)(f:JM)(w:World)(T:EnvW w)(hv:HoldsS w v f)(hs:s.size<=1000000)(ht:t.size<=10000)(hx:∀x∈f,x.length<=1000000)(qg:f.length<=1000) :
  Calls prog 282 #[.agg #[Jb k,Ji n,Jt t],Jt s,v] w (JB (Jt (bs (QhQ t.data.toList s f))) w):=by
 have U:=Qa0 w (Jb k) (Ji n) (Jt t) 137;have qa:=hv.below U;obtain⟨a,c,rfl,hc,Qak⟩:=qa;have HC:=Z (fun W=>QjR t W (by omega))
 have HP:=Z (fun (i:Nat) (z:i<=1000) W=>QjQ s (bs (QbM++QaG t.data.toList)) i W hs (by
  have:=QhB t;rw[Qaq] at this;rw[Qaq,qG,show QbM.length=15 from rfl];omega) (by omega))
 have HT:Hi (∀i,Qdy Qb0 f 0=some i->QhQ t.data.toList s f=QoR s i (bs (QbM++QaG t.data.toList)).data.toList):=Z (fun i z=>by unfold QhQ;rw[z,Qai])
 have qc:Hi (Qdy Qb0 f 0=none->s=bs (QhQ t.data.toList s f)):=Z (fun z=>by unfold QhQ;rw[z,Qb1])
 have hq:(Qj2.size:Int)+(bs (QaG t.data.toList)).size<=1000000:=by
  have:=QhB t;rw[show Qj2.size=15 from rfl];omega
 have q:=fun w=>run_string_add_sum (P:=prog) w (⟨#[67,111,110,116,101,110,116,45,82,97,110,103,101,58,32]⟩:JA) (bs (QaG t.data.toList)) (by have e:Qj2.size=(⟨#[67,111,110,116,101,110,116,45,82,97,110,103,101,58,32]⟩:JA).size:=rfl;rw[<-e];omega)
 have r:Hi ((⟨#[67,111,110,116,101,110,116,45,82,97,110,103,101,58,32]⟩:JA)++bs (QaG t.data.toList)=bs (QbM++QaG t.data.toList)):=Z (QtK (QaG t.data.toList));have HE:=Z (T.below U);have HF:=Z (fun (x:JL) (hx:x.length<=1000000) w T=>by have:=QgL (bs x) w (by rw[Qaq];exact hx) T;rw[Qai] at this;exact this)
 have HX:=Z hx;have M:=Z Qak;generalize bs (QaG t.data.toList)=Q at HC q r;generalize bs (QbM++QaG t.data.toList)=R at HP HT r;have HB:=Z U;clear hv T U hx Qak hq;go_enter func282,ntmps282;go_wp2_with fail;have HU:Hi (∀W,Below (w.alloc (.cells #[Jb k,Ji n,Jt t] 137)).heap.size (w.alloc (.cells #[Jb k,Ji n,Jt t] 137)) W->Jx W w.heap.size 2 (Jt t)):=Z (fun W hW=>(hW.cell (p:=(Ja w.heap.size 2)) (by simp)).trans (by simp))
 have K:w.heap.size<(w.alloc (.cells #[Jb k,Ji n,Jt t] 137)).heap.size:=by simp
 have D:=Z K;clear K;generalize w.alloc (.cells #[Jb k,Ji n,Jt t] 137)=W0 at HE M HB HU D ⊢;go_loopg [13] f.length (fun gk s13 wr=>∃i:Nat,s13 = Ji (i:Int)/\i+gk=f.length/\Jw W0 wr/\Hi (∀j (H:j<f.length),j<i->¬(0<0+j/\QaT f[j]=0/\QaX f[j]=Qb0)))
 case atStart=>exact⟨0,rfl,by omega,qF _ _,Z (fun j H h=>JN h (JH _))⟩
 case round=>
  obtain⟨i,rfl,hgk,hb,HK⟩:=hrel;cases gk with
  |zero=>
   obtain rfl:i=f.length:=by omega
   have g:=Z hb;clear hb q;go_wp2;go_ret;exact⟨QbR (qc.o (QsH Qb0 f 0 (fun j H=>HK.o j H H))),Qaa HB.o g.o⟩
  |succ gm=>
   have z:i<f.length:=by omega
   have ql:(i:Int)<(f.length:Int):=by omega
   obtain⟨b,o,rfl,hbl,hcl⟩:=M.o (by intro e;rw[e] at z;simp at z)
   have y:=(hb.cell (p:=(Ja b (o+i))) hbl).trans (hcl i z);have qi:(i:Int)<(c:Int):=by omega
   have m:=Z (HF.o f[i] (HX.o _ (JG z)) wr (HE.o.below hb));have g:=Z hb;have qj:IntKind.i64.wrap ((i:Int)+1)=(i:Int)+1:=by rw[JR];omega
   have qk:=HK;obtain⟨E,hEq⟩:∃E,QaT f[i]=E:=⟨_,rfl⟩;obtain⟨NM,hNq⟩:∃NM,QaX f[i]=NM:=⟨_,rfl⟩;have B:=Z (qE hEq hNq);rw[hEq,hNq] at m;have I:((bs NM).toList == [99,111,110,116,101,110,116,45,114,97,110,103,101])=decide (NM=Qb0):=QrU _ _;have L:=HU.o wr hb;clear hcl hb hEq hNq;have next:¬(0<i/\E=0/\NM=Qb0)->Hi (∀j (H:j<f.length),j<i+1->¬(0<0+j/\QaT f[j]=0/\QaX f[j]=Qb0)):=fun hno=>Z (fun j H hji hh=>by
    rcases Nat.lt_or_ge j i with h1|h1
    ·exact HK.o j H h1 hh
    ·obtain rfl:j=i:=by omega
     rw[B.o.1,B.o.2,Nat.zero_add] at hh;exact hno hh)
   by_cases J:0<i/\E=0/\NM=Qb0
   ·obtain⟨hp1,rfl,rfl⟩:=J
    have HH:=Z (Qvz Qb0 f 0 i z HK.o ⟨by omega,B.o.1,B.o.2⟩)
    have Y:(0:Int)<(i:Int):=by omega
    rw[qA rfl] at I;clear next
    generalize bs Qb0=CN at m I;have qf:=r.o;go_wp2_with fail
    (refine m.o.mono ?_;rintro e C ⟨rfl,d⟩;have l:=Z d;have qe:=HU.o _ (g.o.trans (d.mono g.o.size));have X:w.heap.size≠C.heap.size:=Nat.ne_of_lt (qK D.o (qD g.o.size d.size));have qh:w.heap.size<C.heap.size:=qK D.o (qD g.o.size d.size);have qn:∀A,(C.alloc A).cell? (Ja w.heap.size 2)=some (Jt t):=fun A=>(World.cell?_alloc_old C A (Ja w.heap.size 2) X).trans qe;clear d L y)
    go_wp2_with (first
     |(go_at_call 313;refine (HC.o _).mono ?_;rintro e w2 ⟨rfl,N⟩;have qd:=Z N;clear N)
     |(go_at_call 312;refine (HP.o i (by omega) _).mono ?_;rintro e w3 ⟨rfl,S⟩;have qb:=Z S;clear S))
    go_ret;exact⟨QbR (by rw[HT.o i (by have:=HH.o;rwa[Nat.zero_add] at this)]),Qaa (Qaa (Qaa (Qaa (Qaa HB.o g.o) l.o) ((qF _ _).alloc (qC _) _)) qd.o) qb.o⟩
   ·have HN:=next J
    have G:Hi (∀W,Jw wr W->Jw W0 W):=Z (fun W hW=>Qaa g.o hW)
    clear next L q
    rcases Nat.eq_zero_or_pos i with h0|h0
    ·subst h0
     rw[qM] at y;clear J;go_wp2_with fail;refine m.o.mono ?_;rintro e C ⟨rfl,d⟩;have l:=Z (Qaa (G.o _ d) ((qF _ _).alloc (qC _) (.cells #[Jt (bs NM),Jt (bs (Qbc f[0]))] 403)));clear d y;go_wp2_with fail;go_roundg gm
     case measure=>omega
     case rel=>exact⟨1,rfl,by omega,l.o,HN⟩
    have Y:(0:Int)<(i:Int):=by omega
    by_cases V:E=0
    ·subst V
     have O:¬NM=Qb0:=fun e=>J ⟨h0,rfl,e⟩
     rw[qB O] at I;clear J O;go_wp2_with fail;refine m.o.mono ?_;rintro e C ⟨rfl,d⟩;have l:=Z (Qaa (G.o _ d) ((qF _ _).alloc (qC _) (.cells #[Jt (bs NM),Jt (bs (Qbc f[i]))] 403)));clear d y;generalize bs NM=NB at *;go_wp2_with fail;go_roundg gm
     case measure=>omega
     case rel=>exact⟨i+1,rfl,by omega,l.o,HN⟩
    ·have tz:((E:Int)==0)=false:=by rw[qI];omega
     have qm:¬((E:Int)=0):=by omega
     clear J;go_wp2_with fail;refine m.o.mono ?_;rintro e C ⟨rfl,d⟩;have l:=Z (Qaa (G.o _ d) ((qF _ _).alloc (qC _) (.cells #[Jt (bs NM),Jt (bs (Qbc f[i]))] 403)));clear d y;go_wp2_with fail;go_roundg gm
     case measure=>omega
     case rel=>exact⟨i+1,rfl,by omega,l.o,HN⟩
end
end Go.Proofs.YtlpecalodphalaaGreatDoor
