/- What parts of the program compute: packed for TopReach. Conditions: none. -/
import Derived.Test.YtilaebjndadkhaaGreatDoorPz7
set_option linter.all false
set_option maxRecDepth 100000
set_option maxHeartbeats 8000000
open Go.Lib (hid)
namespace Go.Proofs.YtilaebjndadkhaaGreatDoor
section
open Go.RowKit
theorem Qem(a c:Key)(B:Bool)(hB:decide (a=c)=B)(w:World):(binOp .eql 93 (.agg #[.int .u64 (a.1:Nat),.int .u64 (a.2:Nat)]) (.agg #[.int .u64 (c.1:Nat),.int .u64 (c.2:Nat)])).run Tryz.prog w = .ok (.bool B) w:=by
 have e:(decide ((a.1:Int)=(c.1:Int))&&decide ((a.2:Int)=(c.2:Int)))=decide (a=c):=by
  rw [Bool.eq_iff_iff,Bool.and_eq_true,decide_eq_true_eq,decide_eq_true_eq,decide_eq_true_eq,Prod.ext_iff];constructor
  ·rintro ⟨h1,h2⟩;exact ⟨by omega,by omega⟩
  ·rintro ⟨h1,h2⟩;exact ⟨by omega,by omega⟩
 rw [run_eql_struct,show (10000:Nat)=9998+2 from rfl,QlQ,e,hB];rfl
theorem QfJ(op:BinOp)(x y:Operand)(xs ys:Array Value)(w:World):(eqGuard op 93 x y (.agg xs) (.agg ys)).run Tryz.prog w = .ok () w:=
 run_eqGuard_agg w op 93 x y xs ys (by kernel_rfl)
structure CutS(w W:World)(b most mb:Nat)(old new a:Key)(nd:QcR)(g:Key→Option QcR)(n:Nat):Prop where
 o:LruB W b most mb old new
 k:W.heap[w.heap.size]?=some (.cells #[.int .u64 (a.1:Nat),.int .u64 (a.2:Nat)] 93 (0,0))
 x:W.heap[w.heap.size+1]?=some (.cells #[.int .i64 nd.1,.int .u64 (nd.2.1.1:Nat),.int .u64 (nd.2.1.2:Nat),.int .u64 (nd.2.2.1:Nat),.int .u64 (nd.2.2.2:Nat)] 297 (0,0))
 m:MapF QgP Qcr W mb g n
 t:Touch (fun i=>i=b∨i=mb) w W
 lb:b<w.heap.size
 lm:mb<w.heap.size
 ne:b≠mb
section
variable {w W:World} {b most mb n:Nat} {old new a:Key} {nd:QcR} {g:Key→Option QcR}
theorem CutS.lt(h:CutS w W b most mb old new a nd g n):w.heap.size+1<W.heap.size:=(gsi h.x).1
theorem CutS.drewN(h:CutS w W b most mb old new a nd g n)(m:Nat):CutS w (W.drewN m) b most mb old new a nd g n:=
 ⟨h.o,h.k,h.x,h.m.keep rfl,h.t.trans (S':=fun i=>i=b∨i=mb) ⟨rfl,rfl,rfl,Nat.le_refl _,fun _ _ _=>rfl⟩ (fun g hg=>.inl hg),h.lb,h.lm,h.ne⟩
theorem CutS.drew(h:CutS w W b most mb old new a nd g n):CutS w W.drew b most mb old new a nd g n:=
 ⟨h.o,h.k,h.x,h.m.keep rfl,QbI h.t,h.lb,h.lm,h.ne⟩
theorem CutS.alloc(h:CutS w W b most mb old new a nd g n)(ob:Obj):CutS w (W.alloc ob) b most mb old new a nd g n:=by
 have hl:=h.lt;have l1:=h.lb;have l2:=h.lm;exact ⟨(heap_alloc_old W ob (by omega)).trans h.o,(heap_alloc_old W ob (by omega)).trans h.k,(heap_alloc_old W ob hl).trans h.x,h.m.keep (heap_alloc_old W ob (by omega)),h.t.trans (Touch.of_below (S:=fun i=>i=b∨i=mb) ((Below.refl _ _).alloc (Nat.le_refl _) ob)) (fun g hg=>.inl hg),h.lb,h.lm,h.ne⟩
theorem CutS.set23(h:CutS w W b most mb old new a nd g n)(q:Key):CutS w ((W.setCell ⟨b,2,none⟩ (.int .u64 (q.1:Nat))).setCell ⟨b,3,none⟩ (.int .u64 (q.2:Nat))) b most mb q new a nd g n:=by
 have l1:=h.lb;exact ⟨Qli h.o _ _,(Qbu (by omega)).trans h.k,(Qbu (by omega)).trans h.x,h.m.keep (Qbu (fun e=>h.ne e.symm)),Qaf (a:=⟨b,3,none⟩) _ (Qaf (a:=⟨b,2,none⟩) _ h.t (.inl (.inl rfl))) (.inl (.inl rfl)),h.lb,h.lm,h.ne⟩
theorem CutS.set45(h:CutS w W b most mb old new a nd g n)(q:Key):CutS w ((W.setCell ⟨b,4,none⟩ (.int .u64 (q.1:Nat))).setCell ⟨b,5,none⟩ (.int .u64 (q.2:Nat))) b most mb old q a nd g n:=by
 have l1:=h.lb;exact ⟨QhC h.o _ _,(Qbu (by omega)).trans h.k,(Qbu (by omega)).trans h.x,h.m.keep (Qbu (fun e=>h.ne e.symm)),Qaf (a:=⟨b,5,none⟩) _ (Qaf (a:=⟨b,4,none⟩) _ h.t (.inl (.inl rfl))) (.inl (.inl rfl)),h.lb,h.lm,h.ne⟩
theorem CutS.map(h:CutS w W b most mb old new a nd g n)(ob:Obj)(g':Key→Option QcR)(n':Nat)(hm:MapF QgP Qcr (Qaw W mb ob) mb g' n'):CutS w (Qaw W mb ob) b most mb old new a nd g' n':=by
 have l2:=h.lm;exact ⟨(Qah W mb ob b h.ne).trans h.o,(Qah W mb ob _ (by omega)).trans h.k,(Qah W mb ob _ (by omega)).trans h.x,hm,Qfn ob h.t (.inr rfl),h.lb,h.lm,h.ne⟩
theorem CutS.far2(h:CutS w W b most mb old new a nd g n)(B i j:Nat)(hB:w.heap.size+1<B)(u v:Value):CutS w ((W.setCell ⟨B,i,none⟩ u).setCell ⟨B,j,none⟩ v) b most mb old new a nd g n:=by
 have l1:=h.lb;have l2:=h.lm;exact ⟨(Qbu (by omega)).trans h.o,(Qbu (by omega)).trans h.k,(Qbu (by omega)).trans h.x,h.m.keep (Qbu (by omega)),Qaf (a:=⟨B,j,none⟩) _ (Qaf (a:=⟨B,i,none⟩) _ h.t (.inr (by show w.heap.size≤B;omega))) (.inr (by show w.heap.size≤B;omega)),h.lb,h.lm,h.ne⟩
theorem CutS.look(h:CutS w W b most mb old new a nd g n)(q:Key)(ln:QcR)(hq:g q=some ln):(Instr.lookup 183 (.map (some mb)) (.agg #[.int .u64 (q.1:Nat),.int .u64 (q.2:Nat)]) false).run Tryz.prog W = .ok (.agg #[.int .i64 ln.1,.int .u64 (ln.2.1.1:Nat),.int .u64 (ln.2.1.2:Nat),.int .u64 (ln.2.2.1:Nat),.int .u64 (ln.2.2.2:Nat)]) W:=by
 have hh:=QbK (W:=W) h.m q false rfl;rw [hq] at hh;exact hh
end
theorem QjD{w:World}{b:Nat}{x0 x1 x2 x3 x4:Value}{t:TypeId}(k:w.heap[b]?=some (.cells #[x0,x1,x2,x3,x4] t (0,0)))(y1 y2:Value):((w.setCell ⟨b,1,none⟩ y1).setCell ⟨b,2,none⟩ y2).heap[b]?=some (.cells #[x0,y1,y2,x3,x4] t (0,0)):=by
 simp [World.setCell,Array.getElem?_modify,k]
def QfS(g:Key→Option QcR)(a:Key):Key→Option QcR:=fun c=>if c=a then none else g c
def Qwa(g:Key→Option QcR)(q:Key)(ln:QcR)(nx:Key):Key→Option QcR:=fun c=>if c=q then some (ln.1,ln.2.1,nx) else g c
def QzL(g:Key→Option QcR)(q:Key)(ln:QcR)(ol:Key):Key→Option QcR:=fun c=>if c=q then some (ln.1,ol,ln.2.2) else g c
theorem QkA{w W:World}{b most mb n:Nat}{old new a:Key}{nd:QcR}{g:Key→Option QcR}(h:CutS w W b most mb old new a nd g n)(hg:g a=some nd)(ty:TypeId) :
  ∃ ob,(Builtin.delete_ #[183,93] ty #[.map (some mb),.agg #[.int .u64 (a.1:Nat),.int .u64 (a.2:Nat)]]).run Tryz.prog W = .ok (.tuple #[]) (Qaw W mb ob)∧CutS w (Qaw W mb ob) b most mb old new a nd (QfS g a) (n-1):=by
 obtain ⟨ob,h1,h2⟩:=h.m.drop QkH Tryz.underlying183 a ty;rw [hg] at h2;exact ⟨ob,h1,h.map ob _ _ h2⟩
theorem Qkz{w W:World}{b most mb n:Nat}{old new a:Key}{nd:QcR}{g:Key→Option QcR}(h:CutS w W b most mb old new a nd g n)(q:Key)(ln:QcR)(hg:g q=some ln)(l2:QcR) :
  ∃ ob,(Instr.mapUpdate 183 (.map (some mb)) (.agg #[.int .u64 (q.1:Nat),.int .u64 (q.2:Nat)]) (.agg #[.int .i64 l2.1,.int .u64 (l2.2.1.1:Nat),.int .u64 (l2.2.1.2:Nat),.int .u64 (l2.2.2.1:Nat),.int .u64 (l2.2.2.2:Nat)])).run Tryz.prog W = .ok () (Qaw W mb ob)∧CutS w (Qaw W mb ob) b most mb old new a nd (fun c=>if c=q then some l2 else g c) n:=by
 obtain ⟨ob,h1,h2⟩:=QoI h.m q l2 (W:=W) rfl;rw [hg] at h2;exact ⟨ob,h1,h.map ob _ _ h2⟩
theorem Qqg{w:World}{b most mb n:Nat}{old new:Key}{g:Key→Option QcR}(h:LruB w b most mb old new)(hm:MapF QgP Qcr w mb g n)(a:Key)(nd:QcR)(hg:g a=some nd)(ho:a=old)(hn:a=new):Calls Tryz.prog 146 #[.pointer (some ⟨b,0,none⟩),.agg #[.int .u64 (a.1:Nat),.int .u64 (a.2:Nat)]] w fun e w'=>e = .returned (.int .i64 nd.1)∧LruB w' b most mb (nd.2.2) (nd.2.1)∧MapF QgP Qcr w' mb (QfS g a) (n-1)∧Touch (fun i=>i=b∨i=mb) w w':=by
 have hne:=h.ne hm;have hB0:=Qai w (.int .u64 (a.1:Nat)) (.int .u64 (a.2:Nat)) 93;have HK:=hid (heap_alloc_new w (.cells #[.int .u64 (a.1:Nat),.int .u64 (a.2:Nat)] 93));have HO:=hid (Qae h hB0);have HM:=hid (hm.keep (hB0.block mb hm.lt));have HT:Hid (Touch (fun i=>i=b∨i=mb) w (w.alloc (.cells #[.int .u64 (a.1:Nat),.int .u64 (a.2:Nat)] 93))):=hid (Touch.of_below hB0)
 have hlb:b<w.heap.size:=(gsi h).1;have hlm:mb<w.heap.size:=hm.lt;have hsz:(w.alloc (.cells #[.int .u64 (a.1:Nat),.int .u64 (a.2:Nat)] 93)).heap.size=w.heap.size+1:=World.size_alloc _ _;have HSZ:=hid hsz;obtain ⟨⟨-,c1,-,-,-,-⟩,-⟩:=Qar HO.out;obtain ⟨⟨k0,k1⟩,-⟩:=Qam HK.out;have HG:=hid hg;have hq1:=fun W=>Qem a old true (decide_eq_true ho) W
 have hq2:=fun W=>Qem a new true (decide_eq_true hn) W
 have hgd:=QfJ;have HQ:=hid (And.intro hq1 (And.intro hq2 hgd));have HNB:=hid (And.intro hlb (And.intro hlm hne));clear h hm hB0 hg ho hn hsz hq1 hq2 hgd hlb hlm hne;go_enter Tryz.func146,Tryz.ntmps146;go_wp2_with fail;generalize w.alloc (.cells #[.int .u64 (a.1:Nat),.int .u64 (a.2:Nat)] 93)=W0 at HK HO HM HT c1 k0 k1 HSZ ⊢;have lk:w.heap.size<W0.heap.size:=(gsi HK.out).1;have lo':b<W0.heap.size:=(gsi HO.out).1;have lm:mb<W0.heap.size:=HM.out.lt;have l2:(Instr.lookup 183 (.map (some mb)) (.agg #[.int .u64 (a.1:Nat),.int .u64 (a.2:Nat)]) false).run Tryz.prog ((W0.alloc (.cells #[.int .i64 0,.int .u64 0,.int .u64 0,.int .u64 0,.int .u64 0] 297)).drew) = .ok (.agg #[.int .i64 nd.1,.int .u64 (nd.2.1.1:Nat),.int .u64 (nd.2.1.2:Nat),.int .u64 (nd.2.2.1:Nat),.int .u64 (nd.2.2.2:Nat)]) ((W0.alloc (.cells #[.int .i64 0,.int .u64 0,.int .u64 0,.int .u64 0,.int .u64 0] 297)).drew):=by
  have h:=QbK (W:=(W0.alloc (.cells #[.int .i64 0,.int .u64 0,.int .u64 0,.int .u64 0,.int .u64 0] 297)).drew) HM.out a false (heap_alloc_old W0 (.cells #[.int .i64 0,.int .u64 0,.int .u64 0,.int .u64 0,.int .u64 0] 297) lm);rw [HG.out] at h;exact h
 have l3:(Instr.lookup 183 (.map (some mb)) (.agg #[.int .u64 (a.1:Nat),.int .u64 (a.2:Nat)]) false).run Tryz.prog W0.drew = .ok (.agg #[.int .i64 nd.1,.int .u64 (nd.2.1.1:Nat),.int .u64 (nd.2.1.2:Nat),.int .u64 (nd.2.2.1:Nat),.int .u64 (nd.2.2.2:Nat)]) W0.drew:=by
  have h:=QbK (W:=W0.drew) HM.out a false rfl;rw [HG.out] at h;exact h
 obtain ⟨⟨-,d1,-,-,-,-⟩,-⟩:=Qar ((heap_alloc_old W0 (.cells #[.int .i64 0,.int .u64 0,.int .u64 0,.int .u64 0,.int .u64 0] 297) lo').trans HO.out);obtain ⟨⟨d4,d5⟩,-⟩:=Qam ((heap_alloc_old W0 (.cells #[.int .i64 0,.int .u64 0,.int .u64 0,.int .u64 0,.int .u64 0] 297) lk).trans HK.out);go_upto_region 1 with fail
 go_cut [5] (fun s5 wx=>s5 = .pointer (some ⟨w.heap.size+1,0,none⟩)∧CutS w wx b most mb old new a nd g n)
 case first=>
  go_region
  all_goals
   go_wp2_with fail;go_meet;refine ⟨by rw [HSZ.out],(heap_alloc_old W0 (.cells #[.int .i64 nd.1,.int .u64 (nd.2.1.1:Nat),.int .u64 (nd.2.1.2:Nat),.int .u64 (nd.2.2.1:Nat),.int .u64 (nd.2.2.2:Nat)] 297) lo').trans HO.out,(heap_alloc_old W0 (.cells #[.int .i64 nd.1,.int .u64 (nd.2.1.1:Nat),.int .u64 (nd.2.1.2:Nat),.int .u64 (nd.2.2.1:Nat),.int .u64 (nd.2.2.2:Nat)] 297) lk).trans HK.out,?_,HM.out.keep (heap_alloc_old W0 (.cells #[.int .i64 nd.1,.int .u64 (nd.2.1.1:Nat),.int .u64 (nd.2.1.2:Nat),.int .u64 (nd.2.2.1:Nat),.int .u64 (nd.2.2.2:Nat)] 297) lm),QbI (HT.out.trans (Touch.of_below (S:=fun i=>i=b∨i=mb) ((Below.refl _ _).alloc (Nat.le_refl _) (.cells #[.int .i64 nd.1,.int .u64 (nd.2.1.1:Nat),.int .u64 (nd.2.1.2:Nat),.int .u64 (nd.2.2.1:Nat),.int .u64 (nd.2.2.2:Nat)] 297))) (fun g hg=>.inl hg)),HNB.out.1,HNB.out.2.1,HNB.out.2.2⟩
   have:=heap_alloc_new W0 (.cells #[.int .i64 nd.1,.int .u64 (nd.2.1.1:Nat),.int .u64 (nd.2.1.2:Nat),.int .u64 (nd.2.2.1:Nat),.int .u64 (nd.2.2.2:Nat)] 297);rw [HSZ.out] at this;exact this
 obtain ⟨rfl,hS1⟩:=hcut;have S1:=hid hS1;clear hS1 d1 d4 d5 l2 l3 c1 k0 k1 lk lo' lm HK HO HM HT;revert wc;intro W1 S1;obtain ⟨⟨-,c1,-,-,-,-⟩,-⟩:=Qar S1.out.o;obtain ⟨⟨k0,k1⟩,-⟩:=Qam S1.out.k;obtain ⟨ob1,hd1,S2'⟩:=QkA S1.out.drew HG.out 0;have S2:=hid S2';clear S2';go_upto_region 2 with fail
 go_cut [] (fun wx=>CutS w wx b most mb old new a nd (QfS g a) (n-1))
 case first=>
  go_region
  all_goals
   go_wp2_with fail;go_meet;exact S2.out
 have S2:=hid hcut;clear hcut hd1 c1 k0 k1 S1;revert wc;intro W2 S2;obtain ⟨⟨-,-,c2,c3,-,-⟩,-⟩:=Qar S2.out.o;obtain ⟨⟨k0,k1⟩,-⟩:=Qam S2.out.k;obtain ⟨hq1,-,hgd⟩:=HQ.out;go_wp2_with fail;go_quiet (fail);generalize hDN:W2.drewN _=W3;have S3:Hid (CutS w W3 b most mb old new a nd (QfS g a) (n-1)):=hid (by rw [←hDN];exact S2.out.drewN _)
 clear hDN c2 c3 k0 k1 hq1 hgd S2;obtain ⟨⟨-,-,-,-,-,-⟩,-,-,f2,f3,f4,f5⟩:=Qar S3.out.o;obtain ⟨⟨-,-,-,-,-,-⟩,-⟩:=Qar S3.out.o;obtain ⟨⟨-,-,c2,c3,c4,c5⟩,-⟩:=Qar S3.out.o;obtain ⟨⟨x0,x1,x2,x3,x4⟩,-⟩:=Qal S3.out.x;go_wp2_with fail;have S3b:=hid (S3.out.set23 nd.2.2);generalize (W3.setCell ⟨b,2,none⟩ (.int .u64 (nd.2.2.1:Nat))).setCell ⟨b,3,none⟩ (.int .u64 (nd.2.2.2:Nat))=W3b at S3b ⊢;clear f2 f3 f4 f5 c2 c3 c4 c5 x0 x1 x2 x3 x4 S3;obtain ⟨⟨-,-,-,-,c4,c5⟩,-⟩:=Qar S3b.out.o;obtain ⟨⟨k0,k1⟩,-⟩:=Qam S3b.out.k;obtain ⟨-,hq2,hgd⟩:=HQ.out;go_wp2_with fail;go_quiet (fail);generalize hDN:W3b.drewN _=V3;have R3:Hid (CutS w V3 b most mb (nd.2.2) new a nd (QfS g a) (n-1)):=hid (by rw [←hDN];exact S3b.out.drewN _)
 clear hDN c4 c5 k0 k1 hq2 hgd S3b;obtain ⟨⟨-,-,-,-,-,-⟩,-,-,f2,f3,f4,f5⟩:=Qar R3.out.o;obtain ⟨⟨-,-,-,-,-,-⟩,-⟩:=Qar R3.out.o;obtain ⟨⟨-,-,c2,c3,c4,c5⟩,-⟩:=Qar R3.out.o;obtain ⟨⟨x0,x1,x2,x3,x4⟩,-⟩:=Qal R3.out.x;go_wp2_with fail;have R3b:=hid (R3.out.set45 nd.2.1);generalize (V3.setCell ⟨b,4,none⟩ (.int .u64 (nd.2.1.1:Nat))).setCell ⟨b,5,none⟩ (.int .u64 (nd.2.1.2:Nat))=V3b at R3b ⊢;clear f2 f3 f4 f5 c2 c3 c4 c5 x0 x1 x2 x3 x4 R3;obtain ⟨⟨x0,x1,x2,x3,x4⟩,-⟩:=Qal R3b.out.x;go_wp2_with fail;go_ret;exact ⟨rfl,R3b.out.o,R3b.out.m,R3b.out.t⟩
theorem Qqh{w:World}{b most mb n:Nat}{old new:Key}{g:Key→Option QcR}(h:LruB w b most mb old new)(hm:MapF QgP Qcr w mb g n)(a:Key)(nd:QcR)(hg:g a=some nd)(ho:a=old)(hn:a≠new)(ln:QcR)(hln:g nd.2.2=some ln)(han:nd.2.2≠a):Calls Tryz.prog 146 #[.pointer (some ⟨b,0,none⟩),.agg #[.int .u64 (a.1:Nat),.int .u64 (a.2:Nat)]] w fun e w'=>e = .returned (.int .i64 nd.1)∧LruB w' b most mb (nd.2.2) (new)∧MapF QgP Qcr w' mb (QzL (QfS g a) nd.2.2 ln nd.2.1) (n-1)∧Touch (fun i=>i=b∨i=mb) w w':=by
 have hne:=h.ne hm;have hB0:=Qai w (.int .u64 (a.1:Nat)) (.int .u64 (a.2:Nat)) 93;have HK:=hid (heap_alloc_new w (.cells #[.int .u64 (a.1:Nat),.int .u64 (a.2:Nat)] 93));have HO:=hid (Qae h hB0);have HM:=hid (hm.keep (hB0.block mb hm.lt));have HT:Hid (Touch (fun i=>i=b∨i=mb) w (w.alloc (.cells #[.int .u64 (a.1:Nat),.int .u64 (a.2:Nat)] 93))):=hid (Touch.of_below hB0)
 have hlb:b<w.heap.size:=(gsi h).1;have hlm:mb<w.heap.size:=hm.lt;have hsz:(w.alloc (.cells #[.int .u64 (a.1:Nat),.int .u64 (a.2:Nat)] 93)).heap.size=w.heap.size+1:=World.size_alloc _ _;have HSZ:=hid hsz;obtain ⟨⟨-,c1,-,-,-,-⟩,-⟩:=Qar HO.out;obtain ⟨⟨k0,k1⟩,-⟩:=Qam HK.out;have HG:=hid hg;have HLN:=hid (And.intro hln han);have hq1:=fun W=>Qem a old true (decide_eq_true ho) W
 have hq2:=fun W=>Qem a new false (decide_eq_false hn) W
 have hgd:=QfJ;have HQ:=hid (And.intro hq1 (And.intro hq2 hgd));have HNB:=hid (And.intro hlb (And.intro hlm hne));clear h hm hB0 hg ho hn hln han hsz hq1 hq2 hgd hlb hlm hne;go_enter Tryz.func146,Tryz.ntmps146;go_wp2_with fail;generalize w.alloc (.cells #[.int .u64 (a.1:Nat),.int .u64 (a.2:Nat)] 93)=W0 at HK HO HM HT c1 k0 k1 HSZ ⊢;have lk:w.heap.size<W0.heap.size:=(gsi HK.out).1;have lo':b<W0.heap.size:=(gsi HO.out).1;have lm:mb<W0.heap.size:=HM.out.lt;have l2:(Instr.lookup 183 (.map (some mb)) (.agg #[.int .u64 (a.1:Nat),.int .u64 (a.2:Nat)]) false).run Tryz.prog ((W0.alloc (.cells #[.int .i64 0,.int .u64 0,.int .u64 0,.int .u64 0,.int .u64 0] 297)).drew) = .ok (.agg #[.int .i64 nd.1,.int .u64 (nd.2.1.1:Nat),.int .u64 (nd.2.1.2:Nat),.int .u64 (nd.2.2.1:Nat),.int .u64 (nd.2.2.2:Nat)]) ((W0.alloc (.cells #[.int .i64 0,.int .u64 0,.int .u64 0,.int .u64 0,.int .u64 0] 297)).drew):=by
  have h:=QbK (W:=(W0.alloc (.cells #[.int .i64 0,.int .u64 0,.int .u64 0,.int .u64 0,.int .u64 0] 297)).drew) HM.out a false (heap_alloc_old W0 (.cells #[.int .i64 0,.int .u64 0,.int .u64 0,.int .u64 0,.int .u64 0] 297) lm);rw [HG.out] at h;exact h
 have l3:(Instr.lookup 183 (.map (some mb)) (.agg #[.int .u64 (a.1:Nat),.int .u64 (a.2:Nat)]) false).run Tryz.prog W0.drew = .ok (.agg #[.int .i64 nd.1,.int .u64 (nd.2.1.1:Nat),.int .u64 (nd.2.1.2:Nat),.int .u64 (nd.2.2.1:Nat),.int .u64 (nd.2.2.2:Nat)]) W0.drew:=by
  have h:=QbK (W:=W0.drew) HM.out a false rfl;rw [HG.out] at h;exact h
 obtain ⟨⟨-,d1,-,-,-,-⟩,-⟩:=Qar ((heap_alloc_old W0 (.cells #[.int .i64 0,.int .u64 0,.int .u64 0,.int .u64 0,.int .u64 0] 297) lo').trans HO.out);obtain ⟨⟨d4,d5⟩,-⟩:=Qam ((heap_alloc_old W0 (.cells #[.int .i64 0,.int .u64 0,.int .u64 0,.int .u64 0,.int .u64 0] 297) lk).trans HK.out);go_upto_region 1 with fail
 go_cut [5] (fun s5 wx=>s5 = .pointer (some ⟨w.heap.size+1,0,none⟩)∧CutS w wx b most mb old new a nd g n)
 case first=>
  go_region
  all_goals
   go_wp2_with fail;go_meet;refine ⟨by rw [HSZ.out],(heap_alloc_old W0 (.cells #[.int .i64 nd.1,.int .u64 (nd.2.1.1:Nat),.int .u64 (nd.2.1.2:Nat),.int .u64 (nd.2.2.1:Nat),.int .u64 (nd.2.2.2:Nat)] 297) lo').trans HO.out,(heap_alloc_old W0 (.cells #[.int .i64 nd.1,.int .u64 (nd.2.1.1:Nat),.int .u64 (nd.2.1.2:Nat),.int .u64 (nd.2.2.1:Nat),.int .u64 (nd.2.2.2:Nat)] 297) lk).trans HK.out,?_,HM.out.keep (heap_alloc_old W0 (.cells #[.int .i64 nd.1,.int .u64 (nd.2.1.1:Nat),.int .u64 (nd.2.1.2:Nat),.int .u64 (nd.2.2.1:Nat),.int .u64 (nd.2.2.2:Nat)] 297) lm),QbI (HT.out.trans (Touch.of_below (S:=fun i=>i=b∨i=mb) ((Below.refl _ _).alloc (Nat.le_refl _) (.cells #[.int .i64 nd.1,.int .u64 (nd.2.1.1:Nat),.int .u64 (nd.2.1.2:Nat),.int .u64 (nd.2.2.1:Nat),.int .u64 (nd.2.2.2:Nat)] 297))) (fun g hg=>.inl hg)),HNB.out.1,HNB.out.2.1,HNB.out.2.2⟩
   have:=heap_alloc_new W0 (.cells #[.int .i64 nd.1,.int .u64 (nd.2.1.1:Nat),.int .u64 (nd.2.1.2:Nat),.int .u64 (nd.2.2.1:Nat),.int .u64 (nd.2.2.2:Nat)] 297);rw [HSZ.out] at this;exact this
 obtain ⟨rfl,hS1⟩:=hcut;have S1:=hid hS1;clear hS1 d1 d4 d5 l2 l3 c1 k0 k1 lk lo' lm HK HO HM HT;revert wc;intro W1 S1;obtain ⟨⟨-,c1,-,-,-,-⟩,-⟩:=Qar S1.out.o;obtain ⟨⟨k0,k1⟩,-⟩:=Qam S1.out.k;obtain ⟨ob1,hd1,S2'⟩:=QkA S1.out.drew HG.out 0;have S2:=hid S2';clear S2';go_upto_region 2 with fail
 go_cut [] (fun wx=>CutS w wx b most mb old new a nd (QfS g a) (n-1))
 case first=>
  go_region
  all_goals
   go_wp2_with fail;go_meet;exact S2.out
 have S2:=hid hcut;clear hcut hd1 c1 k0 k1 S1;revert wc;intro W2 S2;obtain ⟨⟨-,-,c2,c3,-,-⟩,-⟩:=Qar S2.out.o;obtain ⟨⟨k0,k1⟩,-⟩:=Qam S2.out.k;obtain ⟨hq1,-,hgd⟩:=HQ.out;go_wp2_with fail;go_quiet (fail);generalize hDN:W2.drewN _=W3;have S3:Hid (CutS w W3 b most mb old new a nd (QfS g a) (n-1)):=hid (by rw [←hDN];exact S2.out.drewN _)
 clear hDN c2 c3 k0 k1 hq1 hgd S2;obtain ⟨⟨-,-,-,-,-,-⟩,-,-,f2,f3,f4,f5⟩:=Qar S3.out.o;obtain ⟨⟨-,-,-,-,-,-⟩,-⟩:=Qar S3.out.o;obtain ⟨⟨-,-,c2,c3,c4,c5⟩,-⟩:=Qar S3.out.o;obtain ⟨⟨x0,x1,x2,x3,x4⟩,-⟩:=Qal S3.out.x;go_wp2_with fail;have S3b:=hid (S3.out.set23 nd.2.2);generalize (W3.setCell ⟨b,2,none⟩ (.int .u64 (nd.2.2.1:Nat))).setCell ⟨b,3,none⟩ (.int .u64 (nd.2.2.2:Nat))=W3b at S3b ⊢;clear f2 f3 f4 f5 c2 c3 c4 c5 x0 x1 x2 x3 x4 S3;obtain ⟨⟨-,-,-,-,c4,c5⟩,-⟩:=Qar S3b.out.o;obtain ⟨⟨k0,k1⟩,-⟩:=Qam S3b.out.k;obtain ⟨-,hq2,hgd⟩:=HQ.out;go_wp2_with fail;go_quiet (fail);generalize hDN:W3b.drewN _=V3;have R3:Hid (CutS w V3 b most mb (nd.2.2) new a nd (QfS g a) (n-1)):=hid (by rw [←hDN];exact S3b.out.drewN _)
 clear hDN c4 c5 k0 k1 hq2 hgd S3b;have hgl:(QfS g a) nd.2.2=some ln:=by show (if nd.2.2=a then none else g nd.2.2)=_;rw [if_neg HLN.out.2];exact HLN.out.1
 have HGL:=hid hgl;have lb':b<V3.heap.size:=by have:=R3.out.lt;have:=R3.out.lb;omega
 have l2:=(R3.out.alloc (.cells #[.int .i64 0,.int .u64 0,.int .u64 0,.int .u64 0,.int .u64 0] 297)).drew.look nd.2.2 ln hgl;have l3:=R3.out.drew.look nd.2.2 ln hgl;obtain ⟨⟨-,d1,-,-,-,-⟩,-⟩:=Qar (R3.out.alloc (.cells #[.int .i64 0,.int .u64 0,.int .u64 0,.int .u64 0,.int .u64 0] 297)).o;obtain ⟨⟨y0,y1,y2,y3,y4⟩,-⟩:=Qal (R3.out.alloc (.cells #[.int .i64 0,.int .u64 0,.int .u64 0,.int .u64 0,.int .u64 0] 297)).x;obtain ⟨⟨-,c1,-,-,-,-⟩,-⟩:=Qar R3.out.o;obtain ⟨⟨x0,x1,x2,x3,x4⟩,-⟩:=Qal R3.out.x;clear hgl;go_upto_region 10 with fail
 go_cut [7] (fun s6 wx=>∃ q,s6 = .pointer (some ⟨q,0,none⟩)∧w.heap.size+1<q∧CutS w wx b most mb (nd.2.2) new a nd (QfS g a) (n-1)∧wx.heap[q]?=some (.cells #[.int .i64 ln.1,.int .u64 (ln.2.1.1:Nat),.int .u64 (ln.2.1.2:Nat),.int .u64 (ln.2.2.1:Nat),.int .u64 (ln.2.2.2:Nat)] 297 (0,0)))
 case first=>
  go_region
  all_goals
   go_wp2_with fail;go_meet;exact ⟨V3.heap.size,rfl,R3.out.lt,(R3.out.alloc _).drew,heap_alloc_new V3 (.cells #[.int .i64 ln.1,.int .u64 (ln.2.1.1:Nat),.int .u64 (ln.2.1.2:Nat),.int .u64 (ln.2.2.1:Nat),.int .u64 (ln.2.2.2:Nat)] 297)⟩
 obtain ⟨qV3,rfl,QBM,hSc,hNc⟩:=hcut;have R3c:=hid hSc;have NV3:=hid hNc;have HQV3:=hid QBM;clear hSc hNc QBM c1 d1 x0 x1 x2 x3 x4 y0 y1 y2 y3 y4 l2 l3 lb' R3;revert wc;intro V3c R3c NV3;obtain ⟨⟨x0,x1,x2,x3,x4⟩,-⟩:=Qal R3c.out.x;obtain ⟨⟨n0,n1,n2,n3,n4⟩,f0,f1,f2,f3,f4⟩:=Qal NV3.out;go_upto_region 12 with fail
 have R3d:=hid (R3c.out.far2 qV3 1 2 HQV3.out (.int .u64 (nd.2.1.1:Nat)) (.int .u64 (nd.2.1.2:Nat)));have Nd:=hid (QjD NV3.out (.int .u64 (nd.2.1.1:Nat)) (.int .u64 (nd.2.1.2:Nat)));generalize (V3c.setCell ⟨qV3,1,none⟩ (.int .u64 (nd.2.1.1:Nat))).setCell ⟨qV3,2,none⟩ (.int .u64 (nd.2.1.2:Nat))=V3d at R3d Nd ⊢;clear x0 x1 x2 x3 x4 n0 n1 n2 n3 n4 f0 f1 f2 f3 f4 R3c NV3;obtain ⟨⟨-,c1,-,-,-,-⟩,-⟩:=Qar R3d.out.o;obtain ⟨⟨x0,x1,x2,x3,x4⟩,-⟩:=Qal R3d.out.x;obtain ⟨⟨n0,n1,n2,n3,n4⟩,-⟩:=Qal Nd.out;obtain ⟨obp,hup,Sp⟩:=Qkz R3d.out.drew nd.2.2 ln HGL.out (ln.1,nd.2.1,ln.2.2);have R3e:=hid Sp;clear Sp HGL;go_cut [] (fun wx=>CutS w wx b most mb (nd.2.2) new a nd (QzL (QfS g a) nd.2.2 ln nd.2.1) (n-1))
 case first=>
  go_region
  all_goals
   go_wp2_with fail;go_meet;exact R3e.out
 have R3e:=hid hcut;clear hcut hup c1 x0 x1 x2 x3 x4 n0 n1 n2 n3 n4 R3d Nd;revert wc;intro V3e R3e;obtain ⟨⟨x0,x1,x2,x3,x4⟩,-⟩:=Qal R3e.out.x;go_wp2_with fail;go_ret;exact ⟨rfl,R3e.out.o,R3e.out.m,R3e.out.t⟩
theorem Qqi{w:World}{b most mb n:Nat}{old new:Key}{g:Key→Option QcR}(h:LruB w b most mb old new)(hm:MapF QgP Qcr w mb g n)(a:Key)(nd:QcR)(hg:g a=some nd)(ho:a≠old)(lo:QcR)(hlo:g nd.2.1=some lo)(hao:nd.2.1≠a)(hn:a=new):Calls Tryz.prog 146 #[.pointer (some ⟨b,0,none⟩),.agg #[.int .u64 (a.1:Nat),.int .u64 (a.2:Nat)]] w fun e w'=>e = .returned (.int .i64 nd.1)∧LruB w' b most mb (old) (nd.2.1)∧MapF QgP Qcr w' mb (Qwa (QfS g a) nd.2.1 lo nd.2.2) (n-1)∧Touch (fun i=>i=b∨i=mb) w w':=by
 have hne:=h.ne hm;have hB0:=Qai w (.int .u64 (a.1:Nat)) (.int .u64 (a.2:Nat)) 93;have HK:=hid (heap_alloc_new w (.cells #[.int .u64 (a.1:Nat),.int .u64 (a.2:Nat)] 93));have HO:=hid (Qae h hB0);have HM:=hid (hm.keep (hB0.block mb hm.lt));have HT:Hid (Touch (fun i=>i=b∨i=mb) w (w.alloc (.cells #[.int .u64 (a.1:Nat),.int .u64 (a.2:Nat)] 93))):=hid (Touch.of_below hB0)
 have hlb:b<w.heap.size:=(gsi h).1;have hlm:mb<w.heap.size:=hm.lt;have hsz:(w.alloc (.cells #[.int .u64 (a.1:Nat),.int .u64 (a.2:Nat)] 93)).heap.size=w.heap.size+1:=World.size_alloc _ _;have HSZ:=hid hsz;obtain ⟨⟨-,c1,-,-,-,-⟩,-⟩:=Qar HO.out;obtain ⟨⟨k0,k1⟩,-⟩:=Qam HK.out;have HG:=hid hg;have HLO:=hid (And.intro hlo hao);have hq1:=fun W=>Qem a old false (decide_eq_false ho) W
 have hq2:=fun W=>Qem a new true (decide_eq_true hn) W
 have hgd:=QfJ;have HQ:=hid (And.intro hq1 (And.intro hq2 hgd));have HNB:=hid (And.intro hlb (And.intro hlm hne));clear h hm hB0 hg ho hn hlo hao hsz hq1 hq2 hgd hlb hlm hne;go_enter Tryz.func146,Tryz.ntmps146;go_wp2_with fail;generalize w.alloc (.cells #[.int .u64 (a.1:Nat),.int .u64 (a.2:Nat)] 93)=W0 at HK HO HM HT c1 k0 k1 HSZ ⊢;have lk:w.heap.size<W0.heap.size:=(gsi HK.out).1;have lo':b<W0.heap.size:=(gsi HO.out).1;have lm:mb<W0.heap.size:=HM.out.lt;have l2:(Instr.lookup 183 (.map (some mb)) (.agg #[.int .u64 (a.1:Nat),.int .u64 (a.2:Nat)]) false).run Tryz.prog ((W0.alloc (.cells #[.int .i64 0,.int .u64 0,.int .u64 0,.int .u64 0,.int .u64 0] 297)).drew) = .ok (.agg #[.int .i64 nd.1,.int .u64 (nd.2.1.1:Nat),.int .u64 (nd.2.1.2:Nat),.int .u64 (nd.2.2.1:Nat),.int .u64 (nd.2.2.2:Nat)]) ((W0.alloc (.cells #[.int .i64 0,.int .u64 0,.int .u64 0,.int .u64 0,.int .u64 0] 297)).drew):=by
  have h:=QbK (W:=(W0.alloc (.cells #[.int .i64 0,.int .u64 0,.int .u64 0,.int .u64 0,.int .u64 0] 297)).drew) HM.out a false (heap_alloc_old W0 (.cells #[.int .i64 0,.int .u64 0,.int .u64 0,.int .u64 0,.int .u64 0] 297) lm);rw [HG.out] at h;exact h
 have l3:(Instr.lookup 183 (.map (some mb)) (.agg #[.int .u64 (a.1:Nat),.int .u64 (a.2:Nat)]) false).run Tryz.prog W0.drew = .ok (.agg #[.int .i64 nd.1,.int .u64 (nd.2.1.1:Nat),.int .u64 (nd.2.1.2:Nat),.int .u64 (nd.2.2.1:Nat),.int .u64 (nd.2.2.2:Nat)]) W0.drew:=by
  have h:=QbK (W:=W0.drew) HM.out a false rfl;rw [HG.out] at h;exact h
 obtain ⟨⟨-,d1,-,-,-,-⟩,-⟩:=Qar ((heap_alloc_old W0 (.cells #[.int .i64 0,.int .u64 0,.int .u64 0,.int .u64 0,.int .u64 0] 297) lo').trans HO.out);obtain ⟨⟨d4,d5⟩,-⟩:=Qam ((heap_alloc_old W0 (.cells #[.int .i64 0,.int .u64 0,.int .u64 0,.int .u64 0,.int .u64 0] 297) lk).trans HK.out);go_upto_region 1 with fail
 go_cut [5] (fun s5 wx=>s5 = .pointer (some ⟨w.heap.size+1,0,none⟩)∧CutS w wx b most mb old new a nd g n)
 case first=>
  go_region
  all_goals
   go_wp2_with fail;go_meet;refine ⟨by rw [HSZ.out],(heap_alloc_old W0 (.cells #[.int .i64 nd.1,.int .u64 (nd.2.1.1:Nat),.int .u64 (nd.2.1.2:Nat),.int .u64 (nd.2.2.1:Nat),.int .u64 (nd.2.2.2:Nat)] 297) lo').trans HO.out,(heap_alloc_old W0 (.cells #[.int .i64 nd.1,.int .u64 (nd.2.1.1:Nat),.int .u64 (nd.2.1.2:Nat),.int .u64 (nd.2.2.1:Nat),.int .u64 (nd.2.2.2:Nat)] 297) lk).trans HK.out,?_,HM.out.keep (heap_alloc_old W0 (.cells #[.int .i64 nd.1,.int .u64 (nd.2.1.1:Nat),.int .u64 (nd.2.1.2:Nat),.int .u64 (nd.2.2.1:Nat),.int .u64 (nd.2.2.2:Nat)] 297) lm),QbI (HT.out.trans (Touch.of_below (S:=fun i=>i=b∨i=mb) ((Below.refl _ _).alloc (Nat.le_refl _) (.cells #[.int .i64 nd.1,.int .u64 (nd.2.1.1:Nat),.int .u64 (nd.2.1.2:Nat),.int .u64 (nd.2.2.1:Nat),.int .u64 (nd.2.2.2:Nat)] 297))) (fun g hg=>.inl hg)),HNB.out.1,HNB.out.2.1,HNB.out.2.2⟩
   have:=heap_alloc_new W0 (.cells #[.int .i64 nd.1,.int .u64 (nd.2.1.1:Nat),.int .u64 (nd.2.1.2:Nat),.int .u64 (nd.2.2.1:Nat),.int .u64 (nd.2.2.2:Nat)] 297);rw [HSZ.out] at this;exact this
 obtain ⟨rfl,hS1⟩:=hcut;have S1:=hid hS1;clear hS1 d1 d4 d5 l2 l3 c1 k0 k1 lk lo' lm HK HO HM HT;revert wc;intro W1 S1;obtain ⟨⟨-,c1,-,-,-,-⟩,-⟩:=Qar S1.out.o;obtain ⟨⟨k0,k1⟩,-⟩:=Qam S1.out.k;obtain ⟨ob1,hd1,S2'⟩:=QkA S1.out.drew HG.out 0;have S2:=hid S2';clear S2';go_upto_region 2 with fail
 go_cut [] (fun wx=>CutS w wx b most mb old new a nd (QfS g a) (n-1))
 case first=>
  go_region
  all_goals
   go_wp2_with fail;go_meet;exact S2.out
 have S2:=hid hcut;clear hcut hd1 c1 k0 k1 S1;revert wc;intro W2 S2;obtain ⟨⟨-,-,c2,c3,-,-⟩,-⟩:=Qar S2.out.o;obtain ⟨⟨k0,k1⟩,-⟩:=Qam S2.out.k;obtain ⟨hq1,-,hgd⟩:=HQ.out;go_wp2_with fail;go_quiet (fail);generalize hDN:W2.drewN _=W3;have S3:Hid (CutS w W3 b most mb old new a nd (QfS g a) (n-1)):=hid (by rw [←hDN];exact S2.out.drewN _)
 clear hDN c2 c3 k0 k1 hq1 hgd S2;have hgl:(QfS g a) nd.2.1=some lo:=by show (if nd.2.1=a then none else g nd.2.1)=_;rw [if_neg HLO.out.2];exact HLO.out.1
 have HGL:=hid hgl;have lb':b<W3.heap.size:=by have:=S3.out.lt;have:=S3.out.lb;omega
 have l2:=(S3.out.alloc (.cells #[.int .i64 0,.int .u64 0,.int .u64 0,.int .u64 0,.int .u64 0] 297)).drew.look nd.2.1 lo hgl;have l3:=S3.out.drew.look nd.2.1 lo hgl;obtain ⟨⟨-,d1,-,-,-,-⟩,-⟩:=Qar (S3.out.alloc (.cells #[.int .i64 0,.int .u64 0,.int .u64 0,.int .u64 0,.int .u64 0] 297)).o;obtain ⟨⟨y0,y1,y2,y3,y4⟩,-⟩:=Qal (S3.out.alloc (.cells #[.int .i64 0,.int .u64 0,.int .u64 0,.int .u64 0,.int .u64 0] 297)).x;obtain ⟨⟨-,c1,-,-,-,-⟩,-⟩:=Qar S3.out.o;obtain ⟨⟨x0,x1,x2,x3,x4⟩,-⟩:=Qal S3.out.x;clear hgl;go_upto_region 5 with fail
 go_cut [6] (fun s6 wx=>∃ q,s6 = .pointer (some ⟨q,0,none⟩)∧w.heap.size+1<q∧CutS w wx b most mb (old) new a nd (QfS g a) (n-1)∧wx.heap[q]?=some (.cells #[.int .i64 lo.1,.int .u64 (lo.2.1.1:Nat),.int .u64 (lo.2.1.2:Nat),.int .u64 (lo.2.2.1:Nat),.int .u64 (lo.2.2.2:Nat)] 297 (0,0)))
 case first=>
  go_region
  all_goals
   go_wp2_with fail;go_meet;exact ⟨W3.heap.size,rfl,S3.out.lt,(S3.out.alloc _).drew,heap_alloc_new W3 (.cells #[.int .i64 lo.1,.int .u64 (lo.2.1.1:Nat),.int .u64 (lo.2.1.2:Nat),.int .u64 (lo.2.2.1:Nat),.int .u64 (lo.2.2.2:Nat)] 297)⟩
 obtain ⟨qW3,rfl,QBL,hSc,hNc⟩:=hcut;have S3c:=hid hSc;have NW3:=hid hNc;have HQW3:=hid QBL;clear hSc hNc QBL c1 d1 x0 x1 x2 x3 x4 y0 y1 y2 y3 y4 l2 l3 lb' S3;revert wc;intro W3c S3c NW3;obtain ⟨⟨x0,x1,x2,x3,x4⟩,-⟩:=Qal S3c.out.x;obtain ⟨⟨n0,n1,n2,n3,n4⟩,f0,f1,f2,f3,f4⟩:=Qal NW3.out;go_upto_region 7 with fail
 have S3d:=hid (S3c.out.far2 qW3 3 4 HQW3.out (.int .u64 (nd.2.2.1:Nat)) (.int .u64 (nd.2.2.2:Nat)));have Nd:=hid (Qgu NW3.out (.int .u64 (nd.2.2.1:Nat)) (.int .u64 (nd.2.2.2:Nat)));generalize (W3c.setCell ⟨qW3,3,none⟩ (.int .u64 (nd.2.2.1:Nat))).setCell ⟨qW3,4,none⟩ (.int .u64 (nd.2.2.2:Nat))=W3d at S3d Nd ⊢;clear x0 x1 x2 x3 x4 n0 n1 n2 n3 n4 f0 f1 f2 f3 f4 S3c NW3;obtain ⟨⟨-,c1,-,-,-,-⟩,-⟩:=Qar S3d.out.o;obtain ⟨⟨x0,x1,x2,x3,x4⟩,-⟩:=Qal S3d.out.x;obtain ⟨⟨n0,n1,n2,n3,n4⟩,-⟩:=Qal Nd.out;obtain ⟨obp,hup,Sp⟩:=Qkz S3d.out.drew nd.2.1 lo HGL.out (lo.1,lo.2.1,nd.2.2);have S3e:=hid Sp;clear Sp HGL;go_cut [] (fun wx=>CutS w wx b most mb (old) new a nd (Qwa (QfS g a) nd.2.1 lo nd.2.2) (n-1))
 case first=>
  go_region
  all_goals
   go_wp2_with fail;go_meet;exact S3e.out
 have S3e:=hid hcut;clear hcut hup c1 x0 x1 x2 x3 x4 n0 n1 n2 n3 n4 S3d Nd;revert wc;intro W3e S3e;obtain ⟨⟨-,-,-,-,c4,c5⟩,-⟩:=Qar S3e.out.o;obtain ⟨⟨k0,k1⟩,-⟩:=Qam S3e.out.k;obtain ⟨-,hq2,hgd⟩:=HQ.out;go_wp2_with fail;go_quiet (fail);generalize hDN:W3e.drewN _=V3;have R3:Hid (CutS w V3 b most mb (old) new a nd (Qwa (QfS g a) nd.2.1 lo nd.2.2) (n-1)):=hid (by rw [←hDN];exact S3e.out.drewN _)
 clear hDN c4 c5 k0 k1 hq2 hgd S3e;obtain ⟨⟨-,-,-,-,-,-⟩,-,-,f2,f3,f4,f5⟩:=Qar R3.out.o;obtain ⟨⟨-,-,-,-,-,-⟩,-⟩:=Qar R3.out.o;obtain ⟨⟨-,-,c2,c3,c4,c5⟩,-⟩:=Qar R3.out.o;obtain ⟨⟨x0,x1,x2,x3,x4⟩,-⟩:=Qal R3.out.x;go_wp2_with fail;have R3b:=hid (R3.out.set45 nd.2.1);generalize (V3.setCell ⟨b,4,none⟩ (.int .u64 (nd.2.1.1:Nat))).setCell ⟨b,5,none⟩ (.int .u64 (nd.2.1.2:Nat))=V3b at R3b ⊢;clear f2 f3 f4 f5 c2 c3 c4 c5 x0 x1 x2 x3 x4 R3;obtain ⟨⟨x0,x1,x2,x3,x4⟩,-⟩:=Qal R3b.out.x;go_wp2_with fail;go_ret;exact ⟨rfl,R3b.out.o,R3b.out.m,R3b.out.t⟩
theorem Qqj{w:World}{b most mb n:Nat}{old new:Key}{g:Key→Option QcR}(h:LruB w b most mb old new)(hm:MapF QgP Qcr w mb g n)(a:Key)(nd:QcR)(hg:g a=some nd)(ho:a≠old)(lo:QcR)(hlo:g nd.2.1=some lo)(hao:nd.2.1≠a)(hn:a≠new)(ln:QcR)(hln:g nd.2.2=some ln)(han:nd.2.2≠a)(hon:nd.2.2≠nd.2.1):Calls Tryz.prog 146 #[.pointer (some ⟨b,0,none⟩),.agg #[.int .u64 (a.1:Nat),.int .u64 (a.2:Nat)]] w fun e w'=>e = .returned (.int .i64 nd.1)∧LruB w' b most mb (old) (new)∧MapF QgP Qcr w' mb (QzL (Qwa (QfS g a) nd.2.1 lo nd.2.2) nd.2.2 ln nd.2.1) (n-1)∧Touch (fun i=>i=b∨i=mb) w w':=by
 have hne:=h.ne hm;have hB0:=Qai w (.int .u64 (a.1:Nat)) (.int .u64 (a.2:Nat)) 93;have HK:=hid (heap_alloc_new w (.cells #[.int .u64 (a.1:Nat),.int .u64 (a.2:Nat)] 93));have HO:=hid (Qae h hB0);have HM:=hid (hm.keep (hB0.block mb hm.lt));have HT:Hid (Touch (fun i=>i=b∨i=mb) w (w.alloc (.cells #[.int .u64 (a.1:Nat),.int .u64 (a.2:Nat)] 93))):=hid (Touch.of_below hB0)
 have hlb:b<w.heap.size:=(gsi h).1;have hlm:mb<w.heap.size:=hm.lt;have hsz:(w.alloc (.cells #[.int .u64 (a.1:Nat),.int .u64 (a.2:Nat)] 93)).heap.size=w.heap.size+1:=World.size_alloc _ _;have HSZ:=hid hsz;obtain ⟨⟨-,c1,-,-,-,-⟩,-⟩:=Qar HO.out;obtain ⟨⟨k0,k1⟩,-⟩:=Qam HK.out;have HG:=hid hg;have HLO:=hid (And.intro hlo hao);have HLN:=hid (And.intro hln han);have HON:=hid hon;have hq1:=fun W=>Qem a old false (decide_eq_false ho) W
 have hq2:=fun W=>Qem a new false (decide_eq_false hn) W
 have hgd:=QfJ;have HQ:=hid (And.intro hq1 (And.intro hq2 hgd));have HNB:=hid (And.intro hlb (And.intro hlm hne));clear h hm hB0 hg ho hn hlo hao hln han hon hsz hq1 hq2 hgd hlb hlm hne;go_enter Tryz.func146,Tryz.ntmps146;go_wp2_with fail;generalize w.alloc (.cells #[.int .u64 (a.1:Nat),.int .u64 (a.2:Nat)] 93)=W0 at HK HO HM HT c1 k0 k1 HSZ ⊢;have lk:w.heap.size<W0.heap.size:=(gsi HK.out).1;have lo':b<W0.heap.size:=(gsi HO.out).1;have lm:mb<W0.heap.size:=HM.out.lt;have l2:(Instr.lookup 183 (.map (some mb)) (.agg #[.int .u64 (a.1:Nat),.int .u64 (a.2:Nat)]) false).run Tryz.prog ((W0.alloc (.cells #[.int .i64 0,.int .u64 0,.int .u64 0,.int .u64 0,.int .u64 0] 297)).drew) = .ok (.agg #[.int .i64 nd.1,.int .u64 (nd.2.1.1:Nat),.int .u64 (nd.2.1.2:Nat),.int .u64 (nd.2.2.1:Nat),.int .u64 (nd.2.2.2:Nat)]) ((W0.alloc (.cells #[.int .i64 0,.int .u64 0,.int .u64 0,.int .u64 0,.int .u64 0] 297)).drew):=by
  have h:=QbK (W:=(W0.alloc (.cells #[.int .i64 0,.int .u64 0,.int .u64 0,.int .u64 0,.int .u64 0] 297)).drew) HM.out a false (heap_alloc_old W0 (.cells #[.int .i64 0,.int .u64 0,.int .u64 0,.int .u64 0,.int .u64 0] 297) lm);rw [HG.out] at h;exact h
 have l3:(Instr.lookup 183 (.map (some mb)) (.agg #[.int .u64 (a.1:Nat),.int .u64 (a.2:Nat)]) false).run Tryz.prog W0.drew = .ok (.agg #[.int .i64 nd.1,.int .u64 (nd.2.1.1:Nat),.int .u64 (nd.2.1.2:Nat),.int .u64 (nd.2.2.1:Nat),.int .u64 (nd.2.2.2:Nat)]) W0.drew:=by
  have h:=QbK (W:=W0.drew) HM.out a false rfl;rw [HG.out] at h;exact h
 obtain ⟨⟨-,d1,-,-,-,-⟩,-⟩:=Qar ((heap_alloc_old W0 (.cells #[.int .i64 0,.int .u64 0,.int .u64 0,.int .u64 0,.int .u64 0] 297) lo').trans HO.out);obtain ⟨⟨d4,d5⟩,-⟩:=Qam ((heap_alloc_old W0 (.cells #[.int .i64 0,.int .u64 0,.int .u64 0,.int .u64 0,.int .u64 0] 297) lk).trans HK.out);go_upto_region 1 with fail
 go_cut [5] (fun s5 wx=>s5 = .pointer (some ⟨w.heap.size+1,0,none⟩)∧CutS w wx b most mb old new a nd g n)
 case first=>
  go_region
  all_goals
   go_wp2_with fail;go_meet;refine ⟨by rw [HSZ.out],(heap_alloc_old W0 (.cells #[.int .i64 nd.1,.int .u64 (nd.2.1.1:Nat),.int .u64 (nd.2.1.2:Nat),.int .u64 (nd.2.2.1:Nat),.int .u64 (nd.2.2.2:Nat)] 297) lo').trans HO.out,(heap_alloc_old W0 (.cells #[.int .i64 nd.1,.int .u64 (nd.2.1.1:Nat),.int .u64 (nd.2.1.2:Nat),.int .u64 (nd.2.2.1:Nat),.int .u64 (nd.2.2.2:Nat)] 297) lk).trans HK.out,?_,HM.out.keep (heap_alloc_old W0 (.cells #[.int .i64 nd.1,.int .u64 (nd.2.1.1:Nat),.int .u64 (nd.2.1.2:Nat),.int .u64 (nd.2.2.1:Nat),.int .u64 (nd.2.2.2:Nat)] 297) lm),QbI (HT.out.trans (Touch.of_below (S:=fun i=>i=b∨i=mb) ((Below.refl _ _).alloc (Nat.le_refl _) (.cells #[.int .i64 nd.1,.int .u64 (nd.2.1.1:Nat),.int .u64 (nd.2.1.2:Nat),.int .u64 (nd.2.2.1:Nat),.int .u64 (nd.2.2.2:Nat)] 297))) (fun g hg=>.inl hg)),HNB.out.1,HNB.out.2.1,HNB.out.2.2⟩
   have:=heap_alloc_new W0 (.cells #[.int .i64 nd.1,.int .u64 (nd.2.1.1:Nat),.int .u64 (nd.2.1.2:Nat),.int .u64 (nd.2.2.1:Nat),.int .u64 (nd.2.2.2:Nat)] 297);rw [HSZ.out] at this;exact this
 obtain ⟨rfl,hS1⟩:=hcut;have S1:=hid hS1;clear hS1 d1 d4 d5 l2 l3 c1 k0 k1 lk lo' lm HK HO HM HT;revert wc;intro W1 S1;obtain ⟨⟨-,c1,-,-,-,-⟩,-⟩:=Qar S1.out.o;obtain ⟨⟨k0,k1⟩,-⟩:=Qam S1.out.k;obtain ⟨ob1,hd1,S2'⟩:=QkA S1.out.drew HG.out 0;have S2:=hid S2';clear S2';go_upto_region 2 with fail
 go_cut [] (fun wx=>CutS w wx b most mb old new a nd (QfS g a) (n-1))
 case first=>
  go_region
  all_goals
   go_wp2_with fail;go_meet;exact S2.out
 have S2:=hid hcut;clear hcut hd1 c1 k0 k1 S1;revert wc;intro W2 S2;obtain ⟨⟨-,-,c2,c3,-,-⟩,-⟩:=Qar S2.out.o;obtain ⟨⟨k0,k1⟩,-⟩:=Qam S2.out.k;obtain ⟨hq1,-,hgd⟩:=HQ.out;go_wp2_with fail;go_quiet (fail);generalize hDN:W2.drewN _=W3;have S3:Hid (CutS w W3 b most mb old new a nd (QfS g a) (n-1)):=hid (by rw [←hDN];exact S2.out.drewN _)
 clear hDN c2 c3 k0 k1 hq1 hgd S2;have hgl:(QfS g a) nd.2.1=some lo:=by show (if nd.2.1=a then none else g nd.2.1)=_;rw [if_neg HLO.out.2];exact HLO.out.1
 have HGL:=hid hgl;have lb':b<W3.heap.size:=by have:=S3.out.lt;have:=S3.out.lb;omega
 have l2:=(S3.out.alloc (.cells #[.int .i64 0,.int .u64 0,.int .u64 0,.int .u64 0,.int .u64 0] 297)).drew.look nd.2.1 lo hgl;have l3:=S3.out.drew.look nd.2.1 lo hgl;obtain ⟨⟨-,d1,-,-,-,-⟩,-⟩:=Qar (S3.out.alloc (.cells #[.int .i64 0,.int .u64 0,.int .u64 0,.int .u64 0,.int .u64 0] 297)).o;obtain ⟨⟨y0,y1,y2,y3,y4⟩,-⟩:=Qal (S3.out.alloc (.cells #[.int .i64 0,.int .u64 0,.int .u64 0,.int .u64 0,.int .u64 0] 297)).x;obtain ⟨⟨-,c1,-,-,-,-⟩,-⟩:=Qar S3.out.o;obtain ⟨⟨x0,x1,x2,x3,x4⟩,-⟩:=Qal S3.out.x;clear hgl;go_upto_region 5 with fail
 go_cut [6] (fun s6 wx=>∃ q,s6 = .pointer (some ⟨q,0,none⟩)∧w.heap.size+1<q∧CutS w wx b most mb (old) new a nd (QfS g a) (n-1)∧wx.heap[q]?=some (.cells #[.int .i64 lo.1,.int .u64 (lo.2.1.1:Nat),.int .u64 (lo.2.1.2:Nat),.int .u64 (lo.2.2.1:Nat),.int .u64 (lo.2.2.2:Nat)] 297 (0,0)))
 case first=>
  go_region
  all_goals
   go_wp2_with fail;go_meet;exact ⟨W3.heap.size,rfl,S3.out.lt,(S3.out.alloc _).drew,heap_alloc_new W3 (.cells #[.int .i64 lo.1,.int .u64 (lo.2.1.1:Nat),.int .u64 (lo.2.1.2:Nat),.int .u64 (lo.2.2.1:Nat),.int .u64 (lo.2.2.2:Nat)] 297)⟩
 obtain ⟨qW3,rfl,QBL,hSc,hNc⟩:=hcut;have S3c:=hid hSc;have NW3:=hid hNc;have HQW3:=hid QBL;clear hSc hNc QBL c1 d1 x0 x1 x2 x3 x4 y0 y1 y2 y3 y4 l2 l3 lb' S3;revert wc;intro W3c S3c NW3;obtain ⟨⟨x0,x1,x2,x3,x4⟩,-⟩:=Qal S3c.out.x;obtain ⟨⟨n0,n1,n2,n3,n4⟩,f0,f1,f2,f3,f4⟩:=Qal NW3.out;go_upto_region 7 with fail
 have S3d:=hid (S3c.out.far2 qW3 3 4 HQW3.out (.int .u64 (nd.2.2.1:Nat)) (.int .u64 (nd.2.2.2:Nat)));have Nd:=hid (Qgu NW3.out (.int .u64 (nd.2.2.1:Nat)) (.int .u64 (nd.2.2.2:Nat)));generalize (W3c.setCell ⟨qW3,3,none⟩ (.int .u64 (nd.2.2.1:Nat))).setCell ⟨qW3,4,none⟩ (.int .u64 (nd.2.2.2:Nat))=W3d at S3d Nd ⊢;clear x0 x1 x2 x3 x4 n0 n1 n2 n3 n4 f0 f1 f2 f3 f4 S3c NW3;obtain ⟨⟨-,c1,-,-,-,-⟩,-⟩:=Qar S3d.out.o;obtain ⟨⟨x0,x1,x2,x3,x4⟩,-⟩:=Qal S3d.out.x;obtain ⟨⟨n0,n1,n2,n3,n4⟩,-⟩:=Qal Nd.out;obtain ⟨obp,hup,Sp⟩:=Qkz S3d.out.drew nd.2.1 lo HGL.out (lo.1,lo.2.1,nd.2.2);have S3e:=hid Sp;clear Sp HGL;go_cut [] (fun wx=>CutS w wx b most mb (old) new a nd (Qwa (QfS g a) nd.2.1 lo nd.2.2) (n-1))
 case first=>
  go_region
  all_goals
   go_wp2_with fail;go_meet;exact S3e.out
 have S3e:=hid hcut;clear hcut hup c1 x0 x1 x2 x3 x4 n0 n1 n2 n3 n4 S3d Nd;revert wc;intro W3e S3e;obtain ⟨⟨-,-,-,-,c4,c5⟩,-⟩:=Qar S3e.out.o;obtain ⟨⟨k0,k1⟩,-⟩:=Qam S3e.out.k;obtain ⟨-,hq2,hgd⟩:=HQ.out;go_wp2_with fail;go_quiet (fail);generalize hDN:W3e.drewN _=V3;have R3:Hid (CutS w V3 b most mb (old) new a nd (Qwa (QfS g a) nd.2.1 lo nd.2.2) (n-1)):=hid (by rw [←hDN];exact S3e.out.drewN _)
 clear hDN c4 c5 k0 k1 hq2 hgd S3e;have hgl:(Qwa (QfS g a) nd.2.1 lo nd.2.2) nd.2.2=some ln:=by show (if nd.2.2=nd.2.1 then _ else (if nd.2.2=a then none else g nd.2.2))=_;rw [if_neg HON.out,if_neg HLN.out.2];exact HLN.out.1
 have HGL:=hid hgl;have lb':b<V3.heap.size:=by have:=R3.out.lt;have:=R3.out.lb;omega
 have l2:=(R3.out.alloc (.cells #[.int .i64 0,.int .u64 0,.int .u64 0,.int .u64 0,.int .u64 0] 297)).drew.look nd.2.2 ln hgl;have l3:=R3.out.drew.look nd.2.2 ln hgl;obtain ⟨⟨-,d1,-,-,-,-⟩,-⟩:=Qar (R3.out.alloc (.cells #[.int .i64 0,.int .u64 0,.int .u64 0,.int .u64 0,.int .u64 0] 297)).o;obtain ⟨⟨y0,y1,y2,y3,y4⟩,-⟩:=Qal (R3.out.alloc (.cells #[.int .i64 0,.int .u64 0,.int .u64 0,.int .u64 0,.int .u64 0] 297)).x;obtain ⟨⟨-,c1,-,-,-,-⟩,-⟩:=Qar R3.out.o;obtain ⟨⟨x0,x1,x2,x3,x4⟩,-⟩:=Qal R3.out.x;clear hgl;go_upto_region 10 with fail
 go_cut [7] (fun s6 wx=>∃ q,s6 = .pointer (some ⟨q,0,none⟩)∧w.heap.size+1<q∧CutS w wx b most mb (old) new a nd (Qwa (QfS g a) nd.2.1 lo nd.2.2) (n-1)∧wx.heap[q]?=some (.cells #[.int .i64 ln.1,.int .u64 (ln.2.1.1:Nat),.int .u64 (ln.2.1.2:Nat),.int .u64 (ln.2.2.1:Nat),.int .u64 (ln.2.2.2:Nat)] 297 (0,0)))
 case first=>
  go_region
  all_goals
   go_wp2_with fail;go_meet;exact ⟨V3.heap.size,rfl,R3.out.lt,(R3.out.alloc _).drew,heap_alloc_new V3 (.cells #[.int .i64 ln.1,.int .u64 (ln.2.1.1:Nat),.int .u64 (ln.2.1.2:Nat),.int .u64 (ln.2.2.1:Nat),.int .u64 (ln.2.2.2:Nat)] 297)⟩
 obtain ⟨qV3,rfl,QBM,hSc,hNc⟩:=hcut;have R3c:=hid hSc;have NV3:=hid hNc;have HQV3:=hid QBM;clear hSc hNc QBM c1 d1 x0 x1 x2 x3 x4 y0 y1 y2 y3 y4 l2 l3 lb' R3;revert wc;intro V3c R3c NV3;obtain ⟨⟨x0,x1,x2,x3,x4⟩,-⟩:=Qal R3c.out.x;obtain ⟨⟨n0,n1,n2,n3,n4⟩,f0,f1,f2,f3,f4⟩:=Qal NV3.out;go_upto_region 12 with fail
 have R3d:=hid (R3c.out.far2 qV3 1 2 HQV3.out (.int .u64 (nd.2.1.1:Nat)) (.int .u64 (nd.2.1.2:Nat)));have Nd:=hid (QjD NV3.out (.int .u64 (nd.2.1.1:Nat)) (.int .u64 (nd.2.1.2:Nat)));generalize (V3c.setCell ⟨qV3,1,none⟩ (.int .u64 (nd.2.1.1:Nat))).setCell ⟨qV3,2,none⟩ (.int .u64 (nd.2.1.2:Nat))=V3d at R3d Nd ⊢;clear x0 x1 x2 x3 x4 n0 n1 n2 n3 n4 f0 f1 f2 f3 f4 R3c NV3;obtain ⟨⟨-,c1,-,-,-,-⟩,-⟩:=Qar R3d.out.o;obtain ⟨⟨x0,x1,x2,x3,x4⟩,-⟩:=Qal R3d.out.x;obtain ⟨⟨n0,n1,n2,n3,n4⟩,-⟩:=Qal Nd.out;obtain ⟨obp,hup,Sp⟩:=Qkz R3d.out.drew nd.2.2 ln HGL.out (ln.1,nd.2.1,ln.2.2);have R3e:=hid Sp;clear Sp HGL;go_cut [] (fun wx=>CutS w wx b most mb (old) new a nd (QzL (Qwa (QfS g a) nd.2.1 lo nd.2.2) nd.2.2 ln nd.2.1) (n-1))
 case first=>
  go_region
  all_goals
   go_wp2_with fail;go_meet;exact R3e.out
 have R3e:=hid hcut;clear hcut hup c1 x0 x1 x2 x3 x4 n0 n1 n2 n3 n4 R3d Nd;revert wc;intro V3e R3e;obtain ⟨⟨x0,x1,x2,x3,x4⟩,-⟩:=Qal R3e.out.x;go_wp2_with fail;go_ret;exact ⟨rfl,R3e.out.o,R3e.out.m,R3e.out.t⟩
end
section
open Go.RowKit
theorem QsS{w:World}{b most mb:Nat}{A B:List (Key×Int)}{p:Key×Int}(h:LruAt w b most mb (A++p :: B)):Calls Tryz.prog 146 #[.pointer (some ⟨b,0,none⟩),.agg #[.int .u64 (p.1.1:Nat),.int .u64 (p.1.2:Nat)]] w fun e w'=>e = .returned (.int .i64 p.2)∧LruAt w' b most mb (A++B)∧Touch (fun i=>i=b∨i=mb) w w':=by
 obtain ⟨g,old,new,hb,hm,hl⟩:=h;obtain ⟨o,n,hg,ho,hn⟩:=hl.mid A p B rfl;have hlen:(A++p :: B).length-1=(A++B).length:=by
  rw [List.length_append,List.length_append,List.length_cons];omega
 have hA0:A = []→p.1=old:=fun e=>by subst e;exact (hl.first p rfl).symm
 have hB0:B = []→p.1=new:=fun e=>by subst e;exact (hl.last p (by simp)).symm
 have hA1:∀ q,A.getLast?=some q→p.1≠old∧o=q.1∧q.1≠p.1∧∃ qo qn,g q.1=some (q.2,qo,qn):=by
  intro q hq;obtain ⟨ys,hys⟩:=List.getLast?_eq_some_iff.1 hq;have hqm:q∈A:=QdS hq;obtain ⟨qo,qn,hgq,-,-⟩:=hl.mid ys q (p :: B) (by rw [hys];simp)
  refine ⟨?_,ho q hq,Qdg hl.nd rfl (.inl hqm),qo,qn,hgq⟩;cases A with
  |nil=>cases hq
  |cons x r=>
   have e:=hl.first x rfl;rw [e];exact fun e2=>Qdg hl.nd rfl (.inl (List.mem_cons_self (a:=x) (l:=r))) e2.symm
 have hB1:∀ r,B.head?=some r→p.1≠new∧n=r.1∧r.1≠p.1∧∃ ro rn,g r.1=some (r.2,ro,rn):=by
  intro r hr;cases B with
  |nil=>cases hr
  |cons x t=>
   obtain rfl:=Option.some.inj hr;obtain ⟨ro,rn,hgr,-,-⟩:=hl.mid (A++[p]) x t (by simp)
   refine ⟨?_,hn x rfl,Qdg hl.nd rfl (.inr (List.mem_cons_self (a:=x) (l:=t))),ro,rn,hgr⟩;obtain ⟨z,hz⟩:∃ z,(x :: t).getLast?=some z:=by
    cases hq:(x :: t).getLast? with
    |none=>exact absurd (List.getLast?_eq_none_iff.1 hq) (by simp)
    |some z=>exact ⟨z,rfl⟩
   have e:=hl.last z (by rw [QdT _ (by simp),List.getLast?_cons_cons];exact hz)
   rw [e];exact fun e2=>Qdg hl.nd rfl (.inr (QdS hz)) e2.symm
 have hAB:∀ q r,A.getLast?=some q→B.head?=some r→r.1≠q.1:=by
  intro q r hq hr;obtain ⟨ys,hys⟩:=List.getLast?_eq_some_iff.1 hq;exact Qdg (ks:=A++p :: B) hl.nd (A:=ys) (B:=p :: B) (p:=q) (q:=r) (by rw [hys];simp) (.inr (List.mem_cons_of_mem _ (QkN hr)))
 have hcut:=fun (g3:Key→Option QcR) (old' new':Key)=>@LinkOk.cut A B p g g3 old new old' new' o n hl hg
 rcases hAq:A.getLast? with _|q
 ·have hAn:A = []:=List.getLast?_eq_none_iff.1 hAq
  rcases hBr:B.head? with _|r
  ·have hBn:B = []:=List.head?_eq_none_iff.1 hBr
   refine (Qqg hb hm p.1 (p.2,o,n) hg (hA0 hAn) (hB0 hBn)).mono ?_;rintro e w' ⟨he,h1,h2,h3⟩;rw [hlen] at h2;refine ⟨he,⟨_,_,_,h1,h2,hcut _ _ _ (if_pos rfl) (fun q hq=>?_) (fun r hr=>?_) (fun c hc _ _=>if_neg hc) (fun _=>rfl) (fun e=>absurd hAn e) (fun _=>rfl) (fun e=>absurd hBn e)⟩,h3⟩
   ·rw [hAq] at hq;cases hq
   ·rw [hBr] at hr;cases hr
  ·obtain ⟨n1,n2,n3,ro,rn,n4⟩:=hB1 r hBr
   have hBn:B≠[]:=by intro e;subst e;cases hBr
   subst n2;refine (Qqh hb hm p.1 (p.2,o,r.1) hg (hA0 hAn) n1 (r.2,ro,rn) n4 n3).mono ?_;rintro e w' ⟨he,h1,h2,h3⟩;rw [hlen] at h2;refine ⟨he,⟨_,_,_,h1,h2,hcut _ _ _ ?_ (fun q hq=>?_) (fun r' hr v ro' rn' hgr=>?_) (fun c hc _ hcr=>?_) (fun _=>rfl) (fun e=>absurd hAn e) (fun e=>absurd e hBn) (fun _=>rfl)⟩,h3⟩
   ·show (if p.1=r.1 then _ else (if p.1=p.1 then none else _))=none
    rw [if_neg (fun e=>n3 e.symm),if_pos rfl]
   ·rw [hAq] at hq;cases hq
   ·rw [hBr] at hr
    obtain rfl:=Option.some.inj hr;rw [n4] at hgr;cases hgr;exact if_pos rfl
   ·show (if c=r.1 then _ else (if c=p.1 then none else g c))=g c
    rw [if_neg (hcr r hBr),if_neg hc]
 ·obtain ⟨m1,m2,m3,qo,qn,m4⟩:=hA1 q hAq
  have hAn:A≠[]:=by intro e;subst e;cases hAq
  subst m2;rcases hBr:B.head? with _|r
  ·have hBn:B = []:=List.head?_eq_none_iff.1 hBr
   refine (Qqi hb hm p.1 (p.2,q.1,n) hg m1 (q.2,qo,qn) m4 m3 (hB0 hBn)).mono ?_;rintro e w' ⟨he,h1,h2,h3⟩;rw [hlen] at h2;refine ⟨he,⟨_,_,_,h1,h2,hcut _ _ _ ?_ (fun q' hq v qo' qn' hgq=>?_) (fun r hr=>?_) (fun c hc hcq _=>?_) (fun e=>absurd e hAn) (fun _=>rfl) (fun _=>rfl) (fun e=>absurd hBn e)⟩,h3⟩
   ·show (if p.1=q.1 then _ else (if p.1=p.1 then none else _))=none
    rw [if_neg (fun e=>m3 e.symm),if_pos rfl]
   ·rw [hAq] at hq
    obtain rfl:=Option.some.inj hq;rw [m4] at hgq;cases hgq;exact if_pos rfl
   ·rw [hBr] at hr;cases hr
   ·show (if c=q.1 then _ else (if c=p.1 then none else g c))=g c
    rw [if_neg (hcq q hAq),if_neg hc]
  ·obtain ⟨n1,n2,n3,ro,rn,n4⟩:=hB1 r hBr
   have hBn:B≠[]:=by intro e;subst e;cases hBr
   have hrq:=hAB q r hAq hBr;subst n2;refine (Qqj hb hm p.1 (p.2,q.1,r.1) hg m1 (q.2,qo,qn) m4 m3 n1 (r.2,ro,rn) n4 n3 hrq).mono ?_;rintro e w' ⟨he,h1,h2,h3⟩;rw [hlen] at h2;refine ⟨he,⟨_,_,_,h1,h2,hcut _ _ _ ?_ (fun q' hq v qo' qn' hgq=>?_) (fun r' hr v ro' rn' hgr=>?_) (fun c hc hcq hcr=>?_) (fun e=>absurd e hAn) (fun _=>rfl) (fun e=>absurd e hBn) (fun _=>rfl)⟩,h3⟩
   ·show (if p.1=r.1 then _ else (if p.1=q.1 then _ else (if p.1=p.1 then none else _)))=none
    rw [if_neg (fun e=>n3 e.symm),if_neg (fun e=>m3 e.symm),if_pos rfl]
   ·rw [hAq] at hq
    obtain rfl:=Option.some.inj hq;rw [m4] at hgq;cases hgq;show (if q.1=r.1 then _ else (if q.1=q.1 then _ else _))=_
    rw [if_neg (fun e=>hrq e.symm),if_pos rfl]
   ·rw [hBr] at hr
    obtain rfl:=Option.some.inj hr;rw [n4] at hgr;cases hgr;exact if_pos rfl
   ·show (if c=r.1 then _ else (if c=q.1 then _ else (if c=p.1 then none else g c)))=g c
    rw [if_neg (hcr r hBr),if_neg (hcq q hAq),if_neg hc]
end
section
open Go.RowKit
section
variable {w:World} {b most mb:Nat} {ks:List (Key×Int)}
theorem LruAt.below{w':World}(h:LruAt w b most mb ks)(hb:Below w.heap.size w w'):LruAt w' b most mb ks:=by
 obtain ⟨g,old,new,h1,h2,h3⟩:=h;exact ⟨g,old,new,Qae h1 hb,h2.keep (hb.block mb h2.lt),h3⟩
theorem LruAt.lt(h:LruAt w b most mb ks):b<w.heap.size∧mb<w.heap.size:=by
 obtain ⟨g,old,new,h1,h2,h3⟩:=h;exact ⟨(gsi h1).1,h2.lt⟩
theorem LruAt.nodup(h:LruAt w b most mb ks):(ks.map (·.1)).Nodup:=by
 obtain ⟨g,old,new,h1,h2,h3⟩:=h;exact h3.nd
theorem Qh5{A B:List (Key×Int)}{p:Key×Int}(h:LruAt w b most mb (A++p :: B)):Calls Tryz.prog 145 #[.pointer (some ⟨b,0,none⟩),.agg #[.int .u64 (p.1.1:Nat),.int .u64 (p.1.2:Nat)]] w fun e w'=>e = .returned (.bool true)∧Below w.heap.size w w':=by
 obtain ⟨g,old,new,h1,h2,h3⟩:=h;obtain ⟨o,n,hg,-⟩:=h3.mid A p B rfl;have:=QnF h1 h2 p.1;rw [hg] at this;exact this
theorem Qjr(h:LruAt w b most mb ks)(a:Key)(ha:a∉ks.map (·.1)):Calls Tryz.prog 145 #[.pointer (some ⟨b,0,none⟩),.agg #[.int .u64 (a.1:Nat),.int .u64 (a.2:Nat)]] w fun e w'=>e = .returned (.bool false)∧Below w.heap.size w w':=by
 obtain ⟨g,old,new,h1,h2,h3⟩:=h;have:=QnF h1 h2 a;rw [h3.out a ha] at this;exact this
theorem QlI{A B:List (Key×Int)}{p:Key×Int}(h:LruAt w b most mb (A++p :: B)):Calls Tryz.prog 149 #[.pointer (some ⟨b,0,none⟩),.agg #[.int .u64 (p.1.1:Nat),.int .u64 (p.1.2:Nat)]] w fun e w'=>e = .returned (.tuple #[.int .i64 p.2,.bool true])∧Below w.heap.size w w':=by
 obtain ⟨g,old,new,h1,h2,h3⟩:=h;obtain ⟨o,n,hg,-⟩:=h3.mid A p B rfl;have:=QoK h1 h2 p.1;rw [hg] at this;exact this
theorem QnD(h:LruAt w b most mb ks)(a:Key)(ha:a∉ks.map (·.1)):Calls Tryz.prog 149 #[.pointer (some ⟨b,0,none⟩),.agg #[.int .u64 (a.1:Nat),.int .u64 (a.2:Nat)]] w fun e w'=>e = .returned (.tuple #[.int .i64 0,.bool false])∧Below w.heap.size w w':=by
 obtain ⟨g,old,new,h1,h2,h3⟩:=h;have:=QoK h1 h2 a;rw [h3.out a ha] at this;exact this
end
theorem Qve{w:World}{b most mb:Nat}{A B:List (Key×Int)}{p:Key×Int}(h:LruAt w b most mb (A++p :: B)):Calls Tryz.prog 150 #[.pointer (some ⟨b,0,none⟩),.agg #[.int .u64 (p.1.1:Nat),.int .u64 (p.1.2:Nat)]] w fun e w'=>e = .returned (.bool true)∧LruAt w' b most mb (A++B)∧Touch (fun i=>i=b∨i=mb) w w':=by
 have hB0:=Qai w (.int .u64 (p.1.1:Nat)) (.int .u64 (p.1.2:Nat)) 93;obtain ⟨k0,k1⟩:=QaA w (.int .u64 (p.1.1:Nat)) (.int .u64 (p.1.2:Nat)) 93;have HK:=hid (heap_alloc_new w (.cells #[.int .u64 (p.1.1:Nat),.int .u64 (p.1.2:Nat)] 93));have H0:=hid (h.below hB0);have HB0:=hid hB0;clear h hB0;go_enter Tryz.func150,Tryz.ntmps150;go_wp2_with fail;refine (Qh5 H0.out).mono ?_;rintro e w1 ⟨rfl,hb1⟩;have H1:=hid (H0.out.below hb1);have HB1:=hid (Qaa HB0.out hb1);obtain ⟨⟨p0,p1⟩,-⟩:=Qam (Qae HK.out hb1);clear hb1 k0 k1;go_wp2_with fail;refine (QsS H1.out).mono ?_;rintro e w2 ⟨rfl,h2,t2⟩;have H2:=hid h2;have T2:=hid t2;clear h2 t2;go_wp2_with fail;go_ret;exact ⟨rfl,H2.out,(Touch.of_below HB1.out).trans T2.out (fun g hg=>.inl hg)⟩
theorem Qqf{w:World}{b most mb:Nat}{ks:List (Key×Int)}(h:LruAt w b most mb ks)(a:Key)(ha:a∉ks.map (·.1)):Calls Tryz.prog 94 #[.pointer (some ⟨b,0,none⟩),.agg #[.int .u64 (a.1:Nat),.int .u64 (a.2:Nat)]] w fun e w'=>e = .returned (.tuple #[.int .i64 0,.bool false])∧Below w.heap.size w w':=by
 have hB0:=Qai w (.int .u64 (a.1:Nat)) (.int .u64 (a.2:Nat)) 93;obtain ⟨k0,k1⟩:=QaA w (.int .u64 (a.1:Nat)) (.int .u64 (a.2:Nat)) 93;have HC:=hid (Qjr (h.below hB0) a ha);have HB0:=hid hB0;clear h ha hB0;go_enter Tryz.func94,Tryz.ntmps94;go_wp2_with fail;refine HC.out.mono ?_;rintro e w1 ⟨rfl,hb1⟩;have HB1:=hid (Qaa HB0.out hb1);clear hb1 k0 k1;go_wp2_with fail;go_ret2;exact ⟨rfl,HB1.out⟩
theorem QxM{w:World}{b most mb:Nat}{A B:List (Key×Int)}{p:Key×Int}(h:LruAt w b most mb (A++p :: B)):Calls Tryz.prog 94 #[.pointer (some ⟨b,0,none⟩),.agg #[.int .u64 (p.1.1:Nat),.int .u64 (p.1.2:Nat)]] w fun e w'=>e = .returned (.tuple #[.int .i64 p.2,.bool true])∧LruAt w' b most mb (A++B++[p])∧Touch (fun i=>i=b∨i=mb) w w':=by
 have hB0:=Qai w (.int .u64 (p.1.1:Nat)) (.int .u64 (p.1.2:Nat)) 93;obtain ⟨k0,k1⟩:=QaA w (.int .u64 (p.1.1:Nat)) (.int .u64 (p.1.2:Nat)) 93;have HK:=hid (heap_alloc_new w (.cells #[.int .u64 (p.1.1:Nat),.int .u64 (p.1.2:Nat)] 93));have HN:Hid (p.1∉(A++B).map (·.1)∧(b<w.heap.size∧mb<w.heap.size)):=hid ⟨by
  have hn:=h.nodup;intro hm;rw [List.map_append,List.mem_append] at hm;rcases hm with hm|hm
  ·obtain ⟨q,hq,e⟩:=List.mem_map.1 hm
   exact Qdg hn rfl (.inl hq) e
  ·obtain ⟨q,hq,e⟩:=List.mem_map.1 hm
   exact Qdg hn rfl (.inr hq) e,h.lt⟩
 have H0:=hid (h.below hB0);have HB0:=hid hB0;clear h hB0;go_enter Tryz.func94,Tryz.ntmps94;go_wp2_with fail;refine (Qh5 H0.out).mono ?_;rintro e w1 ⟨rfl,hb1⟩;have H1:=hid (H0.out.below hb1);have HB1:=hid (Qaa HB0.out hb1);have HK1:=hid (Qae HK.out hb1);obtain ⟨⟨p0,p1⟩,-⟩:=Qam HK1.out;clear hb1 k0 k1;go_wp2_with fail;refine (QsS H1.out).mono ?_;rintro e w2 ⟨rfl,h2,t2⟩;have H2:=hid h2;have T2:=hid t2;have hk2:=(t2.block w.heap.size (gsi HK1.out).1 (by rintro (e|e);exact absurd HN.out.2.1 (by omega);exact absurd HN.out.2.2 (by omega))).trans HK1.out
 obtain ⟨⟨q0,q1⟩,-⟩:=Qam hk2;clear h2 t2 p0 p1 hk2;go_wp2_with fail;refine (QoJ H2.out p.1 p.2 HN.out.1).mono ?_;rintro e w3 ⟨rfl,h3,t3⟩;have H3:=hid h3;have T3:=hid t3;clear h3 t3;go_wp2_with fail;go_ret2;exact ⟨rfl,H3.out,((Touch.of_below HB1.out).trans T2.out (fun g hg=>.inl hg)).trans T3.out (fun g hg=>.inl hg)⟩
theorem QnC{w:World}{b most mb:Nat}{ks:List (Key×Int)}(h:LruAt w b most mb ks)(a:Key)(v:Int)(ha:a∉ks.map (·.1))(hl:ks.length<most):Calls Tryz.prog 99 #[.pointer (some ⟨b,0,none⟩),.agg #[.int .u64 (a.1:Nat),.int .u64 (a.2:Nat)],.int .i64 v] w fun e w'=>e = .returned (.tuple #[.agg #[.int .u64 0,.int .u64 0],.bool false])∧LruAt w' b most mb (ks++[(a,v)])∧Touch (fun i=>i=b∨i=mb) w w':=by
 have hB0:Below w.heap.size w ((w.alloc (.cells #[.int .u64 (a.1:Nat),.int .u64 (a.2:Nat)] 93)).alloc (.cells #[.int .u64 0,.int .u64 0] 93)):=((Below.refl _ _).alloc (Nat.le_refl _) _).alloc (by simp) _
 have HK:Hid (((w.alloc (.cells #[.int .u64 (a.1:Nat),.int .u64 (a.2:Nat)] 93)).alloc (.cells #[.int .u64 0,.int .u64 0] 93)).heap[w.heap.size]?=some (.cells #[.int .u64 (a.1:Nat),.int .u64 (a.2:Nat)] 93 (0,0))):=hid ((heap_alloc_old _ _ (by simp)).trans (heap_alloc_new w _))
 have HR:Hid (((w.alloc (.cells #[.int .u64 (a.1:Nat),.int .u64 (a.2:Nat)] 93)).alloc (.cells #[.int .u64 0,.int .u64 0] 93)).heap[w.heap.size+1]?=some (.cells #[.int .u64 0,.int .u64 0] 93 (0,0))):=hid (by
  have:=heap_alloc_new (w.alloc (.cells #[.int .u64 (a.1:Nat),.int .u64 (a.2:Nat)] 93)) (.cells #[.int .u64 0,.int .u64 0] 93)
  rwa [World.size_alloc] at this)
 have HL:=hid h.lt;have H0:=hid (h.below hB0);have HB0:=hid hB0;have HA:=hid ha;have t1:((most:Int)==0)=false:=by rw [beq_eq_false_iff_ne];omega
 have t2:(most==0)=false:=by rw [beq_eq_false_iff_ne];omega
 have t3:decide (((ks.length+1:Nat):Int)≤(most:Int))=true:=decide_eq_true (by omega)
 have t4:decide ((ks.length:Int)+1≤(most:Int))=true:=decide_eq_true (by omega)
 have t5:decide (ks.length+1≤most)=true:=decide_eq_true (by omega)
 have t6:decide (ks.length<most)=true:=decide_eq_true (by omega)
 have HLEN:Hid ((ks++[(a,v)]).length=ks.length+1):=hid (by simp)
 clear h hB0 ha hl;obtain ⟨⟨k0,k1⟩,-⟩:=Qam HK.out;obtain ⟨g0,old0,new0,hb0,-,-⟩:=id H0.out;have HM:=hid (QoL hb0);clear hb0;go_enter Tryz.func99,Tryz.ntmps99;go_wp2_with fail;generalize (w.alloc (.cells #[.int .u64 (a.1:Nat),.int .u64 (a.2:Nat)] 93)).alloc (.cells #[.int .u64 0,.int .u64 0] 93)=W0 at HK HR H0 HB0 HM k0 k1 ⊢;refine HM.out.mono ?_;rintro e w1 ⟨rfl,hw⟩;obtain rfl:=hw.symm;clear hw;go_wp2_with fail;refine (Qjr H0.out a HA.out).mono ?_;rintro e w1 ⟨rfl,hb1⟩;have H1:=hid (H0.out.below hb1);have HB1:=hid (Qaa HB0.out hb1);have HK1:=hid (Qae HK.out hb1);have HR1:=hid (Qae HR.out hb1);obtain ⟨⟨p0,p1⟩,-⟩:=Qam HK1.out;clear hb1 k0 k1 HK HR HM H0 HB0;go_wp2_with fail;refine (QoJ H1.out a v HA.out).mono ?_;rintro e w2 ⟨rfl,h2,t2⟩;have H2:=hid h2;have T2:=hid t2;have hk2:=(t2.block w.heap.size (gsi HK1.out).1 (by rintro (e|e);exact absurd HL.out.1 (by omega);exact absurd HL.out.2 (by omega))).trans HK1.out
 have HR2:=hid ((t2.block (w.heap.size+1) (gsi HR1.out).1 (by rintro (e|e);exact absurd HL.out.1 (by omega);exact absurd HL.out.2 (by omega))).trans HR1.out)
 obtain ⟨⟨q0,q1⟩,-⟩:=Qam hk2;obtain ⟨⟨r0,r1⟩,fr0,fr1⟩:=Qam HR2.out;obtain ⟨g2,old2,new2,hb2,hm2,-⟩:=h2;obtain ⟨⟨d0,d1,-⟩,-⟩:=Qar hb2;have hl2:=hm2.len (P:=Tryz.prog) 3 183 Tryz.underlying183;have hl3:=(hm2.keep (w':=w2.drew) rfl).len (P:=Tryz.prog) 3 183 Tryz.underlying183;rw [HLEN.out] at hl2 hl3;clear t2 p0 p1 hk2 hb2 hm2;go_upto_region 6 with fail
 go_cut [32] (fun s wx=>s = .bool true∧wx=w2.drew)
 case first=>
  go_region
  all_goals
   go_wp2_with fail;go_meet;exact ⟨rfl,rfl⟩
 obtain ⟨rfl,hwc⟩:=hcut;revert hwc;generalize hDN:w2.drew=W3;intro hwc;obtain rfl:=hwc;have H3:Hid (LruAt wc b most mb (ks++[(a,v)])):=hid (by rw [←hDN];exact H2.out.keep rfl rfl)
 have T3:Hid (Touch (fun i=>i=b∨i=mb) w wc):=hid (by rw [←hDN];exact QbI ((Touch.of_below HB1.out).trans T2.out (fun g hg=>.inl hg)))
 have HR3:Hid (wc.heap[w.heap.size+1]?=some (.cells #[.int .u64 0,.int .u64 0] 93 (0,0))):=hid (by rw [←hDN];exact HR2.out)
 clear hDN H2 T2 HR2 r0 r1 fr0 fr1 d0 d1 hl2 hl3 q0 q1;obtain ⟨⟨r0,r1⟩,fr0,fr1⟩:=Qam HR3.out;have HR4:=hid (Qoq HR3.out (.int .u64 0) (.int .u64 0));go_wp2_with fail;refine QaD (A:=⟨w.heap.size+1,0,none⟩) rfl (QoO _ _ _ _ _ HR4.out) rfl rfl rfl ?_;exact ⟨rfl,H3.out.keep (Qbu (by have:=HL.out.1;omega)) (Qbu (by have:=HL.out.2;omega)),Qaf (a:=⟨w.heap.size+1,1,none⟩) _ (Qaf (a:=⟨w.heap.size+1,0,none⟩) _ T3.out (.inr (by show w.heap.size≤w.heap.size+1;omega))) (.inr (by show w.heap.size≤w.heap.size+1;omega))⟩
end
section
open Go.RowKit
def Qdc(l:List Key):List Value:=l.flatMap fun k=>[.int .u64 (k.1:Nat),.int .u64 (k.2:Nat)]
theorem QgN(l:List Key):(Qdc l).length=l.length*2:=by
 induction l with
 |nil=>rfl
 |cons x r ih=>
  unfold Qdc at ih ⊢;rw [List.flatMap_cons,List.length_append,ih,List.length_cons,List.length_cons,List.length_cons,List.length_nil];omega
theorem QgO(a b:List Key):Qdc (a++b)=Qdc a++Qdc b:=by unfold Qdc;rw [List.flatMap_append]
theorem Qs1(l:List Key)(j:Nat)(h:j<l.length):(Qdc l)[j*2]?=some (.int .u64 (l[j].1:Nat))∧(Qdc l)[j*2+1]?=some (.int .u64 (l[j].2:Nat)):=by
 have hsp:l=l.take j++l[j] :: l.drop (j+1):=by rw [←List.drop_eq_getElem_cons h,List.take_append_drop]
 have hlen:(Qdc (l.take j)).length=j*2:=by rw [QgN,List.length_take,Nat.min_eq_left (Nat.le_of_lt h)]
 have e:Qdc l=Qdc (l.take j)++([.int .u64 (l[j].1:Nat),.int .u64 (l[j].2:Nat)]++Qdc (l.drop (j+1))):=by
  conv=>lhs;rw [hsp]
  rw [QgO];rfl
 rw [e];refine ⟨?_,?_⟩
 ·rw [List.getElem?_append_right (by omega),hlen,Nat.sub_self];rfl
 ·rw [List.getElem?_append_right (by omega),hlen,Nat.add_sub_cancel_left];rfl
theorem QoV:(Tryz.prog.info? 93).map (fun i=>(i.zero,i.size,i.bytes))=some (some (.agg #[.int .u64 0,.int .u64 0]),2,16):=by kernel_rfl
theorem Qqb(x0 x1 x2 x3 x4:Int)(w:World):(Instr.field 297 (.agg #[.int .i64 x0,.int .u64 x1,.int .u64 x2,.int .u64 x3,.int .u64 x4]) 2).run Tryz.prog w = .ok (.agg #[.int .u64 x3,.int .u64 x4]) w:=by kernel_rfl
theorem Qs0(v:Value)(n cap:Nat)(a:Option Addr)(hv:v = .slice a n cap)(hn:n≤cap)(w:World):Calls Tryz.prog 187 #[v] w fun e w'=>e = .returned (.slice a n n)∧w'=w:=by
 subst hv;have t1:(n:Int)≤(cap:Int):=by omega
 go_enter Tryz.func187,Tryz.ntmps187;go_wp2_with fail;go_ret;exact ⟨rfl,rfl⟩
theorem Quf{w:World}{b0 n:Nat}{v:Value}{l:List Key}(h:w.ownsRow b0 93 2 v n (Qdc l))(k:Nat)(hk:k<l.length):∃ g c,v = .slice (some ⟨g,0,none⟩) n c∧b0≤g∧g<w.heap.size∧w.cell? ⟨g,k*2,none⟩=some (.int .u64 (l[k].1:Nat))∧w.cell? ⟨g,k*2+1,none⟩=some (.int .u64 (l[k].2:Nat)):=by
 rcases id h.2 with ⟨-,h0⟩|⟨g,cap,cur,rfl,-⟩
 ·have:=h.1;rw [QgN] at this;omega
 ·obtain ⟨x,y⟩:=Qs1 l k hk
  have e0:∀ i,(⟨g,0,none⟩:Addr).add i=⟨g,i,none⟩:=fun i=>by unfold Addr.add;split<;>simp_all
  have key:∀ i u,(Qdc l)[i]?=some u→w.cell? ⟨g,i,none⟩=some u:=fun i u hu=>by
   have:=h.cells (g:=g) rfl i u hu
   rwa [e0] at this
  exact ⟨g,cap,rfl,(h.lt g rfl).1,(h.lt g rfl).2,key _ _ x,key _ _ y⟩
theorem Qvq{ks:List (Key×Int)}{g:Key→Option QcR}{old new:Key}(h:LinkOk ks g old new)(j:Nat)(hj:j+1<ks.length):∃ x o,g (ks[j]'(by omega)).1=some (x,o,ks[j+1].1):=by
 have hj':j<ks.length:=by omega
 obtain ⟨o,n,h1,-,h3⟩:=h.mid (ks.take j) (ks[j]'hj') (ks.drop (j+1)) (by rw [←List.drop_eq_getElem_cons hj',List.take_append_drop])
 have:=h3 ks[j+1] (by rw [List.head?_drop,List.getElem?_eq_getElem hj])
 rw [this] at h1;exact ⟨_,o,h1⟩
theorem Qqn{ks:List (Key×Int)}{g:Key→Option QcR}{old new:Key}(h:LinkOk ks g old new)(hj:0<ks.length):old=ks[0].1:=h.first ks[0] (by rw [List.head?_eq_getElem?,List.getElem?_eq_getElem hj])
theorem Qvd{w:World}{b most mb:Nat}{ks:List (Key×Int)}(h:LruAt w b most mb ks)(hn:ks.length≤1000):Calls Tryz.prog 152 #[.pointer (some ⟨b,0,none⟩)] w fun e w'=>∃ v,e = .returned v∧HoldsR 2 w' v ks.length (Qdc (ks.map (·.1)))∧Below w.heap.size w w':=by
 obtain ⟨g,old,new,h1,h2,h3⟩:=h;have HC:=hid (fun (W:World) (hb:Below w.heap.size w W)=>QsR (Qae h1 hb) (h2.keep (hb.block mb h2.lt)))
 have HB:=hid h1;have HM:=hid h2;have HL:=hid h3;have hfd:=Qqb;obtain ⟨K,hK⟩:∃ K,ks.map (·.1)=K:=⟨_,rfl⟩
 have hKl:K.length=ks.length:=by rw [←hK,List.length_map]
 have hKj:∀ j (hj:j<ks.length) (hj':j<K.length),K[j]=ks[j].1:=fun j hj hj'=>by subst hK;rw [List.getElem_map]
 have HKJ:=hid hKj;rw [hK];have HKL:=hid hKl;clear h1 h2 h3 hKl hKj hK;have hC0:=HC.out w (Below.refl _ _);go_enter Tryz.func152,Tryz.ntmps152;go_wp2_with fail;refine hC0.mono ?_;rintro e w1 ⟨rfl,hw⟩;obtain rfl:=hw.symm;clear hw hC0;go_wp2_with fail;go_loopw [3,8] (fun u i wr=>∃ k:Nat,k≤ks.length∧i = .int .i64 k∧wr.ownsRow w.heap.size 93 2 u k (Qdc (K.take k))∧Below w.heap.size w wr) (fun _ i _=>ks.length-(intOf i).toNat)
 case atStart=>exact ⟨0,by omega,rfl,World.ownsRow_nil _ _ _ _,Below.refl _ _⟩
 case round=>
  obtain ⟨k,hk,rfl,QAq,hb⟩:=hrel
  by_cases hlt:k<ks.length
  ·have QAr:Qdc (K.take (k+1))=Qdc (K.take k)++[.int .u64 ((K[k]'(by have:=HKL.out;omega)).1:Nat),.int .u64 ((K[k]'(by have:=HKL.out;omega)).2:Nat)]:=by rw [List.take_succ_eq_append_getElem (by have:=HKL.out;omega),QgO];rfl
   rw [HKJ.out k hlt (by have:=HKL.out;omega)] at QAr
   obtain ⟨X,hX⟩:∃ X,ks[k].1=X:=⟨_,rfl⟩;rw [hX] at QAr;have hst:=hid QAr;have HBr:=hid (Qae HB.out hb);obtain ⟨⟨-,c1,c2,c3,-⟩,-⟩:=Qar HBr.out;have HMr:=hid (hb.block mb HM.out.lt);cases k with
   |zero=>
    have ho:=Qqn HL.out hlt;rw [hX] at ho;obtain rfl:=ho;obtain ⟨n0,n1⟩:=QaA wr (.int .u64 (old.1:Nat)) (.int .u64 (old.2:Nat)) 93;have HW:Hid (Below w.heap.size w (wr.alloc (.cells #[.int .u64 (old.1:Nat),.int .u64 (old.2:Nat)] 93))):=hid (hb.alloc hb.size _);have HO:Hid ((wr.alloc (.cells #[.int .u64 (old.1:Nat),.int .u64 (old.2:Nat)] 93)).ownsRow w.heap.size 93 2 u3 0 (Qdc (K.take 0))):=hid (QAq.alloc _);clear QAr hX QAq hb;go_upto_region 8 with fail
    generalize wr.alloc (.cells #[.int .u64 (old.1:Nat),.int .u64 (old.2:Nat)] 93)=W1 at n0 n1 HW HO ⊢;go_wp2_with (at_builtin;go_loud (refine Qez 196 93 _ 2 16 Tryz.underlying196 QoV rfl (by decide) (by decide) W1 [.int .u64 (old.1:Nat),.int .u64 (old.2:Nat)] rfl (by simp [Value.oneCell']) (by rfl) _ _ (by rfl) w.heap.size _ 0 _ (by rfl) HO.out (by rfl) (by omega) HW.out.size ?_);intro g' cap w1 QAt hg1 hd1)
    go_roundw
    case rel=>exact ⟨1,by omega,by go_num,by rw [hst.out];exact QAt,QgB HW.out hg1 HO.out (Nat.le_refl _) HW.out.size⟩
    case measure=>simp [intOf];omega
   |succ j=>
    obtain ⟨x,o,hgj⟩:=Qvq HL.out j hlt;rw [hX] at hgj;obtain ⟨Y,hY⟩:∃ Y,(ks[j]'(by omega)).1=Y:=⟨_,rfl⟩
    rw [hY] at hgj;obtain ⟨gk,ck,hv,hgk,hgl,y0,y1⟩:=Quf QAq j (by rw [List.length_take,HKL.out];omega)
    subst hv;rw [List.getElem_take,HKJ.out j (by omega) (by have:=HKL.out;omega),hY] at y0 y1
    have HO:Hid (wr.ownsRow w.heap.size 93 2 (.slice (some ⟨gk,0,none⟩) (j+1) ck) (j+1) (Qdc (K.take (j+1)))):=hid QAq;have HBW:=hid hb;have HY:=hid hY;obtain ⟨B,hB⟩:∃ B,wr.heap.size=B:=⟨_,rfl⟩;have HN:Hid ((wr.alloc (.cells #[.int .u64 (old.1:Nat),.int .u64 (old.2:Nat)] 93)).heap[wr.heap.size]?=some (.cells #[.int .u64 (old.1:Nat),.int .u64 (old.2:Nat)] 93 (0,0))):=hid (heap_alloc_new wr _);have hne:gk≠wr.heap.size:=by omega
    have HNE:=hid hne;have a0:(wr.alloc (.cells #[.int .u64 (old.1:Nat),.int .u64 (old.2:Nat)] 93)).cell? ⟨gk,j*2,none⟩=some (.int .u64 (Y.1:Nat)):=(((Below.refl wr.heap.size wr).alloc (Nat.le_refl _) _).cell (p:=⟨gk,j*2,none⟩) hgl).trans y0;have a1:(wr.alloc (.cells #[.int .u64 (old.1:Nat),.int .u64 (old.2:Nat)] 93)).cell? ⟨gk,j*2+1,none⟩=some (.int .u64 (Y.2:Nat)):=(((Below.refl wr.heap.size wr).alloc (Nat.le_refl _) _).cell (p:=⟨gk,j*2+1,none⟩) hgl).trans y1;have hlu:∀ W:World,W.heap[mb]?=wr.heap[mb]?→(Instr.lookup 183 (.map (some mb)) (.agg #[.int .u64 (Y.1:Nat),.int .u64 (Y.2:Nat)]) false).run Tryz.prog W = .ok (.agg #[.int .i64 x,.int .u64 (o.1:Nat),.int .u64 (o.2:Nat),.int .u64 (X.1:Nat),.int .u64 (X.2:Nat)]) W:=fun W hW=>by
     have hh:=QbK HM.out Y false (hW.trans HMr);rw [hgj] at hh;exact hh
    have hmW:(wr.alloc (.cells #[.int .u64 (old.1:Nat),.int .u64 (old.2:Nat)] 93)).heap[mb]?=wr.heap[mb]?:=heap_alloc_old wr _ (Nat.lt_of_lt_of_le HM.out.lt hb.size);have b0:=hlu _ hmW;have b1:=hlu ((wr.alloc (.cells #[.int .u64 (old.1:Nat),.int .u64 (old.2:Nat)] 93)).drew) hmW;obtain ⟨⟨-,e1,-⟩,-⟩:=Qar ((heap_alloc_old wr (.cells #[.int .u64 (old.1:Nat),.int .u64 (old.2:Nat)] 93) (gsi HBr.out).1).trans HBr.out);obtain ⟨⟨n0,n1⟩,fn0,fn1⟩:=Qam HN.out;have i0:(0:Int)≤(j:Int):=by omega
    have i1:(j:Int)<(j:Int)+1:=by omega
    have i2:IntKind.i64.wrap ((j:Int)+1-1)=(j:Int):=by rw [IntKind.wrap_i64];omega
    have HW:Hid (Below w.heap.size w (((wr.alloc (.cells #[.int .u64 (X.1:Nat),.int .u64 (X.2:Nat)] 93)).drew))):=hid (hb.alloc hb.size _).drew;have HO2:Hid (((wr.alloc (.cells #[.int .u64 (X.1:Nat),.int .u64 (X.2:Nat)] 93)).drew).ownsRow w.heap.size 93 2 (.slice (some ⟨gk,0,none⟩) (j+1) ck) (j+1) (Qdc (K.take (j+1)))):=hid (Qad (QAq.alloc (.cells #[.int .u64 (X.1:Nat),.int .u64 (X.2:Nat)] 93)) (fun _ _=>rfl))
    clear QAr hX QAq hb hgj hY hB hlu hmW hne y0 y1;go_wp2_with fail;go_region
    all_goals
     have HN2:Hid (((wr.alloc (.cells #[.int .u64 (X.1:Nat),.int .u64 (X.2:Nat)] 93)).drew).heap[wr.heap.size]?=some (.cells #[.int .u64 (X.1:Nat),.int .u64 (X.2:Nat)] 93 (0,0))):=hid (heap_alloc_new wr _);generalize (wr.alloc (.cells #[.int .u64 (X.1:Nat),.int .u64 (X.2:Nat)] 93)).drew=W1 at HW HO2 HN2 ⊢;clear n0 n1 fn0 fn1 a0 a1 b0 b1 e1 c1 c2 c3 i0 i1 i2;obtain ⟨⟨n0,n1⟩,-⟩:=Qam HN2.out;go_wp2_with (at_builtin;go_loud (refine Qez 196 93 _ 2 16 Tryz.underlying196 QoV rfl (by decide) (by decide) W1 [.int .u64 (X.1:Nat),.int .u64 (X.2:Nat)] rfl (by simp [Value.oneCell']) (by rfl) _ _ (by rfl) w.heap.size _ (j+1) _ (by rfl) HO2.out (by rfl) (by omega) HW.out.size ?_);intro g' cap w1 QAt hg1 hd1)
     go_roundw
     case rel=>exact ⟨j+1+1,by omega,by go_num,by rw [hst.out];exact QAt,QgB HW.out hg1 HO2.out (Nat.le_refl _) HW.out.size⟩
     case measure=>simp [intOf];omega
  ·obtain rfl:k=ks.length:=by omega
   rw [List.take_of_length_le (by rw [HKL.out];exact Nat.le_refl _)] at QAq
   have HH:=hid (HoldsR.of_own QAq);obtain ⟨a',c',rfl⟩:=Qbe QAq;have hcl:=Qs0 (.slice a' ks.length c') ks.length c' a' rfl (by obtain ⟨a2,c2,e1,e2⟩:=HH.out.len;cases e1;exact e2)
   have HB2:=hid hb;clear QAq hb;go_wp2_with fail;refine (hcl _).mono ?_;rintro e w1 ⟨rfl,hw⟩;obtain rfl:=hw.symm;clear hw hcl;go_wp2_with fail;go_ret;refine ⟨_,rfl,?_,HB2.out⟩;obtain ⟨g1,a2,c2,e1,e2,e3⟩:=HH.out;cases e1;exact ⟨g1,_,_,rfl,Nat.le_refl _,e3⟩
end
section
open Go.RowKit
structure ShZ(w0 w:World)(b lb mb rb most nx:Nat)(Z:List (Key×Nat×List Ent)):Prop where
 blk:∃ hi mi,ShB w b lb rb nx hi mi
 lru:LruAt w lb most mb (Z.map fun z=>(z.1,(z.2.1:Int)))
 map:∃ gr n,MapF (QbZ .i64) (fun v:Value=>v) w rb gr n∧∀ z∈Z,∃ v,gr z.2.1=some v∧w.ownsRow w0.heap.size 86 4 v z.2.2.length (Qay z.2.2)
 nm:(Z.map (·.2.1)).Nodup
 nx:∀ z∈Z,z.2.1≤nx
 small:∀ z∈Z,z.2.2.length≤4096
 len:Z.length≤most
 mst:most≤64
 ne:mb≠rb
 lo:w0.heap.size≤b∧w0.heap.size≤lb∧w0.heap.size≤mb∧w0.heap.size≤rb
def ShS(b lb mb rb i:Nat):Prop:=i=b∨(i=lb∨i=mb)∨i=rb
section
variable {w0 w w':World} {b lb mb rb most nx:Nat} {Z:List (Key×Nat×List Ent)}
theorem ShZ.lts(h:ShZ w0 w b lb mb rb most nx Z):b<w.heap.size∧lb<w.heap.size∧mb<w.heap.size∧rb<w.heap.size:=by
 obtain ⟨hi,mi,hb⟩:=h.blk;obtain ⟨gr,n,hm,-⟩:=h.map;exact ⟨(gsi hb).1,h.lru.lt.1,h.lru.lt.2,hm.lt⟩
theorem ShZ.keep(h:ShZ w0 w b lb mb rb most nx Z)(hb:w'.heap[b]?=w.heap[b]?)(hl:w'.heap[lb]?=w.heap[lb]?)(hm:w'.heap[mb]?=w.heap[mb]?)(hr:w'.heap[rb]?=w.heap[rb]?)(hx:∀ (i:Nat) (C:Array Value),w.heap[i]?=some (.cells C 86 (0,0))→w'.heap[i]?=w.heap[i]?):ShZ w0 w' b lb mb rb most nx Z where
 blk:=let ⟨hi,mi,k⟩:=h.blk;⟨hi,mi,hb.trans k⟩
 lru:=h.lru.keep hl hm
 map:=let ⟨gr,n,k,kk⟩:=h.map;⟨gr,n,k.keep hr,fun z hz=>let ⟨v,hv,ho⟩:=kk z hz;⟨v,hv,Qad ho (fun g hg=>let ⟨C,hC⟩:=QbJ ho g hg;hx g C hC)⟩⟩
 nm:=h.nm
 nx:=h.nx
 small:=h.small
 len:=h.len
 mst:=h.mst
 ne:=h.ne
 lo:=h.lo
theorem ShZ.below(h:ShZ w0 w b lb mb rb most nx Z)(hb:Below w.heap.size w w'):ShZ w0 w' b lb mb rb most nx Z:=by
 obtain ⟨l1,l2,l3,l4⟩:=h.lts;exact h.keep (hb.block _ l1) (hb.block _ l2) (hb.block _ l3) (hb.block _ l4) (fun i C hC=>hb.block i (gsi hC).1)
theorem ShZ.far{S:Nat→Prop}(h:ShZ w0 w b lb mb rb most nx Z)(ht:Touch S w w')(h1:¬S b)(h2:¬S lb)(h3:¬S mb)(h4:¬S rb)(hx:∀ (i:Nat) (C:Array Value),w.heap[i]?=some (.cells C 86 (0,0))→¬S i):ShZ w0 w' b lb mb rb most nx Z:=by
 obtain ⟨l1,l2,l3,l4⟩:=h.lts;exact h.keep (ht.block _ l1 h1) (ht.block _ l2 h2) (ht.block _ l3 h3) (ht.block _ l4 h4) (fun i C hC=>ht.block i (gsi hC).1 (hx i C hC))
theorem ShZ.apart(h:ShZ w0 w b lb mb rb most nx Z):b≠lb∧b≠mb∧b≠rb∧lb≠mb∧lb≠rb∧(∀ (i:Nat) (C:Array Value),w.heap[i]?=some (.cells C 86 (0,0))→i≠b∧i≠lb∧i≠mb∧i≠rb):=by
 obtain ⟨hi,mi,hb⟩:=h.blk;obtain ⟨gr,n,hm,-⟩:=h.map;obtain ⟨es,ck,hr⟩:=hm.blk;obtain ⟨g,old,new,hl,hmm,-⟩:=h.lru;obtain ⟨es2,ck2,hm2⟩:=hmm.blk;unfold ShB at hb;unfold LruB at hl;refine ⟨fun e=>?_,fun e=>?_,fun e=>?_,fun e=>?_,fun e=>?_,fun i C hC=>⟨fun e=>?_,fun e=>?_,fun e=>?_,fun e=>?_⟩⟩
 ·rw [e,hl] at hb;simp only [Option.some.injEq,Obj.cells.injEq] at hb;exact absurd hb.2.1 (by decide)
 ·rw [e,hm2] at hb;cases hb
 ·rw [e,hr] at hb;cases hb
 ·rw [e,hm2] at hl;cases hl
 ·rw [e,hr] at hl;cases hl
 ·rw [e,hb] at hC;simp only [Option.some.injEq,Obj.cells.injEq] at hC;exact absurd hC.2.1 (by decide)
 ·rw [e,hl] at hC;simp only [Option.some.injEq,Obj.cells.injEq] at hC;exact absurd hC.2.1 (by decide)
 ·rw [e,hm2] at hC;cases hC
 ·rw [e,hr] at hC;cases hC
end
theorem Qpb(w:World)(a:Option Addr)(n c n' c':Nat):(binOp .eql 81 (.slice a n c) (.slice none n' c')).run Tryz.prog w = .ok (.bool a.isNone) w:=Lib.run_eql_slice_nil w _ _ a n c n' c' Tryz.underlying81
theorem Qi6(w:World):Calls Tryz.prog 66 #[.slice none 0 0] w fun e w'=>e = .returned (.slice none 0 0)∧w'=w:=by
 have q:=Qpb;go_enter Tryz.func66,Tryz.ntmps66;go_wp2_with fail;go_ret;exact ⟨rfl,rfl⟩
def Quj(l:List Ent)(w:World)(e:Ending)(w':World):Prop:=
 ∃ a c,e = .returned (.slice a l.length c)∧w'.ownsRow w.heap.size 86 4 (.slice a l.length c) l.length (Qay l)∧Below w.heap.size w w'
theorem Qgy(v:Value)(b0:Nat)(l:List Ent)(w:World)(h:w.ownsRow b0 86 4 v l.length (Qay l))(hl:l.length≤1000000) :
  Calls Tryz.prog 66 #[v] w (Quj l w):=by
 rcases id h.2 with ⟨rfl,h0⟩|⟨g,cap,cur,rfl,-⟩
 ·refine (Qi6 w).mono ?_
  rintro e w' ⟨rfl,hw⟩;subst hw;obtain rfl:l = []:=List.length_eq_zero_iff.1 h0;exact ⟨_,_,rfl,World.ownsRow_nil _ _ _ _,Below.refl _ _⟩
 ·have q:=Qpb
  obtain ⟨i0,hi,hz0,hz1,hz2⟩:=info_parts QoX;have HC:=hid (h.cells (g:=g) rfl);have HL:=hid (QbD l);have HO:=hid (QtF l);obtain ⟨E,hE⟩:∃ E,Qay l=E:=⟨_,rfl⟩;rw [hE] at HC HL HO;have HE:=hid hE;obtain ⟨N,hN⟩:∃ N,l.length=N:=⟨_,rfl⟩;rw [hN] at HL hl ⊢;have HN:=hid hN;clear h hE hN;go_enter Tryz.func66,Tryz.ntmps66;go_wp2_with (at_builtin;refine wpList_append_own _ rfl _ _ 81 rfl w.heap.size 86 i0 (.agg #[.int .u64 0,.int .u64 0,.int .u32 0,.int .u32 0]) 4 24 Tryz.underlying81 hi hz0 hz1 hz2 rfl (by decide) _ _ _ rfl (World.ownsRow_made w #[] 0 (Nat.le_refl _) (Nat.zero_le _) rfl) ⟨g,0,none⟩ N cap E rfl ?qc1 ?qc2 ?qc3 ?qc4 ?qc5 ?qc6 ?_)
  case qc1=>exact HL.out
  case qc2=>exact fun j u hj=>Lib.cell?_alloc_some _ (HC.out j u hj)
  case qc3=>exact HO.out
  case qc4=>unfold maxLen;omega
  case qc5=>omega
  case qc6=>simp
  intro v' w1 QAq QAu hnil;have QAx:w1.ownsRow w.heap.size 86 4 v' N E:=by simpa using QAq
  go_wp2;go_ret;obtain ⟨a,c,hv⟩:=Qbe QAx;subst hv;unfold Quj;rw [HN.out,HE.out];exact ⟨a,c,rfl,QAx,((Below.refl _ w).alloc (Nat.le_refl _) _).grown QAu (by simp) (by intro k hk;simp [Value.ownBlock] at hk;omega)⟩
theorem QpK{w0 w:World}{b lb mb rb most nx:Nat}{Z:List (Key×Nat×List Ent)}(h:ShZ w0 w b lb mb rb most nx Z):Calls Tryz.prog 98 #[.pointer (some ⟨b,0,none⟩)] w fun e w'=>∃ v,e = .returned v∧HoldsR 2 w' v Z.length (Qdc (Z.map (·.1)))∧Below w.heap.size w w':=by
 obtain ⟨hi,mi,hb⟩:=h.blk;obtain ⟨⟨c0,-⟩,-⟩:=Qal hb;have HC:=Qvd h.lru (by rw [List.length_map];have:=h.len;have:=h.mst;omega)
 rw [List.length_map,List.map_map] at HC;have HC:=hid HC;clear h hb;go_enter Tryz.func98,Tryz.ntmps98;go_wp2_with fail;refine HC.out.mono ?_;rintro e w1 ⟨v,rfl,h1,h2⟩;have H:=hid (And.intro h1 h2);clear h1 h2 c0;go_wp2_with fail;go_ret;exact ⟨v,rfl,H.out.1,H.out.2⟩
end
section
open Go.RowKit
theorem QkJ:KeyT Tryz.prog 3 (QbZ .i64):=QoF .i64 .i64 Tryz.underlying3
section
variable {w0 w:World} {b lb mb rb most nx:Nat} {Z:List (Key×Nat×List Ent)}
theorem ShZ.cellL(h:ShZ w0 w b lb mb rb most nx Z){W:World}(hW:Below w.heap.size w W):W.cell? ⟨b,0,none⟩=some (.pointer (some ⟨lb,0,none⟩)):=by
 obtain ⟨hi,mi,hb⟩:=(h.below hW).blk;exact (Qal hb).1.1
theorem Qhg{w W0:World}{a:Key}{b lb:Nat}(hG:∀ W,Below w.heap.size w W→W.cell? ⟨b,0,none⟩=some (.pointer (some ⟨lb,0,none⟩)))(hB0:Below w.heap.size w W0){k:Nat}(hk:W0.heap[k]?=some (.cells #[.int .u64 (a.1:Nat),.int .u64 (a.2:Nat)] 93 (0,0))){W:World}(hW:Below W0.heap.size W0 W) :
  W.cell? ⟨b,0,none⟩=some (.pointer (some ⟨lb,0,none⟩))∧W.cell? ⟨k,0,none⟩=some (.int .u64 (a.1:Nat))∧W.cell? ⟨k,1,none⟩=some (.int .u64 (a.2:Nat)):=
 ⟨hG W (Qaa hB0 hW),(Qam (Qae hk hW)).1⟩
theorem Qkb(h:ShZ w0 w b lb mb rb most nx Z)(a:Key)(ha:a∉Z.map (·.1)):Calls Tryz.prog 96 #[.pointer (some ⟨b,0,none⟩),.agg #[.int .u64 (a.1:Nat),.int .u64 (a.2:Nat)]] w fun e w'=>e = .returned (.tuple #[])∧Below w.heap.size w w':=by
 have ha':a∉(Z.map fun z=>(z.1,(z.2.1:Int))).map (·.1):=by rw [List.map_map];exact ha
 have HP:=hid (fun (W:World) (hW:Below w.heap.size w W)=>QnD (h.lru.below hW) a ha')
 have HG:=hid (fun (W:World) (hW:Below w.heap.size w W)=>h.cellL hW)
 have hB0:=Qai w (.int .u64 (a.1:Nat)) (.int .u64 (a.2:Nat)) 93;obtain ⟨k0,k1⟩:=QaA w (.int .u64 (a.1:Nat)) (.int .u64 (a.2:Nat)) 93;have HS:=hid (fun (W:World) (hW:Below (w.alloc (.cells #[.int .u64 (a.1:Nat),.int .u64 (a.2:Nat)] 93)).heap.size (w.alloc (.cells #[.int .u64 (a.1:Nat),.int .u64 (a.2:Nat)] 93)) W)=>Qhg (a:=a) (fun W hW=>h.cellL hW) hB0 (heap_alloc_new w (.cells #[.int .u64 (a.1:Nat),.int .u64 (a.2:Nat)] 93)) hW)
 have HB0:=hid hB0;clear h ha ha' hB0;have c0:=(HS.out _ (Below.refl _ _)).1;go_enter Tryz.func96,Tryz.ntmps96;go_wp2_with fail;generalize w.alloc (.cells #[.int .u64 (a.1:Nat),.int .u64 (a.2:Nat)] 93)=W0 at HS HB0 c0 k0 k1 ⊢;have HP0:=hid (HP.out _ (Qaa HB0.out (Below.refl _ W0).drew));generalize hK:w.heap.size=K at HS k0 k1 ⊢;have HKe:=hid hK;have HD:Hid (Below W0.heap.size W0 W0.drew):=hid (Below.refl _ _).drew;clear hK HP HG;go_region_held3 (fun w'=>w'.cell? ⟨b,0,none⟩=some (.pointer (some ⟨lb,0,none⟩))∧w'.cell? ⟨K,0,none⟩=some (.int .u64 (a.1:Nat))∧w'.cell? ⟨K,1,none⟩=some (.int .u64 (a.2:Nat))) (first|exact HS.out _ HD.out|exact HS.out _ HX1.out)
  (first
   |(go_at_call 149;refine HP0.out.mono ?_;rintro e wa ⟨rfl,hba⟩;have HX1:Hid (Below W0.heap.size W0 wa):=hid (Qaa HD.out hba);clear hba))
 all_goals
  go_wp2_with fail
  first|go_end0|refine bodyPost_ret (results_none rfl _ _ _) rfl ?_
  exact ⟨rfl,Qaa HB0.out HX1.out⟩
theorem QpL{A B:List (Key×Nat×List Ent)}{z:Key×Nat×List Ent}(h:ShZ w0 w b lb mb rb most nx (A++z :: B)):Calls Tryz.prog 96 #[.pointer (some ⟨b,0,none⟩),.agg #[.int .u64 (z.1.1:Nat),.int .u64 (z.1.2:Nat)]] w fun e w'=>e = .returned (.tuple #[])∧ShZ w0 w' b lb mb rb most nx (A++B)∧Touch (ShS b lb mb rb) w w':=by
 obtain ⟨a,na,la⟩:=z;have QA9:∀ (W:World),ShZ w0 W b lb mb rb most nx (A++(a,na,la) :: B)→LruAt W lb most mb (A.map (fun z=>(z.1,(z.2.1:Int)))++(a,(na:Int)) :: B.map (fun z=>(z.1,(z.2.1:Int))))  :=fun W k=>by
  have:=k.lru
  rwa [List.map_append,List.map_cons] at this
 have hB0:=Qai w (.int .u64 (a.1:Nat)) (.int .u64 (a.2:Nat)) 93;obtain ⟨k0,k1⟩:=QaA w (.int .u64 (a.1:Nat)) (.int .u64 (a.2:Nat)) 93;have HS:=hid (fun (W:World) (hW:Below (w.alloc (.cells #[.int .u64 (a.1:Nat),.int .u64 (a.2:Nat)] 93)).heap.size (w.alloc (.cells #[.int .u64 (a.1:Nat),.int .u64 (a.2:Nat)] 93)) W)=>Qhg (a:=a) (fun W hW=>h.cellL hW) hB0 (heap_alloc_new w (.cells #[.int .u64 (a.1:Nat),.int .u64 (a.2:Nat)] 93)) hW)
 have HK:=hid (heap_alloc_new w (.cells #[.int .u64 (a.1:Nat),.int .u64 (a.2:Nat)] 93));have H0:=hid (h.below hB0);have HLT:=hid h.lts;have HB0:=hid hB0;have HL:=hid QA9;clear h hB0 QA9;have c0:=(HS.out _ (Below.refl _ _)).1;go_enter Tryz.func96,Tryz.ntmps96;go_wp2_with fail;generalize w.alloc (.cells #[.int .u64 (a.1:Nat),.int .u64 (a.2:Nat)] 93)=W0 at HS HB0 HK H0 c0 k0 k1 ⊢;have HD:Hid (Below W0.heap.size W0 W0.drew):=hid (Below.refl _ _).drew;have HP0:=hid (QlI (HL.out _ (H0.out.below HD.out)));generalize hK:w.heap.size=K at HS HK HLT k0 k1 ⊢;have HKe:=hid hK;clear hK;go_upto_region 1 with fail
 go_cut [4,5] (fun s4 s5 wx=>s4 = .int .i64 (na:Nat)∧s5 = .bool true∧Below W0.heap.size W0 wx)
 case first=>
  go_region_held3 (fun w'=>w'.cell? ⟨b,0,none⟩=some (.pointer (some ⟨lb,0,none⟩))∧w'.cell? ⟨K,0,none⟩=some (.int .u64 (a.1:Nat))∧w'.cell? ⟨K,1,none⟩=some (.int .u64 (a.2:Nat))) (first|exact HS.out _ HD.out|exact HS.out _ HX1.out)
   (first
    |(go_at_call 149;refine HP0.out.mono ?_;rintro e wa ⟨rfl,hba⟩;have HX1:Hid (Below W0.heap.size W0 wa):=hid (Qaa HD.out hba);clear hba))
  all_goals
   go_wp2_with fail;go_meet;exact ⟨rfl,rfl,HX1.out⟩
 obtain ⟨rfl,rfl,hX⟩:=hcut;have H1:=hid (H0.out.below hX);have HK1:=hid (Qae HK.out hX);have HBx:=hid hX;clear hX HP0 c0 k0 k1 HD HS HK;obtain ⟨hi,mi,hb1⟩:=H1.out.blk;obtain ⟨⟨c0,c1,-⟩,-⟩:=Qal hb1;obtain ⟨⟨k0,k1⟩,-⟩:=Qam HK1.out;obtain ⟨gr,n,hm,QAB⟩:=H1.out.map;obtain ⟨ob,hdl,hm2⟩:=hm.drop QkJ Tryz.underlying121 na 0;have hdl:(Builtin.delete_ #[121,3] 0 #[.map (some rb),.int .i64 (na:Nat)]).run Tryz.prog wc = .ok (.tuple #[]) (Qaw wc rb ob):=hdl;have HM2:=hid hm2;have HR:=hid QAB;have HB1:=hid hb1;have HA1:=hid H1.out.apart;clear hb1 hm QAB hm2;have HN1:=hid (And.intro H1.out.nm (And.intro H1.out.nx (And.intro H1.out.small (And.intro H1.out.len (And.intro H1.out.mst (And.intro H1.out.ne H1.out.lo))))));have HL1:=hid (HL.out _ H1.out);go_upto_region 4 with fail
 have HB2:=hid ((Qah wc rb ob b (fun e=>HA1.out.2.2.1 e)).trans HB1.out)
 have HL2:=hid (HL1.out.keep (Qah wc rb ob lb (fun e=>HA1.out.2.2.2.2.1 e)) (Qah wc rb ob mb (fun e=>HN1.out.2.2.2.2.2.1 e)))
 have hKr:K≠rb:=by have:=HLT.out;omega
 have HK2:=hid ((Qah wc rb ob K hKr).trans HK1.out);have HR2:Hid (∀ z∈A++B,∃ v,(if z.2.1=na then none else gr z.2.1)=some v∧(Qaw wc rb ob).ownsRow w0.heap.size 86 4 v z.2.2.length (Qay z.2.2)):=hid (fun z hz=>by
  have hz':z∈A++(a,na,la) :: B:=by
   rcases List.mem_append.1 hz with h1|h1
   ·exact List.mem_append_left _ h1
   ·exact List.mem_append_right _ (List.mem_cons_of_mem _ h1)
  obtain ⟨v,hv,ho⟩:=HR.out z hz';have hne:z.2.1≠na:=by
   have hnd:=HN1.out.1;rw [List.map_append,List.map_cons,List.nodup_append,List.nodup_cons] at hnd;rcases List.mem_append.1 hz with h1|h1
   ·exact hnd.2.2 _ (List.mem_map.2 ⟨z,h1,rfl⟩) _ List.mem_cons_self
   ·exact fun e=>hnd.2.1.1 (by rw [←e];exact List.mem_map.2 ⟨z,h1,rfl⟩)
  exact ⟨v,by rw [if_neg hne];exact hv,Qad ho (fun g hg=>by
   obtain ⟨C,hC⟩:=QbJ ho g hg;exact Qah wc rb ob g (HA1.out.2.2.2.2.2 g C hC).2.2.2)⟩)
 have HT2:Hid (Touch (ShS b lb mb rb) w (Qaw wc rb ob)):=hid ((Touch.of_below (Qaa HB0.out HBx.out)).trans (S':=fun i=>i=rb) ⟨rfl,rfl,rfl,by rw [Qcs];exact Nat.le_refl _,fun i _ hi=>Qah wc rb ob i hi⟩ (fun i hi=>.inl (.inr (.inr hi))))
 have HBB:Hid (∀ i C,(Qaw wc rb ob).heap[i]?=some (.cells C 86 (0,0))→i≠lb∧i≠mb):=hid (fun i C hC=>by
  by_cases hi:i=rb
  ·rw [hi] at hC
   obtain ⟨es,ck,hm⟩:=HM2.out.blk;rw [hm] at hC;cases hC
  ·rw [Qah wc rb ob i hi] at hC
   exact ⟨(HA1.out.2.2.2.2.2 i C hC).2.1,(HA1.out.2.2.2.2.2 i C hC).2.2.1⟩)
 generalize Qaw wc rb ob=W2 at HM2 HB2 HL2 HK2 HR2 HT2 HBB ⊢;clear hdl c0 c1 k0 k1 H1 HK1 HB1 HL1 HR;obtain ⟨⟨c0,c1,-⟩,-⟩:=Qal HB2.out;obtain ⟨⟨k0,k1⟩,-⟩:=Qam HK2.out;have HD:Hid (Below W2.heap.size W2 W2.drew):=hid (Below.refl _ _).drew;have HC:=hid (Qve (w:=W2.drew) (HL2.out.keep rfl rfl));have HSD:Hid (W2.drew.cell? ⟨b,0,none⟩=some (.pointer (some ⟨lb,0,none⟩))∧W2.drew.cell? ⟨K,0,none⟩=some (.int .u64 (a.1:Nat))∧W2.drew.cell? ⟨K,1,none⟩=some (.int .u64 (a.2:Nat))):=hid ⟨c0,k0,k1⟩;go_region_held3 (fun w'=>w'.cell? ⟨b,0,none⟩=some (.pointer (some ⟨lb,0,none⟩))∧w'.cell? ⟨K,0,none⟩=some (.int .u64 (a.1:Nat))∧w'.cell? ⟨K,1,none⟩=some (.int .u64 (a.2:Nat))) (first|exact HSD.out|exact HSX.out)
  (first
   |(go_at_call 150;refine HC.out.mono ?_;rintro e wa ⟨rfl,hla,hta⟩;have HLa:=hid hla;have HTa:=hid hta;have HBa:Hid (ShB wa b lb rb nx hi mi):=hid ((hta.block b (gsi HB2.out).1 (by rintro (e|e);exact HA1.out.1 e;exact HA1.out.2.1 e)).trans HB2.out);have HKa:=hid ((hta.block K (gsi HK2.out).1 (by have:=HLT.out;rintro (e|e)<;>omega)).trans HK2.out);have HSX:Hid (wa.cell? ⟨b,0,none⟩=some (.pointer (some ⟨lb,0,none⟩))∧wa.cell? ⟨K,0,none⟩=some (.int .u64 (a.1:Nat))∧wa.cell? ⟨K,1,none⟩=some (.int .u64 (a.2:Nat))):=hid ⟨(Qal HBa.out).1.1,(Qam HKa.out).1⟩;clear hla hta))
 all_goals
  go_wp2_with fail
  first|go_end0|refine bodyPost_ret (results_none rfl _ _ _) rfl ?_
  have hTd:Touch (fun i=>i=lb∨i=mb) W2 wa:=(Touch.of_below (S:=fun i=>i=lb∨i=mb) HD.out).trans HTa.out (fun i hi=>.inl hi)
  refine ⟨rfl,⟨⟨hi,mi,HBa.out⟩,?_,⟨_,_,HM2.out.keep (hTd.block rb HM2.out.lt ?_),fun z hz=>?_⟩,?_,?_,?_,?_,HN1.out.2.2.2.2.1,HN1.out.2.2.2.2.2.1,HN1.out.2.2.2.2.2.2⟩,HT2.out.trans hTd (fun i hi=>.inl (.inr (.inl hi)))⟩
  ·have:=HLa.out
   rw [←List.map_append] at this;exact this
  ·rintro (e|e)
   ·exact HA1.out.2.2.2.2.1 e.symm
   ·exact HN1.out.2.2.2.2.2.1 e.symm
  ·obtain ⟨v,hv,ho⟩:=HR2.out z hz
   exact ⟨v,hv,Qad ho (fun g hg=>by
    obtain ⟨C,hC⟩:=QbJ ho g hg;exact hTd.block g (ho.lt g hg).2 (by rintro (e|e);exact (HBB.out g C hC).1 e;exact (HBB.out g C hC).2 e))⟩
  ·have:=HN1.out.1
   rw [List.map_append,List.map_cons] at this;rw [List.map_append];exact this.sublist ((List.Sublist.refl _).append (List.sublist_cons_self _ _))
  ·exact fun z hz=>HN1.out.2.1 z (by rcases List.mem_append.1 hz with h1|h1;exact List.mem_append_left _ h1;exact List.mem_append_right _ (List.mem_cons_of_mem _ h1))
  ·exact fun z hz=>HN1.out.2.2.1 z (by rcases List.mem_append.1 hz with h1|h1;exact List.mem_append_left _ h1;exact List.mem_append_right _ (List.mem_cons_of_mem _ h1))
  ·have:=HN1.out.2.2.2.1
   rw [List.length_append,List.length_cons] at this;rw [List.length_append];omega
end
end
end Go.Proofs.YtilaebjndadkhaaGreatDoor
