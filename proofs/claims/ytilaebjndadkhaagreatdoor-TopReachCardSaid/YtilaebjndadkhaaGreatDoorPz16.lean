/- What parts of the program compute: packed for TopReach. Conditions: none. -/
import Derived.Test.YtilaebjndadkhaaGreatDoorPz15
set_option linter.all false
set_option maxRecDepth 100000
set_option maxHeartbeats 8000000
open Go.Lib (hid)
namespace Go.Proofs.YtilaebjndadkhaaGreatDoor
section
open Go.RowKit
theorem Qyr(s:ByteArray)(w:World)(hs:s.size≤9223372036854775807) :
  Calls Tryz.prog 292 #[.string s,.string ⟨#[32,9]⟩] w fun e w'=>e = .returned (.string (bs (Go.Lib.trimRightS s.data.toList Qih)))∧Below w.heap.size w w':=
 Any.strings_TrimRight_laid Tryz.lays162 (by kernel_rfl) s ⟨#[32,9]⟩ w (by omega) (by decide) (Go.Proofs.ascii_of_all (by decide))
theorem Qfw{x x':ByteArray}{E E':Int}(h:x=x')(h2:E=E'):Ending.returned (.tuple #[.string x,.int .i64 E]) = .returned (.tuple #[.string x',.int .i64 E']):=by rw [h,h2]
theorem Qgv(n v:List UInt8)(h:Qby n v=false):QaI n v=4∧QfN n v = []:=by
 have h1:QaI n v=4:=by unfold QaI;rw [h];rfl
 exact ⟨h1,by unfold QfN;rw [h1];rfl⟩
theorem Qt5(w:World)(n v:ByteArray)(t:TypeId):(w.alloc (.cells #[.string n,.string v] t)).cell? ⟨w.heap.size,0,none⟩=some (.string n)∧(w.alloc (.cells #[.string n,.string v] t)).cell? ⟨w.heap.size,1,none⟩=some (.string v):=by
 have hh:=heap_alloc_new w (.cells #[.string n,.string v] t);exact ⟨by unfold World.cell?;rw [hh];rfl,by unfold World.cell?;rw [hh];rfl⟩
theorem Qq6(w:World)(x y:Value)(t:TypeId):Below w.heap.size w (w.alloc (.cells #[x,y] t)):=(Below.refl _ _).alloc (Nat.le_refl _) _
theorem QqJ(n v:List UInt8)(h:Qby n v=true):(256<(QaT n v).length→QaI n v=5∧QfN n v = [])∧((QaT n v).length≤256→QaI n v=0∧QfN n v=QaT n v):=by
 constructor
 ·intro hl
  have h1:QaI n v=5:=by unfold QaI;rw [h,if_pos rfl,if_pos hl]
  exact ⟨h1,by unfold QfN;rw [h1];rfl⟩
 ·intro hl
  have h1:QaI n v=0:=by unfold QaI;rw [h,if_pos rfl,if_neg (by omega)]
  exact ⟨h1,by unfold QfN;rw [h1];rfl⟩
theorem Qmb(n v:ByteArray)(w:World)(hn:n.size≤1000000)(hv:v.size≤1000000) :
  Calls Tryz.prog 256 #[.agg #[.string n,.string v]] w fun e w'=>e = .returned (.tuple #[.string (bs (QfN n.data.toList v.data.toList)),.int .i64 (QaI n.data.toList v.data.toList)])∧Below w.heap.size w w':=by
 have HNm:=hid (fun w=>Qii n w)
 have HPl:=hid (fun w=>Qeq v w (by omega))
 have HTr:=hid (fun w=>QwM v w hv)
 obtain ⟨N,hN⟩:∃ N,N=n.data.toList:=⟨_,rfl⟩;obtain ⟨V,hV⟩:∃ V,V=v.data.toList:=⟨_,rfl⟩;rw [←hN] at HNm;rw [←hV] at HPl HTr;rw [←hN,←hV];have HNV:=hid (And.intro hN hV);clear hN hV;have box:=Qt5 w n v 379;have hb0:=Qq6 w (.string n) (.string v) 379;have hbl:w.heap.size<(w.alloc (.cells #[.string n,.string v] 379)).heap.size:=by simp
 cases h1:QdO N with
 |false=>
  have HF:=hid (Qgv N V (by unfold Qby;rw [h1];rfl))
  rw [h1] at HNm;clear h1 HPl HTr;go_enter Tryz.func256,Tryz.ntmps256;go_wp2_with fail;generalize hW0:w.alloc (.cells #[.string n,.string v] 379)=W0 at box hb0 hbl ⊢;clear hW0;have k0:∀ p:BelowOf W0,p.world.cell? ⟨w.heap.size,0,none⟩=some (.string n):=fun p=>QaN p hbl box.1
  have k1:∀ p:BelowOf W0,p.world.cell? ⟨w.heap.size,1,none⟩=some (.string v):=fun p=>QaN p hbl box.2
  have hb0:=hid hb0;clear box;refine Qac (by kernel_rfl) (by kernel_rfl) ?_
  repeat (go_big_quiet_step ((go_at_call 290;exact Qav (HNm.out _))))
  refine wpQuiet_nil ?_;intro W1 hw';have hb1:=QaM hw';clear hw';go_wp2_with fail;go_ret2;exact ⟨Qfw (by rw [HF.out.2];rfl) (by rw [HF.out.1];rfl),Qaa hb0.out hb1⟩
 |true=>
  rw [h1] at HNm;have hn1:=hid h1;clear h1;cases h2:(V.all fun c=>Qaz c.toNat) with
  |false=>
   have HF:=hid (Qgv N V (by unfold Qby Qa1;rw [h2,Bool.and_false];rfl))
   rw [h2] at HPl;clear h2 HTr;go_enter Tryz.func256,Tryz.ntmps256;go_wp2_with fail;generalize hW0:w.alloc (.cells #[.string n,.string v] 379)=W0 at box hb0 hbl ⊢;clear hW0;have k0:∀ p:BelowOf W0,p.world.cell? ⟨w.heap.size,0,none⟩=some (.string n):=fun p=>QaN p hbl box.1
   have k1:∀ p:BelowOf W0,p.world.cell? ⟨w.heap.size,1,none⟩=some (.string v):=fun p=>QaN p hbl box.2
   have hb0:=hid hb0;clear box;refine Qac (by kernel_rfl) (by kernel_rfl) ?_
   repeat (go_big_quiet_step ((first
    |(go_at_call 290;exact Qav (HNm.out _))
    |(go_at_call 291;exact QeN (HPl.out _))
    |fail)))
   refine wpQuiet_nil ?_;intro W1 hw';have hb1:=QaM hw';clear hw';go_wp2_with fail;go_ret2;exact ⟨Qfw (by rw [HF.out.2];rfl) (by rw [HF.out.1];rfl),Qaa hb0.out hb1⟩
  |true=>
   rw [h2] at HPl;have hp1:=hid h2;clear h2;obtain ⟨T,hT⟩:∃ T,T=bs (Go.Lib.trimS V Qih):=⟨_,rfl⟩;rw [←hT] at HTr;cases h3:Qgk V with
   |false=>
    have HF:=hid (Qgv N V (by unfold Qby;rw [h3,Bool.and_false]))
    have QA3:(v.toList==T.toList)=false:=by
     rw [beq_eq_false_iff_ne,hT,ByteArray.toList_eq,ByteArray.toList_eq,Qaj,←HNV.out.2];intro e;have:=(Qhr V).1 e.symm;rw [h3] at this;exact absurd this (by decide)
    clear h3 hT;go_enter Tryz.func256,Tryz.ntmps256;go_wp2_with fail;generalize hW0:w.alloc (.cells #[.string n,.string v] 379)=W0 at box hb0 hbl ⊢;clear hW0;have k0:∀ p:BelowOf W0,p.world.cell? ⟨w.heap.size,0,none⟩=some (.string n):=fun p=>QaN p hbl box.1
    have k1:∀ p:BelowOf W0,p.world.cell? ⟨w.heap.size,1,none⟩=some (.string v):=fun p=>QaN p hbl box.2
    have hb0:=hid hb0;clear box;refine Qac (by kernel_rfl) (by kernel_rfl) ?_
    repeat (go_big_quiet_step ((first
     |(go_at_call 290;exact Qav (HNm.out _))
     |(go_at_call 291;exact QeN (HPl.out _))
     |(go_at_call 199;exact Qav (HTr.out _)))))
    refine wpQuiet_nil ?_;intro W1 hw';have hb1:=QaM hw';clear hw';go_wp2_with fail;go_ret2;exact ⟨Qfw (by rw [HF.out.2];rfl) (by rw [HF.out.1];rfl),Qaa hb0.out hb1⟩
   |true=>
    have hok:Qby N V=true:=by unfold Qby;rw [hn1.out,h3];rw [show Qa1 V=true from hp1.out];rfl
    have HF:=hid (QqJ N V hok);have QA3:(v.toList==T.toList)=true:=by
     rw [beq_iff_eq,hT,ByteArray.toList_eq,ByteArray.toList_eq,Qaj,←HNV.out.2];exact ((Qhr V).2 h3).symm
    have hna:=Qh4 N hn1.out;have HTi:=hid (fun w=>QkT n w hn (fun j hj=>by
     have:=QfD _ (hna.1 n[j] (by rw [HNV.out.1];exact List.getElem_mem (by rw [Qab];exact hj)))
     omega))
    obtain ⟨A,hA⟩:∃ A,A=bs (Qfi true n.data.toList):=⟨_,rfl⟩;have hAs:A.size≤32:=by rw [hA,QaC,QjZ,←HNV.out.1];exact hna.2.2
    have hs3:(A++⟨#[58,32]⟩++v).size≤9223372036854775807:=by rw [ByteArray.size_append,ByteArray.size_append];show A.size+2+v.size≤_;omega
    have HTR:=hid (fun w=>Qyr (A++⟨#[58,32]⟩++v) w hs3)
    obtain ⟨R,hR⟩:∃ R,R=bs (Go.Lib.trimRightS (A++⟨#[58,32]⟩++v).data.toList Qih):=⟨_,rfl⟩;have hRv:R=bs (QaT N V):=by
     rw [hR,Qpg,Qpg,hA,Qaj,←HNV.out.1,←HNV.out.2];exact congrArg bs (QmX (Qfi true N) V h3)
    have hRs:R.size=(QaT N V).length:=by rw [hRv,QaC]
    rw [←hA] at HTi;rw [←hR] at HTR;have HRv:=hid hRv;have hc1:A.size+2≤9223372036854775807:=by omega
    have hc2:A.size+2+v.size≤9223372036854775807:=by omega
    clear h3 hT hna hok hA hR hRv
    by_cases hlong:256<R.size
    ·have HF5:=hid (HF.out.1 (by rw [←hRs];exact hlong))
     have tl:decide ((R.size:Int)>256)=true:=decide_eq_true (by omega)
     clear hRs;go_enter Tryz.func256,Tryz.ntmps256;go_wp2_with fail;generalize hW0:w.alloc (.cells #[.string n,.string v] 379)=W0 at box hb0 hbl ⊢;clear hW0;have k0:∀ p:BelowOf W0,p.world.cell? ⟨w.heap.size,0,none⟩=some (.string n):=fun p=>QaN p hbl box.1
     have k1:∀ p:BelowOf W0,p.world.cell? ⟨w.heap.size,1,none⟩=some (.string v):=fun p=>QaN p hbl box.2
     have hb0:=hid hb0;clear box;refine Qac (by kernel_rfl) (by kernel_rfl) ?_
     repeat (go_big_quiet_step ((first
      |(go_at_call 290;exact Qav (HNm.out _))
      |(go_at_call 291;exact QeN (HPl.out _))
      |(go_at_call 199;exact Qav (HTr.out _)))))
     refine wpQuiet_nil ?_;intro W1 hw';have hb1:=QaM hw';clear hw';go_wp2_with fail;have k0:∀ p:BelowOf W1,p.world.cell? ⟨w.heap.size,0,none⟩=some (.string n):=fun p=>(QaN p (Nat.lt_of_lt_of_le hbl hb1.size) (k0 ⟨W1,hb1⟩))
     have k1:∀ p:BelowOf W1,p.world.cell? ⟨w.heap.size,1,none⟩=some (.string v):=fun p=>(QaN p (Nat.lt_of_lt_of_le hbl hb1.size) (k1 ⟨W1,hb1⟩))
     refine Qac (by kernel_rfl) (by kernel_rfl) ?_
     repeat (go_big_quiet_step ((first
      |(go_at_call 293;exact Qav (HTi.out _))
      |(go_at_call 292;exact Qav (HTR.out _)))))
     refine wpQuiet_nil ?_;intro W2 hw';have hb2:=QaM hw';clear hw';go_wp2_with fail;go_ret2;exact ⟨Qfw (by rw [HF5.out.2];rfl) (by rw [HF5.out.1];rfl),Qaa hb0.out (Qaa hb1 hb2)⟩
    ·have HF0:=hid (HF.out.2 (by rw [←hRs];omega))
     have tl:decide ((R.size:Int)>256)=false:=decide_eq_false (by omega)
     clear hRs;go_enter Tryz.func256,Tryz.ntmps256;go_wp2_with fail;generalize hW0:w.alloc (.cells #[.string n,.string v] 379)=W0 at box hb0 hbl ⊢;clear hW0;have k0:∀ p:BelowOf W0,p.world.cell? ⟨w.heap.size,0,none⟩=some (.string n):=fun p=>QaN p hbl box.1
     have k1:∀ p:BelowOf W0,p.world.cell? ⟨w.heap.size,1,none⟩=some (.string v):=fun p=>QaN p hbl box.2
     have hb0:=hid hb0;clear box;refine Qac (by kernel_rfl) (by kernel_rfl) ?_
     repeat (go_big_quiet_step ((first
      |(go_at_call 290;exact Qav (HNm.out _))
      |(go_at_call 291;exact QeN (HPl.out _))
      |(go_at_call 199;exact Qav (HTr.out _)))))
     refine wpQuiet_nil ?_;intro W1 hw';have hb1:=QaM hw';clear hw';go_wp2_with fail;have k0:∀ p:BelowOf W1,p.world.cell? ⟨w.heap.size,0,none⟩=some (.string n):=fun p=>(QaN p (Nat.lt_of_lt_of_le hbl hb1.size) (k0 ⟨W1,hb1⟩))
     have k1:∀ p:BelowOf W1,p.world.cell? ⟨w.heap.size,1,none⟩=some (.string v):=fun p=>(QaN p (Nat.lt_of_lt_of_le hbl hb1.size) (k1 ⟨W1,hb1⟩))
     refine Qac (by kernel_rfl) (by kernel_rfl) ?_
     repeat (go_big_quiet_step ((first
      |(go_at_call 293;exact Qav (HTi.out _))
      |(go_at_call 292;exact Qav (HTR.out _)))))
     refine wpQuiet_nil ?_;intro W2 hw';have hb2:=QaM hw';clear hw';go_wp2_with fail;go_ret2;exact ⟨Qfw (by rw [HF0.out.2,HRv.out]) (by rw [HF0.out.1];rfl),Qaa hb0.out (Qaa hb1 hb2)⟩
end
section
open Go.RowKit
theorem Qkp{w:World}{base:Nat}{e:TypeId}{size:Nat}{v:Value}{n:Nat}{xs:List Value}(h:w.ownsRow base e size v n xs)(g:Nat)(hg:v.ownBlock=some g):∃ cur,w.heap[g]?=some (.cells cur e (0,0)):=by
 rcases h.2 with ⟨rfl,_⟩|⟨g',cap,cur,rfl,_,hgg,_⟩
 ·cases hg
 ·obtain rfl:g'=g:=by simpa [Value.ownBlock] using hg
  exact ⟨cur,hgg⟩
theorem Qp6{w:World}{b1 b2:Nat}{e1 e2:TypeId}{s1 s2 n1 n2:Nat}{v1 v2:Value}{x1 x2:List Value}(h1:w.ownsRow b1 e1 s1 v1 n1 x1)(h2:w.ownsRow b2 e2 s2 v2 n2 x2)(hne:e1≠e2):v1.ownBlock=none∨v1.ownBlock≠v2.ownBlock:=by
 cases hv:v1.ownBlock with
 |none=>exact .inl rfl
 |some g=>
  refine .inr (fun e=>?_)
  obtain ⟨c1,k1⟩:=Qkp h1 g hv;obtain ⟨c2,k2⟩:=Qkp h2 g e.symm;rw [k1] at k2;simp only [Option.some.injEq,Obj.cells.injEq] at k2;exact hne k2.2.1
theorem Qlw{w w':World}{b1 b2:Nat}{e1 e2:TypeId}{s1 s2 n1 n2:Nat}{v1 v2:Value}{x1 x2:List Value}(h1:w.ownsRow b1 e1 s1 v1 n1 x1)(h2:w.ownsRow b2 e2 s2 v2 n2 x2)(hne:e1≠e2)(g:w.grownBy w' v2.ownBlock):w'.ownsRow b1 e1 s1 v1 n1 x1:=by
 refine ⟨h1.1,?_⟩;rcases h1.2 with h0|⟨b,cap,cur,e,e2',e3,e4⟩
 ·exact .inl h0
 ·refine .inr ⟨b,cap,cur,e,e2',(g.block b (gsi e3).1 (fun hh=>?_)).trans e3,e4⟩
  rcases Qp6 h1 h2 hne with hx|hx
  ·rw [e] at hx;cases hx
  ·rw [e] at hx;exact hx hh
theorem QuX{w:World}{b1 b2:Nat}{e:TypeId}{s n:Nat}{v:Value}{x:List Value}(h:w.ownsRow b1 e s v n x)(hb:b2≤b1):w.ownsRow b2 e s v n x:=by
 refine ⟨h.1,?_⟩;rcases h.2 with h0|⟨b,cap,cur,e1,e2,e3⟩
 ·exact .inl h0
 ·exact .inr ⟨b,cap,cur,e1,Nat.le_trans hb e2,e3⟩
theorem QtP(v:Value)(fs:List (List UInt8×List UInt8))(B:Nat)(w:World)(h:w.ownsRow B 379 2 v fs.length (Qau fs))(hl:fs.length≤1000000) :
  Calls Tryz.prog 254 #[v] w fun e w'=>∃ v',e = .returned v'∧w'.ownsRow w.heap.size 379 2 v' fs.length (Qau fs)∧Below w.heap.size w w':=by
 by_cases hn:fs = []
 ·subst hn
  rcases h.2 with ⟨rfl,-⟩|⟨g,cap,cur,rfl,-⟩
  ·exact Qiu none 0 w (fun p hp=>by cases hp)
  ·exact Qiu _ cap w (fun p hp=>⟨g,0,(Option.some.inj hp).symm⟩)
 ·exact Qms v fs w (HoldsF.of_own h) hn hl
theorem Qp4{w:World}{base:Nat}{e:TypeId}{size n:Nat}{v:Value}{xs:List Value}(h:w.ownsRow base e size v n xs):∃ a c,v = .slice a n c:=by
 rcases h.2 with ⟨rfl,rfl⟩|⟨g,cap,cur,rfl,_⟩
 ·exact ⟨_,_,rfl⟩
 ·exact ⟨_,_,rfl⟩
theorem EnvF.env{w:World}(h:EnvF w):Env w:=⟨h.m,h.pow,h.big⟩
theorem Qsm{w:World}{base n g cap:Nat}{e:TypeId}{fs:List (List UInt8×List UInt8)}(h:w.ownsRow base e 2 (.slice (some ⟨g,0,none⟩) n cap) n (Qau fs))(j:Nat)(hj:j<fs.length) :
  w.cell? ⟨g,j*2,none⟩=some (.string (bs fs[j].1))∧w.cell? ⟨g,j*2+1,none⟩=some (.string (bs fs[j].2)):=by
 have h1:=h.cells (g:=g) rfl (j*2) _ (QcU fs j hj).1;have h2:=h.cells (g:=g) rfl (j*2+1) _ (QcU fs j hj).2;have e0:∀ k,(⟨g,0,none⟩:Addr).add k=⟨g,k,none⟩:=fun k=>by unfold Addr.add;split<;>simp_all
 rw [e0] at h1 h2;exact ⟨h1,h2⟩
theorem Qsk{w:World}{base n g cap:Nat}{e:TypeId}{xs:List (List UInt8)}(h:w.ownsRow base e 1 (.slice (some ⟨g,0,none⟩) n cap) n (Qe4 xs))(j:Nat)(hj:j<xs.length) :
  w.cell? ⟨g,j,none⟩=some (.string (bs xs[j])):=by
 have h1:=h.cells (g:=g) rfl j _ (Qj5 xs j hj);have e0:∀ k,(⟨g,0,none⟩:Addr).add k=⟨g,k,none⟩:=fun k=>by unfold Addr.add;split<;>simp_all
 rw [e0] at h1;exact h1
theorem Qly{w:World}{base n:Nat}{e:TypeId}{size:Nat}{v:Value}{xs:List Value}(h:w.ownsRow base e size v n xs):∀ k,v.ownBlock=some k→k<w.heap.size:=by
 intro k hk;obtain ⟨cur,hc⟩:=Qkp h k hk;exact (gsi hc).1
theorem QuY{w:World}{base n:Nat}{e:TypeId}{size:Nat}{v:Value}{xs:List Value}(h:w.ownsRow base e size v n xs)(hn:0<n):∃ g cap,v = .slice (some ⟨g,0,none⟩) n cap∧base≤g:=by
 rcases h.2 with ⟨-,h0⟩|⟨g,cap,cur,hv,hb,-⟩
 ·omega
 ·exact ⟨g,cap,hv,hb⟩
def QiK(base N:Nat)(gs:List (List UInt8×List UInt8))(w:World)(e:Ending)(w':World):Prop:=
 ∃ g cap,e = .returned (.slice (some ⟨g,0,none⟩) N cap)∧w'.ownsRow base 379 2 (.slice (some ⟨g,0,none⟩) N cap) N (Qau gs)∧Below base w w'
theorem Qs6(vc:Value)(fs:List (List UInt8×List UInt8))(f:List UInt8×List UInt8)(vb base B0 N:Nat)(W:World)(hN:fs.length+1=N)(QAq:W.ownsRow B0 379 2 vc fs.length (Qau fs))(hB:base≤B0)(hv:W.heap[vb]?=some (.cells #[.string (bs f.1),.string (bs f.2)] 379 (0,0)))(hne:vc.ownBlock≠some vb)(hl:fs.length≤1000000)(QAv:base≤W.heap.size) :
  Calls Tryz.prog 253 #[vc,.int .i64 0,.slice (some ⟨vb,0,none⟩) 1 1] W (QiK base N (f :: fs) W):=by
 subst hN;have QAI:=QuX QAq hB;refine (Qqu vc fs f vb base W QAI hv hne hl QAv).mono ?_;rintro e w' ⟨v',rfl,h1,h2⟩;obtain ⟨g,cap,rfl,-⟩:=QuY h1 (by omega)
 exact ⟨g,cap,rfl,h1,(Below.refl _ _).grown h2 QAv (fun k hk=>(QAI.lt k hk).1)⟩
theorem QxU(vc:Value)(fs:List (List UInt8×List UInt8))(f:List UInt8×List UInt8)(base B0 N:Nat)(wc wd:World)(hN:fs.length+1=N)(QAq:wc.ownsRow B0 379 2 vc fs.length (Qau fs))(hB:base≤B0)(hl:fs.length≤1000000)(QAv:base≤wc.heap.size)(hbd:Below wc.heap.size wc wd) :
  Calls Tryz.prog 253 #[vc,.int .i64 0,.slice (some ⟨wd.heap.size,0,none⟩) 1 1] (wd.alloc (.cells #[.string (bs f.1),.string (bs f.2)] 379)) (QiK base N (f :: fs) (wd.alloc (.cells #[.string (bs f.1),.string (bs f.2)] 379))):=by
 have h1:=Qa2 QAq hbd;have h2:=Qa2 h1 ((Below.refl wd.heap.size wd).alloc (Nat.le_refl _) (.cells #[.string (bs f.1),.string (bs f.2)] 379));have hsz:=hbd.size;refine Qs6 vc fs f wd.heap.size base B0 N _ hN h2 hB (heap_alloc_new wd _) (fun e=>?_) hl (by simp;omega)
 have:=Qly h1 _ e;omega
theorem QxT(vc:Value)(fs:List (List UInt8×List UInt8))(f:List UInt8×List UInt8)(base N:Nat)(wd wc:World)(hN:fs.length+1=N)(QAq:wc.ownsRow (wd.alloc (.cells #[.string (bs f.1),.string (bs f.2)] 379)).heap.size 379 2 vc fs.length (Qau fs))(hl:fs.length≤1000000)(QAv:base≤wd.heap.size)(hbc:Below (wd.alloc (.cells #[.string (bs f.1),.string (bs f.2)] 379)).heap.size (wd.alloc (.cells #[.string (bs f.1),.string (bs f.2)] 379)) wc) :
  Calls Tryz.prog 253 #[vc,.int .i64 0,.slice (some ⟨wd.heap.size,0,none⟩) 1 1] wc (QiK base N (f :: fs) wc):=by
 have hsz:=hbc.size;simp at hsz;refine Qs6 vc fs f wd.heap.size base _ N _ hN QAq (by simp;omega) ((hbc.block wd.heap.size (by simp)).trans (heap_alloc_new wd _)) (fun e=>?_) hl (by omega)
 have:=(QAq.lt _ e).1;simp at this;omega
theorem Qfg{ops:Array Oper}{rest:List Oper}{o:Oper}{a:Act}{Q:Exit→Act→World→Prop}(w0:World)(hgd:o.guard=none)(s x:Operand)
  (ho:o.op = .call { callee:=.builtin .append,args:=#[s,x],argTypes:=#[171,171] })
  (base n:Nat) (v:Value) (xs:List (List UInt8)) (hs:a.eval s=v) (QAq:w0.ownsRow base 9 1 v n (Qe4 xs))
  (b:ByteArray) (l:List UInt8) (hbl:b=bs l) (hx:a.eval x = .slice (some ⟨w0.heap.size,0,none⟩) 1 1) (hn:n<2147483648) (QAv:base≤w0.heap.size)
  (h:∀ g cap w',w'.ownsRow base 9 1 (.slice (some ⟨g,0,none⟩) (n+1) cap) (n+1) (Qe4 (xs++[l]))→w0.grownBy w' v.ownBlock→wpList Tryz.prog ops Q rest (a.put o.dst (.slice (some ⟨g,0,none⟩) (n+1) cap)) w') :
  wpList Tryz.prog ops Q (o :: rest) a (w0.alloc (.cells #[.string b] 9)):=by
 obtain ⟨i0,hi,hz0,hz1,hz2⟩:=info_parts QoU;subst hbl;refine wpList_append_lies _ hgd s x 171 ho base 9 i0 _ 1 16 Tryz.underlying171 hi hz0 hz1 hz2 rfl (by decide) v n (Qe4 xs) hs (QAq.alloc _) ⟨w0.heap.size,0,none⟩ 1 1 [.string (bs l)] hx rfl (cell_one_new w0 _ _) (by simp [Value.oneCell']) (by decide) (by unfold maxLen;omega) (by omega) (by simp;omega) _ rfl ?_
 intro g cap w' h2 h3 h4 h5;refine h g cap w' ?_ ?_
 ·rw [Qhz,Qj4];exact h2
 ·exact ⟨h3.os,h3.tape,h3.output,Nat.le_trans (by simp) h3.size,fun k hk hne=>(h3.block k (by simp;omega) hne).trans (heap_alloc_old w0 _ hk)⟩
theorem QuZ(fs:List (List UInt8×List UInt8))(j:Nat)(hj:j<fs.length)(hok:∀ i (hi:i<fs.length),i<j→fs[i].1≠Qbo∧QaI fs[i].1 fs[i].2=0) :
  (fs[j].1=Qbo→Qnr fs=22)∧(fs[j].1≠Qbo→QaI fs[j].1 fs[j].2≠0→Qnr fs=QaI fs[j].1 fs[j].2):=by
 rw [Qsq fs j hok,List.drop_eq_getElem_cons hj];refine ⟨fun h=>if_pos h,fun h1 h2=>?_⟩
 unfold Qnr;rw [if_neg h1,if_pos h2]
theorem Qsp(fs:List (List UInt8×List UInt8))(hok:∀ i (hi:i<fs.length),fs[i].1≠Qbo∧QaI fs[i].1 fs[i].2=0):Qnr fs=0:=by
 rw [Qsq fs fs.length (fun j hj _=>hok j hj),List.drop_length];rfl
def QyB(c:Int)(fs:List (List UInt8×List UInt8))(b:List UInt8)(w:World)(e:Ending)(w':World):Prop:=
 e = .returned (.tuple #[.string (bs (QmN c fs b)),.int .i64 (Qhd c fs:Nat)])∧Below w.heap.size w w'
theorem QhN(c:Int)(fv:Value)(fs:List (List UInt8×List UInt8))(b:ByteArray)(B:Nat)(w:World)(hE:EnvF w)(hc0 : -9223372036854775808≤c)(hc1:c≤9223372036854775807)
  (QAq:w.ownsRow B 379 2 fv fs.length (Qau fs)) (hl:fs.length≤1000000) (hf:∀ f∈fs,f.1.length≤1000000∧f.2.length≤1000000) (hb:b.size≤1000000) :
  Calls Tryz.prog 219 #[.agg #[.int .i64 c,fv,.string b]] w (QyB c fs b.data.toList w):=by
 have HS:=hid (fun w hE=>Qlg c w hE hc0 hc1)
 obtain ⟨av,cv,rfl⟩:=Qp4 QAq;have B1:=Qbz w (.int .i64 c) (.slice av fs.length cv) (.string b) 328;have T1:=Three.new w (.int .i64 c) (.slice av fs.length cv) (.string b) 328;have HE1:=hid (hE.below B1);have HO1:=hid (Qa2 QAq B1);have HB1:=hid B1;clear hE QAq B1;obtain ⟨l1,t0,t1,t2⟩:=T1
 by_cases he:Qci c=0
 case neg=>
  have HR:Hid (Qhd c fs=Qci c∧QmN c fs b.data.toList = []):=hid (by
   have:Qhd c fs=Qci c:=if_pos he;exact ⟨this,by unfold QmN;rw [if_neg (by rw [this];exact he)]⟩)
  have tz:((Qci c:Int) != 0)=true:=by rw [bne_iff_ne];omega
  clear he hf;go_enter Tryz.func219,Tryz.ntmps219;go_wp2_with fail;refine (HS.out _ HE1.out.env).mono ?_;rintro e w1 ⟨rfl,hb1⟩;have HB2:=hid (Qaa HB1.out hb1);clear hb1 t0 t1 t2;go_wp2_with fail;go_ret2;exact ⟨by rw [HR.out.1,HR.out.2];rfl,HB2.out⟩
 have HZ:=hid he;rw [he] at HS;have hlI:(fs.length:Int)≤1000000:=by omega
 by_cases hm:15<fs.length
 ·have HR:Hid (Qhd c fs=21∧QmN c fs b.data.toList = []):=hid (by
   have:Qhd c fs=21:=by unfold Qhd;rw [if_neg (by rw [he];simp),if_pos hm]
   exact ⟨this,by unfold QmN;rw [if_neg (by rw [this];simp)]⟩)
  have tm:decide ((fs.length:Int)>15)=true:=decide_eq_true (by omega)
  clear he hf;go_enter Tryz.func219,Tryz.ntmps219;go_wp2_with fail;refine (HS.out _ HE1.out.env).mono ?_;rintro e w1 ⟨rfl,hb1⟩;have HB2:=hid (Qaa HB1.out hb1);obtain ⟨l2,u0,u1,u2⟩:=Three.below ⟨l1,t0,t1,t2⟩ hb1;clear hb1 t0 t1 t2;go_wp2_with fail;go_ret2;exact ⟨by rw [HR.out.1,HR.out.2];rfl,HB2.out⟩
 have tm:decide ((fs.length:Int)>15)=false:=decide_eq_false (by omega)
 have HR:Hid (Qhd c fs=Qnr fs):=hid (by unfold Qhd;rw [if_neg (by rw [he];simp),if_neg hm])
 have HD:=hid (fun w hE=>QcO (b.size:Int) (by omega) (by omega) w hE)
 obtain ⟨D,hD⟩:∃ D,Qfk (b.size:Int)=D:=⟨_,rfl⟩;rw [hD] at HD;have HDD:=hid hD;obtain ⟨P0,hP0⟩:∃ P,Qdn c=P:=⟨_,rfl⟩;rw [hP0] at HS;have HP0:=hid hP0;have HM:Hid (fs.length≤15):=hid (by omega)
 clear he hm hD hP0;go_enter Tryz.func219,Tryz.ntmps219;go_wp2_with fail;refine (HS.out _ HE1.out.env).mono ?_;rintro e w1 ⟨rfl,hb1⟩;have HB2:=hid (Qaa HB1.out hb1);obtain ⟨l2,u0,u1,u2⟩:=Three.below ⟨l1,t0,t1,t2⟩ hb1;have HE2:=hid (HE1.out.below hb1);have HO2:=hid (Qa2 HO1.out hb1);have hsz1:=hb1.size;clear hb1 t0 t1 t2 l1 HB1 HE1 HO1;go_wp2_with fail;have HB3:=hid (HB2.out.alloc (by have:=HB2.out.size;omega) (.cells #[.string P0] 9))
 obtain ⟨l3,v0,v1,v2⟩:=Three.alloc ⟨l2,u0,u1,u2⟩ (.cells #[.string P0] 9);have HE3:=hid (HE2.out.below ((Below.refl _ _).alloc (Nat.le_refl _) (.cells #[.string P0] 9)));have HO3:=hid (Qa2 HO2.out ((Below.refl _ _).alloc (Nat.le_refl _) (.cells #[.string P0] 9)));have HBK:=hid (heap_alloc_new w1 (.cells #[.string P0] 9));have hA:w1.heap.size<(w1.alloc (.cells #[.string P0] 9)).heap.size:=by simp
 generalize (w1.alloc (.cells #[.string P0] 9))=W2 at HB3 HE3 HO3 HBK hA l3 v0 v1 v2 ⊢;have HC:=hid (fun W (h:Below W2.heap.size W2 W)=>QtP (.slice av fs.length cv) fs B W (Qa2 HO3.out h) hl)
 have HDg:=hid (fun W (h:Below W2.heap.size W2 W)=>HD.out W (HE3.out.below h))
 have HS3:Hid (∀ W,Below W2.heap.size W2 W→W.cell? ⟨w.heap.size,1,none⟩=some (.slice av fs.length cv)∧W.cell? ⟨w.heap.size,2,none⟩=some (.string b)):=hid (fun W hW=>⟨(hW.cell (p:=⟨w.heap.size,1,none⟩) l3).trans v1,(hW.cell (p:=⟨w.heap.size,2,none⟩) l3).trans v2⟩)
 obtain ⟨N,hN⟩:∃ N,fs.length+1=N:=⟨_,rfl⟩;have HI1:Hid (∀ (vc:Value) (B0:Nat) (wc wd:World),wc.ownsRow B0 379 2 vc fs.length (Qau fs)→W2.heap.size≤B0→W2.heap.size≤wc.heap.size→Below wc.heap.size wc wd→
   Calls Tryz.prog 253 #[vc,.int .i64 0,.slice (some ⟨wd.heap.size,0,none⟩) 1 1] (wd.alloc (.cells #[.string ⟨#[99,111,110,116,101,110,116,45,108,101,110,103,116,104]⟩,.string (bs D)] 379)) (QiK W2.heap.size N ((Qbo,D) :: fs) (wd.alloc (.cells #[.string ⟨#[99,111,110,116,101,110,116,45,108,101,110,103,116,104]⟩,.string (bs D)] 379)))):=hid (fun vc B0 wc wd h1 h2 h3 h4=>QxU vc fs (Qbo,D) W2.heap.size B0 N wc wd hN h1 h2 hl h3 h4)
 have HI2:Hid (∀ (vc:Value) (wd wc:World),wc.ownsRow (wd.alloc (.cells #[.string ⟨#[99,111,110,116,101,110,116,45,108,101,110,103,116,104]⟩,.string (bs D)] 379)).heap.size 379 2 vc fs.length (Qau fs)→Below (wd.alloc (.cells #[.string ⟨#[99,111,110,116,101,110,116,45,108,101,110,103,116,104]⟩,.string (bs D)] 379)).heap.size (wd.alloc (.cells #[.string ⟨#[99,111,110,116,101,110,116,45,108,101,110,103,116,104]⟩,.string (bs D)] 379)) wc→W2.heap.size≤wd.heap.size→
   Calls Tryz.prog 253 #[vc,.int .i64 0,.slice (some ⟨wd.heap.size,0,none⟩) 1 1] wc (QiK W2.heap.size N ((Qbo,D) :: fs) wc)):=hid (fun vc wd wc h1 h2 h3=>QxT vc fs (Qbo,D) W2.heap.size N wd wc hN h1 hl h3 h2)
 clear u0 u1 u2 l2 HB2 HE2 HO2;go_region_held3 (fun w'=>w'.cell? ⟨w.heap.size,1,none⟩=some (.slice av fs.length cv)∧w'.cell? ⟨w.heap.size,2,none⟩=some (.string b)) (first|exact HS3.out _ (Below.refl _ _).drew|exact HS3.out _ HA1.out|exact HS3.out _ HA2.out|exact HS3.out _ (HA1.out.alloc HA1.out.size _)|exact HS3.out _ (HA2.out.alloc HA2.out.size _)|exact HS3.out _ HA3.out)
  (first
   |(go_at_call 254;refine (HC.out _ (by first|exact (Below.refl _ _).drew|exact HA1.out|exact HA1.out.alloc HA1.out.size _)).mono ?_;rintro e wc ⟨vc,rfl,hoc,hbc⟩;(first|(have HA2:Hid (Below W2.heap.size W2 wc):=hid (Qaa HA1.out hbc))|(have HA2:Hid (Below W2.heap.size W2 wc):=hid (Qaa (HA1.out.alloc HA1.out.size _) hbc))|(have HA1:Hid (Below W2.heap.size W2 wc):=hid (Qaa (Below.refl _ _).drew hbc)));have HOC:=hid hoc;have HBC:=hid hbc;clear hoc hbc)
   |(go_at_call 243;refine (HDg.out _ (by first|exact (Below.refl _ _).drew|exact HA1.out)).mono ?_;rintro e wd ⟨rfl,hbd⟩;(first|(have HA2:Hid (Below W2.heap.size W2 wd):=hid (Qaa HA1.out hbd))|(have HA1:Hid (Below W2.heap.size W2 wd):=hid (Qaa (Below.refl _ _).drew hbd)));have HBD:=hid hbd;clear hbd)
   |(go_at_call 253;(first|refine (HI1.out _ _ _ _ HOC.out (Nat.le_refl _) HA1.out.size HBD.out).mono ?_|refine (HI1.out _ _ _ _ HOC.out HA1.out.size HA2.out.size (Below.refl _ _)).mono ?_|refine (HI2.out _ _ _ HOC.out HBC.out HA1.out.size).mono ?_);rintro e wi ⟨gi,ci,rfl,hoi,hbi⟩;(first|(have HA3:Hid (Below W2.heap.size W2 wi):=hid ((HA2.out.alloc HA2.out.size _).trans hbi))|(have HA3:Hid (Below W2.heap.size W2 wi):=hid (HA2.out.trans hbi)));have HOI:=hid hoi;clear hoi hbi))
 have hnl:∀ f∈(Qbo,D) :: fs,f.1.length≤1000000∧f.2.length≤1000000:=by
  intro f hfm;rcases List.mem_cons.1 hfm with rfl|hfm
  ·refine ⟨by show Qbo.length≤_;decide,?_⟩
   have:=QdX (b.size:Int) (by omega)
   rw [HDD.out] at this;show D.length≤_;omega
  ·exact hf f hfm
 have HNL:=hid hnl;have HCL:Hid (QaI Qbo D=0):=hid (by rw [←HDD.out];exact Qoa b.size (by omega))
 have HGS:Hid (∀ j (hj:j<((Qbo,D) :: fs).length),0<j→∃ h:j-1<fs.length,((Qbo,D) :: fs)[j]=fs[j-1]):=hid (fun j hj h0=>by
  obtain ⟨i,rfl⟩:∃ i,j=i+1:=⟨j-1,by omega⟩
  exact ⟨by simpa using hj,rfl⟩)
 have HLN:Hid ((QaB c fs b.size)=P0.data.toList :: ((Qbo,D) :: fs).map (fun f=>QaT f.1 f.2)):=hid (by unfold QaB;rw [HP0.out,HDD.out];rfl)
 have HG0:Hid ((Qbo,D) :: fs≠[]∧∀ h:0<((Qbo,D) :: fs).length,((Qbo,D) :: fs)[0]=(Qbo,D)):=hid ⟨by simp,fun _=>rfl⟩
 have hgl:((Qbo,D) :: fs).length=N:=hN;generalize (Qbo,D) :: fs=gs at HOI HNL HGS HLN HG0 hgl;have HOA:Hid (wi.ownsRow w1.heap.size 9 1 (.slice (some ⟨w1.heap.size,0,none⟩) 1 1) 1 (Qe4 [P0.data.toList])):=hid ⟨rfl,.inr ⟨w1.heap.size,1,_,rfl,Nat.le_refl _,(HA3.out.block w1.heap.size hA).trans HBK.out,Nat.le_refl _,by decide,rfl,by rw [Qj4,Qcx];rfl⟩⟩
 have HBI:Hid (Below w1.heap.size W2 wi):=hid (HA3.out.mono (Nat.le_of_lt hA));have hNl:N≤1000001:=by omega
 have HW1:Hid (w.heap.size<w1.heap.size∧w1.heap.size<W2.heap.size):=hid ⟨by have:=hsz1;simp at this;omega,hA⟩
 have HNN:=hid hN;clear hnl hf hN HOC HBC HBD HA1 HA2 HI1 HI2 HC HDg HS3 HBK hA HO3 hsz1 HS HD;go_wp2_with fail;go_simp;go_loopg [6,44] N (fun gk s6 s44 wr=>∃ k:Nat,s44 = .int .i64 (k:Int)∧k+gk=N∧Hid (wr.ownsRow w1.heap.size 9 1 s6 (k+1) (Qe4 (P0.data.toList :: (gs.take k).map (fun f=>QaT f.1 f.2))))∧Hid (wr.ownsRow W2.heap.size 379 2 (.slice (some ⟨gi,0,none⟩) N ci) N (Qau gs))∧Hid (Below w1.heap.size W2 wr)∧Hid (∀ j (hj:j<gs.length),j<k→(0<j→gs[j].1≠Qbo)∧QaI gs[j].1 gs[j].2=0))
 case atStart=>exact ⟨0,by simp,by omega,HOA,HOI,HBI,hid (fun j hj h=>absurd h (Nat.not_lt_zero _))⟩
 case round=>
  obtain ⟨k,rfl,hgk,QBG,HOFr,HBr,HK⟩:=hrel
  by_cases hk:k<N
  ·obtain ⟨g',rfl⟩:∃ g',gk=g'+1:=⟨gk-1,by omega⟩
   have hkl:k<gs.length:=by omega
   obtain ⟨y,hy⟩:∃ y,gs[k]=y:=⟨_,rfl⟩;obtain ⟨c0,c1⟩:=Qsm HOFr.out k hkl;rw [hy] at c0 c1;have hyl:=HNL.out _ (List.getElem_mem hkl);rw [hy] at hyl;have HP:=hid (fun w=>Qmb (bs y.1) (bs y.2) w (by rw [QaC];exact hyl.1) (by rw [QaC];exact hyl.2))
   rw [Qaj,Qaj] at HP;have HN:=hid (fun w=>Qe5 y.1 y.2 w)
   have HY:=hid hy;have hkI:decide ((k:Int)<(N:Int))=true:=decide_eq_true (by omega)
   clear hy hyl;have HST:Hid (P0.data.toList :: (gs.take (k+1)).map (fun f=>QaT f.1 f.2)=(P0.data.toList :: (gs.take k).map (fun f=>QaT f.1 f.2))++[QaT y.1 y.2]):=hid (by
    rw [List.take_succ_eq_append_getElem hkl,List.map_append,HY.out];rfl)
   by_cases hk0:k=0
   ·have hy0:y=(Qbo,D):=by rw [←HY.out];subst hk0;exact HG0.out.2 hkl
    have hz:QaI y.1 y.2=0:=by rw [hy0];exact HCL.out
    have HK2:Hid (∀ j (hj:j<gs.length),j<k+1→(0<j→gs[j].1≠Qbo)∧QaI gs[j].1 gs[j].2=0):=hid (fun j hj h=>by
     obtain rfl:j=k:=by omega
     rw [HY.out];exact ⟨fun h=>by omega,hz⟩)
    have hfs:QfN y.1 y.2=QaT y.1 y.2:=if_pos hz;rw [hz,hfs] at HP;have tk0:decide ((k:Int)>0)=false:=decide_eq_false (by omega)
    have tk1:decide (0<k)=false:=decide_eq_false (by omega)
    have tk2:¬(0<k):=by omega
    clear hy0 hz hfs hk0 HK HY;go_wp2_with fail;refine (HP.out _).mono ?_;rintro e w3 ⟨rfl,hb3⟩;have QAJ:=Qaa ((Below.refl wr.heap.size wr).alloc (Nat.le_refl _) (.cells #[.string (bs y.1),.string (bs y.2)] 379)) hb3;clear hb3 c0 c1;have QBA:=hid (Qa2 QBG.out QAJ);have HOF3:=hid (Qa2 HOFr.out QAJ);have HB3r:=hid (HBr.out.trans (QAJ.mono (by have:=HBr.out.size;have:=HW1.out;omega)))
    have HS3:Hid (k+1<2147483648∧w1.heap.size≤w3.heap.size):=hid ⟨by omega,by have:=QAJ.size;have:=HBr.out.size;have:=HW1.out;omega⟩
    clear QAJ;go_wp2_with (at_builtin;go_loud (refine Qfg w3 (by rfl) _ _ (by rfl) w1.heap.size (k+1) _ _ (by rfl) QBA.out _ (QaT y.1 y.2) rfl (by rfl) HS3.out.1 HS3.out.2 ?_);intro g3 cap3 w4 QAG hg4)
    go_roundg g'
    case measure=>omega
    case rel=>
     refine ⟨k+1,by simp,by omega,hid ?_,hid (Qlw HOF3.out QBA.out (by decide) hg4),hid (Qf0 HB3r.out hg4 QBA.out (Nat.le_refl _) HS3.out.2),HK2⟩
     rw [HST.out];exact QAG
   ·have tk0:decide ((k:Int)>0)=true:=decide_eq_true (by omega)
    have tk1:decide (0<k)=true:=decide_eq_true (by omega)
    have tk2:0<k:=by omega
    obtain ⟨hj1,hj2⟩:=HGS.out k hkl (by omega)
    have hyf:fs[k-1]=y:=by rw [←hj2,HY.out]
    have hokf:∀ i (hi:i<fs.length),i<k-1→fs[i].1≠Qbo∧QaI fs[i].1 fs[i].2=0:=by
     intro i hi hik;obtain ⟨q1,q2⟩:=HK.out (i+1) (by omega) (by omega)
     obtain ⟨r1,r2⟩:=HGS.out (i+1) (by omega) (by omega)
     rw [r2] at q1 q2;exact ⟨q1 (by omega),q2⟩
    obtain ⟨o1,o2⟩:=QuZ fs (k-1) hj1 hokf;rw [hyf] at o1 o2;have HOE:=hid (And.intro o1 o2);clear hj2 hyf hokf o1 o2 hk0
    by_cases hnm:y.1=Qbo
    ·have HF:Hid (Qhd c fs=22∧QmN c fs b.data.toList = []):=hid (by
      have:Qhd c fs=22:=by rw [HR.out];exact HOE.out.1 hnm
      exact ⟨this,by unfold QmN;rw [if_neg (by rw [this];simp)]⟩)
     rw [decide_eq_true hnm] at HN;clear hnm HK HY;go_wp2_with fail;refine (HN.out _).mono ?_;rintro e w3 ⟨rfl,hb3⟩;have QAJ:=Qaa ((Below.refl wr.heap.size wr).alloc (Nat.le_refl _) (.cells #[.string (bs y.1),.string (bs y.2)] 379)) hb3;have HBF:=hid (HB3.out.trans ((HBr.out.trans (QAJ.mono (by have:=HBr.out.size;have:=HW1.out;omega))).mono (Nat.le_of_lt HW1.out.1)))
     clear hb3 c0 c1 QAJ;go_wp2_with fail;go_ret2;exact ⟨by rw [HF.out.1,HF.out.2];rfl,HBF.out⟩
    ·rw [decide_eq_false hnm] at HN
     have HNM:=hid hnm
     by_cases hz:QaI y.1 y.2=0
     ·have HK2:Hid (∀ j (hj:j<gs.length),j<k+1→(0<j→gs[j].1≠Qbo)∧QaI gs[j].1 gs[j].2=0):=hid (fun j hj h=>by
       by_cases e:j=k
       ·subst e;rw [HY.out];exact ⟨fun _=>HNM.out,hz⟩
       ·exact HK.out j hj (by omega))
      have hfs:QfN y.1 y.2=QaT y.1 y.2:=if_pos hz;rw [hz,hfs] at HP;clear hz hfs hnm HK HY;go_wp2_with fail;refine (HN.out _).mono ?_;rintro e w2 ⟨rfl,hb2⟩;have QB4:=Qaa ((Below.refl wr.heap.size wr).alloc (Nat.le_refl _) (.cells #[.string (bs y.1),.string (bs y.2)] 379)) hb2;have hk0:w2.heap[wr.heap.size]?=some (.cells #[.string (bs y.1),.string (bs y.2)] 379 (0,0)):=(hb2.block wr.heap.size (by simp)).trans (heap_alloc_new wr _)
      have k0:w2.cell? ⟨wr.heap.size,0,none⟩=some (.string (bs y.1)):=by unfold World.cell?;rw [hk0];rfl
      have k1:w2.cell? ⟨wr.heap.size,1,none⟩=some (.string (bs y.2)):=by unfold World.cell?;rw [hk0];rfl
      have HB02:=hid QB4;clear hb2 c0 c1 hk0 QB4;go_wp2_with fail;refine (HP.out _).mono ?_;rintro e w3 ⟨rfl,hb3⟩;have QAJ:=Qaa HB02.out hb3;clear hb3 k0 k1;have QBA:=hid (Qa2 QBG.out QAJ);have HOF3:=hid (Qa2 HOFr.out QAJ);have HB3r:=hid (HBr.out.trans (QAJ.mono (by have:=HBr.out.size;have:=HW1.out;omega)))
      have HS3:Hid (k+1<2147483648∧w1.heap.size≤w3.heap.size):=hid ⟨by omega,by have:=QAJ.size;have:=HBr.out.size;have:=HW1.out;omega⟩
      clear QAJ;go_wp2_with (at_builtin;go_loud (refine Qfg w3 (by rfl) _ _ (by rfl) w1.heap.size (k+1) _ _ (by rfl) QBA.out _ (QaT y.1 y.2) rfl (by rfl) HS3.out.1 HS3.out.2 ?_);intro g3 cap3 w4 QAG hg4)
      go_roundg g'
      case measure=>omega
      case rel=>
       refine ⟨k+1,by simp,by omega,hid ?_,hid (Qlw HOF3.out QBA.out (by decide) hg4),hid (Qf0 HB3r.out hg4 QBA.out (Nat.le_refl _) HS3.out.2),HK2⟩
       rw [HST.out];exact QAG
     ·have HF:Hid (Qhd c fs=QaI y.1 y.2∧QmN c fs b.data.toList = []):=hid (by
       have:Qhd c fs=QaI y.1 y.2:=by rw [HR.out];exact HOE.out.2 HNM.out hz
       exact ⟨this,by unfold QmN;rw [if_neg (by rw [this];exact hz)]⟩)
      have tz:((QaI y.1 y.2:Int) != 0)=true:=by rw [bne_iff_ne];omega
      clear hz hnm HK HY;go_wp2_with fail;refine (HN.out _).mono ?_;rintro e w2 ⟨rfl,hb2⟩;have QB4:=Qaa ((Below.refl wr.heap.size wr).alloc (Nat.le_refl _) (.cells #[.string (bs y.1),.string (bs y.2)] 379)) hb2;have hk0:w2.heap[wr.heap.size]?=some (.cells #[.string (bs y.1),.string (bs y.2)] 379 (0,0)):=(hb2.block wr.heap.size (by simp)).trans (heap_alloc_new wr _)
      have k0:w2.cell? ⟨wr.heap.size,0,none⟩=some (.string (bs y.1)):=by unfold World.cell?;rw [hk0];rfl
      have k1:w2.cell? ⟨wr.heap.size,1,none⟩=some (.string (bs y.2)):=by unfold World.cell?;rw [hk0];rfl
      have HB02:=hid QB4;clear hb2 c0 c1 hk0 QB4;go_wp2_with fail;refine (HP.out _).mono ?_;rintro e w3 ⟨rfl,hb3⟩;have QAJ:=Qaa HB02.out hb3;have HBF:=hid (HB3.out.trans ((HBr.out.trans (QAJ.mono (by have:=HBr.out.size;have:=HW1.out;omega))).mono (Nat.le_of_lt HW1.out.1)))
      clear hb3 k0 k1 QAJ;go_wp2_with fail;go_ret2;exact ⟨by rw [HF.out.1,HF.out.2];rfl,HBF.out⟩
  ·obtain rfl:k=N:=by omega
   have hN:=HNN.out;have hkI:decide ((k:Int)<(k:Int))=false:=decide_eq_false (by omega)
   have hN17:k≤16:=by have:=HM.out;omega
   have hOE:Qnr fs=0:=Qsp fs (fun i hi=>by
    obtain ⟨q1,q2⟩:=HK.out (i+1) (by omega) (by omega)
    obtain ⟨r1,r2⟩:=HGS.out (i+1) (by omega) (by omega)
    rw [r2] at q1 q2;exact ⟨q1 (by omega),q2⟩)
   have hrz:Qhd c fs=0:=by rw [HR.out];exact hOE
   have HF:Hid (Qhd c fs=0∧QmN c fs b.data.toList=QcK (QaB c fs b.size)++13 :: 10 :: b.data.toList):=hid ⟨hrz,by unfold QmN;rw [if_pos hrz];unfold QpU;rw [Qab]⟩
   have hall:P0.data.toList :: (gs.take k).map (fun f=>QaT f.1 f.2)=QaB c fs b.size:=by rw [HLN.out,List.take_of_length_le (by omega)]
   have QBq:=Qgs c fs b.size hrz (by omega)
   obtain ⟨L,hL⟩:∃ L,QaB c fs b.size=L:=⟨_,rfl⟩;rw [hall,hL] at QBG;rw [hL] at HF QBq;have hLl:L.length=k+1:=by rw [←hL,HLN.out,List.length_cons,List.length_map];omega
   have HPut:Hid (∀ j (hj:j<(L++[[]]).length),(L++[[]])[j].length≤256∧Qa0 (L++[[]])[j]=0):=hid (fun j hj=>by
    by_cases hjl:j<L.length
    ·rw [List.getElem_append_left hjl]
     obtain ⟨-,g1,g2⟩:=QBq.1 _ (List.getElem_mem hjl);exact ⟨g2,Qov _ g1 g2⟩
    ·rw [List.getElem_append_right (by omega)]
     have:j-L.length=0:=by simp at hj;omega
     simp only [this,List.getElem_cons_zero];exact ⟨by decide,by decide⟩)
   have HLL:=hid hLl;have HS3:Hid (k+1<2147483648∧w1.heap.size≤wr.heap.size):=hid ⟨by omega,by have:=HBr.out.size;have:=HW1.out;omega⟩
   clear hOE hrz hall QBq hL hLl HK hN;go_wp2_with (at_builtin;go_loud (refine Qfg wr (by rfl) _ _ (by rfl) w1.heap.size (k+1) _ _ (by rfl) QBG.out _ [] rfl (by rfl) HS3.out.1 HS3.out.2 ?_);intro g3 cap3 w4 QAG hg4)
   have HB4:=hid (Qf0 HBr.out hg4 QBG.out (Nat.le_refl _) HS3.out.2);have HO4:=hid QAG;have QBc:w4.cell? ⟨w.heap.size,2,none⟩=some (.string b):=(HB4.out.cell (p:=⟨w.heap.size,2,none⟩) HW1.out.1).trans v2;have HBD:=hid QBc;clear QAG hg4 QBc QBG HOFr;go_loopg [11,72] (k+2) (fun gk s11 s72 wy=>∃ (j:Nat) (O:ByteArray),s11 = .string O∧s72 = .int .i64 (j:Int)∧wy=w4∧j+gk=k+2∧O.size≤j*260∧Hid (O=bs (QcK ((L++[[]]).take j))))
   case atStart=>exact ⟨0,⟨#[]⟩,rfl,by simp,rfl,by omega,by decide,hid rfl⟩
   case round=>
    obtain ⟨j,O,rfl,rfl,rfl,hgj,hOs,HO⟩:=hrel
    by_cases hj:j<k+2
    ·obtain ⟨g',rfl⟩:∃ g',gk=g'+1:=⟨gk-1,by omega⟩
     have hjl:j<(L++[[]]).length:=by have:=HLL.out;simp;omega
     have tk:decide ((j:Int)<(k:Int)+1+1)=true:=decide_eq_true (by omega)
     have hc:=Qsk HO4.out j hjl;obtain ⟨p1,p2⟩:=HPut.out j hjl;obtain ⟨x,hx⟩:∃ x,(L++[[]])[j]=x:=⟨_,rfl⟩;rw [hx] at hc p1 p2;obtain ⟨X,hX⟩:∃ X,bs x=X:=⟨_,rfl⟩;have hXs:X.size≤256:=by rw [←hX,QaC];exact p1
     have HPP:=hid (fun w=>QfA X w hXs (by rw [←hX,Qaj];exact p2))
     rw [hX] at hc;have HOO:Hid (O++(X++⟨#[13,10]⟩)=bs (QcK ((L++[[]]).take (j+1)))):=hid (by
      rw [HO.out,←hX,show (⟨#[13,10]⟩:ByteArray)=bs [13,10] from rfl,QdD,QdD,List.take_succ_eq_append_getElem hjl,hx,Qff];rfl)
     have padd:=fun w=>run_string_add_sum (P:=Tryz.prog) w O (X++⟨#[13,10]⟩) (by rw [ByteArray.size_append];show _+(_+2)≤_;omega)
     clear p1 p2 hx hX;go_wp2_with fail;refine (HPP.out _).mono ?_;rintro e w' ⟨rfl,rfl⟩;go_wp2_with fail;go_roundg g'
     case measure=>omega
     case rel=>exact ⟨j+1,_,rfl,by simp,rfl,by omega,by rw [ByteArray.size_append,ByteArray.size_append];show _+(_+2)≤_;omega,hid HOO.out⟩
    ·obtain rfl:j=k+2:=by omega
     have hbd:=HBD.out;have tk:decide (((k:Int)+2)<(k:Int)+1+1)=false:=decide_eq_false (by omega)
     have padd:=fun w=>run_string_add_sum (P:=Tryz.prog) w O b (by omega)
     have HRR:Hid (O++b=bs (QmN c fs b.data.toList)):=hid (by
      rw [HO.out,HF.out.2]
      conv=>lhs;rhs;rw [←Qcx b]
      rw [QdD,List.take_of_length_le (by have:=HLL.out;simp;omega),Qff]
      congr 1
      simp [QcK])
     go_wp2_with fail;go_ret2;exact ⟨by rw [HF.out.1,←HRR.out];rfl,HB3.out.trans (HB4.out.mono (Nat.le_of_lt HW1.out.1))⟩
end
section
open Go.RowKit
theorem QrW(fs:List (List UInt8×List UInt8)):(Qeg fs).length≤fs.length:=List.length_filter_le _ _
end
section
open Go.RowKit
theorem QqL(k n:Int)(t s:ByteArray)(v:Value)(w:World) :
  Calls Tryz.prog 259 #[.agg #[.int .u8 k,.int .i64 n,.string t],.string s,v] w fun e w'=>e = .returned (.string s)∧Below w.heap.size w w':=by
 have HB:=hid (Qbz w (.int .u8 k) (.int .i64 n) (.string t) 294);go_enter Tryz.func259,Tryz.ntmps259;go_wp2_with fail;go_ret;exact ⟨rfl,HB.out⟩
end
section
open Go.RowKit
def QrB:Array Value:=#[.func (.func 259) #[] #[],.bool true,.func (.func 260) #[] #[],.bool true,.func (.func 261) #[] #[],.bool true,.func (.func 262) #[] #[],.bool false,.func (.func 263) #[] #[],.bool false,.func (.func 264) #[] #[],.bool false]
theorem Qn1(w:World):Calls Tryz.prog 221 #[] w fun e w'=>e = .returned (.agg QrB)∧Below w.heap.size w w':=by
 go_enter Tryz.func221,Tryz.ntmps221;go_wp2_with fail;refine QdH (A:=⟨w.heap.size,0,none⟩) rfl (run_loadVar_new w 353 QrB 6 352 Tryz.underlying353 (by kernel_rfl)) rfl rfl ?_
 exact ⟨rfl,(Below.refl _ _).alloc (Nat.le_refl _) _⟩
theorem Qf7{w:World}{b:Nat}{x y:Value}{t:TypeId}(h:w.heap[b]?=some (.cells #[x,y] t (0,0))) :
  w.cell? ⟨b,0,none⟩=some x∧w.cell? ⟨b,1,none⟩=some y∧w.frozen? ⟨b,0,none⟩=false∧w.frozen? ⟨b,1,none⟩=false:=by
 refine ⟨?_,?_,?_,?_⟩
 ·unfold World.cell?;rw [h];rfl
 ·unfold World.cell?;rw [h];rfl
 ·unfold World.frozen?;rw [h];simp
 ·unfold World.frozen?;rw [h];simp
structure TD(W0 W1:World)(X D:Nat)(k n:Int)(t:ByteArray)(x y:Value):Prop where
 blk:W1.heap[D]?=some (.cells #[x,y] 352 (0,0))
 bel:Below W0.heap.size W0 W1
 arg:W1.heap[X]?=some (.cells #[.int .u8 k,.int .i64 n,.string t] 294 (0,0))
theorem TD.new{W0 wa:World}{X:Nat}{k n:Int}{t:ByteArray}(hb:Below W0.heap.size W0 wa)(hX:X<W0.heap.size)(ha:W0.heap[X]?=some (.cells #[.int .u8 k,.int .i64 n,.string t] 294 (0,0)))(x y:Value):TD W0 (wa.alloc (.cells #[x,y] 352)) X wa.heap.size k n t x y where
 blk:=heap_alloc_new wa _
 bel:=hb.alloc hb.size _
 arg:=((hb.alloc hb.size _).block X hX).trans ha
theorem TD.set{W0 wa:World}{X:Nat}{k n:Int}{t:ByteArray}(hb:Below W0.heap.size W0 wa)(hX:X<W0.heap.size)(ha:W0.heap[X]?=some (.cells #[.int .u8 k,.int .i64 n,.string t] 294 (0,0))){x0 y0:Value}(hz:wa.heap[W0.heap.size]?=some (.cells #[x0,y0] 352 (0,0)))(x y:Value):TD W0 ((wa.setCell ⟨W0.heap.size,0,none⟩ x).setCell ⟨W0.heap.size,1,none⟩ y) X W0.heap.size k n t x y where
 blk:=Qbf hz x y
 bel:=QaO hb _ (Nat.le_refl _) x y
 arg:=((QaO hb _ (Nat.le_refl _) x y).block X hX).trans ha
theorem TD.below{W0 W1 W2:World}{X D:Nat}{k n:Int}{t:ByteArray}{x y:Value}(h:TD W0 W1 X D k n t x y)(hX:X<W0.heap.size)(hb:Below W1.heap.size W1 W2):TD W0 W2 X D k n t x y where
 blk:=(hb.block D (gsi h.blk).1).trans h.blk
 bel:=Qaa h.bel hb
 arg:=(hb.block X (Nat.lt_of_lt_of_le hX h.bel.size)).trans h.arg
theorem Qte(s:ByteArray)(w:World)(hs:s.size≤1000000):Calls Tryz.prog 222 #[.string s] w fun e w'=>∃ a c,e = .returned (.tuple #[.slice a (Qas s).1.length c,.int .i64 (Qas s).2.1,.int .i64 (Qas s).2.2])∧HoldsS w' (.slice a (Qas s).1.length c) (Qas s).1∧Below w.heap.size w w':=by
 refine (Qgn s w (by omega)).mono ?_
 rintro e w' ⟨v,rfl,ho,hb⟩;obtain ⟨a,c,rfl⟩:=Qbe ho;exact ⟨a,c,rfl,HoldsS.of_own ho,hb⟩
theorem QrA(w:World):(Instr.index 353 (.agg QrB) (.int .u8 0)).run Tryz.prog w = .ok (.agg #[.func (.func 259) #[] #[],.bool true]) w:=by kernel_rfl
theorem Qq9(n:Int)(t s:ByteArray)(w:World)(hE:EnvW w)(h0 : -9223372036854775808≤n)(h1:n≤9223372036854775807)(ht:t.size≤10000)(hs:s.size≤1000000) :
  Calls Tryz.prog 185 #[.agg #[.int .u8 0,.int .i64 n,.string t],.string s] w fun e w'=>e = .returned (.string s)∧Below w.heap.size w w':=by
 have HF:=hid (fun v W=>QqL 0 n t s v W)
 have B0:=Qbz w (.int .u8 0) (.int .i64 n) (.string t) 294;have HT:=hid Qn1;have HH:=hid (fun W=>Qte s W hs)
 have hix:=QrA;have HE0:=hid (hE.below B0);have HS:Hid (∀ W,Below (w.alloc (.cells #[.int .u8 0,.int .i64 n,.string t] 294)).heap.size (w.alloc (.cells #[.int .u8 0,.int .i64 n,.string t] 294)) W→W.cell? ⟨w.heap.size,0,none⟩=some (.int .u8 0)∧W.cell? ⟨w.heap.size,1,none⟩=some (.int .i64 n)∧W.cell? ⟨w.heap.size,2,none⟩=some (.string t)):=hid (fun W hW=>by
  obtain ⟨x0,x1,x2,-,-,-⟩:=Qan ((hW.block w.heap.size (by simp)).trans (heap_alloc_new w _))
  exact ⟨x0,x1,x2⟩)
 have HB0:=hid B0;have HXB:Hid ((w.alloc (.cells #[.int .u8 0,.int .i64 n,.string t] 294)).heap[w.heap.size]?=some (.cells #[.int .u8 0,.int .i64 n,.string t] 294 (0,0))):=hid (heap_alloc_new w _);have hX0:w.heap.size<(w.alloc (.cells #[.int .u8 0,.int .i64 n,.string t] 294)).heap.size:=by simp
 have HX0:=hid hX0;clear B0 hE hX0;go_enter Tryz.func185,Tryz.ntmps185;go_wp2_with fail;generalize w.alloc (.cells #[.int .u8 0,.int .i64 n,.string t] 294)=W0 at HE0 HS HB0 HX0 HXB ⊢;generalize w.heap.size=X at HS HX0 HXB ⊢;have HDr:Hid (Below W0.heap.size W0 W0.drew):=hid (Below.refl _ _).drew;have HA0:Hid (Below W0.heap.size W0 (W0.alloc (.cells #[.nilFunc,.bool false] 352)).drew):=hid ((Below.refl _ _).alloc (Nat.le_refl _) _).drew;go_region_held3 (fun w'=>w'.cell? ⟨X,0,none⟩=some (.int .u8 0)) (first|exact (HS.out _ HDr.out).1|exact (HS.out _ HA0.out).1|exact (HS.out _ HA1.out).1|exact (HS.out _ (HA1.out.alloc HA1.out.size _)).1|exact (HS.out _ (QaO HA1.out _ (Nat.le_refl _) _ _)).1|exact (HS.out _ (QaO (HA1.out.alloc HA1.out.size _) _ HA1.out.size _ _)).1)
  (first
   |(go_at_call 221;(refine (HT.out _).mono ?_);rintro e wa ⟨rfl,hba⟩;(first|(have HA1:Hid (Below W0.heap.size W0 wa):=hid (Qaa HDr.out hba))|(have HA1:Hid (Below W0.heap.size W0 wa):=hid (Qaa HA0.out hba);have HZ:=hid ((hba.block W0.heap.size (by simp)).trans (heap_alloc_new W0 _));obtain ⟨z0,z1,f0,f1⟩:=Qf7 HZ.out));clear hba))
 all_goals
  first
   |(have HD:=hid (TD.set HA1.out HX0.out HXB.out HZ.out (.func (.func 259) #[] #[]) (.bool true));clear z0 z1 f0 f1;generalize (wa.setCell ⟨W0.heap.size,0,none⟩ (.func (.func 259) #[] #[])).setCell ⟨W0.heap.size,1,none⟩ (.bool true)=W1 at HD ⊢;generalize W0.heap.size=D at HD ⊢)
   |(have HD:=hid (TD.new HA1.out HX0.out HXB.out (.func (.func 259) #[] #[]) (.bool true));generalize wa.alloc (.cells #[.func (.func 259) #[] #[],.bool true] 352)=W1 at HD ⊢;generalize wa.heap.size=D at HD ⊢)
 all_goals
  clear HS HA1 HDr HA0 hix HT;obtain ⟨d0,d1,-,-⟩:=Qf7 HD.out.blk;obtain ⟨x0,x1,x2,-,-,-⟩:=Qan HD.out.arg;go_wp2_with fail;refine (HH.out _).mono ?_;rintro e W2 ⟨al,cl,rfl,hhs,hb2⟩;have HD2:=hid (HD.out.below HX0.out hb2);have HHS:=hid hhs;have HW2:=hid (Qaa HB0.out HD2.out.bel);have HE2:=hid (HE0.out.below HD2.out.bel);clear d0 d1 x0 x1 x2 hb2 hhs HH;obtain ⟨d0,d1,-,-⟩:=Qf7 HD2.out.blk;obtain ⟨x0,x1,x2,-,-,-⟩:=Qan HD2.out.arg;go_wp2_with fail;refine (HF.out _ _).mono ?_;rintro e W3 ⟨rfl,hb3⟩;have HB3:=hid hb3;clear hb3;go_wp2_with fail;go_ret;exact ⟨rfl,Qaa HW2.out HB3.out⟩
end
section
open Go.RowKit
theorem Qg8(a b t:Int)(h:QbW a b t=0):Qc9 a b=0∧b<t∧t≤9007199254740991:=by
 unfold QbW at h;split at h
 ·exact absurd h (by assumption)
 ·split at h
  ·exact absurd h (by decide)
  ·exact ⟨by omega,by omega,by omega⟩
theorem Qg7(a b t:Int)(h:QbW a b t=0):QbY a b t=QcD++(Go.Lib.decDigits a.toNat++45 :: (Go.Lib.decDigits b.toNat++47 :: Go.Lib.decDigits t.toNat)):=by
 obtain ⟨h1,h2,h3⟩:=Qg8 a b t h;obtain ⟨g1,g2,g3⟩:=Qco a b h1;unfold QbY Qe3 Qfk;rw [if_pos h,if_neg (by omega),if_neg (by omega),if_neg (by omega)]
 simp
theorem Qn7(n:Nat)(h:n≤9223372036854775807):(Go.Lib.decDigits n).length≤20:=by
 have:=QdX (n:Int) (by omega)
 rw [QfR] at this;exact this
theorem Qk7(a b t:Int):(QbY a b t).length≤80:=by
 by_cases h:QbW a b t=0
 ·obtain ⟨h1,h2,h3⟩:=Qg8 a b t h
  obtain ⟨g1,g2,g3⟩:=Qco a b h1;rw [Qg7 a b t h];have e1:=Qn7 a.toNat (by omega)
  have e2:=Qn7 b.toNat (by omega)
  have e3:=Qn7 t.toNat (by omega)
  have e4:QcD.length=6:=rfl;simp only [List.length_append,List.length_cons];omega
 ·unfold QbY;rw [if_neg h];exact Nat.zero_le _
theorem Qiq(n:Nat):∀ c∈Go.Lib.decDigits n,Qaz c.toNat=true:=by
 intro c hc;have:=QkY _ (List.all_eq_true.1 (QcQ n) c hc);unfold Qaz;simp;omega
def Qag:List UInt8:=[99,111,110,116,101,110,116,45,114,97,110,103,101]
theorem Quy(a b t:Int)(h:QbW a b t=0):Qby Qag (QbY a b t)=true:=by
 unfold Qby;rw [show QdO Qag=true by decide,Bool.true_and,Bool.and_eq_true,Qg7 a b t h]
 refine ⟨?_,?_⟩
 ·refine List.all_eq_true.2 fun c hc=>?_
  rcases List.mem_append.1 hc with hc|hc
  ·exact List.all_eq_true.1 (show (QcD.all fun c=>Qaz c.toNat)=true by decide) c hc
  rcases List.mem_append.1 hc with hc|hc
  ·exact Qiq _ c hc
  rcases List.mem_cons.1 hc with rfl|hc
  ·decide
  rcases List.mem_append.1 hc with hc|hc
  ·exact Qiq _ c hc
  rcases List.mem_cons.1 hc with rfl|hc
  ·decide
  ·exact Qiq _ c hc
 ·unfold Qgk
  have e1:Qcv (QcD++(Go.Lib.decDigits a.toNat++45 :: (Go.Lib.decDigits b.toNat++47 :: Go.Lib.decDigits t.toNat)))=false:=by
   unfold QcD;rfl
  have e2:QcD++(Go.Lib.decDigits a.toNat++45 :: (Go.Lib.decDigits b.toNat++47 :: Go.Lib.decDigits t.toNat))=(QcD++(Go.Lib.decDigits a.toNat++45 :: (Go.Lib.decDigits b.toNat++[47])))++Go.Lib.decDigits t.toNat:=by simp
  rw [e1,e2,QkX];rfl
theorem QpC(a b t:Int)(h:QbW a b t=0):QaI Qag (QbY a b t)=0:=by
 unfold QaI;rw [if_pos (Quy a b t h),if_neg];have:=Qk7 a b t;have e:(Qfi true Qag).length=13:=by decide
 unfold QaT Qhx;split<;>simp only [List.length_append,List.length_cons,List.length_nil,e]<;>omega
theorem Qrw(a b t:Int)(h:QbW a b t=0):Qce (QbY a b t)=0∧QcX (QbY a b t)=a∧QcW (QbY a b t)=b∧Qdu (QbY a b t)=t:=by
 obtain ⟨h1,h2,h3⟩:=Qg8 a b t h;obtain ⟨g1,g2,g3⟩:=Qco a b h1;have hd:(QbY a b t).drop 6=Go.Lib.decDigits a.toNat++45 :: (Go.Lib.decDigits b.toNat++47 :: Go.Lib.decDigits t.toNat):=by rw [Qg7 a b t h];rfl
 have hno:∀ d∈Go.Lib.decDigits a.toNat,d≠45:=fun d hd=>(Qmk _ d hd).2.1
 have QBS:∀ d∈Go.Lib.decDigits b.toNat,d≠47:=fun d hd=>(Qmk _ d hd).2.2
 have hok:Qhu (QbY a b t)=true:=by
  unfold Qhu;rw [hd,QnU _ _ _ hno,QcG _ _ _ hno,QnU _ _ _ QBS,Qg7 a b t h,Bool.and_true,Bool.and_true];exact List.isPrefixOf_iff_prefix.2 (List.prefix_append _ _)
 have hF:Qm2 (QbY a b t)=a.toNat:=by unfold Qm2;rw [hd,Qea _ _ _ hno,(Qcj _ (by omega)).2]
 have hT:Qm0 (QbY a b t)=b.toNat:=by unfold Qm0;rw [hd,QcG _ _ _ hno,Qea _ _ _ QBS,(Qcj _ (by omega)).2]
 have hN:Qm1 (QbY a b t)=t.toNat:=by unfold Qm1;rw [hd,QcG _ _ _ hno,QcG _ _ _ QBS,(Qcj _ (by omega)).2]
 have he:Qce (QbY a b t)=0:=by
  unfold Qce;rw [if_neg (by rw [hok];decide),hF,hT,hN,hd,Qea _ _ _ hno,QcG _ _ _ hno,Qea _ _ _ QBS,QcG _ _ _ QBS]
  unfold Qdt;rw [(Qcj _ (by omega)).1,(Qcj _ (by omega)).1,(Qcj _ (by omega)).1,if_neg (by decide),Int.toNat_of_nonneg g1,Int.toNat_of_nonneg (by omega),Int.toNat_of_nonneg (by omega)]
  exact h
 refine ⟨he,?_,?_,?_⟩
 ·unfold QcX;rw [if_pos he,hF];exact Int.toNat_of_nonneg g1
 ·unfold QcW;rw [if_pos he,hT];exact Int.toNat_of_nonneg (by omega)
 ·unfold Qdu;rw [if_pos he,hN];exact Int.toNat_of_nonneg (by omega)
theorem QtR(a b t:Int)(h:Qdq a b t=0):Qc9 a b=0∧a<t∧QfV a b t=a∧QfU a b t=(if b<t-1 then b else t-1):=by
 have hh:=h;unfold Qdq at hh;split at hh
 ·exact absurd hh (by assumption)
 ·split at hh
  ·exact absurd hh (by decide)
  ·refine ⟨by omega,by omega,?_,?_⟩
   ·unfold QfV;rw [if_pos h]
   ·unfold QfU;rw [if_pos h]
theorem QtQ(a b t:Int)(h:Qdq a b t=0)(ht:t≤9007199254740991):QbW (QfV a b t) (QfU a b t) t=0:=by
 obtain ⟨h1,h2,h3,h4⟩:=QtR a b t h;obtain ⟨g1,g2,g3⟩:=Qco a b h1;rw [h3,h4];have hr:Qc9 a (if b<t-1 then b else t-1)=0:=by
  unfold Qc9;rw [if_neg];split<;>omega
 unfold QbW;rw [if_neg (by rw [hr];decide),if_neg (by split<;>omega)]
end
section
open Go.RowKit
theorem Qxy(w:World):w.ownsRow 0 379 2 (.slice none 0 0) 0 (Qau []):=World.ownsRow_nil _ _ _ _
end
section
open Go.RowKit
def Qg0(h p:List UInt8):Nat:=if QeR p=false∨Qen h=false then 2 else 0
theorem QhY(h p:List UInt8):QgE p h 0 0=Qg0 h p:=by
 unfold QgE Qg0;split
 ·rfl
 ·decide
def Qgg(h p f:List UInt8)(s:ByteArray):Int:=
 if Qg5 s≠0∨QmP s<(s.size:Int) then 400
 else if Qcz s≠p∨QcA s≠h then 404
 else if Qdq (QmR s) (QmQ s) (f.length:Int)≠0 then 416 else 206
def Qkt(f:List UInt8)(s:ByteArray):Int:=QfV (QmR s) (QmQ s) (f.length:Int)
def QiW(f:List UInt8)(s:ByteArray):Int:=QfU (QmR s) (QmQ s) (f.length:Int)
def Qnu(h p f:List UInt8)(s:ByteArray):List (List UInt8×List UInt8):=if Qgg h p f s=206 then [(Qag,QbY (Qkt f s) (QiW f s) (f.length:Int))] else []
def Qnt(h p f:List UInt8)(s:ByteArray):List UInt8:=if Qgg h p f s=206 then (f.take (QiW f s+1).toNat).drop (Qkt f s).toNat else []
def QoC(h p f:List UInt8)(s:ByteArray):List UInt8:=if Qg0 h p=0 then QmN (Qgg h p f s) (Qnu h p f s) (Qnt h p f s) else []
theorem Qlz(h p f:List UInt8)(s:ByteArray):Qgg h p f s=400∨Qgg h p f s=404∨Qgg h p f s=416∨Qgg h p f s=206:=by
 unfold Qgg;split
 ·exact .inl rfl
 ·split
  ·exact .inr (.inl rfl)
  ·split
   ·exact .inr (.inr (.inl rfl))
   ·exact .inr (.inr (.inr rfl))
theorem QoD(h p f:List UInt8)(s:ByteArray)(hc:Qgg h p f s=206):Qg5 s=0∧(s.size:Int)≤QmP s∧Qcz s=p∧QcA s=h∧Qdq (QmR s) (QmQ s) (f.length:Int)=0:=by
 unfold Qgg at hc;split at hc
 ·exact absurd hc (by decide)
 ·split at hc
  ·exact absurd hc (by decide)
  ·split at hc
   ·exact absurd hc (by decide)
   ·rename_i h1 h2 h3
    rw [not_or] at h1 h2;exact ⟨Decidable.not_not.1 h1.1,by omega,Decidable.not_not.1 h2.1,Decidable.not_not.1 h2.2,Decidable.not_not.1 h3⟩
theorem Qjn(h p f:List UInt8)(s:ByteArray)(hc:Qgg h p f s≠206):Qnu h p f s = []∧Qnt h p f s = []:=by
 unfold Qnu Qnt;rw [if_neg hc,if_neg hc];exact ⟨rfl,rfl⟩
theorem Qks(h p f:List UInt8)(s:ByteArray):(Qnt h p f s).length≤f.length:=by
 unfold Qnt;split
 ·rw [List.length_drop]
  have:=List.length_take_le (QiW f s+1).toNat f;have:=List.length_take_le' (QiW f s+1).toNat f;omega
 ·exact Nat.zero_le _
theorem Qv6(c:Int)(h:c=400∨c=404∨c=416∨c=206):Qci c=0:=by
 rcases h with rfl|rfl|rfl|rfl<;>decide
theorem Qkr(h p f:List UInt8)(s:ByteArray)(hf:f.length≤1000000):Qhd (Qgg h p f s) (Qnu h p f s)=0:=by
 unfold Qhd;rw [if_neg (by rw [Qv6 _ (Qlz h p f s)];decide)]
 by_cases hc:Qgg h p f s=206
 ·obtain ⟨-,-,-,-,h5⟩:=QoD h p f s hc
  have ht:=QtQ _ _ _ h5 (by omega)
  have hfe:=QpC _ _ _ ht;unfold Qnu;rw [if_pos hc,if_neg (by simp)]
  show (if Qag=Qbo then 22 else if QaI Qag (QbY (Qkt f s) (QiW f s) (f.length:Int))≠0 then QaI Qag (QbY (Qkt f s) (QiW f s) (f.length:Int)) else Qnr [])=0
  unfold Qkt QiW;rw [if_neg (by decide),hfe]
  rfl
 ·rw [(Qjn h p f s hc).1,if_neg (by simp)]
  rfl
theorem Qss(h p f:List UInt8)(s:ByteArray)(hf:f.length≤1000000)(he:Qg0 h p=0):QoC h p f s=QpU (Qgg h p f s) (Qnu h p f s) (Qnt h p f s):=by
 unfold QoC QmN;rw [if_pos he,if_pos (Qkr h p f s hf)]
end
section
open Go.RowKit
theorem QuC(s:ByteArray)(most:Int):(Qcf s most).length≤17:=by
 unfold Qcf;split
 ·refine Nat.le_trans (QrW _) ?_
  unfold QbX;rw [List.length_map,List.length_tail];have:=(Qdh s).2;omega
 ·exact Nat.zero_le _
end
section
open Go.RowKit
theorem Qwn(ls:List (List UInt8))(h:∀ x∈ls,x.length≤256):(QcK ls).length≤ls.length*258:=by
 induction ls with
 |nil=>exact Nat.le_refl _
 |cons x t ih=>
  have h1:=h x (List.mem_cons_self ..);have h2:=ih (fun y hy=>h y (List.mem_cons_of_mem _ hy))
  show (x++13 :: 10 :: QcK t).length≤(t.length+1)*258;rw [List.length_append,List.length_cons,List.length_cons];omega
theorem QuO(c:Int)(fs:List (List UInt8×List UInt8))(b:List UInt8)(h:Qhd c fs=0)(hn:b.length≤1000000):(QpU c fs b).length≤4400+b.length∧2≤(QpU c fs b).length:=by
 obtain ⟨g1,g2⟩:=Qgs c fs b.length h hn;have:=Qwn (QaB c fs b.length) (fun x hx=>(g1 x hx).2.2)
 unfold QpU;rw [List.length_append,List.length_cons,List.length_cons];omega
end
section
open Go.RowKit
theorem Qu1(h p f:List UInt8)(s:ByteArray)(hf:f.length≤1000000):(QoC h p f s).length≤4400+f.length:=by
 by_cases he:Qg0 h p=0
 ·rw [Qss h p f s hf he]
  have h1:=Qks h p f s;have h2:=(QuO _ _ (Qnt h p f s) (Qkr h p f s hf) (by omega)).1
  omega
 ·unfold QoC;rw [if_neg he];exact Nat.zero_le _
end
section
open Go.RowKit
abbrev Flt:=Int×Int×ByteArray
abbrev Evt:=Int×Int×Bool
def noF:Flt:=(0,0,⟨#[]⟩)
def Qd9(h p f s:ByteArray):ByteArray:=bs (QoC h.data.toList p.data.toList f.data.toList s)
def Ql3(h p f:ByteArray)(x:Flt)(s:ByteArray):ByteArray:=Qd9 h p f s
def Qgq(h p f:ByteArray)(x:Flt)(s:ByteArray):Bool:=false
def evK(h p f:ByteArray)(x:Flt)(s:ByteArray):Evt:=((s.size:Int),((Ql3 h p f x s).size:Int),Qgq h p f x s)
def QwE(b:Bool):Nat:=if b=true then 1 else 0
theorem QxX(h p f:ByteArray)(x:Flt)(s:ByteArray):Qgq h p f x s = !((Ql3 h p f x s).toList==(Qd9 h p f s).toList):=by
 simp [Qgq,Ql3]
theorem Qi9(h p f s:ByteArray)(hf:f.size≤1000000):(Qd9 h p f s).size≤4400+f.size:=by
 unfold Qd9;rw [QaC];have:=Qu1 h.data.toList p.data.toList f.data.toList s (by rw [Qab];exact hf)
 rw [Qab] at this;exact this
theorem QvN(h p f:ByteArray)(x:Flt)(s:ByteArray)(hf:f.size≤1000000):(Ql3 h p f x s).size≤4600+f.size+x.2.2.size:=by
 unfold Ql3;have h2:=Qi9 h p f s hf;omega
theorem QzI(h p f s:ByteArray):Ql3 h p f noF s=Qd9 h p f s:=rfl
theorem QlX(h p f s:ByteArray):Qgq h p f noF s=false:=rfl
def QpS(l:List Flt)(asks:List ByteArray):List Flt:=l.drop asks.length
def QoM(h p f:ByteArray):List Flt→List ByteArray→List Evt
 |_,[]=>[]
 |l,s :: t=>evK h p f (l.headD noF) s :: QoM h p f l.tail t
def QbU(l:List Evt):Nat:=l.countP (fun e=>e.2.2)
theorem QsU(h p f:ByteArray):∀ (asks:List ByteArray) (l:List Flt) (s:ByteArray),QoM h p f l (asks++[s])=QoM h p f l asks++[evK h p f ((QpS l asks).headD noF) s]:=by
 intro asks
 induction asks with
 |nil=>intro l s;rfl
 |cons a t ih=>
  intro l s;have h1:QpS l (a :: t)=QpS l.tail t:=by
   unfold QpS;rw [List.length_cons,List.drop_tail]
  show evK h p f (l.headD noF) a :: QoM h p f l.tail (t++[s])=evK h p f (l.headD noF) a :: QoM h p f l.tail t++[_];rw [ih,h1];rfl
theorem QnV(l:List Evt)(e:Evt):QbU (l++[e])=QbU l+QwE e.2.2:=by
 unfold QbU QwE;rw [List.countP_append]
 congr 1
 cases h:e.2.2<;>simp [h]
def Ql5(l:List Flt):List Value:=l.flatMap fun x=>[.int .u8 x.1,.int .i64 x.2.1,.string x.2.2]
def evs(l:List Evt):List Value:=l.flatMap fun e=>[.int .i64 e.1,.int .i64 e.2.1,.bool e.2.2]
theorem Qc2(l:List Flt):(Ql5 l).length=l.length*3:=by
 induction l with
 |nil=>rfl
 |cons x t ih=>
  unfold Ql5 at ih ⊢;rw [List.flatMap_cons,List.length_append,ih,List.length_cons];simp only [List.length_cons,List.length_nil];omega
theorem QqN(l:List Evt):(evs l).length=l.length*3:=by
 induction l with
 |nil=>rfl
 |cons x t ih=>
  unfold evs at ih ⊢;rw [List.flatMap_cons,List.length_append,ih,List.length_cons];simp only [List.length_cons,List.length_nil];omega
theorem QqO(a b:List Evt):evs (a++b)=evs a++evs b:=by simp [evs]
theorem Qo7(l:List Flt):∀ (j:Nat) (hj:j<l.length),(Ql5 l)[3*j]?=some (.int .u8 l[j].1)∧(Ql5 l)[3*j+1]?=some (.int .i64 l[j].2.1)∧(Ql5 l)[3*j+2]?=some (.string l[j].2.2):=by
 induction l with
 |nil=>intro j hj;simp at hj
 |cons x t ih=>
  intro j hj;cases j with
  |zero=>exact ⟨rfl,rfl,rfl⟩
  |succ j=>
   obtain ⟨a,b,c⟩:=ih j (by simpa using hj)
   refine ⟨?_,?_,?_⟩
   ·rw [show 3*(j+1)=3*j+3 by omega];exact a
   ·rw [show 3*(j+1)+1=3*j+1+3 by omega];exact b
   ·rw [show 3*(j+1)+2=3*j+2+3 by omega];exact c
end
section
open Go.RowKit
def Qyz(w:World)(a b:Value)(t t2:TypeId):World:=(w.alloc (.cells #[a,b] t)).alloc (.cells #[.int .i64 0,.int .i64 0] t2)
theorem Qut(w:World)(a b:Value)(t t2:TypeId):Below w.heap.size w (Qyz w a b t t2)∧(Qyz w a b t t2).heap[w.heap.size]?=some (.cells #[a,b] t (0,0))∧(Qyz w a b t t2).heap[w.heap.size+1]?=some (.cells #[.int .i64 0,.int .i64 0] t2 (0,0))∧(Qyz w a b t t2).heap.size=w.heap.size+1+1:=by
 refine ⟨Qaa (Qbq w a b t) (Qbq _ _ _ _),?_,?_,by unfold Qyz;simp⟩
 ·exact ((Qbq (w.alloc (.cells #[a,b] t)) (.int .i64 0) (.int .i64 0) t2).block w.heap.size (by simp)).trans (heap_alloc_new w _)
 ·have:=heap_alloc_new (w.alloc (.cells #[a,b] t)) (.cells #[.int .i64 0,.int .i64 0] t2)
  simpa [Qyz] using this
theorem Qnm(a b t:Int)(w:World)(ht0 : -9223372036854775807≤t)(ht:t≤9223372036854775807) :
  Calls Tryz.prog 258 #[.agg #[.int .i64 a,.int .i64 b],.int .i64 t] w fun e w'=>e = .returned (.tuple #[.agg #[.int .i64 (QfV a b t),.int .i64 (QfU a b t)],.int .i64 (Qdq a b t:Nat)])∧Below w.heap.size w w':=by
 have HC:=hid (fun w=>QbL a b w)
 obtain ⟨hB0,hr0,hk0,hs0⟩:=Qut w (.int .i64 a) (.int .i64 b) 67 67;unfold Qyz at hB0 hr0 hk0 hs0;have HB0:=hid hB0;have HR0:=hid hr0;have HK0:=hid hk0;have HS0:=hid hs0;obtain ⟨r0,r1,-,-⟩:=Qb9 hr0;clear hB0 hr0 hk0 hs0
 by_cases he:Qc9 a b=0
 case neg=>
  have h8:=(QhR a b he).1;have HA:Hid (Qdq a b t=8∧QfV a b t=0∧QfU a b t=0):=hid (by
   have:Qdq a b t=8:=by unfold Qdq;rw [if_pos he,h8]
   unfold QfV QfU;rw [this];exact ⟨rfl,rfl,rfl⟩)
  rw [h8] at HC;clear he h8;go_enter Tryz.func258,Tryz.ntmps258;go_wp2_with fail;refine (HC.out _).mono ?_;rintro e w1 ⟨rfl,hb1⟩;generalize ((w.alloc (.cells #[.int .i64 a,.int .i64 b] 67)).alloc (.cells #[.int .i64 0,.int .i64 0] 67))=W0 at HB0 HR0 HK0 HS0 hb1 r0 r1 ⊢;have hk1:w1.heap[w.heap.size+1]?=some (.cells #[.int .i64 0,.int .i64 0] 67 (0,0)):=(hb1.block _ (by have:=HS0.out;omega)).trans HK0.out
  obtain ⟨k0,k1,f0,f1⟩:=Qb9 hk1;have HK1:=hid hk1;have HB1:=hid (Qaa HB0.out hb1);clear hk1 hb1;go_wp2_with fail;refine QbG (b:=w.heap.size+1) (x:=.int .i64 0) (y:=.int .i64 0) rfl (Qbn _ _ _ _ _ (Qbf HK1.out _ _)) rfl rfl rfl ?_;refine ⟨?_,QaO HB1.out _ (by omega) _ _⟩
  rw [HA.out.1,HA.out.2.1,HA.out.2.2];rfl
 have hab:=Qco a b he;rw [he] at HC
 by_cases hf:t≤a
 ·have HA:Hid (Qdq a b t=8∧QfV a b t=0∧QfU a b t=0):=hid (by
   have:Qdq a b t=8:=by unfold Qdq;rw [if_neg (fun h=>h he),if_pos hf]
   unfold QfV QfU;rw [this];exact ⟨rfl,rfl,rfl⟩)
  have tf:decide (a≥t)=true:=decide_eq_true hf;clear he hf hab;go_enter Tryz.func258,Tryz.ntmps258;go_wp2_with fail;refine (HC.out _).mono ?_;rintro e w1 ⟨rfl,hb1⟩;generalize ((w.alloc (.cells #[.int .i64 a,.int .i64 b] 67)).alloc (.cells #[.int .i64 0,.int .i64 0] 67))=W0 at HB0 HR0 HK0 HS0 hb1 r0 r1 ⊢;have hk1:w1.heap[w.heap.size+1]?=some (.cells #[.int .i64 0,.int .i64 0] 67 (0,0)):=(hb1.block _ (by have:=HS0.out;omega)).trans HK0.out
  have hr1:w1.heap[w.heap.size]?=some (.cells #[.int .i64 a,.int .i64 b] 67 (0,0)):=(hb1.block _ (by have:=HS0.out;omega)).trans HR0.out
  clear r0 r1;obtain ⟨k0,k1,f0,f1⟩:=Qb9 hk1;obtain ⟨r0,r1,-,-⟩:=Qb9 hr1;have HK1:=hid hk1;have HB1:=hid (Qaa HB0.out hb1);clear hk1 hb1 hr1;go_wp2_with fail;refine QbG (b:=w.heap.size+1) (x:=.int .i64 0) (y:=.int .i64 0) rfl (Qbn _ _ _ _ _ (Qbf HK1.out _ _)) rfl rfl rfl ?_;refine ⟨?_,QaO HB1.out _ (by omega) _ _⟩
  rw [HA.out.1,HA.out.2.1,HA.out.2.2];rfl
 have tf:decide (a≥t)=false:=decide_eq_false hf;obtain ⟨B,hB⟩:∃ B,(if b<t-1 then b else t-1)=B:=⟨_,rfl⟩
 have HA:Hid (Qdq a b t=0∧QfV a b t=a∧QfU a b t=B):=hid (by
  have:Qdq a b t=0:=by unfold Qdq;rw [if_neg (fun h=>h he),if_neg hf]
  unfold QfV QfU;rw [if_pos this,if_pos this,hB];exact ⟨this,rfl,rfl⟩)
 have hmin:min b (t-1)=B:=by rw [←hB];split<;>omega
 have HM:=hid hmin;have tw:IntKind.i64.wrap (t-1)=t-1:=by rw [IntKind.wrap_i64];omega
 clear he hf hab hB hmin;go_enter Tryz.func258,Tryz.ntmps258;go_wp2_with fail;refine (HC.out _).mono ?_;rintro e w1 ⟨rfl,hb1⟩;generalize ((w.alloc (.cells #[.int .i64 a,.int .i64 b] 67)).alloc (.cells #[.int .i64 0,.int .i64 0] 67))=W0 at HB0 HR0 HK0 HS0 hb1 r0 r1 ⊢;have hk1:w1.heap[w.heap.size+1]?=some (.cells #[.int .i64 0,.int .i64 0] 67 (0,0)):=(hb1.block _ (by have:=HS0.out;omega)).trans HK0.out
 have hr1:w1.heap[w.heap.size]?=some (.cells #[.int .i64 a,.int .i64 b] 67 (0,0)):=(hb1.block _ (by have:=HS0.out;omega)).trans HR0.out
 clear r0 r1;obtain ⟨k0,k1,f0,f1⟩:=Qb9 hk1;obtain ⟨r0,r1,g0,g1⟩:=Qb9 hr1;have HK1:=hid hk1;have HB1:=hid (Qaa HB0.out hb1);clear hk1 hb1 hr1;go_wp2_with fail;have hk2:∀ V,(w1.setCell ⟨w.heap.size,1,none⟩ V).heap[w.heap.size+1]?=some (.cells #[.int .i64 0,.int .i64 0] 67 (0,0)):=fun V=>(Below.heap_setCell _ _ _ _ (by simp)).trans HK1.out
 refine QbG (b:=w.heap.size+1) (x:=.int .i64 a) rfl (Qbn _ _ _ _ _ (Qbf (hk2 _) _ _)) rfl rfl rfl ?_;refine ⟨?_,QaO (HB1.out.setCell (Nat.le_refl _) _) _ (by omega) _ _⟩
 rw [HA.out.1,HA.out.2.1,HA.out.2.2,←HM.out];rfl
end
section
open Go.RowKit
theorem QzM(w:World)(x y z:Value)(t:TypeId):(w.alloc (.cells #[x,y,z] t)).cell? ⟨w.heap.size,0,none⟩=some x∧(w.alloc (.cells #[x,y,z] t)).cell? ⟨w.heap.size,1,none⟩=some y∧(w.alloc (.cells #[x,y,z] t)).cell? ⟨w.heap.size,2,none⟩=some z:=
 let ⟨h0,h1,h2,_⟩:=Qan (heap_alloc_new w (.cells #[x,y,z] t));⟨h0,h1,h2⟩
theorem Qjc(a b t:Int)(w:World) :
  Calls Tryz.prog 248 #[.agg #[.int .i64 a,.int .i64 b,.int .i64 t]] w fun e w'=>e = .returned (.int .i64 (QbW a b t:Nat))∧Below w.heap.size w w':=by
 have HC:=hid (fun w=>QbL a b w)
 obtain ⟨x0,x1,x2⟩:=QzM w (.int .i64 a) (.int .i64 b) (.int .i64 t) 385;have hB0:=Qbz w (.int .i64 a) (.int .i64 b) (.int .i64 t) 385;have HB0:=hid hB0;have hl:w.heap.size<(w.alloc (.cells #[.int .i64 a,.int .i64 b,.int .i64 t] 385)).heap.size:=by simp
 have HL:=hid hl;clear hB0 hl
 by_cases he:Qc9 a b=0
 case neg=>
  have h8:=(QhR a b he).1;have HA:Hid (QbW a b t=8):=hid (by unfold QbW;rw [if_pos he,h8])
  rw [h8] at HC;clear he h8;go_enter Tryz.func248,Tryz.ntmps248;go_wp2_with fail;refine (HC.out _).mono ?_;rintro e w1 ⟨rfl,hb1⟩;go_wp2_with fail;go_ret;exact ⟨by rw [HA.out];rfl,Qaa HB0.out hb1⟩
 rw [he] at HC
 by_cases h1:t≤b
 ·have HA:Hid (QbW a b t=8):=hid (by unfold QbW;rw [if_neg (fun h=>h he),if_pos (.inl h1)])
  have t1:decide (t≤b)=true:=decide_eq_true h1;clear he h1;go_enter Tryz.func248,Tryz.ntmps248;go_wp2_with fail;refine (HC.out _).mono ?_;rintro e w1 ⟨rfl,hb1⟩;have y1:=(hb1.cell (p:=⟨w.heap.size,1,none⟩) HL.out).trans x1;have y2:=(hb1.cell (p:=⟨w.heap.size,2,none⟩) HL.out).trans x2;have HB1:=hid (Qaa HB0.out hb1);clear hb1 x0 x1 x2;go_wp2_with fail;go_ret;exact ⟨by rw [HA.out];rfl,HB1.out⟩
 have t1:decide (t≤b)=false:=decide_eq_false h1;obtain ⟨r,hr⟩:∃ r,decide (t>9007199254740991)=r:=⟨_,rfl⟩;have HA:Hid (QbW a b t=if r=true then 8 else 0):=hid (by
  unfold QbW;rw [if_neg (fun h=>h he)]
  cases r with
  |true=>rw [if_pos (.inr (of_decide_eq_true hr)),if_pos rfl]
  |false=>rw [if_neg (fun h=>h.elim h1 (of_decide_eq_false hr)),if_neg (by decide)])
 clear he h1;cases r
 all_goals
  go_enter Tryz.func248,Tryz.ntmps248;go_wp2_with fail;refine (HC.out _).mono ?_;rintro e w1 ⟨rfl,hb1⟩;have y1:=(hb1.cell (p:=⟨w.heap.size,1,none⟩) HL.out).trans x1;have y2:=(hb1.cell (p:=⟨w.heap.size,2,none⟩) HL.out).trans x2;have HB1:=hid (Qaa HB0.out hb1);clear hb1 x0 x1 x2;go_wp2_with fail;go_ret;exact ⟨by rw [HA.out];rfl,HB1.out⟩
theorem Qrr(a b t:Int)(h:QbW a b t=0)(X Y:ByteArray)(hX:bs (Qe3 a b)=X)(hY:bs (Qfk t)=Y):((⟨#[98,121,116,101,115,32]⟩++X)++⟨#[47]⟩)++Y=bs (QbY a b t):=by
 unfold QbY;rw [if_pos h,←hX,←hY,show (⟨#[98,121,116,101,115,32]⟩:ByteArray)=bs QcD from rfl,show (⟨#[47]⟩:ByteArray)=bs [47] from rfl,QdD,QdD,QdD];simp
theorem Qnk(a b t:Int)(w:World)(hE:EnvF w) :
  Calls Tryz.prog 427 #[.agg #[.int .i64 a,.int .i64 b],.int .i64 t] w fun e w'=>e = .returned (.tuple #[.string (bs (QbY a b t)),.int .i64 (QbW a b t:Nat)])∧Below w.heap.size w w':=by
 have HW:=hid (fun w=>Qjc a b t w)
 obtain ⟨r0,r1⟩:=QwQ w (.int .i64 a) (.int .i64 b) 67;have HB0:=hid (Qbq w (.int .i64 a) (.int .i64 b) 67)
 by_cases he:QbW a b t=0
 case neg=>
  have HA:Hid (QbY a b t = []):=hid (by unfold QbY;rw [if_neg he])
  have tz:((QbW a b t:Int) != 0)=true:=by rw [bne_iff_ne];omega
  generalize QbW a b t=E at HW tz ⊢;clear he;go_enter Tryz.func427,Tryz.ntmps427;go_wp2_with fail;refine (HW.out _).mono ?_;rintro e w1 ⟨rfl,hb1⟩;have HB1:=hid (Qaa HB0.out (Qaa (Qbz _ _ _ _ _) hb1));clear hb1;go_wp2_with fail;go_ret2;exact ⟨by rw [HA.out];rfl,HB1.out⟩
 obtain ⟨g1,g2,g3⟩:=Qg8 a b t he;obtain ⟨q1,q2,q3⟩:=Qco a b g1;have HX:=hid (fun w hE=>QhQ a b w hE (by omega) (by omega) (by omega) (by omega))
 have HD:=hid (fun w hE=>QcO t (by omega) (by omega) w hE)
 have hxl:=Qht a b (by omega) (by omega)
 have hdl:=QdX t (by omega)
 obtain ⟨X,hX⟩:∃ X,bs (Qe3 a b)=X:=⟨_,rfl⟩;obtain ⟨Y,hY⟩:∃ Y,bs (Qfk t)=Y:=⟨_,rfl⟩;have HR:=hid (Qrr a b t he X Y hX hY);have hXs:X.size≤41:=by rw [←hX,QaC];exact hxl
 have hYs:Y.size≤20:=by rw [←hY,QaC];exact hdl
 rw [hX] at HX;rw [hY] at HD;have p1:=fun w=>run_string_add_sum (P:=Tryz.prog) w ⟨#[98,121,116,101,115,32]⟩ X (by show 6+_≤_;omega)
 have p2:=fun w=>run_string_add_sum (P:=Tryz.prog) w (⟨#[98,121,116,101,115,32]⟩++X) ⟨#[47]⟩ (by rw [ByteArray.size_append];show 6+_+1≤_;omega)
 have p3:=fun w=>run_string_add_sum (P:=Tryz.prog) w ((⟨#[98,121,116,101,115,32]⟩++X)++⟨#[47]⟩) Y (by rw [ByteArray.size_append,ByteArray.size_append];show 6+_+1+_≤_;omega)
 rw [he] at HW ⊢;have HE:=hid hE;clear he g1 g2 g3 q1 q2 q3 hxl hdl hX hY hE;go_enter Tryz.func427,Tryz.ntmps427;go_wp2_with fail;refine (HW.out _).mono ?_;rintro e w1 ⟨rfl,hb1⟩;have hsz:(w.alloc (.cells #[.int .i64 a,.int .i64 b] 67)).heap.size=w.heap.size+1:=by simp
 obtain ⟨y0,y1,y2⟩:=QzM (w.alloc (.cells #[.int .i64 a,.int .i64 b] 67)) (.int .i64 a) (.int .i64 b) (.int .i64 t) 385;rw [hsz] at y0 y1 y2;have hl:w.heap.size+1<((w.alloc (.cells #[.int .i64 a,.int .i64 b] 67)).alloc (.cells #[.int .i64 a,.int .i64 b,.int .i64 t] 385)).heap.size:=by simp
 have z0:=(hb1.cell (p:=⟨w.heap.size+1,0,none⟩) hl).trans y0;have z1:=(hb1.cell (p:=⟨w.heap.size+1,1,none⟩) hl).trans y1;have z2:=(hb1.cell (p:=⟨w.heap.size+1,2,none⟩) hl).trans y2;have hbl:w.heap.size+1<w1.heap.size:=Nat.lt_of_lt_of_le hl hb1.size;have HB1:=hid (Qaa HB0.out (Qaa (Qbz _ _ _ _ _) hb1));have HE1:=hid (HE.out.below HB1.out);clear hb1 y0 y1 y2 hl hsz r0 r1;go_wp2_with fail;have k0:∀ p:BelowOf w1,p.world.cell? ⟨w.heap.size+1,0,none⟩=some (.int .i64 a):=fun p=>QaN p hbl z0
 have k1:∀ p:BelowOf w1,p.world.cell? ⟨w.heap.size+1,1,none⟩=some (.int .i64 b):=fun p=>QaN p hbl z1
 have k2:∀ p:BelowOf w1,p.world.cell? ⟨w.heap.size+1,2,none⟩=some (.int .i64 t):=fun p=>QaN p hbl z2
 clear z0 z1 z2;refine Qac (by kernel_rfl) (by kernel_rfl) ?_
 repeat (go_big_quiet_step (fail))
 go_big_quiet_step ((go_at_call 210;exact Qav (HX.out _ (HE1.out.below (BelowOf.below _)))))
 repeat (go_big_quiet_step (fail))
 go_big_quiet_step ((go_at_call 243;exact Qav (HD.out _ (HE1.out.below (BelowOf.below _)))))
 repeat (go_big_quiet_step (fail))
 refine wpQuiet_nil ?_;intro W1 hw';have hb2:=QaM hw';clear hw';go_wp2_with fail;go_ret2;exact ⟨by rw [←HR.out];rfl,Qaa HB1.out hb2⟩
end
section
open Go.RowKit
theorem Qhm(w:World)(x y z:Value):Below w.heap.size w (w.alloc (.cells #[x,y,z] 30)):=(Below.refl _ _).alloc (Nat.le_refl _) _
theorem QgJ(h p f:ByteArray)(w:World) :
  Calls Tryz.prog 18 #[.agg #[.string h,.string p,.string f]] w fun e w'=>e = .returned (.int .i64 (Qg0 h.data.toList p.data.toList:Nat))∧Below w.heap.size w w':=by
 have HC:=hid (fun w=>Qdl p h 0 0 w)
 rw [QhY] at HC;generalize Qg0 h.data.toList p.data.toList=E at HC ⊢;obtain ⟨x0,x1,x2⟩:=QzM w (.string h) (.string p) (.string f) 30;have HB0:=hid (Qhm w (.string h) (.string p) (.string f));go_enter Tryz.func18,Tryz.ntmps18;go_wp2_with fail;refine (HC.out _).mono ?_;rintro e w1 ⟨rfl,hb1⟩;go_wp2_with fail;go_ret;exact ⟨rfl,Qaa HB0.out hb1⟩
theorem Qkj(c:Int)(w:World) :
  Calls Tryz.prog 425 #[.int .i64 c] w fun e w'=>e = .returned (.agg #[.int .i64 c,.slice none 0 0,.string ⟨#[]⟩])∧Below w.heap.size w w':=by
 obtain ⟨k0,k1,k2,f0,f1,f2⟩:=Qan (heap_alloc_new w (.cells #[.int .i64 0,.slice none 0 0,.string ⟨#[]⟩] 328));go_enter Tryz.func425,Tryz.ntmps425;go_wp2_with fail;refine QdH (A:=⟨w.heap.size,0,none⟩) rfl (QdP _ _ _ _ _ _ (heap_alloc_new w _)) rfl rfl ?_;exact ⟨rfl,Qbz _ _ _ _ _⟩
theorem Qxs(w:World)(x y:Value)(T:TypeId):(w.alloc (.cells #[x,y] T)).ownsRow w.heap.size T 2 (.slice (some ⟨w.heap.size,0,none⟩) 1 1) 1 [x,y]:=
 ⟨rfl,.inr ⟨w.heap.size,1,#[x,y],rfl,Nat.le_refl _,heap_alloc_new w _,Nat.le_refl _,by unfold maxLen;decide,rfl,rfl⟩⟩
theorem Qp3(w:World)(g:Nat)(hg:g=w.heap.size)(x y:Value)(T:TypeId):(w.alloc (.cells #[x,y] T)).ownsRow 0 T 2 (.slice (some ⟨g,0,none⟩) 1 1) 1 [x,y]:=by
 subst hg;exact Qgf (Qxs w x y T) (Nat.zero_le _)
def Qpq(c:Int)(fs:List (List UInt8×List UInt8))(x:ByteArray)(T:TypeId)(w:World)(e:Ending)(w':World):Prop:=
 ∃ a cp,e = .returned (.agg #[.int .i64 c,.slice a fs.length cp,.string x])∧(∃ B,w'.ownsRow B T 2 (.slice a fs.length cp) fs.length (Qau fs))∧Below w.heap.size w w'
theorem Qp0(a b:Int)(f:ByteArray)(w:World)(hE:EnvF w)(h0:0≤a)(h1:a≤b)(h2:b<(f.size:Int))(hf:f.size≤1000000) :
  Calls Tryz.prog 426 #[.agg #[.int .i64 a,.int .i64 b,.string f]] w (Qpq 206 [(Qag,QbY a b (f.size:Int))] (f.extract a.toNat (b+1).toNat) 379 w):=by
 have HT:=hid (fun w hE=>Qnk a b (f.size:Int) w hE)
 obtain ⟨V,hV⟩:∃ V,bs (QbY a b (f.size:Int))=V:=⟨_,rfl⟩;rw [hV] at HT;have HV:=hid hV;generalize QbW a b (f.size:Int)=E at HT;obtain ⟨x0,x1,x2⟩:=QzM w (.int .i64 a) (.int .i64 b) (.string f) 411;have hB0:=Qbz w (.int .i64 a) (.int .i64 b) (.string f) 411;have hB1:=Qaa hB0 (Qbz _ (.int .i64 0) (.slice none 0 0) (.string ⟨#[]⟩) 328);have hsz:((w.alloc (.cells #[.int .i64 a,.int .i64 b,.string f] 411)).alloc (.cells #[.int .i64 0,.slice none 0 0,.string ⟨#[]⟩] 328)).heap.size=w.heap.size+1+1:=by simp
 have hk0:=heap_alloc2_new w (.cells #[.int .i64 a,.int .i64 b,.string f] 411) (.cells #[.int .i64 0,.slice none 0 0,.string ⟨#[]⟩] 328);have hp0:=((Qbz (w.alloc (.cells #[.int .i64 a,.int .i64 b,.string f] 411)) (.int .i64 0) (.slice none 0 0) (.string ⟨#[]⟩) 328).block w.heap.size (by simp)).trans (heap_alloc_new w _)
 have HB1:=hid hB1;have HE1:=hid (hE.below hB1);have HK0:=hid hk0;have HP0:=hid hp0;have HSZ:=hid hsz;clear hB0 hB1 hk0 hp0 hsz x0 x1 x2 hE hV;go_enter Tryz.func426,Tryz.ntmps426;go_wp2_with fail;generalize ((w.alloc (.cells #[.int .i64 a,.int .i64 b,.string f] 411)).alloc (.cells #[.int .i64 0,.slice none 0 0,.string ⟨#[]⟩] 328))=W0 at HB1 HE1 HK0 HP0 HSZ ⊢;obtain ⟨p0,p1,p2,-,-,-⟩:=Qan HP0.out;go_wp2_with fail;refine (HT.out _ HE1.out).mono ?_;rintro e w1 ⟨rfl,hb1⟩;have hp1:=(hb1.block w.heap.size (by have:=HSZ.out;omega)).trans HP0.out
 have hk1:=(hb1.block (w.heap.size+1) (by have:=HSZ.out;omega)).trans HK0.out
 clear p0 p1 p2;obtain ⟨p0,p1,p2,-,-,-⟩:=Qan hp1;obtain ⟨k0,k1,k2,f0,f1,f2⟩:=Qan hk1;have HK1:=hid hk1;have HB2:=hid (Qaa HB1.out hb1);have hs1:w.heap.size+1<w1.heap.size:=by have:=hb1.size;have:=HSZ.out;omega
 have hs2:w.heap.size<w1.heap.size:=by omega
 clear hp1 hk1 hb1 HT HE1;go_wp2_with fail;refine QdH (A:=⟨w.heap.size+1,0,none⟩) rfl (QdP _ _ _ _ _ _ ((heap_alloc_old _ _ (by simp;omega)).trans (Qds HK1.out _ _ _))) rfl rfl ?_
 refine ⟨_,_,rfl,⟨0,?_⟩,?_⟩
 ·have:=Qp3 (((w1.setCell ⟨w.heap.size+1,0,none⟩ (.int .i64 206)).setCell ⟨w.heap.size+1,1,none⟩ (.slice (some ⟨w1.heap.size,0,none⟩) 1 1)).setCell ⟨w.heap.size+1,2,none⟩ (.string (f.extract a.toNat (b+1).toNat))) w1.heap.size (by simp) (.string (bs Qag)) (.string (bs (QbY a b (f.size:Int)))) 379
  rw [HV.out] at this;have e:Qau [(Qag,QbY a b (f.size:Int))] = [.string (bs Qag),.string V]:=by rw [←HV.out];rfl
  rw [e];exact this
 ·exact (Qcm HB2.out _ (by omega) _ _ _).alloc (by have:=HB2.out.size;simp;omega) _
def QpI(h p f s:ByteArray):Value:=if Qgg h.data.toList p.data.toList f.data.toList s=206 then .iface 411 (.agg #[.int .i64 (Qkt f.data.toList s),.int .i64 (QiW f.data.toList s),.string f]) else .iface 407 (.int .i64 (Qgg h.data.toList p.data.toList f.data.toList s))
theorem Qns(h p f s:ByteArray)(w:World)(hE:EnvF w)(hs:s.size≤1000000)(hf:f.size≤1000000) :
  Calls Tryz.prog 220 #[.agg #[.string h,.string p,.string f],.string s] w fun e w'=>e = .returned (QpI h p f s)∧Below w.heap.size w w':=by
 have HA:=hid (fun w hE=>QmC s w hs hE)
 have hB0:=Qhm w (.string h) (.string p) (.string f);have HE0:=hid (hE.below hB0);have HB0:=hid hB0;have HP0:=hid (heap_alloc_new w (.cells #[.string h,.string p,.string f] 30));have hsz:(w.alloc (.cells #[.string h,.string p,.string f] 30)).heap.size=w.heap.size+1:=by simp
 have HSZ:=hid hsz;unfold Qyw at HA;have hn0:Qg5 s≠0→QmP s=0:=fun hh=>(Qyv s hh).2.2.2.2
 have hnb:Qg5 s=0→0<QmP s∧QmP s≤(s.size:Int):=fun hh=>let ⟨_,h1,h2,_⟩:=Qt8 s hh;⟨h1,h2⟩
 obtain ⟨P,hP⟩:∃ P,bs (Qcz s)=P:=⟨_,rfl⟩;obtain ⟨Q,hQ⟩:∃ Q,bs (QcA s)=Q:=⟨_,rfl⟩;obtain ⟨a,ha⟩:∃ a,QmR s=a:=⟨_,rfl⟩;obtain ⟨b,hb⟩:∃ b,QmQ s=b:=⟨_,rfl⟩;obtain ⟨n,hn⟩:∃ n,QmP s=n:=⟨_,rfl⟩;obtain ⟨E,hE1⟩:∃ E,Qg5 s=E:=⟨_,rfl⟩;have hPd:Qcz s=P.data.toList:=by rw [←hP,Qaj]
 have hQd:QcA s=Q.data.toList:=by rw [←hQ,Qaj]
 obtain ⟨C,hC⟩:∃ C,Qgg h.data.toList p.data.toList f.data.toList s=C:=⟨_,rfl⟩;have hCC:C=if E≠0∨n<(s.size:Int) then 400 else if P.data.toList≠p.data.toList∨Q.data.toList≠h.data.toList then 404 else if Qdq a b (f.size:Int)≠0 then 416 else 206:=by
  rw [←hC];unfold Qgg;rw [hE1,hn,hPd,hQd,ha,hb,Qab]
 have hV:QpI h p f s=if C=206 then .iface 411 (.agg #[.int .i64 (QfV a b (f.size:Int)),.int .i64 (QfU a b (f.size:Int)),.string f]) else .iface 407 (.int .i64 C):=by
  unfold QpI Qkt QiW;rw [hC,ha,hb,Qab]
 obtain ⟨V,hVV⟩:∃ V,QpI h p f s=V:=⟨_,rfl⟩;rw [hVV] at hV ⊢;have HV:=hid hV;rw [hP,hQ,ha,hb,hn,hE1] at HA;have HCC:=hid hCC;clear hE hP hQ hPd hQd hC hCC hV hVV hB0 hsz hn0 hnb
 by_cases h1:E=0
 case neg=>
  have HR:Hid (C=400):=hid (by rw [HCC.out,if_pos (.inl h1)])
  have tz:((E:Int) != 0)=true:=by rw [bne_iff_ne];omega
  clear h1 hE1 hn ha hb;go_enter Tryz.func220,Tryz.ntmps220;go_wp2_with fail;refine (HA.out _ HE0.out).mono ?_;rintro e w1 ⟨rfl,hb1⟩;have hp1:=(hb1.block w.heap.size (by have:=HSZ.out;omega)).trans HP0.out
  have HB1:=hid (Qaa HB0.out hb1);have hs1:w.heap.size<w1.heap.size:=by have:=hb1.size;have:=HSZ.out;omega
  obtain ⟨o0,o1,o2,-,-,-⟩:=Qan hp1;obtain ⟨q0,q1,q2,q3⟩:=QwP w1 (.string P) (.string Q) (.int .i64 a) (.int .i64 b) 69;clear hp1 hb1 HE0 HP0;go_wp2_with fail;go_ret;exact ⟨by rw [HV.out,HR.out];rfl,HB1.out.alloc HB1.out.size _⟩
 subst h1
 by_cases h2:n<(s.size:Int)
 ·have HR:Hid (C=400):=hid (by rw [HCC.out,if_pos (.inr h2)])
  have t2:decide (n<(s.size:Int))=true:=decide_eq_true h2;clear h2 hE1 hn ha hb;go_enter Tryz.func220,Tryz.ntmps220;go_wp2_with fail;refine (HA.out _ HE0.out).mono ?_;rintro e w1 ⟨rfl,hb1⟩;have hp1:=(hb1.block w.heap.size (by have:=HSZ.out;omega)).trans HP0.out
  have HB1:=hid (Qaa HB0.out hb1);have hs1:w.heap.size<w1.heap.size:=by have:=hb1.size;have:=HSZ.out;omega
  obtain ⟨o0,o1,o2,-,-,-⟩:=Qan hp1;obtain ⟨q0,q1,q2,q3⟩:=QwP w1 (.string P) (.string Q) (.int .i64 a) (.int .i64 b) 69;clear hp1 hb1 HE0 HP0;go_wp2_with fail;go_ret;exact ⟨by rw [HV.out,HR.out];rfl,HB1.out.alloc HB1.out.size _⟩
 have t2:decide (n<(s.size:Int))=false:=decide_eq_false h2
 by_cases h3:P.data.toList=p.data.toList
 case neg=>
  have HR:Hid (C=404):=hid (by rw [HCC.out,if_neg (fun e=>e.elim (fun e=>e rfl) h2),if_pos (.inl h3)])
  have t3:¬P.toList=p.toList:=by rw [ByteArray.toList_eq,ByteArray.toList_eq];exact h3
  clear h2 h3 hE1 hn ha hb;go_enter Tryz.func220,Tryz.ntmps220;go_wp2_with fail;refine (HA.out _ HE0.out).mono ?_;rintro e w1 ⟨rfl,hb1⟩;have hp1:=(hb1.block w.heap.size (by have:=HSZ.out;omega)).trans HP0.out
  have HB1:=hid (Qaa HB0.out hb1);have hs1:w.heap.size<w1.heap.size:=by have:=hb1.size;have:=HSZ.out;omega
  obtain ⟨o0,o1,o2,-,-,-⟩:=Qan hp1;obtain ⟨q0,q1,q2,q3⟩:=QwP w1 (.string P) (.string Q) (.int .i64 a) (.int .i64 b) 69;clear hp1 hb1 HE0 HP0;go_wp2_with fail;go_ret;exact ⟨by rw [HV.out,HR.out];rfl,HB1.out.alloc HB1.out.size _⟩
 have t3:P.toList=p.toList:=by rw [ByteArray.toList_eq,ByteArray.toList_eq];exact h3
 by_cases h4:Q.data.toList=h.data.toList
 case neg=>
  have HR:Hid (C=404):=hid (by rw [HCC.out,if_neg (fun e=>e.elim (fun e=>e rfl) h2),if_pos (.inr h4)])
  have t4:¬Q.toList=h.toList:=by rw [ByteArray.toList_eq,ByteArray.toList_eq];exact h4
  have t4b:(Q.toList==h.toList)=false:=by rw [beq_eq_false_iff_ne];exact t4
  clear h2 h3 h4 hE1 hn ha hb;go_enter Tryz.func220,Tryz.ntmps220;go_wp2_with fail;refine (HA.out _ HE0.out).mono ?_;rintro e w1 ⟨rfl,hb1⟩;have hp1:=(hb1.block w.heap.size (by have:=HSZ.out;omega)).trans HP0.out
  have HB1:=hid (Qaa HB0.out hb1);have hs1:w.heap.size<w1.heap.size:=by have:=hb1.size;have:=HSZ.out;omega
  obtain ⟨o0,o1,o2,-,-,-⟩:=Qan hp1;obtain ⟨q0,q1,q2,q3⟩:=QwP w1 (.string P) (.string Q) (.int .i64 a) (.int .i64 b) 69;clear hp1 hb1 HE0 HP0;go_wp2_with fail;go_ret;exact ⟨by rw [HV.out,HR.out];rfl,HB1.out.alloc HB1.out.size _⟩
 have t4:Q.toList=h.toList:=by rw [ByteArray.toList_eq,ByteArray.toList_eq];exact h4
 have HCl:=hid (fun w=>Qnm a b (f.size:Int) w (by omega) (by omega))
 obtain ⟨K,hK⟩:∃ K,Qdq a b (f.size:Int)=K:=⟨_,rfl⟩;have HCK:Hid (C=if K≠0 then 416 else 206):=hid (by
  rw [HCC.out,if_neg (fun e=>e.elim (fun e=>e rfl) h2),if_neg (fun e=>e.elim (fun e=>e h3) (fun e=>e h4)),hK])
 rw [hK] at HCl;generalize QfV a b (f.size:Int)=A at HCl HV;generalize QfU a b (f.size:Int)=B at HCl HV
 by_cases h5:K=0
 case neg=>
  have HR:Hid (C=416):=hid (by rw [HCK.out,if_pos h5])
  have tz:((K:Int) != 0)=true:=by rw [bne_iff_ne];omega
  clear h2 h3 h4 h5 hK hE1 hn ha hb;go_enter Tryz.func220,Tryz.ntmps220;go_wp2_with fail;refine (HA.out _ HE0.out).mono ?_;rintro e w1 ⟨rfl,hb1⟩;have hp1:=(hb1.block w.heap.size (by have:=HSZ.out;omega)).trans HP0.out
  have HB1:=hid (Qaa HB0.out hb1);have hs1:w.heap.size<w1.heap.size:=by have:=hb1.size;have:=HSZ.out;omega
  obtain ⟨o0,o1,o2,-,-,-⟩:=Qan hp1;obtain ⟨q0,q1,q2,q3⟩:=QwP w1 (.string P) (.string Q) (.int .i64 a) (.int .i64 b) 69;clear hp1 hb1 HE0 HP0;go_wp2_with fail;refine (HCl.out _).mono ?_;rintro e w2 ⟨rfl,hb2⟩;have HB2:=hid (Qaa HB1.out (Qaa (Qbp _ _ _ _ _ _) hb2));clear hb2;go_wp2_with fail;go_ret;exact ⟨by rw [HV.out,HR.out];rfl,HB2.out.alloc HB2.out.size _⟩
 subst h5;have HR:Hid (C=206):=hid (by rw [HCK.out,if_neg (fun e=>e rfl)])
 clear h2 h3 h4 hK hE1 hn ha hb;go_enter Tryz.func220,Tryz.ntmps220;go_wp2_with fail;refine (HA.out _ HE0.out).mono ?_;rintro e w1 ⟨rfl,hb1⟩;have hp1:=(hb1.block w.heap.size (by have:=HSZ.out;omega)).trans HP0.out
 have HB1:=hid (Qaa HB0.out hb1);have hs1:w.heap.size<w1.heap.size:=by have:=hb1.size;have:=HSZ.out;omega
 obtain ⟨o0,o1,o2,-,-,-⟩:=Qan hp1;obtain ⟨q0,q1,q2,q3⟩:=QwP w1 (.string P) (.string Q) (.int .i64 a) (.int .i64 b) 69;clear hp1 hb1 HE0 HP0;go_wp2_with fail;refine (HCl.out _).mono ?_;rintro e w2 ⟨rfl,hb2⟩;have hx:w.heap.size<(w1.alloc (.cells #[.string P,.string Q,.int .i64 a,.int .i64 b] 69)).heap.size:=by simp;omega
 have o2':=(hb2.cell (p:=⟨w.heap.size,2,none⟩) hx).trans (((Qbp w1 (.string P) (.string Q) (.int .i64 a) (.int .i64 b) 69).cell (p:=⟨w.heap.size,2,none⟩) hs1).trans o2);have HB2:=hid (Qaa HB1.out (Qaa (Qbp _ _ _ _ _ _) hb2));have hs2:w.heap.size<w2.heap.size:=Nat.lt_of_lt_of_le hx hb2.size;obtain ⟨k0,k1⟩:=QwQ w2 (.int .i64 A) (.int .i64 B) 67;clear hb2 hx o0 o1 o2 q0 q1 q2 q3;go_wp2_with fail;go_ret;exact ⟨by rw [HV.out,HR.out];rfl,HB2.out.alloc HB2.out.size _⟩
end
end Go.Proofs.YtilaebjndadkhaaGreatDoor
