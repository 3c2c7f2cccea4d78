/- What parts of the program compute: packed for TopReach. Conditions: none. -/
import Derived.Test.YtilaebjndadkhaaGreatDoorPz9
set_option linter.all false
set_option maxRecDepth 100000
set_option maxHeartbeats 8000000
open Go.Lib (hid)
namespace Go.Proofs.YtilaebjndadkhaaGreatDoor
section
open Go.RowKit
theorem QnA(i o n r m:Nat)(t:ByteArray)(h0:0<r)(h1:o+n≤t.size)(h2:m≤2048)(h3:n≤65536)(hs:t.size≤1000000000)(w:World) :
  Calls Tryz.prog 80 #[.agg #[.int .u64 (i:Nat),.int .u64 (o:Nat),.int .u32 (n:Nat),.int .u32 (r:Nat)],.int .u64 (m:Nat),.string t] w fun e w'=>e = .returned (.int .i64 0)∧Below w.heap.size w w':=by
 obtain ⟨c0,c1,c2,c3⟩:=QcN w (.int .u64 (i:Nat)) (.int .u64 (o:Nat)) (.int .u32 (n:Nat)) (.int .u32 (r:Nat)) 86;have HB:=hid (QaJ w (.int .u64 (i:Nat)) (.int .u64 (o:Nat)) (.int .u32 (n:Nat)) (.int .u32 (r:Nat)) 86);have hw0:IntKind.u64.wrap (n:Int)=(n:Int):=by rw [IntKind.wrap_u64];omega
 have hw2:IntKind.u64.wrap (t.size:Int)=(t.size:Int):=by rw [IntKind.wrap_u64];omega
 obtain ⟨q,hq⟩:∃ q,o+n=q:=⟨_,rfl⟩;have hw1:IntKind.u64.wrap ((o:Int)+(n:Int))=(q:Int):=by rw [IntKind.wrap_u64];omega
 have t0:((r:Int)==0)=false:=by rw [beq_eq_false_iff_ne];omega
 have t1:decide ((t.size:Int)<(q:Int))=false:=decide_eq_false (by omega)
 have t1':decide (t.size<q)=false:=decide_eq_false (by omega)
 have t2:decide ((2048:Int)<(m:Int))=false:=decide_eq_false (by omega)
 have t3:decide ((65536:Int)<(n:Int))=false:=decide_eq_false (by omega)
 clear hq h0 h1 h2 h3 hs;go_enter Tryz.func80,Tryz.ntmps80;go_wp2_with fail;go_ret;exact ⟨rfl,HB.out⟩
def OneItem(i:Nat)(t:ByteArray)(B0:Nat)(u:Value)(W:World):Prop:=∃ g cp,u = .slice (some ⟨g,0,none⟩) 1 cp∧W.ownsRow B0 54 2 (.slice (some ⟨g,0,none⟩) 1 cp) 1 [.int .u64 (i:Nat),.string t]
theorem OneItem.below{i:Nat}{t:ByteArray}{B0:Nat}{u:Value}{W W':World}(h:OneItem i t B0 u W)(hb:Below W.heap.size W W'):OneItem i t B0 u W':=by
 obtain ⟨g,cp,rfl,ho⟩:=h;exact ⟨g,cp,rfl,Qad ho (fun k hk=>hb.block k (ho.lt k hk).2)⟩
theorem QhX{W:World}{B0 g cp:Nat}{e:TypeId}{x0 x1:Value}(ho:W.ownsRow B0 e 2 (.slice (some ⟨g,0,none⟩) 1 cp) 1 [x0,x1]):∃ cs,W.heap[g]?=some (.cells cs e (0,0))∧cs[0]?=some x0∧cs[1]?=some x1:=by
 have hc:=fun g hg=>ho.cells (g:=g) hg
 rcases ho.2 with ⟨-,h0⟩|⟨g',cap,cur,h1,-,hg,hle,-⟩
 ·cases h0
 ·injection h1 with q1 q2 q3
  injection q1 with q1
  injection q1 with q1
  subst q1;have e0:∀ i,(⟨g,0,none⟩:Addr).add i=⟨g,i,none⟩:=fun i=>by unfold Addr.add;split<;>simp_all
  refine ⟨cur,hg,?_,?_⟩
  ·have:=hc g rfl 0 x0 rfl
   rw [e0,QaY hg] at this;exact this
  ·have:=hc g rfl 1 x1 rfl
   rw [e0,QaY hg] at this;exact this
def BkSt(i:Nat)(t:ByteArray)(w:World)(k:Nat)(u7 u8:Value)(wr:World):Prop:=wr.heap[w.heap.size]?=some (.cells #[.slice none 0 0] 50 (0,0))∧Below w.heap.size w wr∧((k=0∧u7 = .int .u64 0∧u8 = .slice none 0 0)∨(k=1∧u7 = .int .u64 1∧OneItem i t w.heap.size u8 wr))
def BiSt(i n:Nat)(t:ByteArray)(w:World)(E k:Nat)(u8:Value)(wr:World):Prop:=wr.heap[w.heap.size]?=some (.cells #[.slice none 0 0] 50 (0,0))∧wr.heap[E]?=some (.cells #[.int .u64 (i:Nat),.int .u64 0,.int .u32 (n:Nat),.int .u32 1] 86 (0,0))∧Below w.heap.size w wr∧((k=0∧u8 = .slice none 0 0)∨(k=1∧OneItem i t w.heap.size u8 wr))
theorem Qi0(i n:Nat)(t:ByteArray)(hn:t.size=n)(v:Value)(w:World)(hi:i<6004799503160661)(h0:0<n)(h1:n≤65536)(hE:EntB w v [(i,0,n,1)])(hc:QcF (i,0,n,1)=0) :
  Calls Tryz.prog 41 #[v,.string t] w (QiI i t w):=by
 have QA8:∀ e∈[((i,0,n,1):Ent)],Qbl e:=fun e he=>by rw [List.mem_singleton.1 he];exact ⟨show i<_ by omega,show 0<18446744073709551616 by omega,show n<_ by omega,show 1<4294967296 by omega⟩
 have QAz:=hid (fun W (h:EntB W v [(i,0,n,1)])=>Qc3 v [(i,0,n,1)] W h.holds QA8 (by simp))
 rw [Qfu _ hc] at QAz;have HW:Hid (∀ W,Calls Tryz.prog 80 #[.agg #[.int .u64 (i:Nat),.int .u64 0,.int .u32 (n:Nat),.int .u32 1],.int .u64 1,.string t] W fun e w'=>e = .returned (.int .i64 0)∧Below W.heap.size W w'):=hid (fun W=>QnA i 0 n 1 1 t (by omega) (by omega) (by omega) h1 (by omega) W)
 have HOf:=hid (fun g cp W hg c0 c1=>QgV i t hi (by omega) (by omega) g 0 cp W hg c0 c1)
 have hex:t.extract 0 n=t:=by rw [←hn];exact ByteArray.extract_zero_size
 have hms:n≤t.size:=by omega
 have hw0:IntKind.u64.wrap (n:Int)=(n:Int):=by rw [IntKind.wrap_u64];omega
 have hw1:IntKind.u64.wrap (i:Int)=(i:Int):=by rw [IntKind.wrap_u64];omega
 obtain ⟨W0,hW0⟩:∃ W0,w.alloc (.cells #[.slice none 0 0] 50)=W0:=⟨_,rfl⟩;have hb0:Below w.heap.size w W0:=by rw [←hW0];exact (Below.refl _ _).alloc (Nat.le_refl _) _
 have HR0:Hid (W0.heap[w.heap.size]?=some (.cells #[.slice none 0 0] 50 (0,0))):=hid (by rw [←hW0];exact heap_alloc_new w _)
 have HE0:=hid (hE.below hb0);have HB0:=hid hb0;obtain ⟨b,c,rfl,hlc,-⟩:=hE.at;clear hE QA8 hc hi h0 h1 hn hb0;go_enter Tryz.func41,Tryz.ntmps41;go_wp2_with fail;refine (QAz.out _ HE0.out).mono ?_;rintro e w1 ⟨rfl,hb1⟩;have HS1:=hid (And.intro ((hb1.block _ (gsi HR0.out).1).trans HR0.out) (And.intro (Qaa HB0.out hb1) (HE0.out.below hb1)));clear hb1 hW0;go_wp2_with fail;go_loopw [7,8,22] (fun u7 u8 u22 wr=>Hid (∃ k:Nat,k≤1∧u22 = .int .i64 (k:Nat)∧Below w1.heap.size w1 wr∧BkSt i t w k u7 u8 wr)) (fun _ _ u22 _=>1-(intOf u22).toNat)
 case atStart=>exact hid ⟨0,by decide,rfl,Below.refl _ _,HS1.out.1,HS1.out.2.1,.inl ⟨rfl,rfl,rfl⟩⟩
 case round=>
  obtain ⟨k,hk,rfl,hbw,hr,hb,hst⟩:=hrel.out;clear hrel;rcases hst with ⟨rfl,rfl,rfl⟩|⟨rfl,rfl,QAA⟩
  ·obtain ⟨b',c',he',-,hx'⟩:=(HS1.out.2.2.below hbw).at
   obtain ⟨x0,x1,x2,x3⟩:=hx' 0 (by simp)
   injection he' with q1 q2 q3
   injection q1 with q1
   injection q1 with q1
   subst q1;have x0:wr.cell? ⟨b,0,none⟩=some (.int .u64 (i:Nat)):=x0;have x1:wr.cell? ⟨b,1,none⟩=some (.int .u64 0):=x1;have x2:wr.cell? ⟨b,2,none⟩=some (.int .u32 (n:Nat)):=x2;have x3:wr.cell? ⟨b,3,none⟩=some (.int .u32 1):=x3;obtain ⟨Wb,hWb⟩:∃ Wb,wr.alloc (.cells #[.int .u64 (i:Nat),.int .u64 0,.int .u32 (n:Nat),.int .u32 1] 86)=Wb:=⟨_,rfl⟩;obtain ⟨E,hEE⟩:∃ E,wr.heap.size=E:=⟨_,rfl⟩;have kE:Wb.heap[E]?=some (.cells #[.int .u64 (i:Nat),.int .u64 0,.int .u32 (n:Nat),.int .u32 1] 86 (0,0)):=by rw [←hWb,←hEE];exact heap_alloc_new wr _
   have hbB:Below wr.heap.size wr Wb:=by rw [←hWb];exact (Below.refl _ _).alloc (Nat.le_refl _) _
   have HQ:=hid (And.intro (Qaa hb hbB) (And.intro kE (And.intro ((hbB.block _ (gsi hr).1).trans hr) (Qaa hbw hbB))));obtain ⟨⟨y0,y1,y2,y3⟩,-⟩:=QaF kE;clear hb hx' q2 q3 hbB kE hr hbw;go_wp2_with fail;refine (HW.out _).mono ?_;rintro e w2 ⟨rfl,hb2⟩;have kE2:=(hb2.block _ (gsi HQ.out.2.1).1).trans HQ.out.2.1;have HZ:=hid (And.intro ((hb2.block _ (gsi HQ.out.2.2.1).1).trans HQ.out.2.2.1) (And.intro kE2 (And.intro (Qaa HQ.out.1 hb2) (Qaa HQ.out.2.2.2 hb2))));obtain ⟨⟨z0,z1,z2,z3⟩,-⟩:=QaF kE2;clear hb2 kE2 y0 y1 y2 y3 x0 x1 x2 x3;go_wp2_with fail;go_loopw [8,51] (fun u8 u51 wr=>Hid (∃ k:Nat,k≤1∧u51 = .int .u32 (k:Nat)∧Below w2.heap.size w2 wr∧BiSt i n t w E k u8 wr)) (fun _ u51 _=>1-(intOf u51).toNat)
   case atStart=>exact hid ⟨0,by decide,rfl,Below.refl _ _,HZ.out.1,HZ.out.2.1,HZ.out.2.2.1,.inl ⟨rfl,rfl⟩⟩
   case round=>
    obtain ⟨k,hk,rfl,hbw,hr,hrE,hb,hst⟩:=hrel.out;clear hrel;rcases hst with ⟨rfl,rfl⟩|⟨rfl,QAA⟩
    ·obtain ⟨⟨a0,a1,a2,a3⟩,-⟩:=QaF hrE
     have HF:=hid (And.intro hr (And.intro hrE (And.intro hb hbw)));clear hr hrE hb hbw z0 z1 z2 z3;go_wp2_with (at_builtin;go_loud (refine Qez 48 54 _ 2 24 Tryz.underlying48 QlU rfl (by decide) (by decide) _ [.int .u64 (i:Nat),.string t] rfl (by simp [Value.oneCell']) (by rfl) _ _ (by rfl) w.heap.size _ 0 _ (by rfl) (World.ownsRow_nil _ _ _ _) (by rfl) (by omega) HF.out.2.2.1.size ?_);intro g' cap w3 QAt hg1 hd1)
     go_roundw
     case rel=>
      have hbx:Below _ _ w3:=⟨hg1.os,hg1.tape,hg1.output,hg1.size,fun k hk=>hg1.block k hk (by intro e;cases e)⟩
      refine hid ⟨1,by decide,by go_num,Qaa HF.out.2.2.2 hbx,(hbx.block _ (gsi HF.out.1).1).trans HF.out.1,(hbx.block _ (gsi HF.out.2.1).1).trans HF.out.2.1,Qaa HF.out.2.2.1 hbx,.inr ⟨rfl,g',cap,rfl,QAt⟩⟩
     case measure=>simp [intOf]
    ·have HF:=hid (And.intro hr (And.intro hb (And.intro hbw QAA)))
     clear hr hrE hb hbw z0 z1 z2 z3 QAA;go_wp2_with fail;go_roundw
     case rel=>exact hid ⟨1,by decide,by go_num,Qaa HZ.out.2.2.2 HF.out.2.2.1,HF.out.1,HF.out.2.1,.inr ⟨rfl,by first|rfl|go_num,HF.out.2.2.2⟩⟩
     case measure=>simp [intOf]
  ·have HF:=hid (And.intro hr (And.intro hb QAA))
   obtain ⟨g,cp,rfl,ho⟩:=QAA;obtain ⟨cs,hg,d0,d1⟩:=QhX ho;have k0:=(QaY hg 0).trans d0;have k1:=(QaY hg 1).trans d1;have HC:=hid (HOf.out g cp wr (gsi hg).1 k0 k1);clear hr hb ho hg d0 d1 k0 k1 hbw;go_wp2_with fail;refine HC.out.mono ?_;rintro e w3 ⟨g3,c3,rfl,ho3,hb3⟩;have kr:=(hb3.block _ (gsi HF.out.1).1).trans HF.out.1;have HG:=hid (And.intro kr (And.intro (Qaa HF.out.2.1 hb3) (Qbd ho3 HF.out.2.1.size)));have HG2:Hid (w.heap.size<wr.heap.size):=hid (gsi HF.out.1).1;have HO3:=hid ho3;clear hb3 ho3;obtain ⟨r0,rf⟩:=Qb5 kr;have HR2:=hid (QeE kr (.slice (some ⟨g3,0,none⟩) 1 c3));clear kr;go_wp2_with fail;refine QaD (A:=⟨w.heap.size,0,none⟩) rfl (Qgm _ _ _ _ HR2.out) rfl rfl rfl ?_;exact ⟨g3,c3,rfl,Qbd (Qad HO3.out (fun k hk=>Below.heap_setCell _ _ _ _ (by have:=(HO3.out.lt k hk).1;have:=HG2.out;show k≠w.heap.size;omega))) HF.out.2.1.size,HG.out.2.1.trans ((Below.refl _ _).setCell (p:=⟨w.heap.size,0,none⟩) (Nat.le_refl _) _)⟩
end
section
open Go.RowKit
theorem Qu9(a:Int)(t:ByteArray)(w:World):(binOp .neq 54 (.agg #[.int .u64 a,.string t]) (.agg #[.int .u64 a,.string t])).run Tryz.prog w = .ok (.bool false) w:=by
 have u1:=Tryz.underlying43;have u2:=Tryz.underlying9;have hS:Tryz.prog.underlying 54=some (.struct (Tryz.prog.fieldsOf 54)):=by kernel_rfl
 have hp:Tryz.prog.stoodInHeld 54=false:=by kernel_rfl
 rw [run_neq_struct,show (10000:Nat)=9998+2 from rfl,run_equalIn_agg w (9998+1) 54 _ _ hS hp];simp only [Program.fieldsOf,Tryz.underlying54];go_simp
theorem QqA(op:BinOp)(x y:Operand)(xs ys:Array Value)(w:World):(eqGuard op 54 x y (.agg xs) (.agg ys)).run Tryz.prog w = .ok () w:=
 run_eqGuard_agg w op 54 x y xs ys (by kernel_rfl)
theorem QnN(i:Nat)(t:ByteArray)(B1 B2:Nat)(va vb:Value)(w:World)(hA:OneItem i t B1 va w)(hB:OneItem i t B2 vb w) :
  Calls Tryz.prog 42 #[va,vb] w fun e w'=>e = .returned (.bool true)∧Below w.heap.size w w':=by
 obtain ⟨g,c,rfl,hoA⟩:=hA;obtain ⟨h,d,rfl,hoB⟩:=hB;obtain ⟨cs,hg,e0,e1⟩:=QhX hoA;obtain ⟨ds,hh,f0,f1⟩:=QhX hoB;have HX:=hid (And.intro ((QaY hg 0).trans e0) ((QaY hg 1).trans e1));have HY:=hid (And.intro ((QaY hh 0).trans f0) ((QaY hh 1).trans f1));have HLg:=hid (And.intro (gsi hg).1 (gsi hh).1);have hgd:=QqA;have hne:=Qu9 (i:Int) t;clear hoA hoB hg hh e0 e1 f0 f1;go_enter Tryz.func42,Tryz.ntmps42;go_wp2_with fail;go_loopw [13] (fun j wr=>∃ k:Nat,k≤1∧j = .int .i64 k∧Below w.heap.size w wr) (fun j _=>1-(intOf j).toNat)
 case atStart=>exact ⟨0,by omega,rfl,Below.refl _ _⟩
 case round=>
  obtain ⟨k,hk,rfl,hb⟩:=hrel;rcases (by omega:k=0∨k=1) with rfl|rfl
  ·have c0:=(hb.cell (p:=⟨g,0,none⟩) HLg.out.1).trans HX.out.1
   have c1:=(hb.cell (p:=⟨g,1,none⟩) HLg.out.1).trans HX.out.2;have d0:=(hb.cell (p:=⟨h,0,none⟩) HLg.out.2).trans HY.out.1;have d1:=(hb.cell (p:=⟨h,1,none⟩) HLg.out.2).trans HY.out.2;go_wp2_with fail;go_quiet (fail);go_wp2_with fail;go_roundw
   case rel=>exact ⟨1,by omega,by go_num,(hb.trans ⟨rfl,rfl,rfl,Nat.le_refl _,fun _ _=>rfl⟩)⟩
   case measure=>simp [intOf]
  ·go_wp2_with fail
   go_ret;exact ⟨rfl,hb⟩
theorem Qi7(i:Nat)(t:ByteArray)(B1 B2:Nat)(va vb:Value)(w:World)(hA:OneItem i t B1 va w)(hB:OneItem i t B2 vb w) :
  Calls Tryz.prog 17 #[.agg #[va],.agg #[vb]] w fun e w'=>e = .returned (.bool true)∧Below w.heap.size w w':=by
 obtain ⟨W,hW⟩:∃ W,(w.alloc (.cells #[va] 50)).alloc (.cells #[vb] 50)=W:=⟨_,rfl⟩;have hB1:Below w.heap.size w W:=by rw [←hW];exact ((Below.refl _ _).alloc (Nat.le_refl _) _).alloc (by simp) _
 have k1:W.heap[w.heap.size]?=some (.cells #[va] 50 (0,0)):=by rw [←hW];exact (Below.heap_alloc _ _ _ (by simp)).trans (heap_alloc_new w _)
 have k2:W.heap[w.heap.size+1]?=some (.cells #[vb] 50 (0,0)):=by
  have:=heap_alloc_new (w.alloc (.cells #[va] 50)) (.cells #[vb] 50);rw [World.size_alloc] at this;rw [←hW];exact this
 obtain ⟨r1,-⟩:=Qb5 k1;obtain ⟨r2,-⟩:=Qb5 k2;have HI:=hid (QnN i t B1 B2 va vb W (hA.below hB1) (hB.below hB1));have HB:=hid hB1;obtain ⟨g,c,rfl,-⟩:=hA;obtain ⟨h,d,rfl,-⟩:=hB;clear k1 k2 hB1;go_enter Tryz.func17,Tryz.ntmps17;go_wp2_with fail;refine HI.out.mono ?_;rintro e w1 ⟨rfl,hb1⟩;have HR:=hid hb1;clear hb1;go_wp2_with fail;go_ret;exact ⟨rfl,Qaa HB.out HR.out⟩
end
section
open Go.RowKit Go.Maps PoolPlain
theorem Qsc(p:Nat)(l:List (List UInt8))(S:Nat→Prop)(s:ByteArray)(w:World)(hs:s.size≤9223372036854775807)(hP:PoolAt w p l S) :
  Calls Tryz.prog 114 #[.pointer (some ⟨p,0,none⟩),.string s] w (QAo l s.data.toList w):=by
 have hpl:=hP.lt;have HP:=hid hP;obtain ⟨hok,hSl,hSp,tv,pv,mv,hb,-,-,hpr,-,hm⟩:=hP;obtain ⟨-,c1,c2,-,-,-⟩:=QfW hb;have hl:l.length≤2048:=hok.1;obtain ⟨m,rfl⟩:∃ m,s=bs m:=⟨s.data.toList,(Qcx s).symm⟩;rw [Qaj];have hsm:=FnvPlain.sum_lt m;obtain ⟨v,hz,hlk⟩:=Qvc hm hl (FnvPlain.sum m) hsm;have HS:=hid (fun w=>Qtq (bs m) w hs)
 rw [Qaj] at HS;obtain ⟨a,c,rfl,hzc,hzh⟩:=hz;have hB:Below w.heap.size w (w.alloc (.cells #[.int .u64 0,.int .u32 0] 148)):=(Below.refl _ _).alloc (Nat.le_refl _) _;have hblk:=Qa4 w (.cells #[.int .u64 0,.int .u32 0] 148);have hz:w.heap.size<(w.alloc (.cells #[.int .u64 0,.int .u32 0] 148)).heap.size:=by rw [World.size_alloc];omega
 have hlen:(QiO l (FnvPlain.sum m)).length≤2048:=by unfold QiO;rw [List.length_map];exact Nat.le_trans (Qjz l _) hl
 have HG:Hid (∀ j (hj:j<(QiO l (FnvPlain.sum m)).length),∃ k,∃ hk:k<l.length,(QiO l (FnvPlain.sum m))[j]=(k:Int)∧(grp l (FnvPlain.sum m))[j]?=some k):=hid (fun j hj=>by
  unfold QiO at hj ⊢;rw [List.length_map] at hj;rw [List.getElem_map];exact ⟨_,(Qx2 l _ _ (List.getElem_mem hj)).1,rfl,List.getElem?_eq_getElem hj⟩)
 have HN:Hid ((∀ j:Nat,j<(QiO l (FnvPlain.sum m)).length→∀ k,(grp l (FnvPlain.sum m))[j]?=some k→l[k]?≠some m)→fnd l m=(0,0,false)):=hid (fun h=>by
  refine Qhk l m (fun hm=>?_)
  obtain ⟨k,hk,e⟩:=List.getElem_of_mem hm;have h1:=QxH l k hk;rw [e] at h1;obtain ⟨j,hj,e2⟩:=List.getElem_of_mem h1;exact h j (by unfold QiO;rw [List.length_map];exact hj) k (by rw [List.getElem?_eq_getElem hj,e2]) (by rw [List.getElem?_eq_getElem hk,e]))
 have HY:Hid (∀ k (hk:k<l.length),l[k]=m→fnd l m=(off l k,m.length,true)):=hid (fun k hk e=>by rw [←e];exact Qze l hok.2.2 k hk)
 have HPR:=hid hpr;generalize hZ:QiO l (FnvPlain.sum m)=zs at *;go_enter Tryz.func114,Tryz.ntmps114;go_wp2_with fail;generalize w.alloc (.cells #[.int .u64 0,.int .u32 0] 148)=W0 at hB hz hblk ⊢;have hSW:∀ q:BelowOf W0,∀ g,S g→q.world.heap[g]?=w.heap[g]?:=fun q g hg=>(q.below.block g (by have:=hSl g hg;omega)).trans (hB.block g (hSl g hg))
 have k2:∀ q:BelowOf W0,q.world.cell? ⟨p,2,none⟩=some mv:=fun q=>QaN q (by show p<_;omega) ((hB.cell (p:=⟨p,2,none⟩) hpl).trans c2)
 have hlq:∀ q:BelowOf W0,(Instr.lookup 215 mv (.int .u64 (FnvPlain.sum m:Nat)) false).run Tryz.prog q.world = .ok (.slice a zs.length c) q.world:=fun q=>hlk q.world (hSW q)
 have hB:=hid hB;have HL:=hid hlk;have HSl:=hid hSl;have HZH:=hid hzh;clear hlk hSW hSl hm hb hpr hok hzh;refine Qac (by kernel_rfl) (by kernel_rfl) ?_
 repeat (go_big_quiet_step ((go_at_call 165;exact Qav (HS.out _))))
 refine wpQuiet_nil ?_;intro W1 hw';have hb1:=QaM hw';clear hw' k2 hlq;have QB2:=(hb1.block _ hz).trans hblk;have hB1:=Qaa hB.out hb1;have hz1:=Nat.lt_of_lt_of_le hz hb1.size;clear hblk hb1 hz hB;go_wp2_with fail;go_loopw [20] (fun i wr=>∃ j:Nat,j≤zs.length∧i = .int .i64 j∧Below w.heap.size w wr∧w.heap.size<wr.heap.size∧wr.heap[w.heap.size]?=some (.cells #[.int .u64 0,.int .u32 0] 148 (0,0))∧Hid (∀ i:Nat,i<j→∀ k,(grp l (FnvPlain.sum m))[i]?=some k→l[k]?≠some m)) (fun i _=>zs.length-(intOf i).toNat)
 case atStart=>exact ⟨0,by omega,rfl,hB1,hz1,QB2,hid (fun i h=>absurd h (Nat.not_lt_zero _))⟩
 case round=>
  obtain ⟨j,hj,rfl,hbr,hzr,hbk,HK⟩:=hrel;clear QB2 hB1 hz1
  by_cases hlt:j<zs.length
  ·obtain ⟨b,rfl,hbl,Qao⟩:=HZH.out (fun e=>by rw [e] at hlt;exact absurd hlt (Nat.not_lt_zero _))
   obtain ⟨k,hk,ek,eg⟩:=HG.out j hlt;have d0:=(hbr.cell (p:=⟨b,j,none⟩) hbl).trans (Qao j hlt);rw [ek] at d0;obtain ⟨g,cap,rfl,-,hgl,hgc,hpc⟩:=Qsg HPR.out (by omega)
   have d1:=(hbr.cell (p:=⟨g,k*2,none⟩) hgl).trans (hpc k hk).1;have d2:=(hbr.cell (p:=⟨g,k*2+1,none⟩) hgl).trans (hpc k hk).2;have d3:=(hbr.cell (p:=⟨p,1,none⟩) hpl).trans c1;have HPr:Hid (PoolAt wr p l S):=hid (HP.out.keep hbr.size (fun g hg=>hbr.block g (HSl.out g hg)))
   have QA3:=QwO l[k] m;have HA:=hid (fun W (h:PoolAt W p l S)=>Qxl p l S W h k hk)
   have hbrH:=hid hbr;obtain ⟨r0,r1,r2,r3⟩:=Qew hbk;have hbkH:=hid hbk;have hY:=hid (HY.out k hk);have hX:Hid (l[k]≠m→∀ i:Nat,i<j+1→∀ k,(grp l (FnvPlain.sum m))[i]?=some k→l[k]?≠some m):=hid (fun hne i hi k' h'=>by
    by_cases e:i=j
    ·subst e
     rw [eg] at h';obtain rfl:=Option.some.inj h';rw [List.getElem?_eq_getElem hk];intro e;exact hne (Option.some.inj e)
    ·exact HK.out i (by omega) k' h')
   clear Qao hpc HK ek eg hbr hbk HZH HG HN HY HPR HP HL HSl c1 c2;obtain ⟨X,hXx⟩:∃ X,X=bs l[k]:=⟨_,rfl⟩;obtain ⟨n,hn⟩:∃ n,n=l[k].length:=⟨_,rfl⟩;obtain ⟨o,ho⟩:∃ o,o=off l k:=⟨_,rfl⟩;rw [←hn,←ho,←hXx] at HA;rw [←ho] at d1;rw [←hn] at d2;rw [←hXx] at QA3;have Hn:=hid hn;have Ho:=hid ho;clear hXx hn ho
   by_cases he:l[k]=m
   ·rw [decide_eq_true he] at QA3
    have HE:=hid he;clear he hX;go_wp2_with fail;refine (HA.out _ (HPr.out.below ?_)).mono ?_
    ·exact (Below.refl _ _).alloc (Nat.le_refl _) _
    rintro e w1 ⟨rfl,hb1⟩;have hcb:=(hb1.block wr.heap.size (by rw [World.size_alloc];omega)).trans (Qa4 wr _)
    have hrb:=(hb1.block w.heap.size (by rw [World.size_alloc];omega)).trans ((heap_alloc_old wr _ hzr).trans hbkH.out)
    obtain ⟨x0,x1,-,-⟩:=Qew hcb;obtain ⟨y0,y1,y2,y3⟩:=Qew hrb;have hrbH:=hid hrb;have hbx:Below w.heap.size w w1:=hbrH.out.trans ((Qaa ((Below.refl _ _).alloc (Nat.le_refl _) _) hb1:Below wr.heap.size wr w1).mono hbrH.out.size);have hbxH:=hid hbx;clear hcb hrb hb1 hbx r0 r1 r2 r3 d0 d1 d2 d3;go_wp2_with fail;refine Qlm (A:=⟨w.heap.size,0,none⟩) rfl (QbB _ _ _ _ _ (Qbf hrbH.out _ _)) rfl rfl rfl ?_;refine ⟨by rw [hY.out HE.out,Ho.out,Hn.out,←HE.out];rfl,?_⟩
    exact (hbxH.out.setCell (p:=⟨w.heap.size,0,none⟩) (Nat.le_refl _) _).setCell (p:=⟨w.heap.size,1,none⟩) (Nat.le_refl _) _
   ·rw [decide_eq_false he] at QA3
    have HK:=hid (hX.out he);clear he hX;go_wp2_with fail;refine (HA.out _ (HPr.out.below ?_)).mono ?_
    ·exact (Below.refl _ _).alloc (Nat.le_refl _) _
    rintro e w1 ⟨rfl,hb1⟩;go_wp2_with fail;go_roundw
    case rel=>
     have hbx:Below wr.heap.size wr w1:=Qaa ((Below.refl _ _).alloc (Nat.le_refl _) _) hb1;exact ⟨j+1,by omega,by go_num,hbrH.out.trans (hbx.mono hbrH.out.size),Nat.lt_of_lt_of_le hzr hbx.size,(hbx.block _ hzr).trans hbkH.out,HK⟩
    case measure=>simp [intOf];omega
  ·obtain rfl:j=zs.length:=by omega
   have HF:=hid (HN.out (fun i hi k hk=>HK.out i hi k hk))
   obtain ⟨r0,r1,r2,r3⟩:=Qew hbk;have hbkH:=hid hbk;clear HK HN hbk;go_wp2_with fail;refine Qlm (A:=⟨w.heap.size,0,none⟩) rfl (QbB _ _ _ _ _ (Qbf hbkH.out _ _)) rfl rfl rfl ?_;refine ⟨by rw [HF.out];rfl,?_⟩
   exact (hbr.setCell (p:=⟨w.heap.size,0,none⟩) (Nat.le_refl _) _).setCell (p:=⟨w.heap.size,1,none⟩) (Nat.le_refl _) _
end
section
open Go.RowKit Go.Maps PoolPlain
def Pre(W:World)(p b:Nat)(tv pv:Value)(D:DataW Unit)(r l m:List (List UInt8))(S:Nat→Prop):Prop:=
 (∀ g,S g→g<W.heap.size)∧S p∧S b∧W.heap[p]?=some (.cells #[tv,pv,.map (some b)] 217 (0,0))∧
  W.ownsRow 0 5 1 tv r.flatten.length (QaG r.flatten)∧(∀ g,tv.ownBlock=some g→S g)∧
  W.ownsRow 0 148 2 pv l.length (Qd4 l)∧(∀ g,pv.ownBlock=some g→S g)∧
  W.ownsGroups Tryz.prog 43 (b+1) 3 .i64 b m.length D∧W.Shuns b (fun g=>¬S g)∧Qpt D m
theorem Pre.lt{W:World}{p b:Nat}{tv pv:Value}{D:DataW Unit}{r l m:List (List UInt8)}{S:Nat→Prop}(h:Pre W p b tv pv D r l m S):p<W.heap.size∧b<W.heap.size:=⟨h.1 p h.2.1,h.1 b h.2.2.1⟩
theorem Pre.keep{w w':World}{p b:Nat}{tv pv:Value}{D:DataW Unit}{r l m:List (List UInt8)}{S:Nat→Prop}(h:Pre w p b tv pv D r l m S)(hs:w.heap.size≤w'.heap.size)(hk:∀ g,S g→w'.heap[g]?=w.heap[g]?):Pre w' p b tv pv D r l m S:=by
 obtain ⟨h1,h2,h3,hb,ht,hts,hp,hps,hg,hsh,hG⟩:=h;obtain ⟨g1,g2⟩:=Qc1 hg hsh h3 (fun g hg _=>hk g hg)
 exact ⟨fun g hg=>Nat.lt_of_lt_of_le (h1 g hg) hs,h2,h3,(hk p h2).trans hb,Qad ht (fun g hg=>hk g (hts g hg)),hts,Qad hp (fun g hg=>hk g (hps g hg)),hps,g1,g2,hG⟩
theorem Pre.below{w w':World}{p b:Nat}{tv pv:Value}{D:DataW Unit}{r l m:List (List UInt8)}{S:Nat→Prop}(h:Pre w p b tv pv D r l m S)(hb:Below w.heap.size w w'):Pre w' p b tv pv D r l m S:=h.keep hb.size (fun g hg=>hb.block g (h.1 g hg))
def SX(S:Nat→Prop)(w W:World)(g:Nat):Prop:=(S g∨w.heap.size≤g)∧g<W.heap.size
theorem Qtl(l:List (List UInt8))(s:List UInt8)(x:Nat):QiO (l++[s]) x=QiO l x++(if FnvPlain.sum s=x then [(l.length:Int)] else []):=by
 unfold QiO;rw [QvM,List.map_append]
 congr 1
 split<;>rfl
theorem QqB{D:DataW Unit}{l:List (List UInt8)}(s:List UInt8)(h:Qpt D l)(hD:IsMap D){w:World}{base:Nat}{e:TypeId}{v:Value}(ho:w.ownsInts base e .i64 v (QiO l (FnvPlain.sum s)++[(l.length:Int)])) :
  Qpt (D.put (.int .u64 (FnvPlain.sum s:Nat)) (rowDatum .i64 v (QiO l (FnvPlain.sum s)++[(l.length:Int)]))) (l++[s]):=by
 intro x hx;rw [Qtl]
 by_cases e:FnvPlain.sum s=x
 ·subst e
  rw [atKey_put_same hD (QyH.key (Qgo _ hx)),if_pos rfl];rw [ho.datum_pos (by simp)]
  unfold QzH;rw [if_neg (by simp)]
 ·rw [atKey_put_other (by intro h;apply e;injection h with _ h2;omega),if_neg e,List.append_nil]
  exact h x hx
theorem Ql2{w:World}{k base e:Nat}{q:IntKind}{b n:Nat}{D:DataW Unit}(h:w.ownsGroups Tryz.prog k base e q b n D):IsMap D:=by
 obtain ⟨es,c,-,-,-,rfl,-⟩:=h;exact ⟨_,rfl⟩
def Qol(b x:Nat)(w:World)(v:Value):Prop:=(Instr.lookup 215 (.map (some b)) (.int .u64 (x:Int)) false).run Tryz.prog w = .ok v w
def QyA(F:World→Value)(b x:Nat):Prop:=∀ w v,Qol b x w v→F w=v
theorem QpG(b x:Nat):∃ F,QyA F b x:=by
 refine ⟨fun w=>Classical.epsilon (fun v=>Qol b x w v),fun w v h=>?_⟩
 have h2:=Classical.epsilon_spec (p:=fun v=>Qol b x w v) ⟨v,h⟩
 have h3:=Eq.trans (Eq.symm (show _=_ from h)) (show _=_ from h2);injection h3 with h4
 exact h4.symm
def PutS(F:World→Value)(p b x:Nat)(pv:Value)(w:World):Prop:=w.cell? ⟨p,2,none⟩=some (.map (some b))∧w.cell? ⟨p,1,none⟩=some pv∧(Instr.lookup 215 (.map (some b)) (.int .u64 (x:Int)) false).run Tryz.prog w = .ok (F w) w
theorem PutS.of{F:World→Value}{p b x:Nat}(hF:QyA F b x){tv pv v:Value}{w:World}(h:w.heap[p]?=some (.cells #[tv,pv,.map (some b)] 217 (0,0)))(hr:Qol b x w v):PutS F p b x pv w:=by
 obtain ⟨-,h1,h2,-,-,-⟩:=QfW h;exact ⟨h2,h1,by rw [hF w v hr];exact hr⟩
structure Mid(F:World→Value)(W0 W w1 w2:World)(p b:Nat)(tv pv:Value)(l:List (List UInt8))(s:List UInt8)(S:Nat→Prop):Prop where
 pre:∃ D,Pre w2 p b tv pv D l l (l++[s]) (SX S W0 w2)
 touch:Touch S W w2
 s1:PutS F p b (FnvPlain.sum s) pv w1
 s2:PutS F p b (FnvPlain.sum s) pv w2
theorem Qje{ops:Array Oper}{o:Oper}{a:Act}{K:Act→World→Prop}{Q:Exit→Act→World→Prop}{E:Prop}(F:World→Value)(W0:World){p b:Nat}{tv pv:Value}{D:DataW Unit}{l:List (List UInt8)}{S:Nat→Prop}(s:List UInt8)(hF:QyA F b (FnvPlain.sum s))
  (QAT:Pre W0 p b tv pv D l l l S) (hl:l.length<2048) {v:Value} (hoi:W0.ownsInts (b+1) 3 .i64 v (QiO l (FnvPlain.sum s)))
  (QBu:W0.groupBack Tryz.prog 215 43 (b+1) 3 .i64 b l.length D (.int .u64 (FnvPlain.sum s:Nat)) (.int .u64 (FnvPlain.sum s:Nat)) v) (hvS:∀ g,v.ownBlock=some g→S g)
  (hlk:∀ w',w'.heap[b]?=W0.heap[b]?→Qol b (FnvPlain.sum s) w' v)
  (W:World) (N:Nat) (hbW:Below W0.heap.size W0 W) (hB:W.heap[N]?=some (.cells #[.int .i64 (l.length:Nat)] 3 (0,0)))
  (hgd:o.guard=none) (x y:Operand) (ho:o.op = .call { callee:=.builtin .append,args:=#[x,y],argTypes:=#[272,272] }) (hx:a.eval x=v) (hy:a.eval y = .slice (some ⟨N,0,none⟩) 1 1)
  (h:∀ v' w1 w2,(Instr.mapUpdate 215 (.map (some b)) (.int .u64 (FnvPlain.sum s:Nat)) v').run Tryz.prog w1 = .ok () w2→Mid F W0 W w1 w2 p b tv pv l s S→K (a.put o.dst v') w1) :
  if Region.wanted o (yielded ops a.tmps)=true then Oper.wp Tryz.prog o a W K Q else E:=by
 obtain ⟨i0,hi,hz0,hz1,hz2⟩:=info_parts QoW;obtain ⟨hSl,hSp,hSb,hbp,ht,hts,hp,hps,hg,hsh,hG⟩:=QAT;have hlb:=hSl b hSb;have hlp:=hSl p hSp;have hsm:=FnvPlain.sum_lt s;have hzl:(QiO l (FnvPlain.sum s)).length≤l.length:=by unfold QiO;rw [List.length_map];exact Qjz l _
 have hoW:W.ownsRow (b+1) 3 1 v (QiO l (FnvPlain.sum s)).length ((QiO l (FnvPlain.sum s)).map (Value.int .i64)):=Qad hoi.1 (fun g hg=>hbW.block g (hoi.1.lt g hg).2)
 have hw:Region.wanted o (yielded ops a.tmps)=true:=by simp [Region.wanted,hgd]
 rw [if_pos hw];obtain ⟨v',w1,hr,h2,h3,-,h5⟩:=run_append_own_at (P:=Tryz.prog) W (b+1) 272 o.type 3 i0 _ 1 8 Tryz.underlying272 hi hz0 hz1 hz2 rfl (by decide) v _ _ hoW ⟨N,0,none⟩ 1 1 [.int .i64 (l.length:Nat)] rfl (World.news_of_block hB) (by simp [Value.oneCell']) (by unfold maxLen;omega) (by omega) (by have:=hbW.size;omega)
 have hG0:W0.grownBy w1 v.ownBlock:=⟨h3.os.trans hbW.os,h3.tape.trans hbW.tape,h3.output.trans hbW.output,Nat.le_trans hbW.size h3.size,fun k hk hne=>(h3.block k (Nat.lt_of_lt_of_le hk hbW.size) hne).trans (hbW.block k hk)⟩
 have ho1:w1.ownsInts (b+1) 3 .i64 v' (QiO l (FnvPlain.sum s)++[(l.length:Int)]):=hoi.appended h2 (WalkArith.wf_i64 (by omega))
 obtain ⟨w2,hu,hg2,hg12⟩:=QBu w1 v' _ hG0 ho1 (by simp;omega) (h5.imp id (fun e=>⟨_,e,hbW.size⟩))
 have hnb:v.ownBlock≠some b:=fun e=>by have:=(hoi.1.lt b e).1;omega
 have hnp:v.ownBlock≠some p:=QaH hoi.1 hbp (by decide)
 have hisD:=Ql2 hg;obtain ⟨es,clock,hbm,Fit0,hsz0,-⟩:=hg;have hpb:p≠b:=fun e=>by rw [e] at hbp;rw [hbp] at hbm;cases hbm
 have k1:∀ g,g<W0.heap.size→v.ownBlock≠some g→w1.heap[g]?=W0.heap[g]?:=fun g hg hn=>hG0.block g hg (fun e=>hn e.symm)
 have k2:∀ g,g<W0.heap.size→v.ownBlock≠some g→g≠b→w2.heap[g]?=W0.heap[g]?:=fun g hg hn hb=>(hg12.block g (Nat.lt_of_lt_of_le hg hG0.size) (fun e=>hb (Option.some.inj e))).trans (k1 g hg hn)
 have htch:Touch S W w2:=(Touch.of_grown h3 (fun g hg=>.inl (hvS g hg))).trans (Touch.of_grown (S:=S) hg12 (fun g hg=>.inl (by rw [←Option.some.inj hg];exact hSb))) (fun g hg=>.inl hg)
 have hap1:=Qdz ht hoi.1 (by decide)
 have hap2:=Qdz hp hoi.1 (by decide)
 have kt:∀ g,tv.ownBlock=some g→w2.heap[g]?=W0.heap[g]?:=fun g hg=>k2 g (ht.lt g hg).2 (fun e=>hap1.elim (fun h=>by rw [h] at hg;cases hg) (fun h=>h (hg.trans e.symm))) (fun e=>QdL ht hbm (by rw [hg,e]))
 have kp:∀ g,pv.ownBlock=some g→w2.heap[g]?=W0.heap[g]?:=fun g hg=>k2 g (hp.lt g hg).2 (fun e=>hap2.elim (fun h=>by rw [h] at hg;cases hg) (fun h=>h (hg.trans e.symm))) (fun e=>QdL hp hbm (by rw [hg,e]))
 have hsz2:W0.heap.size≤w2.heap.size:=Nat.le_trans hG0.size hg12.size;have hSX:∀ g,S g→SX S W0 w2 g:=fun g hg=>⟨.inl hg,by have:=hSl g hg;omega⟩
 have hs2:w2.Shuns b (fun g=>¬SX S W0 w2 g):=by
  have hb1:=(k1 b hlb hnb).trans hbm;obtain ⟨es',clock',hb2,hwho⟩:=stored_who QyH Tryz.underlying215 hb1 Fit0 (by unfold maxLen;omega) (Qgo _ hsm) hu
  intro es2 clock2 QAR y hy g hyg hno;obtain ⟨rfl,rfl⟩:es'=es2∧clock'=clock2:=by rw [hb2] at QAR;simpa using QAR
  rcases hwho y hy with ⟨hy0,-⟩|⟨-,hval⟩
  ·exact hsh es clock hbm y hy0 g hyg (fun hs=>hno (hSX g hs))
  ·rw [hval] at hyg
   have QAM:=(h2.lt g hyg).2;refine hno ⟨?_,Nat.lt_of_lt_of_le QAM hg12.size⟩;rcases h5 with h5|h5
   ·exact .inl (hvS g (by rw [←h5];exact hyg))
   ·rw [hyg] at h5
    rw [Option.some.inj h5];exact .inr hbW.size
 have hlen:(l++[s]).length=l.length+1:=by simp
 have hp2:=(k2 p hlp hnp hpb).trans hbp;have hlk2:∃ v2,Qol b (FnvPlain.sum s) w2 v2:=by
  obtain ⟨v2,zs2,-,-,-,-,-,h6⟩:=Qe9 QyH Tryz.underlying215 Qg6 hg2 hs2 (by unfold maxLen;omega) (Qgo _ hsm)
  exact ⟨v2,h6 w2 rfl⟩
 have hpre2:Pre w2 p b tv pv (D.put (.int .u64 (FnvPlain.sum s:Nat)) (rowDatum .i64 v' (QiO l (FnvPlain.sum s)++[(l.length:Int)]))) l l (l++[s]) (SX S W0 w2):=
  ⟨fun g hg=>hg.2,hSX p hSp,hSX b hSb,hp2,Qad ht kt,fun g hg=>hSX g (hts g hg),Qad hp kp,fun g hg=>hSX g (hps g hg),by rw [hlen];exact hg2,hs2,QqB s hG hisD ho1⟩
 unfold Oper.wp execOp;simp only [ho,resolve,invoke,builtin,Sem.run_bind,Sem.run_pure,Result.andThen_ok,List.map_toArray,List.map_cons,List.map_nil,hx,hy,hr];exact h v' w1 w2 hu ⟨⟨_,hpre2⟩,htch,PutS.of hF ((k1 p hlp hnp).trans hbp) (hlk w1 (k1 b hlb hnb)),PutS.of hF hp2 hlk2.choose_spec⟩
end
section
open Go.RowKit Go.Maps PoolPlain
theorem QlV:(Tryz.prog.info? 148).map (fun i=>(i.zero,i.size,i.bytes))=some (some (.agg #[.int .u64 0,.int .u32 0]),2,16):=by kernel_rfl
theorem Qs7:(Tryz.prog.info? 5).map (fun i=>(i.zero,i.size,i.bytes))=some (some (.int .u8 0),1,1):=by kernel_rfl
theorem QhI{w:World}{p:Nat}{cs:Array Value}{t:TypeId}{k:Nat}(h:w.heap[p]?=some (.cells cs t (0,0)))(v:Value):(w.setCell ⟨p,k,none⟩ v).heap[p]?=some (.cells (cs.setIfInBounds k v) t (0,0)):=by
 simp [World.setCell,Array.getElem?_modify,h]
theorem Qbs{w:World}{p k g:Nat}(v:Value)(h:g≠p):(w.setCell ⟨p,k,none⟩ v).heap[g]?=w.heap[g]?:=Below.heap_setCell _ _ _ _ h
def Ready(w W:World)(p b:Nat)(tv pv:Value)(D:DataW Unit)(r l m:List (List UInt8))(M n:Nat)(S S':Nat→Prop):Prop:=
 Pre W p b tv pv D r l m S'∧W.heap[w.heap.size]?=some (.cells #[.int .u64 0,.int .u32 0] 148 (0,0))∧W.heap[w.heap.size+1]?=some (.cells #[.int .u64 (M:Nat),.int .u32 (n:Nat)] 148 (0,0))∧
  Touch S w W∧(∀ g,S g→S' g)∧(∀ g,S' g→S g∨w.heap.size+2≤g)∧w.heap.size+2≤W.heap.size
theorem Ready.below{w W W':World}{p b:Nat}{tv pv:Value}{D:DataW Unit}{r l m:List (List UInt8)}{M n:Nat}{S S':Nat→Prop}(h:Ready w W p b tv pv D r l m M n S S')(hb:Below W.heap.size W W'):Ready w W' p b tv pv D r l m M n S S':=by
 obtain ⟨h1,h2,h3,h4,h5,h6,h7⟩:=h;exact ⟨h1.below hb,(hb.block _ (by omega)).trans h2,(hb.block _ (by omega)).trans h3,h4.trans (Touch.of_below (S:=S) hb) (fun g hg=>.inl hg),h5,h6,Nat.le_trans h7 hb.size⟩
theorem QpW{w W:World}{p b:Nat}{tv pv:Value}{D:DataW Unit}{l:List (List UInt8)}{M n:Nat}{S:Nat→Prop}(hP:Pre w p b tv pv D l l l S)
  (hA:W.heap[w.heap.size]?=some (.cells #[.int .u64 0,.int .u32 0] 148 (0,0))∧W.heap[w.heap.size+1]?=some (.cells #[.int .u64 (M:Nat),.int .u32 (n:Nat)] 148 (0,0))∧Below w.heap.size w W∧W.heap.size=w.heap.size+1+1):Ready w W p b tv pv D l l l M n S S:=
 ⟨hP.below hA.2.2.1,hA.1,hA.2.1,Touch.of_below hA.2.2.1,fun g hg=>hg,fun g hg=>.inl hg,by rw [hA.2.2.2];omega⟩
theorem QrZ{w W:World}{p:Nat}{tv pv:Value}{l:List (List UInt8)}{M n:Nat}{S:Nat→Prop}(hSl:∀ g,S g→g<w.heap.size)(hSp:S p)(hb:w.heap[p]?=some (.cells #[tv,pv,.map none] 217 (0,0)))
  (ht:w.ownsRow 0 5 1 tv l.flatten.length (QaG l.flatten)) (hts:∀ g,tv.ownBlock=some g→S g) (hp:w.ownsRow 0 148 2 pv l.length (Qd4 l)) (hps:∀ g,pv.ownBlock=some g→S g) (hl:l = [])
  (hA:W.heap[w.heap.size]?=some (.cells #[.int .u64 0,.int .u32 0] 148 (0,0))∧W.heap[w.heap.size+1]?=some (.cells #[.int .u64 (M:Nat),.int .u32 (n:Nat)] 148 (0,0))∧Below w.heap.size w W∧W.heap.size=w.heap.size+1+1) :
  Ready w ((W.alloc (.map #[] 0)).setCell ⟨p,2,none⟩ (.map (some (w.heap.size+1+1)))) p (w.heap.size+1+1) tv pv (.map []) l l l M n S (fun g=>S g∨g=w.heap.size+2):=by
 subst hl;obtain ⟨a1,a2,a3,a4⟩:=hA;have hpl:=hSl p hSp;have hz:(W.alloc (.map #[] 0)).heap.size=w.heap.size+3:=by rw [World.size_alloc,a4]
 have old:∀ g,g<w.heap.size+2→g≠p→((W.alloc (.map #[] 0)).setCell ⟨p,2,none⟩ (.map (some (w.heap.size+1+1)))).heap[g]?=W.heap[g]?:=fun g hg hn=>(Qbs _ hn).trans (heap_alloc_old _ _ (by rw [a4];omega))
 have hbp:(W.alloc (.map #[] 0)).heap[p]?=some (.cells #[tv,pv,.map none] 217 (0,0)):=(heap_alloc_old _ _ (by rw [a4];omega)).trans ((a3.block p hpl).trans hb)
 have nt:∀ g,tv.ownBlock=some g→g≠p:=fun g hg e=>QaH ht hb (by decide) (by rw [hg,e])
 have np:∀ g,pv.ownBlock=some g→g≠p:=fun g hg e=>QaH hp hb (by decide) (by rw [hg,e])
 have hgm:=World.ownsGroups_made (H:=Unit) W Tryz.prog 43 3 .i64;have hsm:=World.Shuns_made W (fun g=>¬(S g∨g=w.heap.size+2))
 rw [a4] at hgm hsm;obtain ⟨g1,g2⟩:=Qc1 (w':=(W.alloc (.map #[] 0)).setCell ⟨p,2,none⟩ (.map (some (w.heap.size+1+1)))) (S:=fun g=>g=w.heap.size+2) hgm (fun es c he x hx=>by
  have:=Qa4 W (.map #[] 0);rw [a4] at this;rw [this] at he;injection he with he;injection he with he _
  subst he;simp at hx) rfl (fun g hg _=>Qbs _ (by omega))
 refine ⟨⟨fun g hg=>?_,.inl hSp,.inr rfl,?_,Qad ht (fun g hg=>(old g (by have:=(ht.lt g hg).2;omega) (nt g hg)).trans (a3.block g (ht.lt g hg).2)),fun g hg=>.inl (hts g hg),Qad hp (fun g hg=>(old g (by have:=(hp.lt g hg).2;omega) (np g hg)).trans (a3.block g (hp.lt g hg).2)),fun g hg=>.inl (hps g hg),g1,?_,fun x hx=>rfl⟩,?_,?_,?_,fun g hg=>.inl hg,fun g hg=>hg.imp id (fun e=>by omega),by rw [Qbr,hz];omega⟩
 ·rw [Qbr,hz]
  rcases hg with hg|rfl
  ·have:=hSl g hg;omega
  ·omega
 ·rw [QhI hbp];rfl
 ·intro es c he x hx g hg hn
  exact g2 es c he x hx g hg (fun e=>hn (.inr e))
 ·exact (old _ (by omega) (by omega)).trans a1
 ·exact (old _ (by omega) (by omega)).trans a2
 ·refine ⟨a3.os,a3.tape,a3.output,by rw [Qbr,hz];omega,fun k hk hn=>(old k (by omega) (fun e=>hn (e ▸ hSp))).trans (a3.block k hk)⟩
theorem Qm4{ops:Array Oper}{o:Oper}{a:Act}{K:Act→World→Prop}{Q:Exit→Act→World→Prop}{E:Prop}(W0:World){p b:Nat}{tv pv:Value}{D:DataW Unit}{r l m:List (List UInt8)}{S:Nat→Prop}(s:List UInt8)
  (QAT:Pre W0 p b tv pv D r l m S) (hl:l.length<2048) (W:World) (N:Nat) (hbW:Below W0.heap.size W0 W) (hB:W.heap[N]?=some (.cells #[.int .u64 (l.flatten.length:Nat),.int .u32 (s.length:Nat)] 148 (0,0)))
  (hgd:o.guard=none) (x y:Operand) (ho:o.op = .call { callee:=.builtin .append,args:=#[x,y],argTypes:=#[214,214] }) (hx:a.eval x=pv) (hy:a.eval y = .slice (some ⟨N,0,none⟩) 1 1)
  (h:∀ g cap w1,w1.cell? ⟨p,1,none⟩=some pv→w1.frozen? ⟨p,1,none⟩=false→Touch S W w1→Pre (w1.setCell ⟨p,1,none⟩ (.slice (some ⟨g,0,none⟩) (l.length+1) cap)) p b tv (.slice (some ⟨g,0,none⟩) (l.length+1) cap) D r (l++[s]) m (SX S W0 w1)→K (a.put o.dst (.slice (some ⟨g,0,none⟩) (l.length+1) cap)) w1) :
  if Region.wanted o (yielded ops a.tmps)=true then Oper.wp Tryz.prog o a W K Q else E:=by
 obtain ⟨i0,hi,hz0,hz1,hz2⟩:=info_parts QlV;obtain ⟨hSl,hSp,hSb,hbp,ht,hts,hp,hps,hg,hsh,hG⟩:=QAT;have hlp:=hSl p hSp;have hoW:W.ownsRow 0 148 2 pv l.length (Qd4 l):=Qad hp (fun g hg=>hbW.block g (hp.lt g hg).2)
 refine step_append_lies W hgd x y 214 ho 0 148 i0 _ 2 16 Tryz.underlying214 hi hz0 hz1 hz2 rfl (by decide) pv l.length (Qd4 l) hx hoW ⟨N,0,none⟩ 1 1 [.int .u64 (l.flatten.length:Nat),.int .u32 (s.length:Nat)] hy rfl (World.news_of_block hB) (by simp [Value.oneCell']) (by decide) (by unfold maxLen;omega) (by omega) (Nat.zero_le _) _ rfl ?_
 intro g cap w1 h1 h2 h3 h4;have hne:pv.ownBlock≠some p:=QaH hp hbp (by decide)
 obtain ⟨es,clock,hbm,QAZ⟩:=hg;have hgrp:W0.ownsGroups Tryz.prog 43 (b+1) 3 .i64 b m.length D:=⟨es,clock,hbm,QAZ⟩;have k1:∀ g,g<W0.heap.size→pv.ownBlock≠some g→w1.heap[g]?=W0.heap[g]?:=fun g hg hn=>(h2.block g (Nat.lt_of_lt_of_le hg hbW.size) (fun e=>hn e.symm)).trans (hbW.block g hg)
 have hp1:=(k1 p hlp hne).trans hbp;obtain ⟨-,c1,-,-,f1,-⟩:=QfW hp1;have hs1:W0.heap.size≤w1.heap.size:=Nat.le_trans hbW.size h2.size;have hSX:∀ g,S g→SX S W0 w1 g:=fun g hg=>⟨.inl hg,Nat.lt_of_lt_of_le (hSl g hg) hs1⟩
 have hg1:SX S W0 w1 g:=by
  refine ⟨?_,h4⟩;rcases h3 with h3|h3
  ·exact .inl (hps g h3)
  ·rw [h3];exact .inr hbW.size
 refine h g cap w1 c1 f1 (Touch.of_grown h2 (fun g hg=>.inl (hps g hg))) ?_
 have hgp:g≠p:=fun e=>QaH (by exact h1) hp1 (by decide) (by rw [←e];rfl)
 have kk:∀ g,S g→g≠p→pv.ownBlock≠some g→(w1.setCell ⟨p,1,none⟩ (.slice (some ⟨g,0,none⟩) (l.length+1) cap)).heap[g]?=W0.heap[g]?:=fun g hg hn hn2=>(Qbs _ hn).trans (k1 g (hSl g hg) hn2)
 have hap:=Qdz ht hp (by decide)
 have hpvS:∀ x∈es.toList,∀ g,x.val.ownBlock=some g→S g∧g≠p∧pv.ownBlock≠some g:=fun x hx g hg=>by
  have hxS:=Classical.not_not.1 (hsh es clock hbm x hx g hg);obtain ⟨F,-⟩:=QAZ;obtain ⟨y,hy⟩:=F.reads x hx;obtain ⟨z,hz,-⟩:=Go.WideElems.rd_val hy;obtain ⟨zs,ho,-⟩:=rowElem_inv hz;refine ⟨hxS,fun e=>QaH ho.1 hbp (by decide) (by rw [hg,e]),fun e=>?_⟩
  rcases Qdz hp ho.1 (by decide) with h|h
  ·rw [h] at e;cases e
  ·exact h (by rw [e,hg])
 have hbne:b≠p:=fun e=>by rw [←e] at hbp;rw [hbp] at hbm;cases hbm
 have hpb:pv.ownBlock≠some b:=QdL hp hbm;obtain ⟨q1,q2⟩:=Qc1 (w':=w1.setCell ⟨p,1,none⟩ (.slice (some ⟨g,0,none⟩) (l.length+1) cap)) (S:=fun g=>S g∧g≠p∧pv.ownBlock≠some g) hgrp (fun es2 c2 he x hx g hg hn=>by
  obtain ⟨rfl,rfl⟩:es=es2∧clock=c2:=by rw [hbm] at he;simpa using he
  exact hn (hpvS x hx g hg)) ⟨hSb,hbne,hpb⟩ (fun g hg _=>(Qbs _ hg.2.1).trans (k1 g (hSl g hg.1) hg.2.2))
 refine ⟨fun g hg=>by rw [Qbr];exact hg.2,hSX p hSp,hSX b hSb,?_,Qad ht (fun g hg=>(Qbs _ (fun e=>QaH ht hbp (by decide) (by rw [hg,e]))).trans (k1 g (ht.lt g hg).2 (fun e=>hap.elim (fun h=>by rw [h] at hg;cases hg) (fun h=>h (hg.trans e.symm))))),fun g hg=>hSX g (hts g hg),?_,?_,q1,fun es2 c2 he x hx g hg hn=>q2 es2 c2 he x hx g hg (fun hh=>hn (hSX g hh.1)),hG⟩
 ·rw [QhI hp1];rfl
 ·rw [Qnp,List.length_append]
  exact Qad h1 (fun g' hg'=>Qbs _ (by
   have:g=g':=by simpa [Value.ownBlock] using hg'
   omega))
 ·intro g' hg'
  have:g=g':=by simpa [Value.ownBlock] using hg'
  exact this ▸ hg1
theorem Qof{ops:Array Oper}{rest:List Oper}{o:Oper}{a:Act}{Q:Exit→Act→World→Prop}(W:World){p b:Nat}{tv pv:Value}{D:DataW Unit}{r l m:List (List UInt8)}{S:Nat→Prop}(s:List UInt8)
  (QAT:Pre W p b tv pv D r l m S) (hfl:r.flatten.length≤134217728) (h0:s≠[]) (hsl:s.length≤65536)
  (hgd:o.guard=none) (x y:Operand) (ho:o.op = .call { callee:=.builtin .append,args:=#[x,y],argTypes:=#[157,9] }) (hx:a.eval x=tv) (hy:a.eval y = .string (bs s))
  (h:∀ (g k cap:Nat) w1,w1.cell? ⟨p,0,none⟩=some tv→w1.frozen? ⟨p,0,none⟩=false→Touch S W w1→Pre (w1.setCell ⟨p,0,none⟩ (.slice (some ⟨g,0,none⟩) k cap)) p b (.slice (some ⟨g,0,none⟩) k cap) pv D (r++[s]) l m (SX S W w1)→wpList Tryz.prog ops Q rest (a.put o.dst (.slice (some ⟨g,0,none⟩) k cap)) w1) :
  wpList Tryz.prog ops Q (o :: rest) a W:=by
 refine wpList_plain hgd fun K hK=>?_
 obtain ⟨i0,hi,hz0,hz1,hz2⟩:=info_parts Qs7;obtain ⟨hSl,hSp,hSb,hbp,ht,hts,hp,hps,hg,hsh,hG⟩:=QAT;have hlp:=hSl p hSp;have hss:(bs s).size=s.length:=QaC s;have hs0:0<s.length:=List.length_pos_iff.2 h0;obtain ⟨v',w1,hr,h1,h2,-⟩:=Lib.run_append_own_string (P:=Tryz.prog) W 0 157 9 o.type 5 i0 Tryz.underlying157 Tryz.underlying9 hi hz0 hz1 hz2 tv r.flatten.length (QaG r.flatten) ht (bs s) (by unfold maxLen;omega) (by omega) (Nat.zero_le _)
 have h3:=QeQ W 157 9 o.type 5 i0 Tryz.underlying157 Tryz.underlying9 hi hz0 hz1 hz2 tv r.flatten.length (QaG r.flatten) ht (bs s) (by omega) (by unfold maxLen;omega) (by omega) v' w1 hr
 rw [hss,Qq2,Qaj] at h1;obtain ⟨gv,capv,rfl,-,-⟩:=h1.form (by omega)
 have hne:tv.ownBlock≠some p:=QaH ht hbp (by decide)
 obtain ⟨es,clock,hbm,QAZ⟩:=hg;have hgrp:W.ownsGroups Tryz.prog 43 (b+1) 3 .i64 b m.length D:=⟨es,clock,hbm,QAZ⟩;have k1:∀ g,g<W.heap.size→tv.ownBlock≠some g→w1.heap[g]?=W.heap[g]?:=fun g hg hn=>h2.block g hg (fun e=>hn e.symm)
 have hp1:=(k1 p hlp hne).trans hbp;obtain ⟨c1,-,-,f1,-,-⟩:=QfW hp1;have hSX:∀ g,S g→SX S W w1 g:=fun g hg=>⟨.inl hg,Nat.lt_of_lt_of_le (hSl g hg) h2.size⟩
 have hgv:∀ g,(Value.slice (some ⟨gv,0,none⟩) (r.flatten.length+s.length) capv).ownBlock=some g→SX S W w1 g:=fun g hg=>by
  refine ⟨?_,(h1.lt g hg).2⟩;rcases h3 with h3|h3
  ·exact .inl (hts g (by rw [←h3];exact hg))
  ·rw [hg] at h3;rw [Option.some.inj h3];exact .inr (Nat.le_refl _)
 have hgp:∀ g,(Value.slice (some ⟨gv,0,none⟩) (r.flatten.length+s.length) capv).ownBlock=some g→g≠p:=fun g hg e=>QaH h1 hp1 (by decide) (by rw [←e];exact hg)
 have hap:=Qdz hp ht (by decide)
 have hpvS:∀ x∈es.toList,∀ g,x.val.ownBlock=some g→S g∧g≠p∧tv.ownBlock≠some g:=fun x hx g hg=>by
  have hxS:=Classical.not_not.1 (hsh es clock hbm x hx g hg);obtain ⟨F,-⟩:=QAZ;obtain ⟨y,hy⟩:=F.reads x hx;obtain ⟨z,hz,-⟩:=Go.WideElems.rd_val hy;obtain ⟨zs,ho,-⟩:=rowElem_inv hz;refine ⟨hxS,fun e=>QaH ho.1 hbp (by decide) (by rw [hg,e]),fun e=>?_⟩
  rcases Qdz ht ho.1 (by decide) with h|h
  ·rw [h] at e;cases e
  ·exact h (by rw [e,hg])
 have hbne:b≠p:=fun e=>by rw [←e] at hbp;rw [hbp] at hbm;cases hbm
 have hpb:tv.ownBlock≠some b:=QdL ht hbm;obtain ⟨q1,q2⟩:=Qc1 (w':=w1.setCell ⟨p,0,none⟩ (.slice (some ⟨gv,0,none⟩) (r.flatten.length+s.length) capv)) (S:=fun g=>S g∧g≠p∧tv.ownBlock≠some g) hgrp (fun es2 c2 he x hx g hg hn=>by
  obtain ⟨rfl,rfl⟩:es=es2∧clock=c2:=by rw [hbm] at he;simpa using he
  exact hn (hpvS x hx g hg)) ⟨hSb,hbne,hpb⟩ (fun g hg _=>(Qbs _ hg.2.1).trans (k1 g (hSl g hg.1) hg.2.2))
 unfold Oper.wp execOp;simp only [ho,resolve,invoke,builtin,Sem.run_bind,Sem.run_pure,Result.andThen_ok,List.map_toArray,List.map_cons,List.map_nil,hx,hy,hr];refine hK _ _ (h gv _ capv w1 c1 f1 (Touch.of_grown h2 (fun g hg=>.inl (hts g hg))) ⟨fun g hg=>by rw [Qbr];exact hg.2,hSX p hSp,hSX b hSb,?_,?_,hgv,Qad hp (fun g hg=>(Qbs _ (fun e=>QaH hp hbp (by decide) (by rw [hg,e]))).trans (k1 g (hp.lt g hg).2 (fun e=>hap.elim (fun h=>by rw [h] at hg;cases hg) (fun h=>h (hg.trans e.symm))))),fun g hg=>hSX g (hps g hg),q1,fun es2 c2 he x hx g hg hn=>q2 es2 c2 he x hx g hg (fun hh=>hn (hSX g hh.1)),hG⟩)
 ·rw [QhI hp1];rfl
 ·have e1:(r++[s]).flatten=r.flatten++s:=by rw [List.flatten_append,List.flatten_cons,List.flatten_nil,List.append_nil]
  rw [e1,List.length_append,QfX];exact Qad h1 (fun g hg=>Qbs _ (hgp g hg))
theorem Ready.go{w W0 W w2:World}{p b:Nat}{tv pv tv' pv':Value}{D D':DataW Unit}{r l m r' l' m':List (List UInt8)}{M n:Nat}{S S0:Nat→Prop}(h:Ready w W0 p b tv pv D r l m M n S S0)(hSl:∀ g,S g→g<w.heap.size)(hb:Below W0.heap.size W0 W)(ht:Touch S0 W w2)(hp:Pre w2 p b tv' pv' D' r' l' m' (SX S0 W0 w2)) :
  Ready w w2 p b tv' pv' D' r' l' m' M n S (SX S0 W0 w2):=by
 obtain ⟨h1,h2,h3,h4,h5,h6,h7⟩:=h;have hsz:=Nat.le_trans hb.size ht.size;have old:∀ g,g<w.heap.size+2→w.heap.size≤g→w2.heap[g]?=W0.heap[g]?:=fun g hg hg2=>(ht.block g (by have:=hb.size;omega) (fun hs=>(h6 g hs).elim (fun h=>by have:=hSl g h;omega) (fun h=>by omega))).trans (hb.block g (by omega))
 refine ⟨hp,(old _ (by omega) (Nat.le_refl _)).trans h2,(old _ (by omega) (by omega)).trans h3,(h4.trans (Touch.of_below (S:=S) hb) (fun g hg=>.inl hg)).trans ht (fun g hg=>(h6 g hg).imp id (fun e=>by omega)),fun g hg=>⟨.inl (h5 g hg),Nat.lt_of_lt_of_le (h1.1 g (h5 g hg)) hsz⟩,fun g hg=>?_,Nat.le_trans h7 hsz⟩
 rcases hg.1 with hg|hg
 ·exact h6 g hg
 ·exact .inr (by omega)
theorem Ready.goS{w W0 W w2:World}{p b k:Nat}{v:Value}{tv pv tv' pv':Value}{D D':DataW Unit}{r l m r' l' m':List (List UInt8)}{M n:Nat}{S S0:Nat→Prop}(h:Ready w W0 p b tv pv D r l m M n S S0)(hSl:∀ g,S g→g<w.heap.size)(hb:Below W0.heap.size W0 W)(ht:Touch S0 W w2)(hp:Pre (w2.setCell ⟨p,k,none⟩ v) p b tv' pv' D' r' l' m' (SX S0 W0 w2)) :
  Ready w (w2.setCell ⟨p,k,none⟩ v) p b tv' pv' D' r' l' m' M n S (SX S0 W0 w2):=by
 have e:SX S0 W0 w2=SX S0 W0 (w2.setCell ⟨p,k,none⟩ v):=by funext g;unfold SX;rw [Qbr]
 rw [e] at hp ⊢;exact h.go hSl hb (Qaf v ht (.inl h.1.2.1)) hp
theorem Ready.far{w W w6:World}{p b:Nat}{tv pv:Value}{D:DataW Unit}{r l m:List (List UInt8)}{M n:Nat}{S S':Nat→Prop}(h:Ready w W p b tv pv D r l m M n S S')(hSl:∀ g,S g→g<w.heap.size)(ht:Touch S' W w6) :
  w6.heap[w.heap.size]?=some (.cells #[.int .u64 0,.int .u32 0] 148 (0,0))∧w6.heap[w.heap.size+1]?=some (.cells #[.int .u64 (M:Nat),.int .u32 (n:Nat)] 148 (0,0)):=by
 obtain ⟨h1,h2,h3,h4,h5,h6,h7⟩:=h;have old:∀ g,g<w.heap.size+2→w.heap.size≤g→w6.heap[g]?=W.heap[g]?:=fun g hg hg2=>ht.block g (by omega) (fun hs=>(h6 g hs).elim (fun h=>by have:=hSl g h;omega) (fun h=>by omega))
 exact ⟨(old _ (by omega) (Nat.le_refl _)).trans h2,(old _ (by omega) (by omega)).trans h3⟩
theorem Pre.pool{W:World}{p b:Nat}{tv pv:Value}{D:DataW Unit}{l:List (List UInt8)}{S:Nat→Prop}(h:Pre W p b tv pv D l l l S)(hok:OkL l):PoolAt W p l S:=by
 obtain ⟨h1,h2,h3,hb,ht,hts,hp,hps,hg,hsh,hG⟩:=h;exact ⟨hok,h1,h2,_,_,_,hb,ht,hts,hp,hps,.inr ⟨b,D,rfl,h3,hg,hsh,hG⟩⟩
theorem Ready.cells{w W:World}{p b:Nat}{tv pv:Value}{D:DataW Unit}{r l m:List (List UInt8)}{M n:Nat}{S S':Nat→Prop}(h:Ready w W p b tv pv D r l m M n S S') :
  W.cell? ⟨p,0,none⟩=some tv∧W.cell? ⟨p,1,none⟩=some pv∧W.cell? ⟨w.heap.size,0,none⟩=some (.int .u64 0)∧W.cell? ⟨w.heap.size,1,none⟩=some (.int .u32 0)∧W.frozen? ⟨w.heap.size,0,none⟩=false∧W.frozen? ⟨w.heap.size,1,none⟩=false∧W.cell? ⟨w.heap.size+1,0,none⟩=some (.int .u64 (M:Nat))∧W.cell? ⟨w.heap.size+1,1,none⟩=some (.int .u32 (n:Nat))∧p<W.heap.size∧w.heap.size+1<W.heap.size:=by
 obtain ⟨h1,h2,h3,h4,h5,h6,h7⟩:=h;obtain ⟨a0,a1,-,-,-,-⟩:=QfW h1.2.2.2.1;obtain ⟨b0,b1,b2,b3⟩:=Qew h2;obtain ⟨d0,d1,-,-⟩:=Qew h3;exact ⟨a0,a1,b0,b1,b2,b3,d0,d1,h1.lt.1,by omega⟩
end
section
open Go.RowKit Go.Maps PoolPlain
def PutR(p:Nat)(l:List (List UInt8))(s:List UInt8)(S:Nat→Prop)(w:World)(e:Ending)(w':World):Prop:=
 e = .returned (.agg #[.int .u64 (l.flatten.length:Nat),.int .u32 (s.length:Nat)])∧∃ S',PoolAt w' p (l++[s]) S'∧(∀ g,S' g→S g∨w.heap.size≤g)∧Touch S w w'
theorem QuR(p:Nat)(l:List (List UInt8))(S:Nat→Prop)(s:List UInt8)(w:World)(h1:s≠[])(h2:s.length≤65536)(h3:s∉l)(h4:l.length<2048)(hP:PoolAt w p l S) :
  Calls Tryz.prog 115 #[.pointer (some ⟨p,0,none⟩),.string (bs s)] w (PutR p l s S w):=by
 have hpl:=hP.lt;have HP:=hid hP;obtain ⟨hok,hSl,hSp,tv,pv,mv,hb,ht,hts,hpr,hps,hm⟩:=hP;obtain ⟨c0,c1,c2,f0,f1,f2⟩:=QfW hb;have hfl:=Qku l hok;have HS:=hid (fun w=>Qtq (bs s) w (by rw [QaC];omega))
 rw [Qaj] at HS;have hbz:=QaC s;obtain ⟨M,hM⟩:∃ M,l.flatten.length=M:=⟨_,rfl⟩;have HM:=hid hM;rw [hM] at hfl;have e1:IntKind.u64.wrap (M:Int)=(M:Int):=Qrp _ (by omega)
 have e2:IntKind.u32.wrap (s.length:Int)=(s.length:Int):=IntWalk.u32_in _ (by omega)
 have hmm:=@run_makeMap Tryz.prog;have hq:∀ (w:World) (r:Option Nat),(binOp .eql 215 (.map r) (.map none)).run Tryz.prog w = .ok (.bool r.isNone) w:=fun w r=>run_eql_map_nil w _ _ _ r Tryz.underlying215
 obtain ⟨t0,tc,rfl⟩:∃ a c,tv = .slice a M c:=by
  rcases ht.2 with ⟨rfl,h0⟩|⟨g,cap,cur,rfl,-⟩
  ·exact ⟨none,0,by rw [←hM,h0]⟩
  ·exact ⟨_,_,by rw [←hM]⟩
 have HT:=hid ht;have HPR:=hid hpr;have hA:=Qa4 w (.cells #[.int .u64 0,.int .u32 0] 148);have hAB:((w.alloc (.cells #[.int .u64 0,.int .u32 0] 148)).alloc (.cells #[.int .u64 (M:Nat),.int .u32 (s.length:Nat)] 148)).heap[w.heap.size]?=some (.cells #[.int .u64 0,.int .u32 0] 148 (0,0)):=
  (heap_alloc_old _ _ (by rw [World.size_alloc];omega)).trans hA
 have hBB:=Qa4 (w.alloc (.cells #[.int .u64 0,.int .u32 0] 148)) (.cells #[.int .u64 (M:Nat),.int .u32 (s.length:Nat)] 148);rw [World.size_alloc] at hBB;have hBel:Below w.heap.size w ((w.alloc (.cells #[.int .u64 0,.int .u32 0] 148)).alloc (.cells #[.int .u64 (M:Nat),.int .u32 (s.length:Nat)] 148)):=((Below.refl _ _).alloc (Nat.le_refl _) _).alloc (by rw [World.size_alloc];omega) _
 have hz2:((w.alloc (.cells #[.int .u64 0,.int .u32 0] 148)).alloc (.cells #[.int .u64 (M:Nat),.int .u32 (s.length:Nat)] 148)).heap.size=w.heap.size+1+1:=by rw [World.size_alloc,World.size_alloc]
 have HA:=hid (And.intro hAB (And.intro hBB (And.intro hBel hz2)));clear hA hAB hBB hBel hz2 hM;have HSl:=hid hSl;have HTS:=hid hts;have HPS:=hid hps;have Hb:=hid hb;have HOK:=hid hok;obtain ⟨p0,pc,rfl⟩:∃ a c,pv = .slice a l.length c:=by
  rcases hpr.2 with ⟨rfl,h0⟩|⟨g,cap,cur,rfl,-⟩
  ·exact ⟨none,0,by rw [h0]⟩
  ·exact ⟨_,_,rfl⟩
 rcases hm with ⟨rfl,hl0⟩|⟨b,D,rfl,hSb,hg,hsh,hD⟩
 case' inl=>
  have HR:=hid (QrZ HSl.out hSp Hb.out HT.out HTS.out HPR.out HPS.out hl0 HA.out);have f2':(((w.alloc (.cells #[.int .u64 0,.int .u32 0] 148)).alloc (.cells #[.int .u64 (M:Nat),.int .u32 (s.length:Nat)] 148)).alloc (.map #[] 0)).frozen? ⟨p,2,none⟩=false:=by
   refine (World.frozen?_of_block (w:=w) ?_).trans f2;exact (heap_alloc_old _ _ (by rw [HA.out.2.2.2];show p<_;omega)).trans (HA.out.2.2.1.block p hpl)
  have c2':(((w.alloc (.cells #[.int .u64 0,.int .u32 0] 148)).alloc (.cells #[.int .u64 (M:Nat),.int .u32 (s.length:Nat)] 148)).alloc (.map #[] 0)).cell? ⟨p,2,none⟩=some (.map none):=by
   refine (World.cell?_of_block (w:=w) ?_).trans c2;exact (heap_alloc_old _ _ (by rw [HA.out.2.2.2];show p<_;omega)).trans (HA.out.2.2.1.block p hpl)
  clear hl0 hb ht hpr hok hSl hts hps;go_enter Tryz.func115,Tryz.ntmps115;go_wp2_with fail;generalize (((w.alloc (.cells #[.int .u64 0,.int .u32 0] 148)).alloc (.cells #[.int .u64 (M:Nat),.int .u32 (s.length:Nat)] 148)).alloc (.map #[] 0)).setCell ⟨p,2,none⟩ (.map (some (w.heap.size+1+1)))=W2 at HR ⊢;generalize (fun g=>S g∨g=w.heap.size+2)=S2 at HR ⊢
  generalize w.heap.size+1+1=b at HR ⊢;generalize (DataW.map [])=D at HR ⊢;clear f2' c2' HA c0 c1 c2 f0 f1 f2
 case' inr=>
  have HR:=hid (QpW (⟨HSl.out,hSp,hSb,Hb.out,HT.out,HTS.out,HPR.out,HPS.out,hg,hsh,hD⟩:Pre w p b _ _ D l l l S) HA.out);clear hb ht hpr hok hSl hts hps hg hsh hD;go_enter Tryz.func115,Tryz.ntmps115;go_wp2_with fail;generalize (w.alloc (.cells #[.int .u64 0,.int .u32 0] 148)).alloc (.cells #[.int .u64 (M:Nat),.int .u32 (s.length:Nat)] 148)=W2 at HR ⊢;obtain ⟨S2,hS2⟩:∃ S2,S2=S:=⟨S,rfl⟩;replace HR:Hid (Ready w W2 p b (Value.slice t0 M tc) (Value.slice p0 l.length pc) D l l l M s.length S S2):=by rw [hS2];exact HR
  clear HA c0 c1 c2 f0 f1 f2 hSb hS2
 all_goals
  refine (HS.out _).mono ?_;rintro e W3 ⟨rfl,hb3⟩;have HR3:=hid (HR.out.below hb3);clear HR hb3;obtain ⟨F,hF⟩:=QpG b (FnvPlain.sum s);have HF:=hid hF;obtain ⟨v,zs,q1,q2,q3,q4,q5,q6⟩:=Qe9 QyH Tryz.underlying215 Qg6 HR3.out.1.2.2.2.2.2.2.2.2.1 HR3.out.1.2.2.2.2.2.2.2.2.2.1 (by unfold maxLen;omega) (Qgo _ (FnvPlain.sum_lt s))
  rw [HR3.out.1.2.2.2.2.2.2.2.2.2.2 _ (FnvPlain.sum_lt s)] at q1;obtain rfl:=QrT q2 q1.symm;have HO:=hid q2;have HBk:=hid q4;have HvS:=hid q5;have HLk:Hid (∀ w',w'.heap[b]?=W3.heap[b]?→Qol b (FnvPlain.sum s) w' v):=hid q6;have HKA:Hid (∀ W,Below W3.heap.size W3 W→PutS F p b (FnvPlain.sum s) (Value.slice p0 l.length pc) W):=hid (fun W hW=>PutS.of hF ((hW.block p HR3.out.1.lt.1).trans HR3.out.1.2.2.2.1) (q6 W (hW.block b HR3.out.1.lt.2)))
  have HFW:Hid (∀ W,Below W3.heap.size W3 W→F W=v):=hid (fun W hW=>hF W v (q6 W (hW.block b HR3.out.1.lt.2)))
  clear hF q1 q2 q3 q4 q5 q6;go_wp2_with fail;go_region_held3 (fun w'=>w'.cell? ⟨p,2,none⟩=some (.map (some b))∧w'.cell? ⟨p,1,none⟩=some (Value.slice p0 l.length pc)∧(Instr.lookup 215 (.map (some b)) (.int .u64 (FnvPlain.sum s:Nat)) false).run Tryz.prog w' = .ok (F w') w') (first|exact HKA.out _ (Below.refl _ _).drew|exact HKA.out _ ((Below.refl _ _).alloc (Nat.le_refl _) _).drew|exact QBl.s1|exact QBl.s2)
   (first
    |(refine Qje F W3 s HF.out HR3.out.1 h4 HO.out HBk.out HvS.out HLk.out _ W3.heap.size ?_ ?_ rfl _ _ rfl (HFW.out _ (Below.refl _ _).drew) rfl ?_;exact ((Below.refl _ _).alloc (Nat.le_refl _) _).drew;exact Qa4 W3 _;intro v' w1 w2 QAw QBl)
    |(refine Qje F W3 s HF.out HR3.out.1 h4 HO.out HBk.out HvS.out HLk.out _ W3.heap.size ?_ ?_ rfl _ _ rfl (HFW.out _ ((Below.refl _ _).alloc (Nat.le_refl _) _).drew) rfl ?_;exact ((Below.refl _ _).alloc (Nat.le_refl _) _).drew;exact Qa4 W3 _;intro v' w1 w2 QAw QBl))
  all_goals
   have hmd:=hid QBl;obtain ⟨D',hD'⟩:=QBl.pre;have HR4:Hid (Ready w w2 p b (Value.slice t0 M tc) (Value.slice p0 l.length pc) D' l l (l++[s]) M s.length S (SX S2 W3 w2)):=hid (HR3.out.go HSl.out ((Below.refl _ _).alloc (Nat.le_refl _) _).drew QBl.touch hD');clear hmd hD' QBl QAw HKA HLk HvS HBk HO HR3 HF HFW;obtain ⟨-,a1,-,-,-,-,a6,a7,a8,a9⟩:=HR4.out.cells;go_wp2_with fail;go_region_law (first
    |(refine Qm4 w2 s HR4.out.1 h4 _ w2.heap.size ?_ ?_ rfl _ _ rfl rfl rfl ?_;exact ((Below.refl _ _).alloc (Nat.le_refl _) _).drew;(rw [HM.out];exact Qa4 w2 _);intro g cap w4 c4 f4 ht4 QBO))
   all_goals
    have HR5:Hid (Ready w (w4.setCell ⟨p,1,none⟩ (Value.slice (some ⟨g,0,none⟩) (l.length+1) cap)) p b (Value.slice t0 M tc) (Value.slice (some ⟨g,0,none⟩) (l.length+1) cap) D' l (l++[s]) (l++[s]) M s.length S (SX (SX S2 W3 w2) w2 w4)):=hid (HR4.out.goS HSl.out ((Below.refl _ _).alloc (Nat.le_refl _) _).drew ht4 QBO);clear QBO ht4 HR4 a1 a6 a7 a8 a9 c4 f4;generalize (SX (SX S2 W3 w2) w2 w4)=S5 at HR5;generalize w4.setCell ⟨p,1,none⟩ (Value.slice (some ⟨g,0,none⟩) (l.length+1) cap)=W5 at HR5 ⊢;obtain ⟨a0,-,-,-,-,-,-,-,a8,a9⟩:=HR5.out.cells;go_wp2_with (at_builtin;(refine Qof W5 s HR5.out.1 (by rw [HM.out];exact hfl) h1 h2 rfl _ _ rfl rfl rfl ?_);intro g6 k6 cap6 w6 c6 f6 ht6 QBN;have HT6:=hid ht6;have HP6:=hid QBN;obtain ⟨x0,x1⟩:=HR5.out.far HSl.out ht6;have HX:=hid x0;obtain ⟨y0,y1,y2,y3⟩:=Qew x0;obtain ⟨y4,y5,-,-⟩:=Qew x1;have ls6:=Nat.lt_of_lt_of_le a9 ht6.size;clear ht6 QBN x0 x1)
    have HR7:=hid (HR5.out.goS HSl.out (Below.refl _ _) HT6.out HP6.out);have hx0:(w6.setCell ⟨p,0,none⟩ (.slice (some ⟨g6,0,none⟩) k6 cap6)).heap[w.heap.size]?=some (.cells #[.int .u64 0,.int .u32 0] 148 (0,0)):=(Qbs _ (by omega)).trans HX.out
    refine QdH (A:=⟨w.heap.size,0,none⟩) rfl (QbB _ _ _ _ _ (Qbf hx0 _ _)) rfl rfl ?_;refine ⟨by rw [HM.out],_,(HR7.out.1.pool (Qu4 l s HOK.out h1 h2 h3 h4)).keep (by simp only [Qbr];exact Nat.le_refl _) (fun g hg=>?_),fun g hg=>(HR7.out.2.2.2.2.2.1 g hg).imp id (fun e=>by omega),Qaf _ (Qaf _ HR7.out.2.2.2.1 (.inr (Nat.le_refl _))) (.inr (Nat.le_refl _))⟩
    have hgn:g≠w.heap.size:=fun e=>(HR7.out.2.2.2.2.2.1 g hg).elim (fun h=>by have:=HSl.out g h;omega) (fun h=>by omega)
    exact (Qbs _ hgn).trans (Qbs _ hgn)
end
section
open Go.RowKit Go.Maps PoolPlain
def QyF(p:Nat)(l:List (List UInt8))(s:List UInt8)(S:Nat→Prop)(w:World)(e:Ending)(w':World):Prop:=
 e = .returned (.tuple #[.agg #[.int .u64 ((QyI l s).1:Nat),.int .u32 ((QyI l s).2:Nat)],.bool (Qoi l s),.int .i64 (QwS l s:Nat)])∧∃ S',PoolAt w' p (Qzx l s) S'∧(∀ g,S' g→S g∨w.heap.size≤g)∧Touch S w w'
theorem Qhn{p:Nat}{l:List (List UInt8)}{s:List UInt8}{S:Nat→Prop}{w:World}{e:Ending}{w':World}(h:¬(s≠[]∧s.length≤65536∧s∉l∧l.length<2048))(hP:PoolAt w p l S){a b c:Nat}(h1:(fnd l s).1=a)(h2:(fnd l s).2.1=b)(h3:QwS l s=c)
  (he:e = .returned (.tuple #[.agg #[.int .u64 (a:Nat),.int .u32 (b:Nat)],.bool false,.int .i64 (c:Nat)])) (hb:Below w.heap.size w w'):QyF p l s S w e w':=by
 obtain ⟨g1,g2,g3⟩:=Qyy l s h;subst h1 h2 h3;refine ⟨by rw [g1,g3];exact he,S,by rw [g2];exact hP.below hb,fun g hg=>.inl hg,Touch.of_below hb⟩
theorem QuS(w:World):Calls Tryz.prog 58 #[] w fun e w'=>e = .returned (.pointer (some ⟨w.heap.size,0,none⟩))∧w'=w.alloc (.cells #[.slice none 0 0,.slice none 0 0,.map none] 217):=by
 go_enter Tryz.func58,Tryz.ntmps58;go_wp2_with fail;go_ret;exact ⟨rfl,rfl⟩
theorem QuT(p:Nat)(l:List (List UInt8))(S:Nat→Prop)(s:ByteArray)(w:World)(hs:s.size≤9223372036854775807)(hP:PoolAt w p l S) :
  Calls Tryz.prog 60 #[.pointer (some ⟨p,0,none⟩),.string s] w (QyF p l s.data.toList S w):=by
 obtain ⟨m,rfl⟩:∃ m,s=bs m:=⟨s.data.toList,(Qcx s).symm⟩;rw [Qaj];have hbz:=QaC m;have hA:=Qa4 w (.cells #[.int .u64 0,.int .u32 0] 148);have hB0:Below w.heap.size w (w.alloc (.cells #[.int .u64 0,.int .u32 0] 148)):=(Below.refl _ _).alloc (Nat.le_refl _) _;have hok:=hP.1
 by_cases h1:m = []
 ·have HE:Hid (QyF p l m S w (.returned (.tuple #[.agg #[.int .u64 0,.int .u32 0],.bool false,.int .i64 2])) (w.alloc (.cells #[.int .u64 0,.int .u32 0] 148))):=hid (by
   have hf:=Qhk l m (by rw [h1];exact not_mem_nil l hok)
   exact Qhn (fun h=>h.1 h1) hP (by rw [hf]) (by rw [hf]) (by unfold QwS;rw [if_pos h1]) rfl hB0)
  have t1:(bs m).toList = []:=by rw [ByteArray.toList_eq,Qaj];exact h1
  clear h1 hP hok;go_enter Tryz.func60,Tryz.ntmps60;go_wp2_with fail;refine QaK (A:=⟨w.heap.size,0,none⟩) rfl (QbB _ _ _ _ _ hA) rfl rfl rfl rfl ?_;exact HE.out
 ·have t1:(bs m).toList.isEmpty=false:=by rw [ByteArray.toList_eq,Qaj];cases m with
   |nil=>exact absurd rfl h1
   |cons a t=>rfl
  by_cases h2:65536<m.length
  ·have HE:Hid (QyF p l m S w (.returned (.tuple #[.agg #[.int .u64 0,.int .u32 0],.bool false,.int .i64 5])) (w.alloc (.cells #[.int .u64 0,.int .u32 0] 148))):=hid (by
    have hf:=Qhk l m (QlC l hok m h2);exact Qhn (fun h=>by have:=h.2.1;omega) hP (by rw [hf]) (by rw [hf]) (by unfold QwS;rw [if_neg h1,if_pos h2]) rfl hB0)
   clear h1 hP hok;have t2:decide ((65536:Int)<(m.length:Int))=true:=decide_eq_true (by omega)
   go_enter Tryz.func60,Tryz.ntmps60;go_wp2_with fail;refine QaK (A:=⟨w.heap.size,0,none⟩) rfl (QbB _ _ _ _ _ hA) rfl rfl rfl rfl ?_;exact HE.out
  ·have t2:decide ((65536:Int)<(m.length:Int))=false:=decide_eq_false (by omega)
   have HFn:=hid (Qsc p l S (bs m) (w.alloc (.cells #[.int .u64 0,.int .u32 0] 148)) hs (hP.below hB0));rw [Qaj] at HFn;have H1:=hid h1;have HP:=hid hP;have hpl:=hP.lt;obtain ⟨p0,pc,c1⟩:∃ a c,w.cell? ⟨p,1,none⟩=some (.slice a l.length c):=by
    obtain ⟨-,-,-,tv,pv,mv,hb,-,-,hpr,-,-⟩:=hP;obtain ⟨-,c1,-,-,-,-⟩:=QfW hb;rcases hpr.2 with ⟨rfl,h0⟩|⟨g,cap,cur,rfl,-⟩
    ·exact ⟨none,0,by rw [h0];exact c1⟩
    ·exact ⟨_,_,c1⟩
   clear h1 hok hP
   by_cases h3:m∈l
   ·have HE:Hid (∀ w',Below w.heap.size w w'→QyF p l m S w (.returned (.tuple #[.agg #[.int .u64 ((fnd l m).1:Nat),.int .u32 ((fnd l m).2.1:Nat)],.bool false,.int .i64 0])) w'):=hid (fun w' hb=>Qhn (fun h=>h.2.2.1 h3) HP.out rfl rfl (by unfold QwS;rw [if_neg H1.out,if_neg h2,if_pos h3]) rfl hb)
    obtain ⟨k,hk,e1,e2⟩:=QvY l m h3;have hf:=Qtr l m k hk e1 e2;have Hf:=hid hf;clear e1 e2 hf h3;go_enter Tryz.func60,Tryz.ntmps60;go_wp2_with fail;refine HFn.out.mono ?_;rintro e w1 ⟨rfl,hb1⟩;have hbx:=Qaa hB0 hb1;have hA1:=(hb1.block w.heap.size (by rw [World.size_alloc];omega)).trans hA
    have hz1:=Nat.lt_of_lt_of_le (show w.heap.size<_ by rw [World.size_alloc];exact Nat.lt_succ_self _) hb1.size
    rw [Hf.out] at HE ⊢;generalize off l k=o at HE ⊢;obtain ⟨n,hn⟩:∃ n,m.length=n:=⟨_,rfl⟩;rw [hn] at HE ⊢;clear hn;obtain ⟨x0,x1,x2,x3⟩:=Qew hA1;have HA1:=hid hA1;have HBX:=hid hbx;clear hb1 hA1 hbx hA hB0;go_wp2_with fail;refine QaK (A:=⟨w.heap.size,0,none⟩) rfl (QbB _ _ _ _ _ ((heap_alloc_old _ _ (by simp only [Qbr];exact hz1)).trans (Qbf HA1.out _ _))) rfl rfl rfl rfl ?_
    refine HE.out _ ?_;exact ((HBX.out.setCell (p:=⟨w.heap.size,0,none⟩) (Nat.le_refl _) _).setCell (p:=⟨w.heap.size,1,none⟩) (Nat.le_refl _) _).alloc (by simp only [Qbr];omega) _
   ·have hf:=Qhk l m h3
    have Hf:=hid hf
    by_cases h4:2048≤l.length
    ·have HE:Hid (∀ w',Below w.heap.size w w'→QyF p l m S w (.returned (.tuple #[.agg #[.int .u64 0,.int .u32 0],.bool false,.int .i64 7])) w'):=hid (fun w' hb=>Qhn (fun h=>by have:=h.2.2.2;omega) HP.out (by rw [hf]) (by rw [hf]) (by unfold QwS;rw [if_neg H1.out,if_neg h2,if_neg h3,if_pos h4]) rfl hb)
     have t4:decide ((2048:Int)≤(l.length:Int))=true:=decide_eq_true (by omega)
     clear h3 hf;go_enter Tryz.func60,Tryz.ntmps60;go_wp2_with fail;refine HFn.out.mono ?_;rintro e w1 ⟨rfl,hb1⟩;have hbx:=Qaa hB0 hb1;have hA1:=(hb1.block w.heap.size (by rw [World.size_alloc];omega)).trans hA
     have hz1:=Nat.lt_of_lt_of_le (show w.heap.size<_ by rw [World.size_alloc];exact Nat.lt_succ_self _) hb1.size
     have d1:=(hbx.cell (p:=⟨p,1,none⟩) hpl).trans c1;have hpx:=Nat.lt_of_lt_of_le hpl hbx.size;rw [Hf.out];obtain ⟨x0,x1,x2,x3⟩:=Qew hA1;have HA1:=hid hA1;have HBX:=hid hbx;clear hb1 hA1 hbx hA hB0 c1;go_wp2_with fail;refine QaK (A:=⟨w.heap.size,0,none⟩) rfl (QbB _ _ _ _ _ ((heap_alloc_old _ _ (by simp only [Qbr];exact hz1)).trans (Qbf HA1.out _ _))) rfl rfl rfl rfl ?_
     refine HE.out _ ?_;exact ((HBX.out.setCell (p:=⟨w.heap.size,0,none⟩) (Nat.le_refl _) _).setCell (p:=⟨w.heap.size,1,none⟩) (Nat.le_refl _) _).alloc (by simp only [Qbr];omega) _
    ·have t4:decide ((2048:Int)≤(l.length:Int))=false:=decide_eq_false (by omega)
     have HN:=hid (Qub l m H1.out (by omega) h3 (by omega))
     have HPut:=hid (fun W (h:PoolAt W p l S)=>QuR p l S m W H1.out (by omega) h3 (by omega) h)
     clear h3 hf;go_enter Tryz.func60,Tryz.ntmps60;go_wp2_with fail;refine HFn.out.mono ?_;rintro e w1 ⟨rfl,hb1⟩;have hbx:=Qaa hB0 hb1;have hA1:=(hb1.block w.heap.size (by rw [World.size_alloc];omega)).trans hA
     have hz1:=Nat.lt_of_lt_of_le (show w.heap.size<_ by rw [World.size_alloc];exact Nat.lt_succ_self _) hb1.size
     have d1:=(hbx.cell (p:=⟨p,1,none⟩) hpl).trans c1;have hpx:=Nat.lt_of_lt_of_le hpl hbx.size;rw [Hf.out];have HA1:=hid hA1;have HBX:=hid hbx;clear hb1 hA1 hbx hA hB0 c1;go_wp2_with fail;refine (HPut.out _ (HP.out.below ?_)).mono ?_
     ·exact HBX.out.alloc (by omega) _
     rintro e w2 ⟨rfl,S',hp2,hS',ht2⟩;have hSl:=HP.out.2.1;have hr2:=(ht2.block w.heap.size (by rw [World.size_alloc];omega) (fun hs=>by have:=hSl _ hs;omega)).trans ((heap_alloc_old w1 _ hz1).trans HA1.out)
     obtain ⟨x0,x1,x2,x3⟩:=Qew hr2;have HR2:=hid hr2;have hsz2:w.heap.size<w2.heap.size:=Nat.lt_of_lt_of_le hz1 (Nat.le_trans (by rw [World.size_alloc];omega) ht2.size)
     have HP2:=hid hp2;have HS2:Hid (∀ g,S' g→S g∨w.heap.size<g):=hid (fun g hg=>(hS' g hg).imp id (fun h=>by rw [World.size_alloc] at h;omega))
     have HT2:Hid (Touch S w w2):=hid ((Touch.of_below (S:=S) (HBX.out.alloc (by omega) _)).trans ht2 (fun g hg=>.inl hg))
     have HSl:=hid hSl;clear hp2 hS' ht2 hr2 d1 hSl;obtain ⟨M,hM⟩:∃ M,l.flatten.length=M:=⟨_,rfl⟩;rw [hM];have HM:=hid hM;clear hM;go_wp2_with fail;refine QaK (A:=⟨w.heap.size,0,none⟩) rfl (QbB _ _ _ _ _ (Qbf HR2.out _ _)) rfl rfl rfl rfl ?_;obtain ⟨n1,n2,n3,n4⟩:=HN.out;refine ⟨by rw [n1,n3,n4,HM.out];rfl,S',?_,fun g hg=>(HS2.out g hg).imp id (fun h=>by omega),Qaf _ (Qaf _ HT2.out (.inr (Nat.le_refl _))) (.inr (Nat.le_refl _))⟩
     rw [n2];refine HP2.out.keep (by simp only [Qbr];exact Nat.le_refl _) (fun g hg=>?_)
     have hgn:g≠w.heap.size:=fun e=>(HS2.out g hg).elim (fun h=>by have:=HSl.out g h;omega) (fun h=>by omega)
     exact (Qbs _ hgn).trans (Qbs _ hgn)
end
section
open Go.RowKit
def NRd(b:Nat)(s:ByteArray)(n:Nat)(w:World):Prop:=w.heap[b]?=some (.cells #[.string s,.int .i64 (n:Int),.int .i64 0] 211 (0,0))
theorem NRd.cells{b:Nat}{s:ByteArray}{n:Nat}{w:World}(h:NRd b s n w):w.cell? ⟨b,0,none⟩=some (.string s)∧w.cell? ⟨b,1,none⟩=some (.int .i64 (n:Int))∧w.cell? ⟨b,2,none⟩=some (.int .i64 0)∧w.frozen? ⟨b,1,none⟩=false:=by
 unfold NRd at h;refine ⟨?_,?_,?_,?_⟩
 ·unfold World.cell?;rw [h];rfl
 ·unfold World.cell?;rw [h];rfl
 ·unfold World.cell?;rw [h];rfl
 ·unfold World.frozen?;rw [h];rfl
theorem NRd.setAt{b:Nat}{s:ByteArray}{n:Nat}{w:World}(h:NRd b s n w)(m:Nat):NRd b s m (w.setCell ⟨b,1,none⟩ (.int .i64 (m:Int))):=by
 unfold NRd at h ⊢;simp [World.setCell,Array.getElem?_modify,h]
theorem NRd.lt{b:Nat}{s:ByteArray}{n:Nat}{w:World}(h:NRd b s n w):b<w.heap.size:=(gsi h).1
theorem NRd.drewN{b:Nat}{s:ByteArray}{n:Nat}{w:World}(h:NRd b s n w)(m:Nat):NRd b s n (w.drewN m):=h
theorem QwF{b:Nat}{w:World}(m o:Nat)(v:Value):Touch (fun g=>g=b) w ((w.drewN m).setCell ⟨b,o,none⟩ v):=Qaf v (⟨rfl,rfl,rfl,Nat.le_refl _,fun _ _ _=>rfl⟩) (.inl rfl)
theorem Qnw{b:Nat}{w:World}(m:Nat):Touch (fun g=>g=b) w (w.drewN m):=⟨rfl,rfl,rfl,Nat.le_refl _,fun _ _ _=>rfl⟩
theorem Qh1{b:Nat}{w w1 w2:World}(h:Touch (fun g=>g=b) w w1)(k:Touch (fun g=>g=b) w1 w2):Touch (fun g=>g=b) w w2:=h.trans k (fun _ h=>.inl h)
def Qwx(b:Nat)(s:ByteArray)(n:Nat)(v:Value)(w:World)(e:Ending)(w':World):Prop:=e = .returned v∧NRd b s n w'∧Touch (fun g=>g=b) w w'
theorem QtX(c:UInt8)(hc:c=123∨c=125)(w:World):Calls Tryz.prog 158 #[.string ⟨#[32,9,10,13]⟩,.int .u8 (c.toNat:Int)] w fun e w'=>e = .returned (.int .i64 (-1))∧w'=w:=by
 have h:=Tryz.strings_IndexByte ⟨#[32,9,10,13]⟩ (c.toNat:Int) w;rcases hc with rfl|rfl
 ·exact h
 ·exact h
theorem Qky(b:Nat)(s:ByteArray)(n:Nat)(w:World)(h:NRd b s n w)(hs:s.size=2)(hn:n=2∨∃ hn:n<s.size,s[n]=123∨s[n]=125) :
  Calls Tryz.prog 110 #[.pointer (some ⟨b,0,none⟩)] w (Qwx b s n (.tuple #[]) w):=by
 have HH:=hid h;obtain ⟨c0,c1,c2,f1⟩:=h.cells;clear h;rcases hn with rfl|⟨hn,hc⟩
 ·have t1:decide ((2:Int)<(s.size:Int))=false:=decide_eq_false (by omega)
  have c1':w.cell? ⟨b,1,none⟩=some (.int .i64 2):=c1;clear c1 hs;go_enter Tryz.func110,Tryz.ntmps110;go_wp2_with fail;go_loopg [] 0 (fun gk wx=>wx=w)
  case atStart=>rfl
  case round=>
   obtain rfl:=hrel;go_wp2_with fail;go_quiet (fail);go_wp2_with fail;go_end0;exact ⟨rfl,HH.out.drewN _,Qnw _⟩
 ·have t1:decide ((n:Int)<(s.size:Int))=true:=decide_eq_true (by omega)
  have HB:=hid (fun w=>QtX s[n] hc w)
  clear hc hs;go_enter Tryz.func110,Tryz.ntmps110;go_wp2_with fail;go_loopg [] 0 (fun gk wx=>wx=w)
  case atStart=>rfl
  case round=>
   obtain rfl:=hrel;go_wp2_with fail;go_quiet (first|(go_at_call 158;exact Calls.quiet_of_same (HB.out _)))
   go_wp2_with fail;go_end0;exact ⟨rfl,HH.out.drewN _,Qnw _⟩
theorem QyZ(b:Nat)(s:ByteArray)(n:Nat)(c:UInt8)(w:World)(h:NRd b s n w)(hs:s.size=2)(hn:n<s.size)(hc:s[n]=c) :
  Calls Tryz.prog 227 #[.pointer (some ⟨b,0,none⟩),.int .u8 (c.toNat:Int)] w (Qwx b s (n+1) (.bool true) w):=by
 have HF:=hid (fun m=>(show NRd b s (n+1) ((w.drewN m).setCell ⟨b,1,none⟩ (.int .i64 ((n:Int)+1))) from (h.drewN m).setAt (n+1)))
 have hsl:s.size≤1000000:=by omega
 obtain ⟨c0,c1,c2,f1⟩:=h.cells;have t1:decide ((n:Int)<(s.size:Int))=true:=decide_eq_true (by omega)
 have t2:((s[n].toNat:Int)==(c.toNat:Int))=true:=by rw [hc,beq_iff_eq]
 clear h hc hs;go_enter Tryz.func227,Tryz.ntmps227;go_wp2_with fail;go_quiet (fail);go_wp2_with fail;go_ret;exact ⟨rfl,HF.out _,QwF _ _ _⟩
theorem QxB(b:Nat)(s:ByteArray)(n:Nat)(c:UInt8)(w:World)(h:NRd b s n w)(hs:s.size=2)(hn:n<s.size)(hc:s[n]=c)(hl:n+1=2∨∃ hn:n+1<s.size,s[n+1]=123∨s[n+1]=125) :
  Calls Tryz.prog 196 #[.pointer (some ⟨b,0,none⟩),.int .u8 (c.toNat:Int)] w (Qwx b s (n+1) (.bool true) w):=by
 have HF:=hid (fun m=>(show NRd b s (n+1) ((w.drewN m).setCell ⟨b,1,none⟩ (.int .i64 ((n:Int)+1))) from (h.drewN m).setAt (n+1)))
 have hsl:s.size≤1000000:=by omega
 have HB:=hid (fun W (h:NRd b s (n+1) W)=>Qky b s (n+1) W h hs hl)
 obtain ⟨c0,c1,c2,f1⟩:=h.cells;have t1:((n:Int)==(s.size:Int))=false:=by rw [beq_eq_false_iff_ne];omega
 have t2:((s[n].toNat:Int)==(c.toNat:Int))=true:=by rw [hc,beq_iff_eq]
 clear h hc hl hs;go_enter Tryz.func196,Tryz.ntmps196;go_wp2_with fail;go_quiet (fail);go_wp2_with fail;refine (HB.out _ (HF.out _)).mono ?_;rintro e w1 ⟨rfl,r1,q1⟩;go_wp2_with fail;go_ret;exact ⟨rfl,r1,Qh1 (QwF _ _ _) q1⟩
theorem QxC(b:Nat)(s:ByteArray)(v:Value)(w:World)(h:NRd b s 0 w)(hs:s.size=2)(h0:s[0]'(by omega)=123)(h1:s[1]'(by omega)=125) :
  Calls Tryz.prog 191 #[.pointer (some ⟨b,0,none⟩),.int .i64 1,.int .u8 123,.int .u8 125,v] w (Qwx b s 2 (.tuple #[]) w):=by
 have HS:=hid (QxB b s 0 123 w h hs (by omega) h0 (.inr ⟨by omega,.inr h1⟩))
 have HE:=hid (fun W (h:NRd b s 1 W)=>QyZ b s 1 125 W h hs (by omega) h1)
 clear h h0 h1;go_enter Tryz.func191,Tryz.ntmps191;go_wp2_with fail;refine HS.out.mono ?_;rintro e w1 ⟨rfl,r1,q1⟩;go_wp2_with fail;refine (HE.out _ r1).mono ?_;rintro e w2 ⟨rfl,r2,q2⟩;go_wp2_with fail
 first|go_end0|(simp only [Exit.inBlock,Exit.then];refine bodyPost_ret (results_none rfl _ _ _) rfl ?_)|refine bodyPost_ret (results_none rfl _ _ _) rfl ?_
 exact ⟨rfl,r2,Qh1 q1 q2⟩
end
section
open Go.RowKit
def QzA(b:Nat)(s:ByteArray)(w:World)(e:Ending)(w':World):Prop:=∃ v,e = .returned (.iface 136 v)∧NRd b s 2 w'∧Touch (fun g=>g=b) w w'
theorem QsF(b:Nat)(s:ByteArray)(w:World)(h:NRd b s 0 w)(hs:s.size=2)(h0:s[0]'(by omega)=123)(h1:s[1]'(by omega)=125) :
  Calls Tryz.prog 163 #[.pointer (some ⟨b,0,none⟩),.int .i64 1] w (QzA b s w):=by
 have hbw:=h.lt;have hmf:∀ (fn:Fn) (first cap:Array Value) (w:World),(Instr.makeFunc fn first cap).run Tryz.prog w = .ok (.func fn first cap) w:=fun _ _ _ _=>rfl
 obtain ⟨W,hW⟩:∃ W,(((w.alloc (.cells #[.pointer (some ⟨b,0,none⟩)] 209)).alloc (.cells #[.int .i64 1] 3)).alloc (.cells #[] 309)).alloc (.cells #[.slice (some ⟨w.heap.size+1+1,0,none⟩) 0 0] 136)=W:=⟨_,rfl⟩;have hWB:Below w.heap.size w W:=by
  rw [←hW];refine Below.alloc (Below.alloc (Below.alloc (Below.alloc (Below.refl _ _) ?_ _) ?_ _) ?_ _) ?_ _<;>simp<;>omega
 have hsz:W.heap.size=w.heap.size+4:=by rw [←hW];simp
 have k0:W.heap[w.heap.size]?=some (.cells #[.pointer (some ⟨b,0,none⟩)] 209 (0,0)):=by
  rw [←hW];exact (heap_alloc_old _ _ (by rw [World.size_alloc,World.size_alloc,World.size_alloc];omega)).trans ((heap_alloc_old _ _ (by rw [World.size_alloc,World.size_alloc];omega)).trans ((heap_alloc_old _ _ (by rw [World.size_alloc];omega)).trans (heap_alloc_new w _)))
 have k1:W.heap[w.heap.size+1]?=some (.cells #[.int .i64 1] 3 (0,0)):=by
  rw [←hW];have:=heap_alloc_new (w.alloc (.cells #[.pointer (some ⟨b,0,none⟩)] 209)) (.cells #[.int .i64 1] 3);rw [World.size_alloc] at this;exact (heap_alloc_old _ _ (by rw [World.size_alloc,World.size_alloc,World.size_alloc];omega)).trans ((heap_alloc_old _ _ (by rw [World.size_alloc,World.size_alloc];omega)).trans this)
 have k3:W.heap[w.heap.size+1+1+1]?=some (.cells #[.slice (some ⟨w.heap.size+1+1,0,none⟩) 0 0] 136 (0,0)):=by
  rw [←hW];have:=heap_alloc_new (((w.alloc (.cells #[.pointer (some ⟨b,0,none⟩)] 209)).alloc (.cells #[.int .i64 1] 3)).alloc (.cells #[] 309)) (.cells #[.slice (some ⟨w.heap.size+1+1,0,none⟩) 0 0] 136);rw [World.size_alloc,World.size_alloc,World.size_alloc] at this;exact this
 have HEACH:=hid (fun v=>QxC b s v W ((hWB.block b hbw).trans h) hs h0 h1)
 have c0:W.cell? ⟨w.heap.size,0,none⟩=some (.pointer (some ⟨b,0,none⟩)):=by unfold World.cell?;rw [k0];rfl
 have c1:W.cell? ⟨w.heap.size+1,0,none⟩=some (.int .i64 1):=by unfold World.cell?;rw [k1];rfl
 have HK:=hid (And.intro k3 (And.intro hsz (And.intro hbw hWB)));clear k0 k1 k3 hsz hbw hWB h h0 h1 hs;go_enter Tryz.func163,Tryz.ntmps163;subst hW;go_wp2_with fail;refine (HEACH.out _).mono ?_;rintro e w1 ⟨rfl,r1,q1⟩;obtain ⟨k3,hsz,hbw,hWB⟩:=HK.out;have kv:w1.cell? ⟨w.heap.size+1+1+1,0,none⟩=some (.slice (some ⟨w.heap.size+1+1,0,none⟩) 0 0):=by unfold World.cell?;rw [q1.block _ (show w.heap.size+1+1+1<_ by omega) (show ¬w.heap.size+1+1+1=b by omega),k3];rfl
 have HF:=hid (And.intro r1 (Touch.trans (Touch.of_below (S:=fun g=>g=b) hWB) q1 (fun _ h=>.inl h)))
 clear k3 hsz hbw hWB r1 q1 c0 c1 HK;go_wp2_with fail;go_ret;exact ⟨_,rfl,HF.out.1,HF.out.2⟩
theorem Qva(b:Nat)(s:ByteArray)(w:World)(h:NRd b s 0 w)(hs:s.size=2)(h0:s[0]'(by omega)=123)(h1:s[1]'(by omega)=125) :
  Calls Tryz.prog 111 #[.pointer (some ⟨b,0,none⟩),.int .i64 1] w (QzA b s w):=by
 have HO:=hid (fun m=>QsF b s (w.drewN m) (h.drewN m) hs h0 h1)
 obtain ⟨c0,c1,c2,f1⟩:=h.cells;have c1':w.cell? ⟨b,1,none⟩=some (.int .i64 0):=c1;have t1:((0:Int)==(s.size:Int))=false:=by rw [beq_eq_false_iff_ne];omega
 have hn:0<s.size:=by omega
 have hx:(s[0].toNat:Int)=123:=by rw [h0];rfl
 clear h hs h0 h1 c1;go_enter Tryz.func111,Tryz.ntmps111;go_wp2_with fail;go_quiet (fail);go_wp2_with fail;go_quiet (fail);go_wp2_with fail;refine (HO.out _).mono ?_;rintro e w1 ⟨v,rfl,r1,q1⟩;go_wp2_with fail;go_ret;exact ⟨_,rfl,r1,Qh1 (Qnw _) q1⟩
theorem QxA(s:ByteArray)(w:World)(hs:s.size=2)(h0:s[0]'(by omega)=123)(h1:s[1]'(by omega)=125) :
  Calls Tryz.prog 56 #[.string s] w fun e w'=>∃ v,e = .returned (.tuple #[.iface 136 v,.int .i64 2,.int .i64 0])∧Below w.heap.size w w':=by
 obtain ⟨W,hW⟩:∃ W,w.alloc (.cells #[.string s,.int .i64 0,.int .i64 0] 211)=W:=⟨_,rfl⟩;have hB:Below w.heap.size w W:=by rw [←hW];exact (Below.refl _ _).alloc (Nat.le_refl _) _
 have hN:NRd w.heap.size s 0 W:=by rw [←hW];exact heap_alloc_new w _
 have HBl:=hid (Qky w.heap.size s 0 W hN hs (.inr ⟨by omega,.inl h0⟩))
 have HV:=hid (fun W h=>Qva w.heap.size s W h hs h0 h1)
 have HB2:=hid (fun W h=>Qky w.heap.size s 2 W h hs (.inl rfl))
 have HB:=hid hB;have t1:decide ((4096:Int)<(s.size:Int))=false:=decide_eq_false (by omega)
 have t2:decide ((2:Int)<(s.size:Int))=false:=decide_eq_false (by omega)
 have HS:=hid hs;clear hs h0 h1 hB hN;go_enter Tryz.func56,Tryz.ntmps56;go_wp2_with fail;refine HBl.out.mono ?_;rintro e w1 ⟨rfl,r1,q1⟩;go_wp2_with fail;refine (HV.out _ r1).mono ?_;rintro e w2 ⟨v,rfl,r2,q2⟩;obtain ⟨c0,c1,c2,f1⟩:=r2.cells;have HR2:=hid r2;clear r1 r2 c0 c1 f1;go_wp2_with fail;refine (HB2.out _ HR2.out).mono ?_;rintro e w3 ⟨rfl,r3,q3⟩;obtain ⟨d0,d1,d2,f1⟩:=r3.cells;have d1':w3.cell? ⟨w.heap.size,1,none⟩=some (.int .i64 2):=d1;have hq:=Qh1 (Qh1 q1 q2) q3;clear r3 d1 c2 q1 q2 q3;go_wp2_with fail;go_ret3;refine ⟨v,by rw [HS.out];rfl,?_⟩
 exact HB.out.trans (hq.below (fun g hg=>by omega) HB.out.size)
end
section
open Go.RowKit
theorem Qnn(B:Nat)(s:ByteArray)(w:World)(hB1:512≤B)(hB2:B≤16257)(hs:s.size=2)(h0:s[0]'(by omega)=123)(h1:s[1]'(by omega)=125) :
  Calls Tryz.prog 34 #[.agg #[.int .i64 (B:Nat),.int .u8 0,.string s]] w fun e w'=>e = .returned (.int .i64 0)∧Below w.heap.size w w':=by
 have t1:decide ((B:Int)<512)=false:=decide_eq_false (by omega)
 have t2:decide ((16257:Int)<(B:Int))=false:=decide_eq_false (by omega)
 have HT:=hid (fun W=>QxA s W hs h0 h1)
 have hta:∀ (v:Value) (w:World),(Instr.typeAssert (.iface 136 v) 20 136 true).run Tryz.prog w = .ok (.tuple #[v,.bool true]) w:=fun v w=>by kernel_rfl
 obtain ⟨W,hW⟩:∃ W,w.alloc (.cells #[.int .i64 (B:Nat),.int .u8 0,.string s] 58)=W:=⟨_,rfl⟩;have HBW:Hid (Below w.heap.size w W):=hid (by rw [←hW];exact (Below.refl _ _).alloc (Nat.le_refl _) _)
 have hk:W.heap[w.heap.size]?=some (.cells #[.int .i64 (B:Nat),.int .u8 0,.string s] 58 (0,0)):=by rw [←hW];exact heap_alloc_new w _
 have c0:W.cell? ⟨w.heap.size,0,none⟩=some (.int .i64 (B:Nat)):=by unfold World.cell?;rw [hk];rfl
 have c1:W.cell? ⟨w.heap.size,1,none⟩=some (.int .u8 0):=by unfold World.cell?;rw [hk];rfl
 have c2:W.cell? ⟨w.heap.size,2,none⟩=some (.string s):=by unfold World.cell?;rw [hk];rfl
 clear hs h0 h1 hB1 hB2 hk;go_enter Tryz.func34,Tryz.ntmps34;go_wp2_with fail;refine (HT.out _).mono ?_;rintro e w1 ⟨v,rfl,hb⟩;have HB:=hid hb;clear hb;go_wp2_with fail;go_ret;exact ⟨rfl,Qaa HBW.out HB.out⟩
end
section
def leB:Nat→Nat→List UInt8
 |0,_=>[]
 |n+1,x=>UInt8.ofNat x :: leB n (x/256)
theorem QbP(n:Nat):∀ x,(leB n x).length=n:=by
 induction n with
 |zero=>intro x;rfl
 |succ n ih=>intro x;unfold leB;rw [List.length_cons,ih]
theorem QxR(n:Nat):∀ x,x<256 ^ n→leN (leB n x)=x:=by
 induction n with
 |zero=>
  intro x hx;have:x=0:=by simpa using hx
  subst this;rfl
 |succ n ih=>
  intro x hx;unfold leB leN;rw [ih (x/256) (by rw [Nat.div_lt_iff_lt_mul (by decide),←Nat.pow_succ];exact hx),UInt8.toNat_ofNat']
  omega
theorem QjO(m x:Nat)(s:List UInt8)(k n:Nat)(h:m≤k):atN (leB m x++s) k n=atN s (k-m) n:=by
 unfold atN;rw [List.drop_append,List.drop_of_length_le (by rw [QbP];exact h),QbP,List.nil_append]
theorem Qa5(x:Nat)(s:List UInt8)(n:Nat)(h:x<256 ^ n):atN (leB n x++s) 0 n=x:=by
 unfold atN;rw [List.drop_zero,List.take_append,List.take_of_length_le (by rw [QbP];exact Nat.le_refl _),QbP,Nat.sub_self,List.take_zero,List.append_nil]
 exact QxR n x h
def QaU(x:Int):Nat:=(x%4294967296).toNat
theorem Qe2(x:Int):QaU x<256 ^ 4:=by
 unfold QaU;have h:(256:Nat) ^ 4=4294967296:=by decide
 rw [h];omega
theorem Qgb(x:Int)(h1 : -2147483648≤x)(h2:x<2147483648):QiL (QaU x)=x:=by
 unfold QiL QaU
 by_cases hx:0≤x
 ·rw [if_pos (by omega)];omega
 ·rw [if_neg (by omega)];omega
def Qti(h:Hdr)(r:List UInt8):List UInt8:=
 leB 8 h.rf++(leB 8 h.rl++(leB 8 h.mf++(leB 8 h.ml++(leB 8 h.lf++(leB 8 h.ll++(leB 8 h.df++(leB 8 h.dl++(leB 8 h.ad++(leB 8 h.en++(leB 8 h.co ++
 (leB 1 (if h.cl then 1 else 0)++(leB 1 h.inn++(leB 1 h.out++(leB 1 h.kd++(leB 1 h.z0.toNat++(leB 1 h.z1.toNat ++
 (leB 4 (QaU h.x0)++(leB 4 (QaU h.y0)++(leB 4 (QaU h.x1)++(leB 4 (QaU h.y1)++(leB 1 h.zo.toNat++(leB 4 (QaU h.lo)++(leB 4 (QaU h.la)++r)))))))))))))))))))))))
def Qin:List UInt8:=[80,77,84,105,108,101,115,3]
def QiN(h:Hdr):List UInt8:=Qin++Qti h []
theorem QvK(h:Hdr)(r:List UInt8):Qti h []++r=Qti h r:=by
 unfold Qti;simp only [List.append_assoc,List.nil_append]
theorem Qhi(h:Hdr)(r:List UInt8):QiN h++r=Qin++Qti h r:=by
 unfold QiN;rw [List.append_assoc,QvK]
theorem QvJ(h:Hdr)(r:List UInt8):(Qti h r).length=119+r.length:=by
 unfold Qti;simp only [List.length_append,QbP];omega
theorem QkR(h:Hdr):(QiN h).length=127:=by
 unfold QiN;rw [List.length_append,QvJ];rfl
theorem QmA(s:List UInt8)(k n:Nat):atN (Qin++s) (k+8) n=atN s k n:=by
 unfold atN;rw [List.drop_append,List.drop_of_length_le (by show 8≤k+8;omega),List.nil_append]
 rw [show k+8-Qin.length=k from Nat.add_sub_cancel k 8]
theorem Qs9(lo hi x:Int)(h:inB lo hi x=true):lo≤x∧x≤hi:=by
 unfold inB at h;rw [Bool.and_eq_true,decide_eq_true_eq,decide_eq_true_eq] at h;exact h
theorem QtT(h:Hdr)(hc:QjM h=0):Qd6 h=true∧(h.inn≤4∧h.out≤4∧h.kd≤5)∧((0≤h.z0∧h.z0≤26)∧(0≤h.z1∧h.z1≤26)∧(0≤h.zo∧h.zo≤26))∧
  ((-1800000000≤h.x0∧h.x0≤1800000000)∧(-1800000000≤h.x1∧h.x1≤1800000000)∧(-1800000000≤h.lo∧h.lo≤1800000000))∧
  ((-900000000≤h.y0∧h.y0≤900000000)∧(-900000000≤h.y1∧h.y1≤900000000)∧(-900000000≤h.la∧h.la≤900000000)):=by
 have hs:=Qiw h hc;unfold QjM at hc;rw [if_neg (by rw [hs];decide)] at hc
 by_cases h1:4<h.inn∨4<h.out∨5<h.kd
 ·rw [if_pos h1] at hc;cases hc
 rw [if_neg h1] at hc;have tri:∀ (a b:Int) (lo hi x y z:Int),¬((inB lo hi x&&(inB lo hi y&&inB lo hi z))=false∨b<a)→(lo≤x∧x≤hi)∧(lo≤y∧y≤hi)∧(lo≤z∧z≤hi):=by
  intro a b lo hi x y z hn;have h3:(inB lo hi x&&(inB lo hi y&&inB lo hi z))=true:=by
   cases hh:(inB lo hi x&&(inB lo hi y&&inB lo hi z))
   ·exact absurd (.inl hh) hn
   ·rfl
  rw [Bool.and_eq_true,Bool.and_eq_true] at h3;exact ⟨Qs9 _ _ _ h3.1,Qs9 _ _ _ h3.2.1,Qs9 _ _ _ h3.2.2⟩
 by_cases h2:(inB 0 26 h.z0&&(inB 0 26 h.z1&&inB 0 26 h.zo))=false∨h.z1<h.z0
 ·rw [if_pos h2] at hc;cases hc
 rw [if_neg h2] at hc
 by_cases h3:(inB (-1800000000) 1800000000 h.x0&&(inB (-1800000000) 1800000000 h.x1&&inB (-1800000000) 1800000000 h.lo))=false∨h.x1<h.x0
 ·rw [if_pos h3] at hc;cases hc
 rw [if_neg h3] at hc
 by_cases h4:(inB (-900000000) 900000000 h.y0&&(inB (-900000000) 900000000 h.y1&&inB (-900000000) 900000000 h.la))=false∨h.y1<h.y0
 ·rw [if_pos h4] at hc;cases hc
 exact ⟨hs,by omega,tri _ _ _ _ _ _ _ h2,tri _ _ _ _ _ _ _ h3,tri _ _ _ _ _ _ _ h4⟩
theorem QvI(h:Hdr)(hc:QjM h=0)(ha:h.ad<18446744073709551616)(he:h.en<18446744073709551616)(hco:h.co<18446744073709551616)(r:List UInt8):QmO (QiN h++r)=h∧Qfj (QiN h++r)=0:=by
 obtain ⟨hs,⟨i1,i2,i3⟩,⟨z1,z2,z3⟩,⟨x1,x2,x3⟩,⟨y1,y2,y3⟩⟩:=QtT h hc;obtain ⟨⟨r1,r2,-⟩,⟨m1,m2,-⟩,⟨l1,l2,-⟩,⟨d1,d2,-⟩⟩:=Qkc h hs;have hb:Qdr=1099511627776:=rfl;have p8:(256:Nat) ^ 8=18446744073709551616:=by decide
 have p1:(256:Nat) ^ 1=256:=by decide
 have hcl:(if h.cl=true then 1 else 0)<256 ^ 1:=by split<;>decide
 have hD:QmO (QiN h++r)=h:=by
  rw [Qhi];unfold QmO;rw [show (8:Nat)=0+8 from rfl];have e:=fun k n=>QmA (Qti h r) k n
  have f0:=e 0 8;have f1:=e 8 8;have f2:=e 16 8;have f3:=e 24 8;have f4:=e 32 8;have f5:=e 40 8;have f6:=e 48 8;have f7:=e 56 8;have f8:=e 64 8;have f9:=e 72 8;have f10:=e 80 8;have g0:=e 88 1;have g1:=e 89 1;have g2:=e 90 1;have g3:=e 91 1;have g4:=e 92 1;have g5:=e 93 1;have k0:=e 94 4;have k1:=e 98 4;have k2:=e 102 4;have k3:=e 106 4;have k4:=e 110 1;have k5:=e 111 4;have k6:=e 115 4;simp only [Nat.reduceAdd,Nat.zero_add] at f0 f1 f2 f3 f4 f5 f6 f7 f8 f9 f10 g0 g1 g2 g3 g4 g5 k0 k1 k2 k3 k4 k5 k6 ⊢;rw [f0,f1,f2,f3,f4,f5,f6,f7,f8,f9,f10,g0,g1,g2,g3,g4,g5,k0,k1,k2,k3,k4,k5,k6];clear f0 f1 f2 f3 f4 f5 f6 f7 f8 f9 f10 g0 g1 g2 g3 g4 g5 k0 k1 k2 k3 k4 k5 k6 e;unfold Qti;simp only [QjO,Nat.reduceLeDiff,Nat.reduceSub,Nat.le_refl,Nat.sub_self];rw [Qa5 _ _ _ (by omega),Qa5 _ _ _ (by omega),Qa5 _ _ _ (by omega),Qa5 _ _ _ (by omega),Qa5 _ _ _ (by omega),Qa5 _ _ _ (by omega),Qa5 _ _ _ (by omega),Qa5 _ _ _ (by omega),Qa5 _ _ _ (by omega),Qa5 _ _ _ (by omega),Qa5 _ _ _ (by omega),Qa5 _ _ _ hcl,Qa5 _ _ _ (by omega),Qa5 _ _ _ (by omega),Qa5 _ _ _ (by omega),Qa5 _ _ _ (by omega),Qa5 _ _ _ (by omega),Qa5 _ _ _ (Qe2 _),Qa5 _ _ _ (Qe2 _),Qa5 _ _ _ (Qe2 _),Qa5 _ _ _ (Qe2 _),Qa5 _ _ _ (by omega),Qa5 _ _ _ (Qe2 _),Qa5 _ _ _ (Qe2 _)]
  rw [Qgb _ (by omega) (by omega),Qgb _ (by omega) (by omega),Qgb _ (by omega) (by omega),Qgb _ (by omega) (by omega),Qgb _ (by omega) (by omega),Qgb _ (by omega) (by omega)]
  have c1:decide ((if h.cl=true then 1 else 0)=1)=h.cl:=by cases h.cl<;>rfl
  rw [c1,Int.toNat_of_nonneg z1.1,Int.toNat_of_nonneg z2.1,Int.toNat_of_nonneg z3.1]
 refine ⟨hD,?_⟩;have hl:(QiN h++r).length=127+r.length:=by rw [List.length_append,QkR]
 have h96:atN (QiN h++r) 96 1=if h.cl=true then 1 else 0:=by
  rw [Qhi,show (96:Nat)=88+8 from rfl,QmA];unfold Qti;simp only [QjO,Nat.reduceLeDiff,Nat.reduceSub,Nat.le_refl,Nat.sub_self];exact Qa5 _ _ _ hcl
 unfold Qfj;rw [hD,if_neg (by omega),if_neg,if_neg,if_neg,hc]
 ·rw [h96];split<;>decide
 ·rw [Qhi];exact fun x=>x rfl
 ·rw [Qhi];exact fun x=>x rfl
end
end Go.Proofs.YtilaebjndadkhaaGreatDoor
