/- What parts of the program compute: packed for TopReach. Conditions: none. -/
import Derived.Test.YtilaebjndadkhaaGreatDoorPz16
set_option linter.all false
set_option maxRecDepth 100000
set_option maxHeartbeats 8000000
open Go.Lib (hid)
namespace Go.Proofs.YtilaebjndadkhaaGreatDoor
section
open Go.RowKit
theorem Qu0(h p f:List UInt8)(s:ByteArray)(hc:Qgg h p f s=206)(hf:f.length≤1000000):0≤Qkt f s∧Qkt f s≤QiW f s∧QiW f s<(f.length:Int)∧Qnu h p f s = [(Qag,QbY (Qkt f s) (QiW f s) (f.length:Int))]∧Qnt h p f s=(f.take (QiW f s+1).toNat).drop (Qkt f s).toNat:=by
 obtain ⟨-,-,-,-,h5⟩:=QoD h p f s hc;obtain ⟨q1,q2,q3,q4⟩:=QtR _ _ _ h5;obtain ⟨r1,r2,r3⟩:=Qco _ _ q1;unfold Qkt QiW Qnu Qnt;rw [q3,q4,if_pos hc,if_pos hc];unfold Qkt QiW;rw [q3,q4];refine ⟨r1,?_,?_,rfl,rfl⟩<;>split<;>omega
theorem QlG(v:Value)(w:World):(Go.method 685 407 v "gazetteer/origin.reply").run Tryz.prog w = .ok (425,v) w:=by kernel_rfl
theorem QsI(v:Value)(w:World):(Go.method 685 411 v "gazetteer/origin.reply").run Tryz.prog w = .ok (426,v) w:=by kernel_rfl
theorem Qkq(h p f s:ByteArray)(w:World)(hE:EnvF w)(hs:s.size≤1000000)(hf:f.size≤1000000) :
  Calls Tryz.prog 184 #[.agg #[.string h,.string p,.string f],.string s] w fun e w'=>e = .returned (.string (bs (QoC h.data.toList p.data.toList f.data.toList s)))∧Below w.heap.size w w':=by
 have HC:=hid (fun w=>QgJ h p f w)
 have HS:=hid (fun w hE=>Qns h p f s w hE hs hf)
 have hB0:=Qhm w (.string h) (.string p) (.string f);have HE0:=hid (hE.below hB0);have HB0:=hid hB0;have HP0:=hid (heap_alloc_new w (.cells #[.string h,.string p,.string f] 30));have hsz:(w.alloc (.cells #[.string h,.string p,.string f] 30)).heap.size=w.heap.size+1:=by simp
 have HSZ:=hid hsz;obtain ⟨o0,o1,o2,-,-,-⟩:=Qan HP0.out;clear hE hB0 hsz
 by_cases he:Qg0 h.data.toList p.data.toList=0
 case neg=>
  have HR:Hid (QoC h.data.toList p.data.toList f.data.toList s = []):=hid (by unfold QoC;rw [if_neg he])
  have tz:((Qg0 h.data.toList p.data.toList:Int) != 0)=true:=by rw [bne_iff_ne];omega
  generalize Qg0 h.data.toList p.data.toList=E at HC tz;clear he;go_enter Tryz.func184,Tryz.ntmps184;go_wp2_with fail;refine (HC.out _).mono ?_;rintro e w1 ⟨rfl,hb1⟩;go_wp2_with fail;go_ret;exact ⟨by rw [HR.out];rfl,Qaa HB0.out hb1⟩
 rw [he] at HC
 by_cases hc:Qgg h.data.toList p.data.toList f.data.toList s=206
 ·have hV:QpI h p f s = .iface 411 (.agg #[.int .i64 (Qkt f.data.toList s),.int .i64 (QiW f.data.toList s),.string f]):=if_pos hc
  rw [hV] at HS;obtain ⟨g1,g2,g3,g4,g5⟩:=Qu0 h.data.toList p.data.toList f.data.toList s hc (by rw [Qab];exact hf)
  have HR:Hid (QoC h.data.toList p.data.toList f.data.toList s=QmN 206 (Qnu h.data.toList p.data.toList f.data.toList s) (Qnt h.data.toList p.data.toList f.data.toList s)):=hid (by unfold QoC;rw [if_pos he,hc])
  rw [Qab] at g3 g4;have hex:bs (Qnt h.data.toList p.data.toList f.data.toList s)=f.extract (Qkt f.data.toList s).toNat (QiW f.data.toList s+1).toNat:=by rw [Qcw,g5]
  have hYl:=Qks h.data.toList p.data.toList f.data.toList s;rw [Qab] at hYl;generalize Qnt h.data.toList p.data.toList f.data.toList s=Y at HR g5 hex hYl;have HPa:=hid (fun W hE=>Qp0 (Qkt f.data.toList s) (QiW f.data.toList s) f W hE g1 g2 g3 hf)
  rw [←g4,←hex] at HPa;have hFb:∀ x∈Qnu h.data.toList p.data.toList f.data.toList s,x.1.length≤1000000∧x.2.length≤1000000:=by
   rw [g4];intro x hx;obtain rfl:=List.mem_singleton.1 hx;exact ⟨by show Qag.length≤1000000;decide,Nat.le_trans (Qk7 _ _ _) (by decide)⟩
  have hFl:(Qnu h.data.toList p.data.toList f.data.toList s).length≤1000000:=by rw [g4];show 1≤1000000;decide
  generalize Qnu h.data.toList p.data.toList f.data.toList s=F at HR HPa g4 hFb hFl;generalize Qkt f.data.toList s=A at HS HPa;generalize QiW f.data.toList s=B at HS HPa;have HPr:=hid (fun W fv BB hE hO=>QhN 206 fv F (bs Y) BB W hE (by decide) (by decide) hO hFl hFb (by rw [QaC];omega))
  rw [Qaj] at HPr;unfold QyB at HPr;unfold Qpq at HPa;generalize bs Y=YB at HPa HPr;have hm:=QsI;clear hV hc he g1 g2 g3 g4 g5 hex hYl hFb hFl;go_enter Tryz.func184,Tryz.ntmps184;go_wp2_with fail;refine (HC.out _).mono ?_;rintro e w1 ⟨rfl,hb1⟩;have hp1:=(hb1.block w.heap.size (by have:=HSZ.out;omega)).trans HP0.out
  have HB1:=hid (Qaa HB0.out hb1);have HE1:=hid (HE0.out.below hb1);clear hb1 o0 o1 o2;obtain ⟨o0,o1,o2,-,-,-⟩:=Qan hp1;clear hp1;go_wp2_with fail;refine (HS.out _ HE1.out).mono ?_;rintro e w2 ⟨rfl,hb2⟩;have HB2:=hid (Qaa HB1.out hb2);have HE2:=hid (HE1.out.below hb2);clear hb2 o0 o1 o2;go_wp2_with fail;refine (HPa.out _ HE2.out).mono ?_;rintro e w3 ⟨a3,c3,rfl,⟨BB,hO⟩,hb3⟩;have HB3:=hid (Qaa HB2.out hb3);have HE3:=hid (HE2.out.below hb3);have HO:=hid hO;clear hb3 hO;go_wp2_with fail;refine (HPr.out _ _ _ HE3.out HO.out).mono ?_;rintro e w4 ⟨rfl,hb4⟩;go_wp2_with fail;go_ret;exact ⟨by rw [HR.out];rfl,Qaa HB3.out hb4⟩
 ·have hV:QpI h p f s = .iface 407 (.int .i64 (Qgg h.data.toList p.data.toList f.data.toList s)):=if_neg hc
  rw [hV] at HS;obtain ⟨e1,e2⟩:=Qjn h.data.toList p.data.toList f.data.toList s hc;have HR:Hid (QoC h.data.toList p.data.toList f.data.toList s=QmN (Qgg h.data.toList p.data.toList f.data.toList s) [] []):=hid (by unfold QoC;rw [if_pos he,e1,e2])
  have hc4:=Qlz h.data.toList p.data.toList f.data.toList s;generalize Qgg h.data.toList p.data.toList f.data.toList s=C at HS HR hc hc4;have HPr:=hid (fun W hE=>QhN C (.slice none 0 0) [] ⟨#[]⟩ 0 W hE (by omega) (by omega) (Qxy W) (by decide) (fun f hf=>by simp at hf) (by decide))
  have HRe:=hid (fun W=>Qkj C W)
  have hm:=QlG;unfold QyB at HPr;clear hV e1 e2 hc hc4 he;go_enter Tryz.func184,Tryz.ntmps184;go_wp2_with fail;refine (HC.out _).mono ?_;rintro e w1 ⟨rfl,hb1⟩;have hp1:=(hb1.block w.heap.size (by have:=HSZ.out;omega)).trans HP0.out
  have HB1:=hid (Qaa HB0.out hb1);have HE1:=hid (HE0.out.below hb1);clear hb1 o0 o1 o2;obtain ⟨o0,o1,o2,-,-,-⟩:=Qan hp1;clear hp1;go_wp2_with fail;refine (HS.out _ HE1.out).mono ?_;rintro e w2 ⟨rfl,hb2⟩;have HB2:=hid (Qaa HB1.out hb2);have HE2:=hid (HE1.out.below hb2);clear hb2 o0 o1 o2;go_wp2_with fail;refine (HRe.out _).mono ?_;rintro e w3 ⟨rfl,hb3⟩;have HB3:=hid (Qaa HB2.out hb3);have HE3:=hid (HE2.out.below hb3);clear hb3;go_wp2_with fail;refine (HPr.out _ HE3.out).mono ?_;rintro e w4 ⟨rfl,hb4⟩;go_wp2_with fail;go_ret;exact ⟨by rw [HR.out];rfl,Qaa HB3.out hb4⟩
end
section
open Go.RowKit
theorem QhD{w:World}{b:Nat}{x0 x1 x2 x3 x4 x5:Value}{t:TypeId}(k:w.heap[b]?=some (.cells #[x0,x1,x2,x3,x4,x5] t (0,0))) :
  (w.cell? ⟨b,0,none⟩=some x0∧w.cell? ⟨b,1,none⟩=some x1∧w.cell? ⟨b,2,none⟩=some x2∧w.cell? ⟨b,3,none⟩=some x3∧w.cell? ⟨b,4,none⟩=some x4∧w.cell? ⟨b,5,none⟩=some x5)∧w.frozen? ⟨b,3,none⟩=false∧w.frozen? ⟨b,4,none⟩=false∧w.frozen? ⟨b,5,none⟩=false:=by
 refine ⟨⟨?_,?_,?_,?_,?_,?_⟩,?_,?_,?_⟩<;>first|(unfold World.cell?;rw [k];rfl)|(unfold World.frozen?;rw [k];rfl)
theorem QuH{w:World}{b:Nat}{x0 x1 x2 x3 x4 x5:Value}{t:TypeId}(k:w.heap[b]?=some (.cells #[x0,x1,x2,x3,x4,x5] t (0,0)))(y:Value):(w.setCell ⟨b,3,none⟩ y).heap[b]?=some (.cells #[x0,x1,x2,y,x4,x5] t (0,0)):=by
 simp [World.setCell,Array.getElem?_modify,k]
theorem QuG{w:World}{b:Nat}{x0 x1 x2 x3 x4 x5:Value}{t:TypeId}(k:w.heap[b]?=some (.cells #[x0,x1,x2,x3,x4,x5] t (0,0)))(y:Value):(w.setCell ⟨b,4,none⟩ y).heap[b]?=some (.cells #[x0,x1,x2,x3,y,x5] t (0,0)):=by
 simp [World.setCell,Array.getElem?_modify,k]
theorem QuF{w:World}{b:Nat}{x0 x1 x2 x3 x4 x5:Value}{t:TypeId}(k:w.heap[b]?=some (.cells #[x0,x1,x2,x3,x4,x5] t (0,0)))(y:Value):(w.setCell ⟨b,5,none⟩ y).heap[b]?=some (.cells #[x0,x1,x2,x3,x4,y] t (0,0)):=by
 simp [World.setCell,Array.getElem?_modify,k]
end
section
open Go.RowKit
def HoldsC(w:World)(v:Value)(l:List Flt):Prop:=
 ∃ a c,v = .slice a l.length c∧l.length≤c∧(l≠[]→∃ b o,a=some ⟨b,o,none⟩∧b<w.heap.size∧∀ j (hj:j<l.length),w.cell? ⟨b,o+3*j,none⟩=some (.int .u8 l[j].1)∧w.cell? ⟨b,o+3*j+1,none⟩=some (.int .i64 l[j].2.1)∧w.cell? ⟨b,o+3*j+2,none⟩=some (.string l[j].2.2))
theorem HoldsC.below{w w':World}{v:Value}{l:List Flt}(h:HoldsC w v l)(hb:Below w.heap.size w w'):HoldsC w' v l:=by
 obtain ⟨a,c,hv,hc,hx⟩:=h;refine ⟨a,c,hv,hc,fun hne=>?_⟩
 obtain ⟨b,o,ha,hlt,Qao⟩:=hx hne;exact ⟨b,o,ha,Nat.lt_of_lt_of_le hlt hb.size,fun j hj=>
  let ⟨x,y,z⟩:=Qao j hj
  ⟨(hb.cell (p:=⟨b,o+3*j,none⟩) hlt).trans x,(hb.cell (p:=⟨b,o+3*j+1,none⟩) hlt).trans y,(hb.cell (p:=⟨b,o+3*j+2,none⟩) hlt).trans z⟩⟩
theorem HoldsC.empty(w:World)(a:Option Addr)(c:Nat):HoldsC w (.slice a 0 c) []:=⟨a,c,rfl,Nat.zero_le _,fun h=>absurd rfl h⟩
theorem HoldsC.len{w:World}{v:Value}{l:List Flt}(h:HoldsC w v l):∃ a c,v = .slice a l.length c∧l.length≤c:=let ⟨a,c,h1,h2,_⟩:=h;⟨a,c,h1,h2⟩
def QiG:Value→Option Nat
 | .slice (some a) _ _=>some a.block
 |_=>none
theorem HoldsC.kept{w w':World}{v:Value}{l:List Flt}(h:HoldsC w v l)(hs:w.heap.size≤w'.heap.size)(hb:∀ b,QiG v=some b→w'.heap[b]?=w.heap[b]?):HoldsC w' v l:=by
 obtain ⟨a,c,rfl,hc,hx⟩:=h;refine ⟨a,c,rfl,hc,fun hne=>?_⟩
 obtain ⟨b,o,rfl,hlt,Qao⟩:=hx hne;have hk:=hb b rfl;have key:∀ i,w'.cell? ⟨b,i,none⟩=w.cell? ⟨b,i,none⟩:=fun i=>QtV (a:=⟨b,i,none⟩) hk
 exact ⟨b,o,rfl,Nat.lt_of_lt_of_le hlt hs,fun j hj=>
  let ⟨x,y,z⟩:=Qao j hj
  ⟨(key _).trans x,(key _).trans y,(key _).trans z⟩⟩
theorem HoldsC.of_own{w:World}{base n:Nat}{e:TypeId}{v:Value}{l:List Flt}(h:w.ownsRow base e 3 v n (Ql5 l)):HoldsC w v l:=by
 have hn:l.length=n:=by have:=h.1;rw [Qc2] at this;omega
 subst hn;rcases h.2 with ⟨rfl,h0⟩|⟨g,cap,cur,rfl,hb,hg,hle,hm,hs,ht⟩
 ·have:l = []:=List.eq_nil_of_length_eq_zero h0
  subst this;exact HoldsC.empty w none 0
 ·refine ⟨_,cap,rfl,hle,fun _=>⟨g,0,rfl,(gsi hg).1,fun j hj=>?_⟩⟩
  obtain ⟨x,y,z⟩:=Qo7 l j hj;have key:∀ i u,(Ql5 l)[i]?=some u→w.cell? ⟨g,0+i,none⟩=some u:=by
   intro i u hu;have:=h.cells (g:=g) rfl i u hu;have e0:(⟨g,0,none⟩:Addr).add i=⟨g,0+i,none⟩:=by unfold Addr.add;split<;>simp_all
   rwa [e0] at this
  exact ⟨key _ _ x,by have:=key _ _ y;rwa [show 0+3*j+1=0+(3*j+1) by omega],by have:=key _ _ z;rwa [show 0+3*j+2=0+(3*j+2) by omega]⟩
theorem HoldsC.first{w:World}{v:Value}{x:Flt}{l:List Flt}(h:HoldsC w v (x :: l)):∃ b o c,v = .slice (some ⟨b,o,none⟩) (l.length+1) c∧l.length+1≤c∧b<w.heap.size∧w.cell? ⟨b,o,none⟩=some (.int .u8 x.1)∧w.cell? ⟨b,o+1,none⟩=some (.int .i64 x.2.1)∧w.cell? ⟨b,o+2,none⟩=some (.string x.2.2)∧
  HoldsC w (.slice (some (if c=1 then ⟨b,o,none⟩ else ⟨b,o+3,none⟩)) l.length (c-1)) l:=by
 obtain ⟨a,c,rfl,hc,hx⟩:=h;obtain ⟨b,o,rfl,hlt,Qao⟩:=hx (by simp)
 obtain ⟨x1,x2,x3⟩:=Qao 0 (by simp)
 refine ⟨b,o,c,rfl,hc,hlt,x1,x2,x3,_,_,rfl,by simp at hc;omega,fun hne=>?_⟩
 have hl:0<l.length:=List.length_pos_iff.2 hne;have hc1:c≠1:=by simp at hc;omega
 rw [if_neg hc1];refine ⟨b,o+3,rfl,hlt,fun j hj=>?_⟩
 obtain ⟨y1,y2,y3⟩:=Qao (j+1) (by simp;omega)
 simp only [List.getElem_cons_succ] at y1 y2 y3;refine ⟨?_,?_,?_⟩
 ·rw [show o+3+3*j=o+3*(j+1) by omega];exact y1
 ·rw [show o+3+3*j+1=o+3*(j+1)+1 by omega];exact y2
 ·rw [show o+3+3*j+2=o+3*(j+1)+2 by omega];exact y3
end
section
open Go.RowKit
theorem QrO{P:Program}(t e:TypeId)(z:Value)(k b:Nat)(hu:P.underlying t=some (.slice e))(QBp:(P.info? e).map (fun i=>(i.zero,i.size,i.bytes))=some (some z,k,b))(hb:b≤1000)(N:Nat)(hN:N≤1000000)(w:World) :
  (Instr.makeSlice t (.int .i64 (N:Int)) (.int .i64 (N:Int))).run P w = .ok (.slice (some ⟨w.heap.size,0,none⟩) N N) (w.alloc (.cells (madeCells z.cells (N*k)) e)):=by
 obtain ⟨i0,hi,hz0,hz1,hz2⟩:=info_parts QBp;have hbN:b*N≤1000*1000000:=Nat.mul_le_mul hb hN;have:=run_make (P:=P) w t e i0 _ hu hi hz0 .i64 .i64 N N (by omega) (by omega) (by rw [hz2];rw [←Int.natCast_mul];omega) (by omega)
 rw [this,hz1,Int.toNat_natCast]
theorem Qke{P:Program}(dT sT ty e:TypeId)(k:Nat)(hu:P.underlying dT=some (.slice e))(hs:(P.info? e).map (·.size)=some k)(d s:Option Addr)(n c cx:Nat)(w:World) :
  (Builtin.copy_ #[dT,sT] ty #[.slice d n c,.slice s 0 cx]).run P w = .ok (.int .i64 0) w:=by
 cases hq:P.info? e with
 |none=>simp [hq] at hs
 |some i=>
  cases d<;>cases s<;>simp [Builtin.copy_,run_underlying hu,Builtin.lenOf,Builtin.firstCells,sizeOf,typeInfo,hq,storeCells,loadCells,goInt,loadCellsFrom]
theorem Qtc{w:World}{l:List Flt}{b o:Nat}(h:∀ j (hj:j<l.length),w.cell? ⟨b,o+3*j,none⟩=some (.int .u8 l[j].1)∧w.cell? ⟨b,o+3*j+1,none⟩=some (.int .i64 l[j].2.1)∧w.cell? ⟨b,o+3*j+2,none⟩=some (.string l[j].2.2)) :
  ∀ i v,(Ql5 l)[i]?=some v→w.cell? ((⟨b,o,none⟩:Addr).add i)=some v:=by
 intro i v hv;have hlt:i<(Ql5 l).length:=(List.getElem?_eq_some_iff.1 hv).1;rw [Qc2] at hlt;have hj:i/3<l.length:=by omega
 obtain ⟨a,b',c⟩:=Qo7 l (i/3) hj;obtain ⟨x,y,z⟩:=h (i/3) hj;rw [Addr.add_lit];have hm:i%3=0∨i%3=1∨i%3=2:=by omega
 rcases hm with hm|hm|hm
 ·have e:i=3*(i/3):=by omega
  rw [e] at hv ⊢;rw [a] at hv;rw [←Option.some.inj hv];exact x
 ·have e:i=3*(i/3)+1:=by omega
  rw [e] at hv ⊢;rw [b'] at hv;rw [←Option.some.inj hv,←Nat.add_assoc];exact y
 ·have e:i=3*(i/3)+2:=by omega
  rw [e] at hv ⊢;rw [c] at hv;rw [←Option.some.inj hv,←Nat.add_assoc];exact z
theorem QvW(l:List Flt):∀ v∈Ql5 l,v.oneCell'=true:=by
 intro v hv;unfold Ql5 at hv;obtain ⟨x,-,hx⟩:=List.mem_flatMap.1 hv;simp only [List.mem_cons,List.not_mem_nil,or_false] at hx;rcases hx with rfl|rfl|rfl<;>rfl
theorem Qye(l:List Evt):∀ v∈evs l,v.oneCell'=true:=by
 intro v hv;unfold evs at hv;obtain ⟨x,-,hx⟩:=List.mem_flatMap.1 hv;simp only [List.mem_cons,List.not_mem_nil,or_false] at hx;rcases hx with rfl|rfl|rfl<;>rfl
theorem Qp5{w:World}{e:TypeId}{N k:Nat}{cs:List Value}{cur:Array Value}{B:Nat}(hg:w.heap[B]?=some (.cells cur e (0,0)))(hl:cs.length=N*k)(hc:cur.size=N*k)(hN:N≤1000000)(base:Nat)(hb:base≤B) :
  (w.setRow B (splice cur.toList 0 cs).toArray).ownsRow base e k (.slice (some ⟨B,0,none⟩) N N) N cs:=by
 have hsp:splice cur.toList 0 cs=cs:=by
  unfold splice;rw [List.take_zero,List.nil_append,Nat.zero_add,List.drop_of_length_le (by rw [Array.length_toList,hc,hl];exact Nat.le_refl _),List.append_nil]
 rw [hsp];refine ⟨hl,.inr ⟨B,N,cs.toArray,rfl,hb,setRow_heap w B cur _ e _ hg,Nat.le_refl _,by unfold maxLen;omega,by simp [hl],?_⟩⟩
 rw [List.take_of_length_le (by simp [hl])]
theorem QqU{P:Program}(dT sT e:TypeId)(hu:P.underlying dT=some (.slice e))(hs:(P.info? e).map (·.size)=some 3){W:World}{v:Value}{l:List Flt}{B:Nat}{cur:Array Value}(hg:W.heap[B]?=some (.cells cur e (0,0)))(hc:cur.size=l.length*3)(hh:HoldsC W v l)(hn:l.length≤1000000) :
  ∃ W',(∀ ty,(Builtin.copy_ #[dT,sT] ty #[.slice (some ⟨B,0,none⟩) l.length l.length,v]).run P W = .ok (.int .i64 l.length) W')∧W'.ownsRow B e 3 (.slice (some ⟨B,0,none⟩) l.length l.length) l.length (Ql5 l)∧Touch (fun g=>g=B) W W':=by
 obtain ⟨a,c,rfl,hcl,hx⟩:=hh
 by_cases hl:l = []
 ·subst hl
  refine ⟨W,fun ty=>Qke dT sT ty e 3 hu hs _ _ _ _ _ W,⟨rfl,.inr ⟨B,0,cur,rfl,Nat.le_refl _,hg,Nat.le_refl _,Nat.zero_le _,by simpa using hc,by simp [Ql5]⟩⟩,Touch.refl _ _⟩
 ·obtain ⟨b,o,rfl,hlt,Qao⟩:=hx hl
  refine ⟨W.setRow B (splice cur.toList 0 (Ql5 l)).toArray,fun ty=>?_,Qp5 hg (Qc2 l) hc hn B (Nat.le_refl _),⟨rfl,rfl,rfl,by simp [World.setRow],fun k hk hne=>setRow_other W B k _ hne⟩⟩
  exact Qbx W dT sT ty e 3 l.length B 0 l.length l.length ⟨b,o,none⟩ l.length c cur e (Ql5 l) hu hs (Nat.min_self _) (Qc2 l).symm hg (Qtc Qao) (by rw [Qc2,hc];omega) (QvW l)
theorem Qyx{ops:Array Oper}{rest:List Oper}{o:Oper}{a:Act}{Q:Exit→Act→World→Prop}(t e:TypeId)(z:Value)(b:Nat)(hu:Tryz.prog.underlying t=some (.slice e))(QBp:(Tryz.prog.info? e).map (fun i=>(i.zero,i.size,i.bytes))=some (some z,3,b))(hz:z.cells.size=3)(hb:b≤64)
  (w0:World) (c1 c2 c3:Value) (h1:c1.oneCell'=true) (h2:c2.oneCell'=true) (h3:c3.oneCell'=true) (hgd:o.guard=none) (s x:Operand) (ho:o.op = .call { callee:=.builtin .append,args:=#[s,x],argTypes:=#[t,t] })
  (base:Nat) (v:Value) (n:Nat) (xs:List Value) (hs:a.eval s=v) (QAq:w0.ownsRow base e 3 v n xs) (hx:a.eval x = .slice (some ⟨w0.heap.size,0,none⟩) 1 1) (hn:n<2147483648) (QAv:base≤w0.heap.size)
  (h:∀ g cap w',w'.ownsRow base e 3 (.slice (some ⟨g,0,none⟩) (n+1) cap) (n+1) (xs++[c1,c2,c3])→w0.grownBy w' v.ownBlock→(v.ownBlock=some g∨w0.heap.size≤g)→wpList Tryz.prog ops Q rest (a.put o.dst (.slice (some ⟨g,0,none⟩) (n+1) cap)) w') :
  wpList Tryz.prog ops Q (o :: rest) a (w0.alloc (.cells #[c1,c2,c3] e)):=by
 obtain ⟨i0,hi,hz0,hz1,hz2⟩:=info_parts QBp;have hbn:(n+1)*b≤2147483648*64:=Nat.mul_le_mul (by omega) hb
 refine wpList_append_lies _ hgd s x t ho base e i0 z 3 b hu hi hz0 hz1 hz2 hz (by decide) v n xs hs (QAq.alloc _) ⟨w0.heap.size,0,none⟩ 1 1 [c1,c2,c3] hx rfl (World.news_of_block (heap_alloc_new w0 _)) (fun u hm=>?_) (by decide) (by unfold maxLen;omega) (by omega) (by simp;omega) _ rfl ?_
 ·simp only [List.mem_cons,List.not_mem_nil,or_false] at hm
  rcases hm with rfl|rfl|rfl<;>assumption
 ·intro g cap w' k2 k3 k4 k5
  refine h g cap w' k2 ⟨k3.os,k3.tape,k3.output,Nat.le_trans (by simp) k3.size,fun k hk hne=>(k3.block k (by simp;omega) hne).trans (heap_alloc_old w0 _ hk)⟩ ?_
  rcases k4 with k4|k4
  ·exact .inl k4
  ·exact .inr (by rw [k4];simp)
end
section
open Go.RowKit
structure LAt(w:World)(P B:Nat)(h p f:ByteArray)(rest:List Flt)(log:List Evt)(n:Nat)(rv lv:Value):Prop where
 blk:w.heap[P]?=some (.cells #[.string h,.string p,.string f,rv,lv,.int .i64 (n:Int)] 64 (0,0))
 hold:HoldsC w rv rest
 tag:∀ b,QiG rv=some b→∃ C,w.heap[b]?=some (.cells C 294 (0,0))
 own:w.ownsRow B 97 3 lv log.length (evs log)
theorem LAt.lt{w:World}{P B:Nat}{h p f:ByteArray}{rest:List Flt}{log:List Evt}{n:Nat}{rv lv:Value}(k:LAt w P B h p f rest log n rv lv):P<w.heap.size:=(gsi k.blk).1
theorem LAt.keep{w w':World}{P B:Nat}{h p f:ByteArray}{rest:List Flt}{log:List Evt}{n:Nat}{rv lv:Value}(k:LAt w P B h p f rest log n rv lv)(hs:w.heap.size≤w'.heap.size)(hP:w'.heap[P]?=w.heap[P]?)(hr:∀ b,QiG rv=some b→w'.heap[b]?=w.heap[b]?)(hl:∀ g,lv.ownBlock=some g→w'.heap[g]?=w.heap[g]?):LAt w' P B h p f rest log n rv lv where
 blk:=hP.trans k.blk
 hold:=k.hold.kept hs hr
 tag:=fun b hb=>let ⟨C,hC⟩:=k.tag b hb;⟨C,(hr b hb).trans hC⟩
 own:=Qad k.own hl
theorem LAt.rlt{w:World}{P B:Nat}{h p f:ByteArray}{rest:List Flt}{log:List Evt}{n:Nat}{rv lv:Value}(k:LAt w P B h p f rest log n rv lv)(b:Nat)(hb:QiG rv=some b):b<w.heap.size:=let ⟨_,hC⟩:=k.tag b hb;(gsi hC).1
theorem LAt.below{w w':World}{P B:Nat}{h p f:ByteArray}{rest:List Flt}{log:List Evt}{n:Nat}{rv lv:Value}(k:LAt w P B h p f rest log n rv lv)(hb:Below w.heap.size w w'):LAt w' P B h p f rest log n rv lv:=
 k.keep hb.size (hb.block P k.lt) (fun b h=>hb.block b (k.rlt b h)) (fun g h=>hb.block g (k.own.lt g h).2)
theorem LAt.touch{w w':World}{S:Nat→Prop}{P B:Nat}{h p f:ByteArray}{rest:List Flt}{log:List Evt}{n:Nat}{rv lv:Value}(k:LAt w P B h p f rest log n rv lv)(ht:Touch S w w')(hP:¬S P)(hr:∀ b,QiG rv=some b→¬S b)(hl:∀ g,lv.ownBlock=some g→¬S g):LAt w' P B h p f rest log n rv lv:=
 k.keep ht.size (ht.block P k.lt hP) (fun b h=>ht.block b (k.rlt b h) (hr b h)) (fun g h=>ht.block g (k.own.lt g h).2 (hl g h))
theorem LAt.cells{w:World}{P B:Nat}{h p f:ByteArray}{rest:List Flt}{log:List Evt}{n:Nat}{rv lv:Value}(k:LAt w P B h p f rest log n rv lv) :
  (w.cell? ⟨P,0,none⟩=some (.string h)∧w.cell? ⟨P,1,none⟩=some (.string p)∧w.cell? ⟨P,2,none⟩=some (.string f)∧w.cell? ⟨P,3,none⟩=some rv∧w.cell? ⟨P,4,none⟩=some lv∧w.cell? ⟨P,5,none⟩=some (.int .i64 (n:Int)))∧w.frozen? ⟨P,3,none⟩=false∧w.frozen? ⟨P,4,none⟩=false∧w.frozen? ⟨P,5,none⟩=false:=QhD k.blk
theorem LAt.rne{w:World}{P B:Nat}{h p f:ByteArray}{rest:List Flt}{log:List Evt}{n:Nat}{rv lv:Value}(k:LAt w P B h p f rest log n rv lv)(b:Nat)(hb:QiG rv=some b):b≠P:=fun e=>by
 obtain ⟨C,hC⟩:=k.tag b hb;rw [e,k.blk] at hC;simp only [Option.some.injEq,Obj.cells.injEq] at hC;exact absurd hC.2.1 (by decide)
theorem LAt.lne{w:World}{P B:Nat}{h p f:ByteArray}{rest:List Flt}{log:List Evt}{n:Nat}{rv lv:Value}(k:LAt w P B h p f rest log n rv lv):lv.ownBlock≠some P:=QaH k.own k.blk (by decide)
theorem LAt.rl{w:World}{P B:Nat}{h p f:ByteArray}{rest:List Flt}{log:List Evt}{n:Nat}{rv lv:Value}(k:LAt w P B h p f rest log n rv lv)(b:Nat)(hb:QiG rv=some b):lv.ownBlock≠some b:=by
 obtain ⟨C,hC⟩:=k.tag b hb;exact QaH k.own hC (by decide)
theorem HoldsC.set{w:World}{v:Value}{l:List Flt}(h:HoldsC w v l)(a:Addr)(y:Value)(hb:∀ b,QiG v=some b→b≠a.block):HoldsC (w.setCell a y) v l:=
 h.kept (by rw [Qbr];exact Nat.le_refl _) (fun b h1=>Below.heap_setCell _ _ _ _ (hb b h1))
theorem LAt.setRest{w:World}{P B:Nat}{h p f:ByteArray}{rest rest':List Flt}{log:List Evt}{n:Nat}{rv rv' lv:Value}(k:LAt w P B h p f rest log n rv lv)(hr:HoldsC w rv' rest')(ht:∀ b,QiG rv'=some b→∃ C,w.heap[b]?=some (.cells C 294 (0,0))):LAt (w.setCell ⟨P,3,none⟩ rv') P B h p f rest' log n rv' lv:=by
 have hne:∀ b,QiG rv'=some b→b≠P:=fun b hb e=>by
  obtain ⟨C,hC⟩:=ht b hb;rw [e,k.blk] at hC;simp only [Option.some.injEq,Obj.cells.injEq] at hC;exact absurd hC.2.1 (by decide)
 refine ⟨QuH k.blk _,hr.set _ _ hne,fun b hb=>?_,Qad k.own (fun g hg=>Below.heap_setCell _ _ _ _ (fun e=>k.lne (by rw [hg];exact congrArg some e)))⟩
 obtain ⟨C,hC⟩:=ht b hb;exact ⟨C,(Below.heap_setCell _ _ _ _ (hne b hb)).trans hC⟩
theorem LAt.setHarm{w:World}{P B:Nat}{h p f:ByteArray}{rest:List Flt}{log:List Evt}{n m:Nat}{rv lv:Value}(k:LAt w P B h p f rest log n rv lv):LAt (w.setCell ⟨P,5,none⟩ (.int .i64 (m:Int))) P B h p f rest log m rv lv:=by
 refine ⟨QuF k.blk _,k.hold.set _ _ k.rne,fun b hb=>?_,Qad k.own (fun g hg=>Below.heap_setCell _ _ _ _ (fun e=>k.lne (by rw [hg];exact congrArg some e)))⟩
 obtain ⟨C,hC⟩:=k.tag b hb;exact ⟨C,(Below.heap_setCell _ _ _ _ (k.rne b hb)).trans hC⟩
theorem LAt.new{W:World}{B0 B:Nat}{h p f:ByteArray}{l:List Flt}{log:List Evt}{n:Nat}{rv lv:Value}(hr:W.ownsRow B0 294 3 rv l.length (Ql5 l))(ho:W.ownsRow B 97 3 lv log.length (evs log)):LAt (W.alloc (.cells #[.string h,.string p,.string f,rv,lv,.int .i64 (n:Int)] 64 (0,0))) W.heap.size B h p f l log n rv lv:=by
 have hb:Below W.heap.size W (W.alloc (.cells #[.string h,.string p,.string f,rv,lv,.int .i64 (n:Int)] 64 (0,0))):=(Below.refl _ _).alloc (Nat.le_refl _) _;refine ⟨heap_alloc_new W _,(HoldsC.of_own hr).below hb,fun b hbk=>?_,Qad ho (fun g hg=>hb.block g (ho.lt g hg).2)⟩
 rcases hr.2 with ⟨rfl,-⟩|⟨g,cap,cur,rfl,h1,h2,-⟩
 ·cases hbk
 ·injection hbk with e
  subst e;exact ⟨cur,(hb.block g (gsi h2).1).trans h2⟩
def LS(P:Nat)(lv:Value)(g:Nat):Prop:=g=P∨lv.ownBlock=some g
theorem QjQ{ops:Array Oper}{rest:List Oper}{o:Oper}{a:Act}{Q:Exit→Act→World→Prop}(t:TypeId)(z:Value)(b:Nat)(hu:Tryz.prog.underlying t=some (.slice 97))(QBp:(Tryz.prog.info? 97).map (fun i=>(i.zero,i.size,i.bytes))=some (some z,3,b))(hz:z.cells.size=3)(hb:b≤64)
  (w0:World) {P B:Nat} {h p f:ByteArray} {fl:List Flt} {log:List Evt} {n:Nat} {rv lv:Value} (k:LAt w0 P B h p f fl log n rv lv) (x1 x2:Int) (x3:Bool) (hgd:o.guard=none) (s x:Operand) (ho:o.op = .call { callee:=.builtin .append,args:=#[s,x],argTypes:=#[t,t] })
  (hs:a.eval s=lv) (hx:a.eval x = .slice (some ⟨w0.heap.size,0,none⟩) 1 1) (hn:log.length≤1000000) (hB:B≤w0.heap.size)
  (K:∀ g m cap w1,w1.cell? ⟨P,4,none⟩=some lv→w1.frozen? ⟨P,4,none⟩=false→LAt (w1.setCell ⟨P,4,none⟩ (.slice (some ⟨g,0,none⟩) m cap)) P B h p f fl (log++[(x1,x2,x3)]) n rv (.slice (some ⟨g,0,none⟩) m cap)→Touch (LS P lv) w0 (w1.setCell ⟨P,4,none⟩ (.slice (some ⟨g,0,none⟩) m cap))→(lv.ownBlock=some g∨w0.heap.size≤g)→wpList Tryz.prog ops Q rest (a.put o.dst (.slice (some ⟨g,0,none⟩) m cap)) w1) :
  wpList Tryz.prog ops Q (o :: rest) a (w0.alloc (.cells #[.int .i64 x1,.int .i64 x2,.bool x3] 97)):=by
 refine Qyx t _ z b hu QBp hz hb w0 _ _ _ rfl rfl rfl hgd s x ho B lv log.length (evs log) hs k.own hx (by omega) hB ?_
 intro g cap w1 h1 h2 h3;have hkP:w1.heap[P]?=some (.cells #[.string h,.string p,.string f,rv,lv,.int .i64 (n:Int)] 64 (0,0)):=(h2.block P k.lt (fun e=>k.lne e.symm)).trans k.blk
 have hr:∀ b,QiG rv=some b→w1.heap[b]?=w0.heap[b]?:=fun b hb=>h2.block b (k.rlt b hb) (fun e=>k.rl b hb e.symm)
 have h1':w1.ownsRow B 97 3 (.slice (some ⟨g,0,none⟩) (log.length+1) cap) (log++[(x1,x2,x3)]).length (evs (log++[(x1,x2,x3)])):=by
  rw [QqO,List.length_append];exact h1
 obtain ⟨-,-,f4,-⟩:=QhD hkP;obtain ⟨⟨-,-,-,-,c4,-⟩,-⟩:=QhD hkP;refine K g _ cap w1 c4 f4 ⟨QuG hkP _,(k.hold.kept h2.size hr).set _ _ k.rne,fun b hb=>?_,Qad h1' (fun g hg=>Below.heap_setCell _ _ _ _ (fun e=>QaH h1 hkP (by decide) (by rw [hg];exact congrArg some e)))⟩ ?_ h3
 ·obtain ⟨C,hC⟩:=k.tag b hb
  exact ⟨C,(Below.heap_setCell _ _ _ _ (k.rne b hb)).trans ((hr b hb).trans hC)⟩
 ·exact Qaf _ (Touch.of_grown h2 (fun g hg=>.inl (.inr hg))) (.inl (.inl rfl))
end
section
open Go.RowKit
theorem Qvy:(Tryz.prog.info? 294).map (fun i=>(i.zero,i.size,i.bytes))=some (some (.agg #[.int .u8 0,.int .i64 0,.string ByteArray.empty]),3,32):=by kernel_rfl
theorem QkK:(Tryz.prog.info? 97).map (fun i=>(i.zero,i.size,i.bytes))=some (some (.agg #[.int .i64 0,.int .i64 0,.bool false]),3,24):=by kernel_rfl
theorem QuE:(Tryz.prog.info? 294).map (·.size)=some 3:=by kernel_rfl
def QyK(N:Nat):Array Value:=madeCells #[.int .u8 0,.int .i64 0,.string ByteArray.empty] (N*3)
theorem QsK(N:Nat)(h:N≤1000000)(w:World):(Instr.makeSlice 61 (.int .i64 (N:Int)) (.int .i64 (N:Int))).run Tryz.prog w = .ok (.slice (some ⟨w.heap.size,0,none⟩) N N) (w.alloc (.cells (QyK N) 294)):=
 QrO (P:=Tryz.prog) _ _ _ 3 32 Tryz.underlying61 Qvy (by decide) N h w
theorem Qrh(N:Nat):(QyK N).size=N*3:=size_madeCells _ _
theorem QsN{w:World}{v:Value}{l:List Flt}(hv:HoldsC w v l)(hn:l.length≤1000000):∃ W',(∀ ty,(Builtin.copy_ #[61,61] ty #[.slice (some ⟨w.heap.size,0,none⟩) l.length l.length,v]).run Tryz.prog (w.alloc (.cells (QyK l.length) 294)) = .ok (.int .i64 l.length) W')∧W'.ownsRow w.heap.size 294 3 (.slice (some ⟨w.heap.size,0,none⟩) l.length l.length) l.length (Ql5 l)∧Below w.heap.size w W':=by
 have hb:Below w.heap.size w (w.alloc (.cells (QyK l.length) 294)):=(Below.refl _ _).alloc (Nat.le_refl _) _;obtain ⟨W2,hcp,ho,ht⟩:=QqU (P:=Tryz.prog) 61 61 294 Tryz.underlying61 QuE (heap_alloc_new w (.cells (QyK l.length) 294)) (Qrh _) (hv.below hb) hn;exact ⟨W2,hcp,ho,hb.trans (ht.below (fun g hg=>by rw [show g=w.heap.size from hg];exact Nat.le_refl _) hb.size)⟩
def Qud(h p f:ByteArray)(l:List Flt)(w:World)(e:Ending)(w':World):Prop:=
 ∃ b rv,e = .returned (.tuple #[.pointer (some ⟨b,0,none⟩),.int .i64 0])∧w.heap.size≤b∧LAt w' b w.heap.size h p f l [] 0 rv (.slice none 0 0)∧(∀ g,QiG rv=some g→w.heap.size≤g)∧Below w.heap.size w w'
theorem Qvk(h p f:ByteArray)(v:Value)(l:List Flt)(w:World)(he:Qg0 h.data.toList p.data.toList=0)(hv:HoldsC w v l)(hn:l.length≤1000000) :
  Calls Tryz.prog 5 #[.agg #[.string h,.string p,.string f],v] w (Qud h p f l w):=by
 obtain ⟨a,c,hvv,-⟩:=hv.len;subst hvv;have HC:=hid (fun w=>QgJ h p f w)
 rw [he] at HC;have HB0:=hid (Qhm w (.string h) (.string p) (.string f));have HP0:=hid (heap_alloc_new w (.cells #[.string h,.string p,.string f] 30));have HSZ:Hid ((w.alloc (.cells #[.string h,.string p,.string f] 30)).heap.size=w.heap.size+1):=hid (by simp)
 have HV:=hid (fun W (hW:Below w.heap.size w W)=>QsN (hv.below hW) hn)
 have hmk:=QsK l.length hn;obtain ⟨o0,o1,o2,-,-,-⟩:=Qan HP0.out;clear he hv hn;go_enter Tryz.func5,Tryz.ntmps5;go_wp2_with fail;refine (HC.out _).mono ?_;rintro e w1 ⟨rfl,hb1⟩;have hp1:=(hb1.block w.heap.size (by have:=HSZ.out;omega)).trans HP0.out
 have HB1:=hid (Qaa HB0.out hb1);have hs1:w.heap.size<w1.heap.size:=(gsi hp1).1;obtain ⟨W2,hcp,ho2,hb2⟩:=HV.out w1 HB1.out;have hp2:=(hb2.block w.heap.size hs1).trans hp1;have HO:=hid ho2;have HB2:=hid (Qaa HB1.out hb2);have HS1:=hid hs1;clear hb1 o0 o1 o2 hp1 ho2 hb2 hs1;obtain ⟨o0,o1,o2,-,-,-⟩:=Qan hp2;clear hp2;go_wp2_with (at_builtin;refine Go.Proofs.wpList_copy_runI _ rfl _ _ 61 61 rfl _ _ rfl rfl (hcp _) ?_);go_ret2;refine ⟨_,_,rfl,HB2.out.size,LAt.new HO.out (World.ownsRow_nil _ _ _ _),fun g hg=>?_,HB2.out.alloc HB2.out.size _⟩
 have e1:some w1.heap.size=some g:=hg;injection e1 with e1
 have:=HS1.out;omega
def Qho(w:World)(P B:Nat)(h p f:ByteArray)(rest:List Flt)(log:List Evt)(n:Nat)(rv lv:Value)(X:Flt)(e:Ending)(w':World):Prop:=
 e = .returned (.agg #[.int .u8 X.1,.int .i64 X.2.1,.string X.2.2])∧∃ rv',LAt w' P B h p f rest log n rv' lv∧Touch (fun g=>g=P) w w'∧∀ g,QiG rv'=some g→QiG rv=some g
theorem QkB(w:World)(b:Nat)(t:TypeId)(x0 x1 x2:Value)(h:w.heap[b]?=some (.cells #[x0,x1,x2] t (0,0))):(loadVar 294 ⟨b,0,none⟩).run Tryz.prog w = .ok (.agg #[x0,x1,x2]) w:=
 run_loadVar_row w b t 294 #[x0,x1,x2] (0,0) _ h Tryz.underlying294 rfl (by kernel_rfl)
theorem Qex(w:World)(x y z:Value):Below w.heap.size w (w.alloc (.cells #[x,y,z] 294)):=(Below.refl _ _).alloc (Nat.le_refl _) _
theorem Qi2{w:World}{P B:Nat}{h p f:ByteArray}{log:List Evt}{n:Nat}{rv lv:Value}(k:LAt w P B h p f [] log n rv lv) :
  Calls Tryz.prog 186 #[.pointer (some ⟨P,0,none⟩)] w (Qho w P B h p f [] log n rv lv noF):=by
 have hb0:=Qex w (.int .u8 0) (.int .i64 0) (.string ⟨#[]⟩);have hg0:=heap_alloc_new w (.cells #[.int .u8 0,.int .i64 0,.string ⟨#[]⟩] 294);obtain ⟨⟨-,-,-,c3,-,-⟩,-⟩:=(k.below hb0).cells;obtain ⟨-,-,-,g0,g1,g2⟩:=Qan hg0;obtain ⟨a,c,hrv,-⟩:=k.hold.len;have HK:=hid (k.below hb0);have HB0:=hid hb0;have HG:=hid hg0;rw [hrv] at c3;simp only [List.length_nil] at c3;clear k hrv hb0 hg0;go_enter Tryz.func186,Tryz.ntmps186;go_wp2_with fail;refine QdH (A:=⟨w.heap.size,0,none⟩) rfl (QkB _ _ _ _ _ _ HG.out) rfl rfl ?_;exact ⟨rfl,rv,HK.out,Touch.of_below HB0.out,fun g hg=>hg⟩
theorem Qi1{w:World}{P B:Nat}{h p f:ByteArray}{x:Flt}{l:List Flt}{log:List Evt}{n:Nat}{rv lv:Value}(k:LAt w P B h p f (x :: l) log n rv lv)(hl:l.length≤1000000) :
  Calls Tryz.prog 186 #[.pointer (some ⟨P,0,none⟩)] w (Qho w P B h p f l log n rv lv x):=by
 obtain ⟨x1,x2,x3⟩:=x;have hPl:=k.lt;have hba:=Qex w (.int .u8 0) (.int .i64 0) (.string ⟨#[]⟩);have ka:=k.below hba;obtain ⟨⟨-,-,-,a3,-,-⟩,-⟩:=ka.cells;obtain ⟨b,o,c,hrv,hc,hlt,-,-,-,hh⟩:=k.hold.first;subst hrv;obtain ⟨b',o',c',hrv,-,-,x0',x1',x2',-⟩:=ka.hold.first;injection hrv with e1 e2 e3
 injection e1 with e1
 injection e1 with e1 e4
 subst e1 e3 e4;have hbb:=Qaa hba (Qex (w.alloc (.cells #[.int .u8 0,.int .i64 0,.string ⟨#[]⟩] 294)) (.int .u8 x1) (.int .i64 x2) (.string x3));obtain ⟨⟨-,-,-,c3,-,-⟩,f3,-⟩:=(k.below hbb).cells;have htag:=k.tag b rfl;obtain ⟨V,hV⟩:∃ V,V=Value.slice (some (if c=1 then ⟨b,o,none⟩ else ⟨b,o+3,none⟩)) l.length (c-1):=⟨_,rfl⟩
 rw [←hV] at hh;have hVb:∀ g,QiG V=some g→g=b:=fun g hg=>by
  rw [hV] at hg
  by_cases e:c=1
  ·rw [if_pos e] at hg;injection hg with e1;exact e1.symm
  ·rw [if_neg e] at hg;injection hg with e1;exact e1.symm
 have k1:=k.setRest hh (fun g hg=>by rw [hVb g hg];exact htag)
 have t1:Touch (fun g=>g=P) w (w.setCell ⟨P,3,none⟩ V):=Qaf _ (Touch.refl _ _) (.inl rfl)
 have hb1:=Qex (w.setCell ⟨P,3,none⟩ V) (.int .u8 x1) (.int .i64 x2) (.string x3);have hb2:=Qex ((w.setCell ⟨P,3,none⟩ V).alloc (.cells #[.int .u8 x1,.int .i64 x2,.string x3] 294)) (.int .u8 x1) (.int .i64 x2) (.string x3);have hg:(((w.setCell ⟨P,3,none⟩ V).alloc (.cells #[.int .u8 x1,.int .i64 x2,.string x3] 294)).alloc (.cells #[.int .u8 x1,.int .i64 x2,.string x3] 294)).heap[w.heap.size]?=some (.cells #[.int .u8 x1,.int .i64 x2,.string x3] 294 (0,0)):=by
  have h1:=heap_alloc_new (w.setCell ⟨P,3,none⟩ V) (.cells #[.int .u8 x1,.int .i64 x2,.string x3] 294);rw [Qbr] at h1;exact (hb2.block w.heap.size (gsi h1).1).trans h1
 have HG:=hid hg;have HX:Hid (Qho w P B h p f l log n (.slice (some ⟨b,o,none⟩) (l.length+1) c) lv (x1,x2,x3) (.returned (.agg #[.int .u8 x1,.int .i64 x2,.string x3])) (((w.setCell ⟨P,3,none⟩ V).alloc (.cells #[.int .u8 x1,.int .i64 x2,.string x3] 294)).alloc (.cells #[.int .u8 x1,.int .i64 x2,.string x3] 294))):=hid ⟨rfl,V,(k1.below hb1).below hb2,(t1.trans (Touch.of_below (S:=fun g=>g=P) hb1) (fun g hg=>.inl hg)).trans (Touch.of_below (S:=fun g=>g=P) hb2) (fun g hg=>.inl hg),fun g hg=>by rw [hVb g hg];rfl⟩
 have hle:(1:Int)≤(l.length:Int)+1:=by omega
 have hz:¬((0:Int)=(l.length:Int)+1):=by omega
 have hz1:((l.length:Int)+1==0)=false:=by rw [beq_eq_false_iff_ne];omega
 have hlt0:(0:Int)<(l.length:Int)+1:=by omega
 clear k ka hh htag hba hbb k1 t1 hb1 hb2 hg hVb e2
 by_cases hc1:c=1
 ·subst hc1
  obtain rfl:l = []:=List.length_eq_zero_iff.1 (by omega)
  rw [if_pos rfl] at hV;subst hV;go_enter Tryz.func186,Tryz.ntmps186;go_wp2_with fail;refine QdH (A:=⟨w.heap.size,0,none⟩) rfl (QkB _ _ _ _ _ _ HG.out) rfl rfl ?_;exact HX.out
 ·rw [if_neg hc1] at hV
  subst hV;go_enter Tryz.func186,Tryz.ntmps186;go_wp2_with fail;refine QdH (A:=⟨w.heap.size,0,none⟩) rfl (QkB _ _ _ _ _ _ HG.out) rfl rfl ?_;exact HX.out
theorem QsV{w:World}{P B:Nat}{h p f:ByteArray}{rest:List Flt}{log:List Evt}{n:Nat}{rv lv:Value}(k:LAt w P B h p f rest log n rv lv)(hl:rest.length≤1000000) :
  Calls Tryz.prog 186 #[.pointer (some ⟨P,0,none⟩)] w (Qho w P B h p f rest.tail log n rv lv (rest.headD noF)):=by
 cases rest with
 |nil=>exact Qi2 k
 |cons x t=>
  have ht:t.length≤1000000:=by rw [List.length_cons] at hl;omega
  exact Qi1 k ht
theorem Qqm{w:World}{P B:Nat}{h p f:ByteArray}{rest:List Flt}{log:List Evt}{n:Nat}{rv lv:Value}(k:LAt w P B h p f rest log n rv lv):Calls Tryz.prog 12 #[.pointer (some ⟨P,0,none⟩)] w fun e w'=>e = .returned (.int .i64 (n:Nat))∧w'=w:=by
 obtain ⟨⟨-,-,-,-,-,c5⟩,-⟩:=k.cells;clear k;go_enter Tryz.func12,Tryz.ntmps12;go_wp2_with fail;go_ret;exact ⟨rfl,rfl⟩
theorem Qpa(w:World)(a:Option Addr)(n c n' c':Nat):(binOp .eql 45 (.slice a n c) (.slice none n' c')).run Tryz.prog w = .ok (.bool a.isNone) w:=Lib.run_eql_slice_nil w _ _ a n c n' c' Tryz.underlying45
theorem Qi5(w:World):Calls Tryz.prog 28 #[.slice none 0 0] w fun e w'=>e = .returned (.slice none 0 0)∧w'=w:=by
 have q:=Qpa;go_enter Tryz.func28,Tryz.ntmps28;go_wp2_with fail;go_ret;exact ⟨rfl,rfl⟩
def Qom(l:List Evt)(w:World)(e:Ending)(w':World):Prop:=
 ∃ a c,e = .returned (.slice a l.length c)∧w'.ownsRow w.heap.size 97 3 (.slice a l.length c) l.length (evs l)∧Below w.heap.size w w'
theorem QqV(v:Value)(b0:Nat)(l:List Evt)(w:World)(h:w.ownsRow b0 97 3 v l.length (evs l))(hl:l.length≤1000000) :
  Calls Tryz.prog 28 #[v] w (Qom l w):=by
 rcases id h.2 with ⟨rfl,h0⟩|⟨g,cap,cur,rfl,-⟩
 ·refine (Qi5 w).mono ?_
  rintro e w' ⟨rfl,hw⟩;subst hw;obtain rfl:l = []:=List.length_eq_zero_iff.1 h0;exact ⟨_,_,rfl,World.ownsRow_nil _ _ _ _,Below.refl _ _⟩
 ·have q:=Qpa
  obtain ⟨i0,hi,hz0,hz1,hz2⟩:=info_parts QkK;have HC:=hid (h.cells (g:=g) rfl);have HL:=hid (QqN l);have HO:=hid (Qye l);obtain ⟨E,hE⟩:∃ E,evs l=E:=⟨_,rfl⟩;rw [hE] at HC HL HO;have HE:=hid hE;obtain ⟨N,hN⟩:∃ N,l.length=N:=⟨_,rfl⟩;rw [hN] at HL hl ⊢;have HN:=hid hN;clear h hE hN;go_enter Tryz.func28,Tryz.ntmps28;go_wp2_with (at_builtin;refine wpList_append_own _ rfl _ _ 45 rfl w.heap.size 97 i0 (.agg #[.int .i64 0,.int .i64 0,.bool false]) 3 24 Tryz.underlying45 hi hz0 hz1 hz2 rfl (by decide) _ _ _ rfl (World.ownsRow_made w #[] 0 (Nat.le_refl _) (Nat.zero_le _) rfl) ⟨g,0,none⟩ N cap E rfl ?qc1 ?qc2 ?qc3 ?qc4 ?qc5 ?qc6 ?_)
  case qc1=>exact HL.out
  case qc2=>exact fun j u hj=>Lib.cell?_alloc_some _ (HC.out j u hj)
  case qc3=>exact HO.out
  case qc4=>unfold maxLen;omega
  case qc5=>omega
  case qc6=>simp
  intro v' w1 QAq QAu hnil;have QAx:w1.ownsRow w.heap.size 97 3 v' N E:=by simpa using QAq
  go_wp2;go_ret;obtain ⟨a,c,hv⟩:=Qbe QAx;subst hv;unfold Qom;rw [HN.out,HE.out];exact ⟨a,c,rfl,QAx,((Below.refl _ w).alloc (Nat.le_refl _) _).grown QAu (by simp) (by intro k hk;simp [Value.ownBlock] at hk;omega)⟩
theorem Qvl{w:World}{P B:Nat}{h p f:ByteArray}{rest:List Flt}{log:List Evt}{n:Nat}{rv lv:Value}(k:LAt w P B h p f rest log n rv lv)(hl:log.length≤1000000):Calls Tryz.prog 13 #[.pointer (some ⟨P,0,none⟩)] w (Qom log w):=by
 obtain ⟨⟨-,-,-,-,c4,-⟩,-⟩:=k.cells;have HC:=hid (QqV lv B log w k.own hl);clear k;go_enter Tryz.func13,Tryz.ntmps13;go_wp2_with fail;refine HC.out.mono ?_;rintro e w1 ⟨a,c,rfl,h1,h2⟩;have H:=hid (And.intro h1 h2);clear h1 h2 c4;go_wp2_with fail;go_ret;exact ⟨a,c,rfl,H.out.1,H.out.2⟩
end
section
open Go.RowKit
structure FltOk(x:Flt):Prop where
 no:x=noF
theorem FltOk.t{x:Flt}(h:FltOk x):x.2.2.size≤10000:=by rw [h.no];decide
theorem QyX:FltOk noF:=⟨rfl⟩
def Qum(w:World)(P B:Nat)(h p f:ByteArray)(rest:List Flt)(log:List Evt)(n:Nat)(rv lv:Value)(s:ByteArray)(e:Ending)(w':World):Prop:=
 e = .returned (.string (Ql3 h p f (rest.headD noF) s))∧∃ rv' lv',LAt w' P B h p f rest.tail (log++[evK h p f (rest.headD noF) s]) (n+QwE (Qgq h p f (rest.headD noF) s)) rv' lv'∧Touch (LS P lv) w w'∧(∀ g,QiG rv'=some g→QiG rv=some g)∧∀ g,lv'.ownBlock=some g→lv.ownBlock=some g∨w.heap.size≤g
theorem QyQ{P:Nat}{lv:Value}{w w':World}(h:Touch (fun g=>g=P) w w'):Touch (LS P lv) w w':=h.mono (fun _ hg=>.inl hg)
theorem Qvm{w:World}{P B:Nat}{h p f:ByteArray}{rest:List Flt}{log:List Evt}{n:Nat}{rv lv:Value}(s:ByteArray)(k:LAt w P B h p f rest log n rv lv)(hE:∀ W,Touch (LS P lv) w W→EnvF W)(hs:s.size≤1000000)(hf:f.size≤100000)(hx:FltOk (rest.headD noF))(hrl:rest.length≤1000000)(hll:log.length≤1000000)(hn:n≤1000000)(hB:B≤w.heap.size) :
  Calls Tryz.prog 144 #[.pointer (some ⟨P,0,none⟩),.string s] w (Qum w P B h p f rest log n rv lv s):=by
 obtain ⟨⟨c0,c1,c2,c3,c4,c5⟩,f3,f4,f5⟩:=k.cells;obtain ⟨X,hX⟩:∃ X,rest.headD noF=X:=⟨_,rfl⟩;have HNX:=hid (fun W (kk:LAt W P B h p f rest log n rv lv)=>QsV kk hrl)
 unfold Qum;rw [hX] at hx HNX ⊢;have hws:=Qi9 h p f s (by omega)
 have hht:=QxX h p f X s;have HA:Hid (∀ W,Below w.heap.size w W→Calls Tryz.prog 184 #[.agg #[.string h,.string p,.string f],.string s] W fun e w'=>e = .returned (.string (Qd9 h p f s))∧Below W.heap.size W w'):=hid (fun W hW=>Qkq h p f s W ((hE w (Touch.refl _ _)).below hW) hs (by omega))
 have HAP:Hid (∀ W,Touch (LS P lv) w W→Calls Tryz.prog 185 #[.agg #[.int .u8 X.1,.int .i64 X.2.1,.string X.2.2],.string (Qd9 h p f s)] W fun e w'=>e = .returned (.string (Ql3 h p f X s))∧Below W.heap.size W w'):=hid (fun W hW=>by rw [hx.no];exact Qq9 0 ⟨#[]⟩ (Qd9 h p f s) W (hE W hW).weak (by omega) (by omega) (by decide) (by omega))
 have HEV:Hid (evK h p f X s=((s.size:Int),((Ql3 h p f X s).size:Int),Qgq h p f X s)):=hid rfl;generalize evK h p f X s=EV at HEV ⊢;generalize Qd9 h p f s=Wh at hws hht HA HAP;generalize Ql3 h p f X s=G at hht HAP HEV ⊢;generalize Qgq h p f X s=hb at hht HEV ⊢;obtain ⟨x1,x2,x3⟩:=X;have HK:=hid k;have HKW:=hid (fun W (hW:Below w.heap.size w W)=>k.below hW)
 have HBs:=hid (And.intro hB (And.intro hll hn));have tw:IntKind.i64.wrap ((n:Int)+1)=(n:Int)+1:=by rw [IntKind.wrap_i64];omega
 clear k hE hs hf hx hrl hX hws c3 c4 c5 f3 f4 f5 hB hll hn;go_enter Tryz.func144,Tryz.ntmps144;go_wp2_with fail;refine (HA.out _ (Below.refl _ _)).mono ?_;rintro e wa ⟨rfl,hba⟩;have HA1:Hid (Below w.heap.size w wa):=hid hba;clear hba;clear c0 c1 c2;go_wp2_with fail;refine (HNX.out _ (HKW.out _ HA1.out)).mono ?_;rintro e w2 ⟨rfl,rv2,k2,t2,hr2⟩;have HT2:=hid ((Touch.of_below (S:=LS P lv) HA1.out).trans (QyQ (lv:=lv) t2) (fun g hg=>.inl hg))
 have HK2:=hid k2;have HR2:=hid hr2;clear k2 t2 hr2 HNX HKW;go_wp2_with fail;refine (HAP.out _ HT2.out).mono ?_;rintro e w3 ⟨rfl,hb3⟩;have HK3:=hid (HK2.out.below hb3);have HT3:=hid (HT2.out.trans (Touch.of_below (S:=LS P lv) hb3) (fun g hg=>.inl hg))
 obtain ⟨⟨c0,c1,c2,c3,c4,c5⟩,f3,f4,f5⟩:=HK3.out.cells;clear hb3 HT2 HK2 HAP HA HA1;cases hb with
 |true=>
  have hq:(G.toList==Wh.toList)=false:=by rw [eq_comm,Bool.not_eq_true'] at hht;exact hht
  have hq2:¬(G.toList=Wh.toList):=by rw [beq_eq_false_iff_ne] at hq;exact hq
  have HK5:=hid (HK3.out.setHarm (m:=n+1));have HT5:=hid (Qaf (a:=⟨P,5,none⟩) (.int .i64 ((n+1:Nat):Int)) HT3.out (.inl (.inl rfl)));have hc5:=HK5.out.cells.1.2.2.2.2.1;rw [show ((n+1:Nat):Int)=(n:Int)+1 from Int.natCast_add n 1] at HK5 HT5 hc5;clear hht HK3 HT3;go_wp2_with (at_builtin;go_loud (refine QjQ 45 _ 24 Tryz.underlying45 QkK rfl (by decide) _ HK5.out _ _ _ (by rfl) _ _ (by rfl) (by rfl) (by rw [Qbr];rfl) HBs.out.2.1 (Nat.le_trans HBs.out.1 HT5.out.size) ?_);intro g m cap w6 hc6 hf6 hk6 ht6 hd6)
  go_ret;refine ⟨rfl,rv2,.slice (some ⟨g,0,none⟩) m cap,?_,HT5.out.trans ht6 (fun g hg=>.inl hg),HR2.out,fun g' hg'=>?_⟩
  ·rw [HEV.out];exact hk6
  ·injection hg' with e
   subst e;exact hd6.imp id (fun h=>Nat.le_trans HT5.out.size h)
 |false=>
  have hq:(G.toList==Wh.toList)=true:=by rw [eq_comm,Bool.not_eq_false'] at hht;exact hht
  have hq2:G.toList=Wh.toList:=by rw [beq_iff_eq] at hq;exact hq
  clear hht;go_wp2_with (at_builtin;go_loud (refine QjQ 45 _ 24 Tryz.underlying45 QkK rfl (by decide) _ HK3.out _ _ _ (by rfl) _ _ (by rfl) (by rfl) (by rfl) HBs.out.2.1 (Nat.le_trans HBs.out.1 HT3.out.size) ?_);intro g m cap w6 hc6 hf6 hk6 ht6 hd6)
  go_ret;refine ⟨rfl,rv2,.slice (some ⟨g,0,none⟩) m cap,?_,HT3.out.trans ht6 (fun g hg=>.inl hg),HR2.out,fun g' hg'=>?_⟩
  ·rw [HEV.out];exact hk6
  ·injection hg' with e
   subst e;exact hd6.imp id (fun h=>Nat.le_trans HT3.out.size h)
end
section
open Go.RowKit
theorem QvL(l:List Evt):QbU l≤l.length:=List.countP_le_length
theorem drop_tail(l:List Flt)(k:Nat):(l.drop k).tail=l.drop (k+1):=by rw [List.tail_drop]
theorem Qsw(h p f s:ByteArray):QwE (Qgq h p f noF s)=0:=by rw [QlX];rfl
end
section
open Go.RowKit
structure KL(w0 w:World)(P:Nat)(h p f:ByteArray)(rest:List Flt)(log:List Evt)(n:Nat)(rv lv:Value):Prop where
 a:LAt w P w0.heap.size h p f rest log n rv lv
 lo:w0.heap.size≤P
 bel:Below w0.heap.size w0 w
theorem KL.low{w0 w:World}{P:Nat}{h p f:ByteArray}{rest:List Flt}{log:List Evt}{n:Nat}{rv lv:Value}(k:KL w0 w P h p f rest log n rv lv):∀ g,LS P lv g→w0.heap.size≤g:=fun g hg=>by
 rcases hg with rfl|hg
 ·exact k.lo
 ·exact (k.a.own.lt g hg).1
theorem KL.step{w0 w w':World}{P:Nat}{h p f:ByteArray}{rest:List Flt}{log:List Evt}{n:Nat}{rv lv:Value}(k:KL w0 w P h p f rest log n rv lv)(hb:Below w.heap.size w w'):KL w0 w' P h p f rest log n rv lv:=⟨k.a.below hb,k.lo,Qaa k.bel hb⟩
theorem KL.env{w0 w:World}{P:Nat}{h p f:ByteArray}{rest:List Flt}{log:List Evt}{n:Nat}{rv lv:Value}(k:KL w0 w P h p f rest log n rv lv)(hE:EnvF w0):∀ W,Touch (LS P lv) w W→EnvF W:=fun W ht=>
 hE.below (k.bel.trans (ht.below k.low k.bel.size))
def KAsk(w0 w:World)(P:Nat)(h p f:ByteArray)(rest:List Flt)(log:List Evt)(n:Nat)(rv lv:Value)(s:ByteArray)(e:Ending)(w':World):Prop:=
 e = .returned (.string (Ql3 h p f (rest.headD noF) s))∧∃ rv' lv',KL w0 w' P h p f rest.tail (log++[evK h p f (rest.headD noF) s]) (n+QwE (Qgq h p f (rest.headD noF) s)) rv' lv'∧Touch (LS P lv) w w'∧∀ g,lv'.ownBlock=some g→lv.ownBlock=some g∨w.heap.size≤g
theorem KL.ask{w0 w:World}{P:Nat}{h p f:ByteArray}{rest:List Flt}{log:List Evt}{n:Nat}{rv lv:Value}(k:KL w0 w P h p f rest log n rv lv)(hE:EnvF w0)(s:ByteArray)(hs:s.size≤1000000)(hf:f.size≤100000)(hx:FltOk (rest.headD noF))(hrl:rest.length≤1000000)(hll:log.length≤1000000)(hn:n≤1000000) :
  Calls Tryz.prog 144 #[.pointer (some ⟨P,0,none⟩),.string s] w (KAsk w0 w P h p f rest log n rv lv s):=by
 refine (Qvm s k.a (k.env hE) hs hf hx hrl hll hn k.bel.size).mono ?_;rintro e w' ⟨rfl,rv',lv',ha,ht,-,hl⟩;exact ⟨rfl,rv',lv',⟨ha,k.lo,k.bel.trans (ht.below k.low k.bel.size)⟩,ht,hl⟩
theorem KL.new{w0 w w':World}{h p f:ByteArray}{l:List Flt}{e:Ending}(hb:Below w0.heap.size w0 w)(hn:Qud h p f l w e w'):∃ P rv,e = .returned (.tuple #[.pointer (some ⟨P,0,none⟩),.int .i64 0])∧w.heap.size≤P∧KL w0 w' P h p f l [] 0 rv (.slice none 0 0)∧Below w.heap.size w w':=by
 obtain ⟨b,rv,rfl,h1,h2,h3,h4⟩:=hn;have hs:=hb.size;exact ⟨b,rv,rfl,h1,⟨⟨h2.blk,h2.hold,h2.tag,Qgf h2.own hs⟩,Nat.le_trans hs h1,Qaa hb h4⟩,h4⟩
theorem QwJ{l:List Flt}(h:∀ x∈l,FltOk x)(k:Nat):FltOk ((l.drop k).headD noF):=by
 cases e:l.drop k with
 |nil=>exact QyX
 |cons x t=>exact h x (List.mem_of_mem_drop (by rw [e];exact List.mem_cons_self ..))
end
section
open Go.RowKit
theorem QsW{α:Type}{l:List α}(h:l.length=2):∃ a b,l = [a,b]:=by
 cases l with
 |nil=>simp at h
 |cons a t=>cases t with
  |nil=>simp at h
  |cons b u=>cases u with
   |nil=>exact ⟨a,b,rfl⟩
   |cons c v=>simp at h
end
section
open Go.RowKit
theorem QoT{H:Type}{enc:TypeId×Value→H}{W:World}{n:Nat}{cs:List Value}{x:DataW H×List MemPlace}(h:DataW.trod enc Tryz.prog W 0 (fun _=>true) true n 3 cs=some x):∃ k:Int,cs = [.int .i64 k]∧(Lit.int .i64 k).wf=true:=by
 obtain ⟨k,h1,h2,h3⟩:=DataW.trod_int Tryz.underlying3 h;exact ⟨k,h1,h3⟩
end
section
open Go.RowKit
theorem KL.far{w0 w w':World}{P:Nat}{h p f:ByteArray}{rest:List Flt}{log:List Evt}{n:Nat}{rv lv:Value}(k:KL w0 w P h p f rest log n rv lv){X:Nat}{C:Array Value}{t:TypeId}(hX:w.heap[X]?=some (.cells C t (0,0)))(h1:t≠64)(h2:t≠97)(h3:t≠294)(hlo:w0.heap.size≤X)(ht:Touch (fun g=>g=X) w w'):KL w0 w' P h p f rest log n rv lv:=by
 have hb:Below w0.heap.size w0 w':=k.bel.trans (ht.below (fun g hg=>by rw [show g=X from hg];exact hlo) k.bel.size)
 refine ⟨k.a.touch ht ?_ ?_ ?_,k.lo,hb⟩
 ·intro e
  have e2:=k.a.blk;rw [show _=X from e,hX] at e2;simp only [Option.some.injEq,Obj.cells.injEq] at e2;exact h1 e2.2.1
 ·intro b hb e
  obtain ⟨C',hC⟩:=k.a.tag b hb;rw [show b=X from e,hX] at hC;simp only [Option.some.injEq,Obj.cells.injEq] at hC;exact h3 hC.2.1
 ·intro b hb e
  exact QaH k.a.own hX h2.symm (by rw [hb];exact congrArg some e)
theorem QjN{w0 w w':World}{P:Nat}{h p f:ByteArray}{rest:List Flt}{log:List Evt}{n:Nat}{rv lv:Value}(k:KL w0 w P h p f rest log n rv lv){X:Nat}{C:Array Value}{t:TypeId}(hX:w.heap[X]?=some (.cells C t (0,0)))(h1:t≠64)(h2:t≠97)(ht:Touch (LS P lv) w w'):w'.heap[X]?=some (.cells C t (0,0)):=by
 refine (ht.block X (gsi hX).1 ?_).trans hX;rintro (e|e)
 ·have e2:=k.a.blk
  rw [←e,hX] at e2;simp only [Option.some.injEq,Obj.cells.injEq] at e2;exact h1 e2.2.1
 ·exact QaH k.a.own hX h2.symm e
end
section
open Go.RowKit
def QeH(s:ByteArray)(a b t:Int):Nat:=
 if s.size=0 then 16
 else if Qec s (QaQ a b)≠0 then Qec s (QaQ a b)
 else if Qha s (QaQ a b)<(s.size:Int) then 4
 else if Qj2 s (QaQ a b)≠206 then 17
 else if Qc8 (Qcf s (QaQ a b)) Qag≠0 then Qc8 (Qcf s (QaQ a b)) Qag
 else if Qce (QbC (Qcf s (QaQ a b)) Qag)≠0 then Qce (QbC (Qcf s (QaQ a b)) Qag)
 else if QcX (QbC (Qcf s (QaQ a b)) Qag)≠a∨QcW (QbC (Qcf s (QaQ a b)) Qag)≠b∨Qdu (QbC (Qcf s (QaQ a b)) Qag)≠t then 19
 else if ((QiP s (QaQ a b)).length:Int)≠QaQ a b then 18
 else 0
def Qrg(s:ByteArray)(a b t:Int):List UInt8:=if QeH s a b t=0 then QiP s (QaQ a b) else []
theorem QoS(s:ByteArray)(a b t:Int)(h1:s.size≠0)(h2:Qec s (QaQ a b)=0)(h3:(s.size:Int)≤Qha s (QaQ a b))(h4:Qj2 s (QaQ a b)=206)(h5:Qc8 (Qcf s (QaQ a b)) Qag=0)(h6:Qce (QbC (Qcf s (QaQ a b)) Qag)=0)(h7:QcX (QbC (Qcf s (QaQ a b)) Qag)=a∧QcW (QbC (Qcf s (QaQ a b)) Qag)=b∧Qdu (QbC (Qcf s (QaQ a b)) Qag)=t)(h8:((QiP s (QaQ a b)).length:Int)=QaQ a b):QeH s a b t=0:=by
 unfold QeH;rw [if_neg h1,if_neg (fun e=>e h2),if_neg (by omega),if_neg (fun e=>e h4),if_neg (fun e=>e h5),if_neg (fun e=>e h6),if_neg (by rw [h7.1,h7.2.1,h7.2.2];simp),if_neg (fun e=>e h8)]
theorem Qto(v:List UInt8):Qc8 [(Qag,v)] Qag=0∧QbC [(Qag,v)] Qag=v:=by
 have e1:QfH [(Qag,v)] Qag = [v]:=by unfold QfH;simp
 unfold Qc8 QbC;rw [e1];exact ⟨rfl,rfl⟩
theorem Qsr(p h f:List UInt8)(a b:Int)(he:QgE p h a b=0)(hb:b<(f.length:Int))(hf:f.length≤1000000)(s:ByteArray)(hs:s.data.toList=Qlo p h a b) :
  Qg0 h p=0∧Qgg h p f s=206∧Qnu h p f s = [(Qag,QbY a b (f.length:Int))]∧Qnt h p f s=(f.take (b+1).toNat).drop a.toNat∧QbW a b (f.length:Int)=0∧(((f.take (b+1).toNat).drop a.toNat).length:Int)=QaQ a b:=by
 obtain ⟨g1,g2,g3⟩:=QeA p h a b he;obtain ⟨r1,r2,r3⟩:=Qco a b g3;obtain ⟨e1,e2,e3,e4,e5,e6⟩:=Qyu p h a b he (by omega) (by omega) s [] (by rw [List.append_nil];exact hs)
 have hc:Qdq a b (f.length:Int)=0:=by unfold Qdq;rw [if_neg (fun h=>h g3),if_neg (by omega)]
 have hC:Qgg h p f s=206:=by
  unfold Qgg;rw [if_neg (by rw [e1,e6,←hs,Qab];omega),if_neg (by rw [e2,e3];simp),e4,e5,hc,if_neg (by decide)]
 have hA:Qkt f s=a:=by unfold Qkt;rw [e4,e5];unfold QfV;rw [if_pos hc]
 have hB:QiW f s=b:=by unfold QiW;rw [e4,e5];unfold QfU;rw [if_pos hc];split<;>omega
 refine ⟨by unfold Qg0;rw [if_neg];rw [g1,g2];simp,hC,by unfold Qnu;rw [if_pos hC,hA,hB],by unfold Qnt;rw [if_pos hC,hA,hB],?_,?_⟩
 ·unfold QbW;rw [if_neg (fun h=>h g3),if_neg (by omega)]
 ·unfold QaQ
  rw [if_pos g3,List.length_drop,List.length_take];omega
theorem Qux(T:ByteArray)(a b t:Int)(ht:QbW a b t=0)(h1:T.size≠0)(h2:Qec T (QaQ a b)=0)(h3:(T.size:Int)≤Qha T (QaQ a b))(h4:Qj2 T (QaQ a b)=206)(h5:Qcf T (QaQ a b) = [(Qag,QbY a b t)])(h8:((QiP T (QaQ a b)).length:Int)=QaQ a b):QeH T a b t=0:=by
 obtain ⟨u1,u2,u3,u4⟩:=Qrw a b t ht;have hg:=Qto (QbY a b t);exact QoS T a b t h1 h2 h3 h4 (by rw [h5];exact hg.1) (by rw [h5,hg.2];exact u1) (by rw [h5,hg.2];exact ⟨u2,u3,u4⟩) h8
theorem Qs4(p h f:List UInt8)(a b:Int)(he:QgE p h a b=0)(hb:b<(f.length:Int))(hf:f.length≤1000000)(s:ByteArray)(hs:s.data.toList=Qlo p h a b)(T:ByteArray)(hT:T.data.toList=QoC h p f s) :
  QeH T a b (f.length:Int)=0∧Qrg T a b (f.length:Int)=(f.take (b+1).toNat).drop a.toNat:=by
 obtain ⟨e1,e2,e3,e4,e5,e6⟩:=Qsr p h f a b he hb hf s hs;have hY:=Qks h p f s;have hS:=Qss h p f s hf e1;rw [hS] at hT;obtain ⟨t1,t2,t3,t4,t5⟩:=QuN (Qgg h p f s) (Qnu h p f s) (Qnt h p f s) [] T (QaQ a b) (Qkr h p f s hf) (by omega) (by rw [hT,List.append_nil]) (by rw [e4];omega)
 rw [e2] at t2;rw [e3] at t3;rw [e4] at t4;have hz:T.size≠0:=by
  rw [←Qab,hT];unfold QpU QaB QcK;simp
 have hN:(T.size:Int)≤Qha T (QaQ a b):=by rw [t5,←Qab,hT];exact Int.le_refl _
 have hj:=Qux T a b (f.length:Int) e5 hz t1 hN t2 t3 (by rw [t4];exact e6)
 exact ⟨hj,by unfold Qrg;rw [if_pos hj,t4]⟩
end
section
open Go.RowKit
def QvO(h p f:ByteArray)(l:List Flt)(S:ByteArray)(n j:Nat):ByteArray:=Ql3 h p f ((l.drop (n+j)).headD noF) S
def lgN(h p f:ByteArray)(l:List Flt)(qs:List ByteArray)(S:ByteArray)(m:Nat):List Evt:=QoM h p f l (qs++List.replicate m S)
theorem QkE(h p f:ByteArray)(l:List Flt)(qs:List ByteArray)(S:ByteArray):lgN h p f l qs S 0=QoM h p f l qs:=by unfold lgN;simp
theorem QoQ(h p f:ByteArray)(l:List Flt)(qs:List ByteArray)(S:ByteArray)(m:Nat):lgN h p f l qs S (m+1)=lgN h p f l qs S m++[evK h p f ((l.drop (qs.length+m)).headD noF) S]:=by
 unfold lgN;rw [List.replicate_succ',←List.append_assoc,QsU];have e:QpS l (qs++List.replicate m S)=l.drop (qs.length+m):=by unfold QpS;simp
 rw [e]
theorem Qvg(h p f:ByteArray):∀ (qs:List ByteArray) (l:List Flt),(QoM h p f l qs).length=qs.length:=by
 intro qs
 induction qs with
 |nil=>intro l;rfl
 |cons a t ih=>intro l;show (QoM h p f l.tail t).length+1=_;rw [ih];rfl
theorem QnJ(h p f:ByteArray)(l:List Flt)(qs:List ByteArray)(S:ByteArray)(m:Nat):(lgN h p f l qs S m).length=qs.length+m:=by
 unfold lgN;rw [Qvg];simp
theorem Qhh(h p f:ByteArray)(l:List Flt)(qs:List ByteArray)(S:ByteArray)(m:Nat):QbU (lgN h p f l qs S (m+1))=QbU (lgN h p f l qs S m)+QwE (Qgq h p f ((l.drop (qs.length+m)).headD noF) S):=by
 rw [QoQ,QnV];rfl
theorem QwI(h p f:ByteArray)(l:List Flt)(qs:List ByteArray)(S:ByteArray)(m:Nat):QbU (lgN h p f l qs S m)≤qs.length+m:=by
 have:=QvL (lgN h p f l qs S m)
 rwa [QnJ] at this
def QrR(e:Nat→Nat)(r:Nat):Option Nat:=(List.range (r+1)).find? (fun j=>e j==0)
theorem QrP(e:Nat→Nat)(r i:Nat)(hi:i≤r)(h:∀ j,j<i→e j≠0)(h0:e i=0):QrR e r=some i:=by
 unfold QrR;rw [List.find?_range_eq_some];refine ⟨by simp [h0],List.mem_range.2 (by omega),fun j hj=>by simpa using h j hj⟩
theorem QrQ(e:Nat→Nat)(r:Nat)(h:∀ j,j≤r→e j≠0):QrR e r=none:=by
 unfold QrR;rw [List.find?_eq_none];intro j hj;have:=h j (by have:=List.mem_range.1 hj;omega)
 simpa using this
def Qkf(e:Nat→Nat)(r:Nat):Nat:=match QrR e r with|some j=>j+1|none=>r+1
def Qxe(e:Nat→Nat)(r:Nat):Nat:=match QrR e r with|some _=>0|none=>e r
def Quo(e:Nat→Nat)(r:Nat):Nat:=match QrR e r with|some _=>0|none=>23
def Qxf(e:Nat→Nat)(r:Nat)(B:Nat→List UInt8):List UInt8:=match QrR e r with|some j=>B j|none=>[]
theorem Qfs(e:Nat→Nat)(r i:Nat)(B:Nat→List UInt8)(hi:i≤r)(h:∀ j,j<i→e j≠0)(h0:e i=0):Qkf e r=i+1∧Qxe e r=0∧Quo e r=0∧Qxf e r B=B i:=by
 unfold Qkf Qxe Quo Qxf;rw [QrP e r i hi h h0];exact ⟨rfl,rfl,rfl,rfl⟩
theorem Qhc(e:Nat→Nat)(r:Nat)(B:Nat→List UInt8)(h:∀ j,j≤r→e j≠0):Qkf e r=r+1∧Qxe e r=e r∧Quo e r=23∧Qxf e r B = []:=by
 unfold Qkf Qxe Quo Qxf;rw [QrQ e r h];exact ⟨rfl,rfl,rfl,rfl⟩
theorem QhK(e:Nat→Nat)(r:Nat):(∃ i,i≤r∧(∀ j,j<i→e j≠0)∧e i=0)∨∀ j,j≤r→e j≠0:=by
 cases hJ:QrR e r with
 |none=>
  right;intro j hj;unfold QrR at hJ;rw [List.find?_eq_none] at hJ;have:=hJ j (List.mem_range.2 (by omega))
  simpa using this
 |some i=>
  left;unfold QrR at hJ;rw [List.find?_range_eq_some] at hJ;obtain ⟨h1,h2,h3⟩:=hJ;exact ⟨i,by have:=List.mem_range.1 h2;omega,fun j hj=>by simpa using h3 j hj,by simpa using h1⟩
theorem Qxg(e:Nat→Nat)(r:Nat):1≤Qkf e r∧Qkf e r≤r+1:=by
 rcases QhK e r with ⟨i,hi,h1,h2⟩|h
 ·rw [(Qfs e r i (fun _=>[]) hi h1 h2).1];omega
 ·rw [(Qhc e r (fun _=>[]) h).1];omega
def Qd7(h p f:ByteArray)(l:List Flt)(S:ByteArray)(n:Nat)(a b t:Int)(j:Nat):Nat:=QeH (QvO h p f l S n j) a b t
def Qup(h p f:ByteArray)(l:List Flt)(S:ByteArray)(n:Nat)(a b t:Int)(j:Nat):List UInt8:=Qrg (QvO h p f l S n j) a b t
theorem Qtd(h p f:ByteArray)(l:List Flt)(qs:List ByteArray)(S:ByteArray):∀ m,(∀ j,j<m→Qgq h p f ((l.drop (qs.length+j)).headD noF) S=true)→QbU (lgN h p f l qs S m)=QbU (QoM h p f l qs)+m:=by
 intro m
 induction m with
 |zero=>intro _;rw [QkE];rfl
 |succ m ih=>
  intro hj;rw [Qhh,ih (fun j h=>hj j (by omega)),hj m (by omega)]
  unfold QwE;rw [if_pos rfl];omega
theorem Qpu(h p f s:ByteArray):(Qd9 h p f s).data.toList=QoC h.data.toList p.data.toList f.data.toList s:=by unfold Qd9;rw [Qaj]
theorem Qlx(h p f:ByteArray)(x:Flt)(S:ByteArray)(a b:Int)(he:QgE p.data.toList h.data.toList a b=0)(hb:b<(f.size:Int))(hf:f.size≤1000000)(hS:S.data.toList=Qlo p.data.toList h.data.toList a b) :
  (QeH (Ql3 h p f x S) a b (f.size:Int)=0→Qrg (Ql3 h p f x S) a b (f.size:Int)=(f.data.toList.take (b+1).toNat).drop a.toNat)∧(QeH (Ql3 h p f x S) a b (f.size:Int)≠0→Qgq h p f x S=true):=by
 have hl:f.data.toList.length=f.size:=Qab f;have this:=Qs4 p.data.toList h.data.toList f.data.toList a b he (by rw [hl];exact hb) (by rw [hl];exact hf) S hS (Ql3 h p f x S) (Qpu h p f S)
 rw [hl] at this;exact ⟨fun _=>this.2,fun hj=>absurd this.1 hj⟩
theorem QrN(h p f:ByteArray)(l:List Flt)(qs:List ByteArray)(S:ByteArray)(a b:Int)(r:Nat)(he:QgE p.data.toList h.data.toList a b=0)(hb:b<(f.size:Int))(hf:f.size≤1000000)(hS:S.data.toList=Qlo p.data.toList h.data.toList a b) :
  (Quo (Qd7 h p f l S qs.length a b (f.size:Int)) r=0∧Qxf (Qd7 h p f l S qs.length a b (f.size:Int)) r (Qup h p f l S qs.length a b (f.size:Int))=(f.data.toList.take (b+1).toNat).drop a.toNat∧
   QbU (QoM h p f l qs)+Qkf (Qd7 h p f l S qs.length a b (f.size:Int)) r≤QbU (lgN h p f l qs S (Qkf (Qd7 h p f l S qs.length a b (f.size:Int)) r))+1)∨
  (Quo (Qd7 h p f l S qs.length a b (f.size:Int)) r=23∧Qxf (Qd7 h p f l S qs.length a b (f.size:Int)) r (Qup h p f l S qs.length a b (f.size:Int)) = []∧Qkf (Qd7 h p f l S qs.length a b (f.size:Int)) r=r+1∧
   QbU (lgN h p f l qs S (Qkf (Qd7 h p f l S qs.length a b (f.size:Int)) r))=QbU (QoM h p f l qs)+(r+1)):=by
 have key:=fun j=>Qlx h p f ((l.drop (qs.length+j)).headD noF) S a b he hb hf hS
 rcases QhK (Qd7 h p f l S qs.length a b (f.size:Int)) r with ⟨i,hi,h1,h2⟩|h1
 ·left
  obtain ⟨r1,r2,r3,r4⟩:=Qfs _ r i (Qup h p f l S qs.length a b (f.size:Int)) hi h1 h2;refine ⟨r3,?_,?_⟩
  ·rw [r4];exact (key i).1 h2
  ·rw [r1,Qhh,Qtd h p f l qs S i (fun j hj=>(key j).2 (h1 j hj))]
   omega
 ·right
  obtain ⟨r1,r2,r3,r4⟩:=Qhc _ r (Qup h p f l S qs.length a b (f.size:Int)) h1;refine ⟨r3,r4,r1,?_⟩;rw [r1,Qtd h p f l qs S (r+1) (fun j hj=>(key j).2 (h1 j (by omega)))]
end
section
open Go.RowKit
theorem Qry(l:List UInt8)(R:List UInt8)(hR:R=if QcD.isPrefixOf l=true then l.drop 6 else l)(R2:List UInt8)(h2:R2=if Qhj 45 R=true then Qbb 45 R else []):Qhu l=(QcD.isPrefixOf l&&Qhj 45 R&&Qhj 47 R2):=by
 unfold Qhu;cases h:QcD.isPrefixOf l
 ·simp
 ·rw [h,if_pos rfl] at hR
  subst hR;cases hb:Qhj 45 (l.drop 6)
  ·simp
  ·rw [hb,if_pos rfl] at h2
   rw [h2]
theorem Qhs(a b c:List UInt8):Qek [a,b,c]=Qdt a b c:=by
 show (if QcE a≠0 then QcE a else if QcE b≠0 then QcE b else if QcE c≠0 then QcE c else 0)=_
 unfold Qdt;split
 ·rfl
 ·split
  ·rfl
  ·split<;>omega
theorem QuA(l:List UInt8)(h:Qhu l=false):Qce l=4∧QcX l=0∧QcW l=0∧Qdu l=0:=by
 have:Qce l=4:=by unfold Qce;rw [if_pos h]
 unfold QcX QcW Qdu;rw [this];exact ⟨rfl,rfl,rfl,rfl⟩
theorem Qrx(l:List UInt8)(h:Qce l≠0):QcX l=0∧QcW l=0∧Qdu l=0:=by
 unfold QcX QcW Qdu;rw [if_neg h,if_neg h,if_neg h];exact ⟨rfl,rfl,rfl⟩
theorem Qnl(s:ByteArray)(w:World)(hs:s.size≤1000000)(hE:EnvF w) :
  Calls Tryz.prog 214 #[.string s] w fun e w'=>e = .returned (.tuple #[.agg #[.int .i64 (QcX s.data.toList),.int .i64 (QcW s.data.toList)],.int .i64 (Qdu s.data.toList),.int .i64 (Qce s.data.toList:Nat)])∧Below w.heap.size w w':=by
 obtain ⟨L,hL⟩:∃ L,s.data.toList=L:=⟨_,rfl⟩;have hLl:L.length≤1000000:=by rw [←hL,Qab];exact hs
 have HP:=hid (fun w=>Qpi s ⟨#[98,121,116,101,115,32]⟩ w)
 rw [hL,show (ByteArray.mk #[98,121,116,101,115,32]).data.toList=QcD from rfl] at HP;rw [hL];obtain ⟨R,hR⟩:∃ R,bs (Lib.trimPrefix L QcD)=R:=⟨_,rfl⟩;have hRd:R.data.toList=if QcD.isPrefixOf L=true then L.drop 6 else L:=by rw [←hR,Qaj];rfl
 have hRs:R.size≤1000000:=by rw [←Qab,hRd];split<;>(try rw [List.length_drop])<;>omega
 rw [hR] at HP;have HC:=hid (fun w hE=>Qoe R 45 w hRs hE)
 obtain ⟨R2,hR2⟩:∃ R2,bs (if Qhj 45 R.data.toList=true then Qbb 45 R.data.toList else [])=R2:=⟨_,rfl⟩
 have QBw:R2.data.toList=if Qhj 45 R.data.toList=true then Qbb 45 R.data.toList else []:=by rw [←hR2,Qaj]
 have hR2s:R2.size≤1000000:=by
  rw [←Qab,QBw];split
  ·unfold Qbb;rw [List.length_drop,Qab];omega
  ·exact Nat.zero_le _
 rw [hR2] at HC;have HC2:=hid (fun w hE=>Qoe R2 47 w hR2s hE)
 have HE:=hid (hE.below ((Below.refl _ _).alloc (Nat.le_refl _) (.cells #[.int .i64 0,.int .i64 0] 67)));have hok:=Qry L R.data.toList hRd R2.data.toList QBw
 by_cases hk:Qhu L=true
 case neg=>
  rw [Bool.not_eq_true] at hk;have HA:=hid (QuA L hk);rw [hk] at hok;obtain ⟨p1,hp1⟩:∃ p1,QcD.isPrefixOf L=p1:=⟨_,rfl⟩;obtain ⟨p2,hp2⟩:∃ p2,Qhj 45 R.data.toList=p2:=⟨_,rfl⟩;obtain ⟨p3,hp3⟩:∃ p3,Qhj 47 R2.data.toList=p3:=⟨_,rfl⟩;rw [hp1,hp2,hp3] at hok;rw [hp1] at HP;rw [hp2] at HC;rw [hp3] at HC2;generalize bs (if p2=true then QeP 45 R.data.toList else R.data.toList)=X1 at HC
  generalize bs (if p3=true then QeP 47 R2.data.toList else R2.data.toList)=X2 at HC2
  generalize bs (if p3=true then Qbb 47 R2.data.toList else [])=X3 at HC2
  clear hp1 hp2 hp3 hRd QBw hR hR2 hE hk hL;cases p1<;>cases p2<;>cases p3
  case' true.true.true=>exact absurd hok (by decide)
  all_goals
   clear hok;go_enter Tryz.func214,Tryz.ntmps214;go_wp2_with fail;refine (HP.out _).mono ?_;rintro e w' ⟨rfl,rfl⟩;go_wp2_with fail;refine (HC.out _ HE.out).mono ?_;rintro e w1 ⟨rfl,hb1⟩;have HE1:=hid (HE.out.below hb1);have HB1:=hid hb1;clear hb1;go_wp2_with fail;refine (HC2.out _ HE1.out).mono ?_;rintro e w2 ⟨rfl,hb2⟩;have QAR:=Qaa HB1.out hb2;obtain ⟨k0,k1,f0,f1⟩:=Qb9 (QaW QAR);have HB2:=hid QAR;clear hb2 QAR;go_wp2_with fail;refine QaK (A:=⟨w.heap.size,0,none⟩) rfl (Qbn _ _ _ _ _ (Qbf (QaW HB2.out) _ _)) rfl rfl rfl rfl ?_;refine ⟨?_,QaO (((Below.refl _ _).alloc (Nat.le_refl _) _).trans (HB2.out.mono (by simp))) _ (Nat.le_refl _) _ _⟩
   rw [HA.out.1,HA.out.2.1,HA.out.2.2.1,HA.out.2.2.2];rfl
 rw [hk] at hok;replace hok:=hok.symm;rw [Bool.and_eq_true,Bool.and_eq_true] at hok;obtain ⟨⟨hp1,hp2⟩,hp3⟩:=hok;rw [hp1,if_pos rfl] at hRd;rw [hp1] at HP;rw [hp2,if_pos rfl] at QBw;rw [hp2,if_pos rfl] at HC;rw [hp3,if_pos rfl,if_pos rfl] at HC2;rw [hRd] at QBw HC;rw [QBw] at HC2;obtain ⟨F,hF⟩:∃ F,QeP 45 (L.drop 6)=F:=⟨_,rfl⟩;obtain ⟨T,hT⟩:∃ T,QeP 47 (Qbb 45 (L.drop 6))=T:=⟨_,rfl⟩;obtain ⟨N,hN⟩:∃ N,Qbb 47 (Qbb 45 (L.drop 6))=N:=⟨_,rfl⟩;have hFl:F.length≤1000000:=by rw [←hF];have:=QmV 45 (L.drop 6);rw [List.length_drop] at this;omega
 have hBl:(Qbb 45 (L.drop 6)).length≤1000000:=by unfold Qbb;rw [List.length_drop,List.length_drop];omega
 have hTl:T.length≤1000000:=by rw [←hT];have:=QmV 47 (Qbb 45 (L.drop 6));omega
 have hNl:N.length≤1000000:=by rw [←hN];unfold Qbb at hBl ⊢;rw [List.length_drop];omega
 have HA:Hid (Qce L=if Qdt F T N≠0 then Qdt F T N else QbW (Qcq F:Nat) (Qcq T:Nat) (Qcq N:Nat)):=hid (by
  unfold Qce;rw [if_neg (by rw [hk];decide)]
  unfold Qm2 Qm0 Qm1;rw [hF,hT,hN])
 have HAV:Hid (Qm2 L=Qcq F∧Qm0 L=Qcq T∧Qm1 L=Qcq N):=hid (by unfold Qm2 Qm0 Qm1;rw [hF,hT,hN];exact ⟨rfl,rfl,rfl⟩)
 rw [hF] at HC;rw [hT,hN] at HC2;have QBR:=QeX (xs:=[F,T,N]) (hne:=by simp) (hlen:=by simp) (hx:=by intro x hx;simp at hx;rcases hx with rfl|rfl|rfl<;>assumption)
 have HN:=hid QBR;clear hp1 hp2 hp3 hRd QBw hR hR2 hE hk hL hF hT hN QBR hBl
 by_cases hz:Qdt F T N=0
 case neg=>
  have HZ:Hid (Qek [F,T,N]=Qdt F T N∧Qce L=Qdt F T N∧QcX L=0∧QcW L=0∧Qdu L=0):=hid (by
   have e1:Qce L=Qdt F T N:=by rw [HA.out,if_pos hz]
   exact ⟨Qhs F T N,e1,Qrx L (by rw [e1];exact hz)⟩)
  have tz:((Qdt F T N:Int) != 0)=true:=by rw [bne_iff_ne];omega
  generalize Qdt F T N=Z at HZ tz;clear hz HA HAV;go_enter Tryz.func214,Tryz.ntmps214;go_wp2_with fail;refine (HP.out _).mono ?_;rintro e w' ⟨rfl,rfl⟩;go_wp2_with fail;refine (HC.out _ HE.out).mono ?_;rintro e w1 ⟨rfl,hb1⟩;have HE1:=hid (HE.out.below hb1);have HB1:=hid hb1;clear hb1;go_wp2_with fail;refine (HC2.out _ HE1.out).mono ?_;rintro e w2 ⟨rfl,hb2⟩;have hbl:w.heap.size<w2.heap.size:=by have:=(Qaa HB1.out hb2).size;simp at this;omega
  have HB2:=hid (Qaa HB1.out hb2);have HE2:=hid (HE1.out.below hb2);clear hb2;go_wp2_with fail;have hS:HoldsS (w2.alloc (.cells #[.string (bs F),.string (bs T),.string (bs N)] 9)) (.slice (some ⟨w2.heap.size,0,none⟩) 3 3) [F,T,N]:=HoldsS.of_block (heap_alloc_new _ _) rfl rfl;have hbA:Below w2.heap.size w2 (w2.alloc (.cells #[.string (bs F),.string (bs T),.string (bs N)] 9)):=(Below.refl _ _).alloc (Nat.le_refl _) _;refine (HN.out _ _ hS (HE2.out.below hbA)).mono ?_;rintro e w3 ⟨v,rfl,-,hb3⟩;rw [HZ.out.1];have QA5:Below (w.alloc (.cells #[.int .i64 0,.int .i64 0] 67)).heap.size (w.alloc (.cells #[.int .i64 0,.int .i64 0] 67)) w3:=Qaa HB2.out (Qaa hbA hb3);obtain ⟨k0,k1,f0,f1⟩:=Qb9 (QaW QA5);have HB3:=hid QA5;clear hb3 hbA hS QA5;go_wp2_with fail;refine QaK (A:=⟨w.heap.size,0,none⟩) rfl (Qbn _ _ _ _ _ (Qbf (QaW HB3.out) _ _)) rfl rfl rfl rfl ?_;refine ⟨?_,QaO (((Below.refl _ _).alloc (Nat.le_refl _) _).trans (HB3.out.mono (by simp))) _ (Nat.le_refl _) _ _⟩
  rw [HZ.out.2.1,HZ.out.2.2.1,HZ.out.2.2.2.1,HZ.out.2.2.2.2];rfl
 have HZ:Hid (Qek [F,T,N]=0∧Qce L=QbW (Qcq F:Nat) (Qcq T:Nat) (Qcq N:Nat)):=hid ⟨(Qhs F T N).trans hz,by rw [HA.out,if_neg (fun h=>h hz)]⟩
 have HF:Hid (∀ b,Qcq b≤9007199254740991):=hid QoG;obtain ⟨P,hP⟩:∃ P,Qcq F=P:=⟨_,rfl⟩;obtain ⟨Q,hQ⟩:∃ Q,Qcq T=Q:=⟨_,rfl⟩;obtain ⟨M,hM⟩:∃ M,Qcq N=M:=⟨_,rfl⟩;have hPl:=HF.out F;have hQl:=HF.out T;have hMl:=HF.out N;rw [hP] at HZ HAV hPl;rw [hQ] at HZ HAV hQl;rw [hM] at HZ HAV hMl;have HI:Hid ([F,T,N].map Qcq = [P,Q,M]):=hid (by rw [←hP,←hQ,←hM];rfl)
 have HCk:=hid (fun w=>Qjc (P:Int) (Q:Int) (M:Int) w)
 clear hz HA HF hP hQ hM;go_enter Tryz.func214,Tryz.ntmps214;go_wp2_with fail;refine (HP.out _).mono ?_;rintro e w' ⟨rfl,rfl⟩;go_wp2_with fail;refine (HC.out _ HE.out).mono ?_;rintro e w1 ⟨rfl,hb1⟩;have HE1:=hid (HE.out.below hb1);have HB1:=hid hb1;clear hb1;go_wp2_with fail;refine (HC2.out _ HE1.out).mono ?_;rintro e w2 ⟨rfl,hb2⟩;have hbl:w.heap.size<w2.heap.size:=by have:=(Qaa HB1.out hb2).size;simp at this;omega
 have HB2:=hid (Qaa HB1.out hb2);have HE2:=hid (HE1.out.below hb2);clear hb2;go_wp2_with fail;have hS:HoldsS (w2.alloc (.cells #[.string (bs F),.string (bs T),.string (bs N)] 9)) (.slice (some ⟨w2.heap.size,0,none⟩) 3 3) [F,T,N]:=HoldsS.of_block (heap_alloc_new _ _) rfl rfl;have hbA:Below w2.heap.size w2 (w2.alloc (.cells #[.string (bs F),.string (bs T),.string (bs N)] 9)):=(Below.refl _ _).alloc (Nat.le_refl _) _;refine (HN.out _ _ hS (HE2.out.below hbA)).mono ?_;rintro e w3 ⟨v,rfl,hI,hb3⟩;rw [HZ.out.1];have hI2:=hI HZ.out.1;rw [HI.out] at hI2;obtain ⟨g,c,hv,-,hg,-,Qao⟩:=hI2;have c0:=Qao 0 (by simp)
 have c1:=Qao 1 (by simp)
 have c2:=Qao 2 (by simp)
 have hv2:v = .slice (some ⟨g,0,none⟩) 3 c:=hv;clear Qao hv hI;subst hv2;have QA5:Below (w.alloc (.cells #[.int .i64 0,.int .i64 0] 67)).heap.size (w.alloc (.cells #[.int .i64 0,.int .i64 0] 67)) w3:=Qaa HB2.out (Qaa hbA hb3);clear hb3 hbA hS;have HB3:=hid QA5;have hw3:w.heap.size<w3.heap.size:=by have:=QA5.size;simp at this;omega
 clear QA5;change w3.cell? ⟨g,0,none⟩=some (.int .i64 (P:Int)) at c0;change w3.cell? ⟨g,1,none⟩=some (.int .i64 (Q:Int)) at c1;change w3.cell? ⟨g,2,none⟩=some (.int .i64 (M:Int)) at c2;go_wp2_with fail;go_region
 all_goals go_wp2_with fail
 have hbR:Below w3.heap.size w3 (w3.alloc (.cells #[.int .i64 (P:Int),.int .i64 (Q:Int),.int .i64 (M:Int)] 385)).drew:=((Below.refl _ _).alloc (Nat.le_refl _) _).drew;have hnR:(w3.alloc (.cells #[.int .i64 (P:Int),.int .i64 (Q:Int),.int .i64 (M:Int)] 385)).drew.heap[w3.heap.size]?=some (.cells #[.int .i64 (P:Int),.int .i64 (Q:Int),.int .i64 (M:Int)] 385 (0,0)):=heap_alloc_new w3 _;have hlR:w3.heap.size<(w3.alloc (.cells #[.int .i64 (P:Int),.int .i64 (Q:Int),.int .i64 (M:Int)] 385)).drew.heap.size:=by simp
 refine (HCk.out _).mono ?_;rintro e w4 ⟨rfl,hb4⟩;have hj4:=(hb4.block _ hlR).trans hnR;obtain ⟨j0,j1,j2,-,-,-⟩:=Qan hj4;have hb4':Below (w.alloc (.cells #[.int .i64 0,.int .i64 0] 67)).heap.size (w.alloc (.cells #[.int .i64 0,.int .i64 0] 67)) w4:=Qaa HB3.out (Qaa hbR hb4);obtain ⟨k0,k1,f0,f1⟩:=Qb9 (QaW hb4');have hne:w.heap.size≠w3.heap.size:=by omega
 have hl4:w.heap.size<w4.heap.size:=(gsi (QaW hb4')).1;clear hb4 hbR hnR hlR c0 c1 c2 hj4;have HB4:=hid hb4';clear hb4'
 by_cases hr:QbW (P:Int) (Q:Int) (M:Int)=0
 ·have HR:Hid (Qce L=0∧QcX L=(P:Int)∧QcW L=(Q:Int)∧Qdu L=(M:Int)):=hid (by
   have e1:Qce L=0:=by rw [HZ.out.2,hr]
   refine ⟨e1,?_,?_,?_⟩
   ·unfold QcX;rw [if_pos e1,HAV.out.1]
   ·unfold QcW;rw [if_pos e1,HAV.out.2.1]
   ·unfold Qdu;rw [if_pos e1,HAV.out.2.2])
  rw [hr];clear hr;go_wp2_with fail;go_region
  all_goals
   go_wp2_with fail;refine QaK (A:=⟨w.heap.size,0,none⟩) rfl (Qbn _ _ _ _ _ (Qbf (QaW HB4.out) _ _)) rfl rfl rfl rfl ?_;refine ⟨?_,(QaO (((Below.refl _ _).alloc (Nat.le_refl _) _).trans (HB4.out.mono (by simp))) _ (Nat.le_refl _) _ _).drew⟩
   rw [HR.out.1,HR.out.2.1,HR.out.2.2.1,HR.out.2.2.2];rfl
 ·have HR:Hid (Qce L=QbW (P:Int) (Q:Int) (M:Int)∧QcX L=0∧QcW L=0∧Qdu L=0):=hid ⟨HZ.out.2,Qrx L (by rw [HZ.out.2];exact hr)⟩
  have tz:((QbW (P:Int) (Q:Int) (M:Int):Int) != 0)=true:=by rw [bne_iff_ne];omega
  generalize QbW (P:Int) (Q:Int) (M:Int)=Z at HR tz ⊢;clear hr;go_wp2_with fail;refine QaK (A:=⟨w.heap.size,0,none⟩) rfl (Qbn _ _ _ _ _ (Qbf (QaW HB4.out) _ _)) rfl rfl rfl rfl ?_;refine ⟨?_,QaO (((Below.refl _ _).alloc (Nat.le_refl _) _).trans (HB4.out.mono (by simp))) _ (Nat.le_refl _) _ _⟩
  rw [HR.out.1,HR.out.2.1,HR.out.2.2.1,HR.out.2.2.2];rfl
end
section
open Go.RowKit
theorem Qxj(a b:Int)(h:Qc9 a b=0):QaQ a b=b-a+1:=by unfold QaQ;rw [if_pos h]
theorem Qxk(a b:Int)(h:Qc9 a b≠0):QaQ a b=0:=by unfold QaQ;rw [if_neg h]
theorem Qfy(a b:Int)(w:World) :
  Calls Tryz.prog 141 #[.agg #[.int .i64 a,.int .i64 b]] w fun e w'=>e = .returned (.int .i64 (QaQ a b))∧Below w.heap.size w w':=by
 have HC:=hid (fun w=>QbL a b w)
 obtain ⟨r0,r1⟩:=QwQ w (.int .i64 a) (.int .i64 b) 67;have HB0:=hid (Qbq w (.int .i64 a) (.int .i64 b) 67);have hl:w.heap.size<(w.alloc (.cells #[.int .i64 a,.int .i64 b] 67)).heap.size:=by simp
 have HL:=hid hl;clear hl
 by_cases hr:Qc9 a b=0
 ·have HA:=hid (Qxj a b hr)
  obtain ⟨b1,b2,b3⟩:=Qco a b hr;have wr1:IntKind.i64.wrap (b-a)=b-a:=by rw [IntKind.wrap_i64];omega
  have wr2:IntKind.i64.wrap (b-a+1)=b-a+1:=by rw [IntKind.wrap_i64];omega
  rw [hr] at HC;clear hr b1 b2 b3;go_enter Tryz.func141,Tryz.ntmps141;go_wp2_with fail;refine (HC.out _).mono ?_;rintro e w1 ⟨rfl,hb1⟩;have y0:=(hb1.cell (p:=⟨w.heap.size,0,none⟩) HL.out).trans r0;have y1:=(hb1.cell (p:=⟨w.heap.size,1,none⟩) HL.out).trans r1;have HB1:=hid (Qaa HB0.out hb1);clear hb1 r0 r1;go_wp2_with fail;go_ret;exact ⟨by rw [HA.out]<;>rfl,HB1.out⟩
 ·have HA:=hid (Qxk a b hr)
  have h8:=(QhR a b hr).1;rw [h8] at HC;clear hr h8;go_enter Tryz.func141,Tryz.ntmps141;go_wp2_with fail;refine (HC.out _).mono ?_;rintro e w1 ⟨rfl,hb1⟩;have HB1:=hid (Qaa HB0.out hb1);clear hb1 r0 r1;go_wp2_with fail;go_ret;exact ⟨by rw [HA.out]<;>rfl,HB1.out⟩
theorem Qu8(x y x' y':Int)(w:World):(binOp .neq 67 (.agg #[.int .i64 x,.int .i64 y]) (.agg #[.int .i64 x',.int .i64 y'])).run Tryz.prog w = .ok (.bool (!decide (x=x'∧y=y'))) w:=by
 have u4:=Tryz.underlying3;have hS:Tryz.prog.underlying 67=some (.struct (Tryz.prog.fieldsOf 67)):=by kernel_rfl
 have hp:Tryz.prog.stoodInHeld 67=false:=by kernel_rfl
 rw [run_neq_struct,show (10000:Nat)=9998+2 from rfl,run_equalIn_agg w (9998+1) 67 _ _ hS hp];simp only [Program.fieldsOf,Tryz.underlying67]
 by_cases h1:x=x'
 ·subst h1
  by_cases h2:y=y'
  ·subst h2
   go_simp
  ·have h3:(y==y')=false:=by rw [beq_eq_false_iff_ne];exact h2
   go_simp<;>simp [h2]
 ·have h3:(x==x')=false:=by rw [beq_eq_false_iff_ne];exact h1
  go_simp<;>simp [h1]
theorem Qqz(op:BinOp)(x y:Operand)(xs ys:Array Value)(w:World):(eqGuard op 67 x y (.agg xs) (.agg ys)).run Tryz.prog w = .ok () w:=
 run_eqGuard_agg w op 67 x y xs ys (by kernel_rfl)
end
section
open Go.RowKit
theorem Qp2(l:List UInt8):(Qa8 l).length≤l.length:=by
 unfold Qa8;split
 ·unfold QbM;rw [List.length_map];exact Qpo l
 ·exact Nat.zero_le _
theorem QpH(s:ByteArray)(most:Int):∀ f∈Qcf s most,f.1.length≤256∧f.2.length≤256:=by
 intro f hf;unfold Qcf at hf;split at hf
 ·unfold Qeg at hf
  have hm:=(List.mem_filter.1 hf).1;unfold QbX at hm;obtain ⟨x,hx,rfl⟩:=List.mem_map.1 hm;have:=(Qdh s).1 x (List.mem_of_mem_tail hx);exact ⟨Nat.le_trans (Qp2 x) this,Nat.le_trans (Qjl x) this⟩
 ·simp at hf
end
end Go.Proofs.YtilaebjndadkhaaGreatDoor
