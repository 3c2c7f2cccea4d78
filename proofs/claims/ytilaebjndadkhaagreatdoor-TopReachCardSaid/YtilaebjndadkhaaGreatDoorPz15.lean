/- What parts of the program compute: packed for TopReach. Conditions: none. -/
import Derived.Test.YtilaebjndadkhaaGreatDoorPz14
set_option linter.all false
set_option maxRecDepth 100000
set_option maxHeartbeats 8000000
open Go.Lib (hid)
namespace Go.Proofs.YtilaebjndadkhaaGreatDoor
section
open Go.RowKit
def Qbo:List UInt8:=[99,111,110,116,101,110,116,45,108,101,110,103,116,104]
def Qnr:List (List UInt8×List UInt8)→Nat
 |[]=>0
 |f :: t=>if f.1=Qbo then 22 else if QaI f.1 f.2≠0 then QaI f.1 f.2 else Qnr t
def Qhd(c:Int)(fs:List (List UInt8×List UInt8)):Nat:=if Qci c≠0 then Qci c else if 15<fs.length then 21 else Qnr fs
def QaB(c:Int)(fs:List (List UInt8×List UInt8))(n:Nat):List (List UInt8):=(Qdn c).data.toList :: QaT Qbo (Qfk n) :: fs.map (fun f=>QaT f.1 f.2)
def QpU(c:Int)(fs:List (List UInt8×List UInt8))(b:List UInt8):List UInt8:=QcK (QaB c fs b.length)++13 :: 10 :: b
def QmN(c:Int)(fs:List (List UInt8×List UInt8))(b:List UInt8):List UInt8:=if Qhd c fs=0 then QpU c fs b else []
theorem Qsq(xs:List (List UInt8×List UInt8)):∀ k,(∀ j (hj:j<xs.length),j<k→xs[j].1≠Qbo∧QaI xs[j].1 xs[j].2=0)→Qnr xs=Qnr (xs.drop k):=by
 induction xs with
 |nil=>intro k _;simp
 |cons x t ih=>
  intro k h;cases k with
  |zero=>rfl
  |succ k=>
   have h0:x.1≠Qbo∧QaI x.1 x.2=0:=h 0 (by simp) (by omega)
   show (if x.1=Qbo then 22 else if QaI x.1 x.2≠0 then QaI x.1 x.2 else Qnr t)=Qnr (t.drop k)
   rw [if_neg h0.1,if_neg (fun hh=>hh h0.2)]
   exact ih k (fun j hj hk=>h (j+1) (by simp;omega) (by omega))
theorem Qso(fs:List (List UInt8×List UInt8))(h:Qnr fs=0):∀ f∈fs,f.1≠Qbo∧QaI f.1 f.2=0:=by
 induction fs with
 |nil=>intro f hf;simp at hf
 |cons x t ih=>
  unfold Qnr at h;split at h
  ·exact absurd h (by decide)
  ·rename_i h1
   split at h
   ·rename_i h2;exact absurd h h2
   ·rename_i h2
    intro f hf;rcases List.mem_cons.1 hf with rfl|hf
    ·exact ⟨h1,Decidable.not_not.1 h2⟩
    ·exact ih h f hf
theorem Qlp(c:Int)(fs:List (List UInt8×List UInt8))(h:Qhd c fs=0):100≤c∧c≤599∧fs.length≤15∧∀ f∈fs,f.1≠Qbo∧QaI f.1 f.2=0:=by
 unfold Qhd at h;split at h
 ·rename_i hx;exact absurd h hx
 ·rename_i hx
  split at h
  ·exact absurd h (by decide)
  ·have hc:QbQ c≠0:=fun e=>hx (by unfold Qci;rw [if_pos e];decide)
   rw [Ne,Qmv] at hc;exact ⟨by omega,by omega,by omega,Qso fs h⟩
theorem QqW:QdO Qbo=true:=by decide
theorem Qn5(n:Nat):Qgk (Go.Lib.decDigits n)=true:=by
 have e1:Qcv (Go.Lib.decDigits n)=false:=by
  cases e:Go.Lib.decDigits n with
  |nil=>rfl
  |cons c t=>exact (Qmk n c (by rw [e];exact List.mem_cons_self ..)).1
 unfold Qgk;rw [e1];have:=QkX n [];rw [List.nil_append] at this;rw [this];rfl
theorem QfR(n:Nat):Qfk (n:Int)=Go.Lib.decDigits n:=by unfold Qfk;rw [if_neg (by omega),Int.toNat_natCast]
theorem Qoa(n:Nat)(hn:n≤1000000):QaI Qbo (Qfk n)=0:=by
 have hp:Qby Qbo (Qfk n)=true:=by
  unfold Qby;rw [QqW,Bool.true_and,Bool.and_eq_true];refine ⟨List.all_eq_true.2 fun c hc=>Qgw n c hc,?_⟩
  rw [QfR];exact Qn5 n
 unfold QaI;rw [if_pos hp,if_neg];have:=QcP n (by omega)
 unfold QaT Qhx;rw [QfR];split
 ·simp [QjZ,Qbo]
 ·simp only [List.length_append,List.length_cons,QjZ]
  rw [show Qbo.length=14 from rfl];omega
theorem Qr8(n v:List UInt8):QaT n v≠[]:=by unfold QaT;simp
theorem QjB(n v:List UInt8)(h:QaI n v=0):QfK (QaT n v):=by
 have:=Qc0 _ (Qr7 n v h);exact ⟨Qr8 n v,this.1,this.2⟩
theorem Qls(c:Int)(h1:100≤c)(h2:c≤599):Qdn c=QbS c:=by
 unfold Qdn;rw [if_neg (by rw [Qmv];omega)]
theorem Qig(c:Int)(h1:100≤c)(h2:c≤599):QfK (Qdn c).data.toList∧Qbk (Qdn c).data.toList=(c,0):=by
 obtain ⟨n,rfl⟩:∃ n:Nat,c=n:=⟨c.toNat,by omega⟩
 rw [Qls _ h1 h2];have:=Qc0 _ (QgZ n (by omega) (by omega))
 refine ⟨⟨?_,this.1,this.2⟩,Qfq n (by omega) (by omega)⟩
 rw [Qcg n (by omega) (by omega)];simp [Qbi]
theorem Qgs(c:Int)(fs:List (List UInt8×List UInt8))(n:Nat)(h:Qhd c fs=0)(hn:n≤1000000):(∀ x∈QaB c fs n,QfK x)∧(QaB c fs n).length≤17:=by
 obtain ⟨h1,h2,h3,h4⟩:=Qlp c fs h;refine ⟨?_,by unfold QaB;simp;omega⟩
 intro x hx;unfold QaB at hx;rcases List.mem_cons.1 hx with rfl|hx
 ·exact (Qig c h1 h2).1
 rcases List.mem_cons.1 hx with rfl|hx
 ·exact QjB _ _ (Qoa n hn)
 ·obtain ⟨f,hf,rfl⟩:=List.mem_map.1 hx
  exact QjB _ _ (h4 f hf).2
theorem Ql8(x:List UInt8)(t:List (List UInt8))(h:Qa9 x=0):QeJ (x :: t)=QeJ t:=if_neg (fun hh=>hh h)
theorem Qts(fs:List (List UInt8×List UInt8))(h:∀ f∈fs,QaI f.1 f.2=0):QeJ (fs.map (fun f=>QaT f.1 f.2))=0∧QbX (fs.map (fun f=>QaT f.1 f.2))=fs:=by
 induction fs with
 |nil=>exact ⟨rfl,rfl⟩
 |cons f t ih=>
  obtain ⟨x1,x2,x3⟩:=QdJ f.1 f.2 (Qfa _ _ (h f (List.mem_cons_self ..))).1;obtain ⟨i1,i2⟩:=ih (fun g hg=>h g (List.mem_cons_of_mem _ hg))
  refine ⟨by rw [List.map_cons,Ql8 _ _ x3,i1],?_⟩
  unfold QbX at i2 ⊢;rw [List.map_cons,List.map_cons,i2,x1,x2]
def hdE(ls:List (List UInt8)):Nat:=if ls = [] then 4 else if (Qbk (ls.getD 0 [])).2≠0 then (Qbk (ls.getD 0 [])).2 else if QeJ ls.tail≠0 then QeJ ls.tail else if Qc8 (QbX ls.tail) Qbo≠0 then Qc8 (QbX ls.tail) Qbo else QcE (QbC (QbX ls.tail) Qbo)
def hdC(ls:List (List UInt8)):Int:=(Qbk (ls.getD 0 [])).1
def hdN(ls:List (List UInt8)):Nat:=Qcq (QbC (QbX ls.tail) Qbo)
def Qeg(fs:List (List UInt8×List UInt8)):List (List UInt8×List UInt8):=fs.filter (fun f=>f.1 != Qbo)
def Qec(s:ByteArray)(most:Int):Nat:=if (Qas s).2.2≠0 then (Qas s).2.2 else if hdE (Qas s).1≠0 then hdE (Qas s).1 else if most<(hdN (Qas s).1:Int) then 5 else if (s.size:Int)-(Qas s).2.1<(hdN (Qas s).1:Int) then 3 else 0
def Qj2(s:ByteArray)(most:Int):Int:=if Qec s most=0 then hdC (Qas s).1 else 0
def Qcf(s:ByteArray)(most:Int):List (List UInt8×List UInt8):=if Qec s most=0 then Qeg (QbX (Qas s).1.tail) else []
def QiP(s:ByteArray)(most:Int):List UInt8:=if Qec s most=0 then (s.data.toList.take ((Qas s).2.1.toNat+hdN (Qas s).1)).drop (Qas s).2.1.toNat else []
def Qha(s:ByteArray)(most:Int):Int:=if Qec s most=0 then (Qas s).2.1+(hdN (Qas s).1:Int) else 0
theorem Qw5(s:ByteArray)(most:Int)(h:Qec s most≠0):Qj2 s most=0∧Qcf s most = []∧QiP s most = []∧Qha s most=0:=by
 unfold Qj2 Qcf QiP Qha;rw [if_neg h,if_neg h,if_neg h,if_neg h];exact ⟨rfl,rfl,rfl,rfl⟩
theorem Qln(fs:List (List UInt8×List UInt8))(h:∀ f∈fs,f.1≠Qbo):Qeg fs=fs∧QfH fs Qbo = []:=by
 refine ⟨List.filter_eq_self.2 (fun f hf=>bne_iff_ne.2 (h f hf)),?_⟩
 unfold QfH;rw [List.filter_eq_nil_iff.2 (fun f hf=>by simpa using h f hf)];rfl
theorem Qy7(c:Int)(fs:List (List UInt8×List UInt8))(n:Nat)(h:Qhd c fs=0)(hn:n≤1000000) :
  hdE (QaB c fs n)=0∧hdC (QaB c fs n)=c∧hdN (QaB c fs n)=n∧Qeg (QbX (QaB c fs n).tail)=fs:=by
 obtain ⟨h1,h2,h3,h4⟩:=Qlp c fs h;have hs:=(Qig c h1 h2).2;obtain ⟨i1,i2⟩:=Qts fs (fun f hf=>(h4 f hf).2)
 obtain ⟨x1,x2,x3⟩:=QdJ Qbo (Qfk n) (Qfa _ _ (Qoa n hn)).1;obtain ⟨r1,r2⟩:=Qln fs (fun f hf=>(h4 f hf).1)
 have hg:(QaB c fs n).getD 0 []=(Qdn c).data.toList:=rfl;have ht:(QaB c fs n).tail=QaT Qbo (Qfk n) :: fs.map (fun f=>QaT f.1 f.2):=rfl
 have hF:QbX (QaB c fs n).tail=(Qbo,Qfk n) :: fs:=by
  rw [ht];unfold QbX at i2 ⊢;rw [List.map_cons,i2,x1,x2]
 have hE:QeJ (QaB c fs n).tail=0:=by rw [ht,Ql8 _ _ x3,i1]
 have hh:QfH ((Qbo,Qfk n) :: fs) Qbo = [Qfk n]:=by
  unfold QfH at r2 ⊢;rw [List.filter_cons_of_pos (by simp),List.map_cons,r2]
 obtain ⟨n1,n2⟩:=Qcj n (by omega)
 refine ⟨?_,?_,?_,?_⟩
 ·unfold hdE
  rw [if_neg (by unfold QaB;simp),hg,hs,if_neg (by simp),hE,if_neg (by simp),hF]
  unfold Qc8 QbC;rw [hh];show (if (0:Nat)≠0 then 0 else QcE (Qfk n))=0
  rw [if_neg (by simp),QfR,n1]
 ·unfold hdC;rw [hg,hs]
 ·unfold hdN;rw [hF];unfold QbC;rw [hh]
  show Qcq (Qfk n)=n;rw [QfR,n2]
 ·rw [hF]
  unfold Qeg at r1 ⊢;rw [List.filter_cons_of_neg (by simp),r1]
theorem QvG(c:Int)(fs:List (List UInt8×List UInt8))(b rest:List UInt8)(s:ByteArray)(h:Qhd c fs=0)(hn:b.length≤1000000)(hs:s.data.toList=QcK (QaB c fs b.length)++13 :: 10 :: rest) :
  Qas s=(QaB c fs b.length,((QcK (QaB c fs b.length)).length:Int)+2,0):=by
 obtain ⟨g1,g2⟩:=Qgs c fs b.length h hn;have:=Qtf s rest (QaB c fs b.length) [] [] 18 g1 (by simpa using g2) (by simp) (by simpa using hs)
 unfold Qas;rw [show (0:Int)=((([]:List UInt8).length:Nat):Int) from rfl,this];simp
theorem QuN(c:Int)(fs:List (List UInt8×List UInt8))(b rest:List UInt8)(s:ByteArray)(most:Int)(h:Qhd c fs=0)(hn:b.length≤1000000)(hs:s.data.toList=QpU c fs b++rest)(hm:(b.length:Int)≤most) :
  Qec s most=0∧Qj2 s most=c∧Qcf s most=fs∧QiP s most=b∧Qha s most=(QpU c fs b).length:=by
 have hd:=QvG c fs b (b++rest) s h hn (by rw [hs];unfold QpU;simp)
 obtain ⟨e1,e2,e3,e4⟩:=Qy7 c fs b.length h hn;have hsz:s.size=(QcK (QaB c fs b.length)).length+2+b.length+rest.length:=by
  rw [←Qab,hs];unfold QpU;simp only [List.length_append,List.length_cons];omega
 have hE:Qec s most=0:=by
  unfold Qec;rw [hd];simp only [e1,e3];rw [if_neg (by simp),if_neg (by simp),if_neg (by omega),if_neg (by omega)]
 refine ⟨hE,?_,?_,?_,?_⟩
 ·unfold Qj2;rw [if_pos hE,hd];exact e2
 ·unfold Qcf;rw [if_pos hE,hd];exact e4
 ·unfold QiP;rw [if_pos hE,hd]
  simp only [e3];have ht:(((QcK (QaB c fs b.length)).length:Int)+2).toNat=(QcK (QaB c fs b.length)++[13,10]).length:=by simp;omega
  rw [ht,hs];unfold QpU;have e5:QcK (QaB c fs b.length)++13 :: 10 :: b++rest=(QcK (QaB c fs b.length)++[13,10])++(b++rest):=by simp
  rw [e5,List.take_length_add_append,List.drop_left,List.take_left]
 ·unfold Qha;rw [if_pos hE,hd]
  simp only [e3];unfold QpU;simp only [List.length_append,List.length_cons];omega
theorem QrE(fs:List (List UInt8×List UInt8))(h:Qc8 fs Qbo=0):∃ a x b,fs=a++x :: b∧x.1=Qbo∧(∀ y∈a,y.1≠Qbo)∧(∀ y∈b,y.1≠Qbo)∧Qeg fs=a++b:=by
 have hl:(fs.filter (fun f=>f.1==Qbo)).length=1:=by
  unfold Qc8 QfH at h;cases e:(fs.filter (fun f=>f.1==Qbo)) with
  |nil=>rw [e] at h;exact absurd h (by decide)
  |cons x t=>
   cases t with
   |nil=>rfl
   |cons y u=>rw [e] at h;exact absurd h (by simp)
 clear h
 induction fs with
 |nil=>simp at hl
 |cons f t ih=>
  by_cases hf:f.1=Qbo
  ·rw [List.filter_cons_of_pos (by simp [hf]),List.length_cons] at hl
   have hn:t.filter (fun f=>f.1==Qbo) = []:=List.length_eq_zero_iff.1 (by omega)
   have ht:∀ y∈t,y.1≠Qbo:=fun y hy e=>by
    have:=List.filter_eq_nil_iff.1 hn y hy;simp [e] at this
   refine ⟨[],f,t,rfl,hf,fun y hy=>by simp at hy,ht,?_⟩
   unfold Qeg;rw [List.filter_cons_of_neg (by simp [hf])]
   exact (Qln t ht).1
  ·rw [List.filter_cons_of_neg (by simp [hf])] at hl
   obtain ⟨a,x,b,e1,e2,e3,e4,e5⟩:=ih hl;refine ⟨f :: a,x,b,by rw [e1];rfl,e2,?_,e4,?_⟩
   ·intro y hy
    rcases List.mem_cons.1 hy with rfl|hy
    ·exact hf
    ·exact e3 y hy
   ·unfold Qeg at e5 ⊢
    rw [List.filter_cons_of_pos (by simp [hf]),e5];rfl
end
end Go.Proofs.YtilaebjndadkhaaGreatDoor
namespace Go.Proofs
open Go.Shelf
def QkG:Go.Shelf.Ren:=⟨fun|41=>254|n=>n,fun|22=>326|23=>379|4=>4|n=>n,fun|n=>n⟩
theorem Qia:Go.Proofs.SlLaysE0.n41 Tryz.prog QkG:={ mixed:=by kernel_rfl,f41:=⟨Tryz.f254.name,by decide,Tryz.func254.trans (congrArg some (by kernel_rfl))⟩,t4:=Tryz.underlying4,a4:=Tryz.isAgg4,z4:=Tryz.sizeOf4,v4:=Tryz.zeroValue4,t22:=Tryz.underlying326,a22:=Tryz.isAgg326,z22:=Tryz.sizeOf326,v22:=Tryz.zeroValue326 }
def QkF:Go.Shelf.Ren:=⟨fun|6=>314|n=>n,fun|22=>326|23=>379|25=>403|3=>3|0=>0|4=>4|n=>n,fun|n=>n⟩
theorem QsY:Go.Proofs.SlLaysH0.n6 Tryz.prog QkF:={ mixed:=by kernel_rfl,f6:=⟨Tryz.f314.name,by decide,Tryz.func314.trans (congrArg some (by kernel_rfl))⟩,t0:=Tryz.underlying0,a0:=Tryz.isAgg0,z0:=Tryz.sizeOf0,v0:=Tryz.zeroValue0,t3:=Tryz.underlying3,a3:=Tryz.isAgg3,z3:=Tryz.sizeOf3,v3:=Tryz.zeroValue3,t4:=Tryz.underlying4,a4:=Tryz.isAgg4,z4:=Tryz.sizeOf4,v4:=Tryz.zeroValue4,t22:=Tryz.underlying326,a22:=Tryz.isAgg326,z22:=Tryz.sizeOf326,v22:=Tryz.zeroValue326,t25:=Tryz.underlying403,a25:=Tryz.isAgg403,z25:=Tryz.sizeOf403,v25:=Tryz.zeroValue403 }
end Go.Proofs
namespace Go.Proofs.YtilaebjndadkhaaGreatDoor
section
open Go.RowKit Go.Shelf Go.Lib
def Qzi(x:List UInt8×List UInt8):List Value:=[.string (bs x.1),.string (bs x.2)]
theorem QAd{w:World}{b o:Nat}{fs:List (List UInt8×List UInt8)}(h:∀ j (hj:j<fs.length),w.cell? ⟨b,o+j*2,none⟩=some (.string (bs fs[j].1))∧w.cell? ⟨b,o+j*2+1,none⟩=some (.string (bs fs[j].2))) :
  ∀ j,j<fs.length→∀ i v,(Qzi fs[j]!)[i]?=some v→w.cell? ⟨b,o+j*2+i,none⟩=some v:=by
 intro j hj i v hv;rw [getElem!_pos fs j hj] at hv;obtain ⟨h1,h2⟩:=h j hj
 match i,hv with
 |0,hv=>simp only [Qzi,List.getElem?_cons_zero,Option.some.injEq] at hv;subst hv;exact h1
 |1,hv=>simp only [Qzi,List.getElem?_cons_succ,List.getElem?_cons_zero,Option.some.injEq] at hv;subst hv;exact h2
theorem Qid:(Tryz.prog.info? 379).map (fun i=>(i.zero,i.size,i.bytes))=some (some (.agg #[.string ByteArray.empty,.string ByteArray.empty]),2,32):=by kernel_rfl
theorem QjG(fs:List (List UInt8×List UInt8)):∀ u∈Qau fs,u.oneCell'=true:=by
 induction fs with
 |nil=>intro u hu;cases hu
 |cons f t ih=>
  intro u hu;rcases List.mem_cons.1 hu with rfl|hu
  ·rfl
  rcases List.mem_cons.1 hu with rfl|hu
  ·rfl
  ·exact ih u hu
theorem Qtw{w:World}{b o:Nat}{fs:List (List UInt8×List UInt8)}(h:∀ j (hj:j<fs.length),w.cell? ⟨b,o+j*2,none⟩=some (.string (bs fs[j].1))∧w.cell? ⟨b,o+j*2+1,none⟩=some (.string (bs fs[j].2))) :
  ∀ j u,(Qau fs)[j]?=some u→w.cell? ⟨b,o+j,none⟩=some u:=by
 intro j u hu;have hj:j<fs.length*2:=by rw [←Qbt];exact (List.getElem?_eq_some_iff.1 hu).1
 have hk:j/2<fs.length:=by omega
 obtain ⟨g1,g2⟩:=QcU fs (j/2) hk;obtain ⟨h1,h2⟩:=h (j/2) hk;rcases Nat.mod_two_eq_zero_or_one j with e|e
 ·have e2:j/2*2=j:=by omega
  rw [e2] at g1 h1;rw [g1] at hu;rw [←Option.some.inj hu];exact h1
 ·have e2:j/2*2+1=j:=by omega
  have e3:o+j/2*2+1=o+j:=by omega
  rw [e2] at g2;rw [e3] at h2;rw [g2] at hu;rw [←Option.some.inj hu];exact h2
theorem Qms(v:Value)(fs:List (List UInt8×List UInt8))(w:World)(h:HoldsF w v fs)(hne:fs≠[])(hl:fs.length≤1000000) :
  Calls Tryz.prog 254 #[v] w fun e w'=>∃ v',e = .returned v'∧w'.ownsRow w.heap.size 379 2 v' fs.length (Qau fs)∧Below w.heap.size w w':=by
 obtain ⟨a,c,rfl,h1,h2⟩:=h;obtain ⟨b,o,rfl,hlt,hc⟩:=h2 hne;have hi:=Qid;cases e:Tryz.prog.info? 379 with
 |none=>rw [e] at hi;cases hi
 |some i=>
  rw [e] at hi;simp only [Option.map_some,Option.some.injEq,Prod.mk.injEq] at hi;obtain ⟨i1,i2,i3⟩:=hi;refine (AnyE.slices_Clone Qia i _ 2 32 e i1 i2 i3 rfl (by decide) Tryz.sizeOf379 b o fs.length c (Qau fs) w (Qbt fs) (by unfold maxLen;omega) (by omega) (Qtw hc) (QjG fs)).mono ?_
  rintro e w' ⟨v',rfl,h3,-,h4⟩;exact ⟨v',rfl,h3,h4⟩
theorem Qiu(a:Option Addr)(c:Nat)(w:World)(ha:∀ p,a=some p→∃ b o,p=⟨b,o,none⟩) :
  Calls Tryz.prog 254 #[.slice a 0 c] w fun e w'=>∃ v',e = .returned v'∧w'.ownsRow w.heap.size 379 2 v' 0 []∧Below w.heap.size w w':=by
 cases a with
 |none=>
  refine (AnyE.slices_Clone_nil Qia 0 c w).mono ?_;rintro e w' ⟨rfl,rfl⟩;exact ⟨_,rfl,⟨rfl,.inl ⟨rfl,rfl⟩⟩,Below.refl _ _⟩
 |some p=>
  obtain ⟨b,o,rfl⟩:=ha p rfl;have hi:=Qid;cases e:Tryz.prog.info? 379 with
  |none=>rw [e] at hi;cases hi
  |some i=>
   rw [e] at hi;simp only [Option.map_some,Option.some.injEq,Prod.mk.injEq] at hi;obtain ⟨i1,i2,i3⟩:=hi;refine (AnyE.slices_Clone Qia i _ 2 32 e i1 i2 i3 rfl (by decide) Tryz.sizeOf379 b o 0 c [] w rfl (Nat.zero_le _) (by omega) (fun j u hu=>by simp at hu) (fun u hu=>by cases hu)).mono ?_
   rintro e w' ⟨v',rfl,h3,-,h4⟩;exact ⟨v',rfl,h3,h4⟩
end
section
open Go.RowKit
variable {P:Program}
theorem Qbx(w:World)(dT sT ty elem:TypeId)(k m g o dLen dCap:Nat)(a:Addr)(sLen sCap:Nat)(cur:Array Value)(t:TypeId)(cs:List Value)
  (hu:P.underlying dT=some (.slice elem)) (hs:(P.info? elem).map (·.size)=some k) (hm:Nat.min sLen dLen=m) (hn:m*k=cs.length)
  (hg:w.heap[g]?=some (.cells cur t (0,0)))
  (hsrc:∀ j v,cs[j]?=some v→w.cell? (a.add j)=some v) (hfit:o+cs.length≤cur.size) (h1:∀ v∈cs,v.oneCell'=true) :
  (Builtin.copy_ #[dT,sT] ty #[.slice (some ⟨g,o,none⟩) dLen dCap,.slice (some a) sLen sCap]).run P w = .ok (goInt m) (w.setRow g (splice cur.toList o cs).toArray):=by
 have hl:=run_loadCells_list (P:=P) w a cs hsrc;have hst:=run_storeCells_at P g o t cs 0 cur w hg (by simpa using hfit) h1
 rw [List.append_assoc] at hst;cases hq:P.info? elem with
 |none=>simp [hq] at hs
 |some i=>
  have hi:i.size=k:=by simpa [hq] using hs
  simp [Builtin.copy_,run_underlying hu,Builtin.lenOf,Builtin.firstCells,sizeOf,typeInfo,hq,hi,hm,hn,hl,hst,splice]
end
section
open Go.RowKit Go.Shelf Go.Lib
theorem Qe5(p q:List UInt8)(w:World):Calls Tryz.prog 255 #[.agg #[.string (bs p),.string (bs q)]] w fun e w'=>e = .returned (.bool (decide (p=Qbo)))∧Below w.heap.size w w':=by
 obtain ⟨r,hr⟩:∃ r,decide (p=Qbo)=r:=⟨_,rfl⟩;have e0:((bs p).toList == [99,111,110,116,101,110,116,45,108,101,110,103,116,104])=r:=by rw [←hr];exact QtZ p Qbo
 rw [hr];clear hr;go_enter Tryz.func255,Tryz.ntmps255;go_wp2_with fail;go_ret;exact ⟨rfl,(Below.refl _ _).alloc (Nat.le_refl _) _⟩
theorem Qnx(w:World):PredBelow Tryz.prog 255 #[] (fun x=>.agg (Qzi x).toArray) (fun x=>decide (x.1=Qbo)) w:=fun W x hb=>by
 show Calls Tryz.prog 255 #[.agg #[.string (bs x.1),.string (bs x.2)]] W _;refine (Qe5 x.1 x.2 W).mono ?_;rintro e w' ⟨rfl,h⟩;exact ⟨rfl,Qaa hb h⟩
theorem QxW(a b:List (List UInt8×List UInt8))(h:List UInt8×List UInt8)(hh:h.1=Qbo)(ha:∀ x∈a,x.1≠Qbo):Lib.idxBy (fun _ y=>decide (y.1=Qbo)) (a++h :: b) (default:List UInt8×List UInt8)=(a.length:Int):=by
 unfold Lib.idxBy;rw [Lib.idxByFrom_hit _ _ _ a.length 0 (by simp)]
 ·simp
 ·rw [getElem!_pos _ _ (by simp)];simp [hh]
 ·intro j hj
  rw [getElem!_pos _ _ (by simp;omega),List.getElem_append_left hj]
  exact decide_eq_false (ha _ (List.getElem_mem hj))
theorem QnR(g n cap:Nat)(fs:List (List UInt8×List UInt8))(w:World)(hn:n=fs.length)(hl:fs.length≤1000000)(hg:g<w.heap.size)
  (hc:∀ j (hj:j<fs.length),w.cell? ⟨g,0+j*2,none⟩=some (.string (bs fs[j].1))∧w.cell? ⟨g,0+j*2+1,none⟩=some (.string (bs fs[j].2))) :
  Calls Tryz.prog 314 #[.slice (some ⟨g,0,none⟩) n cap,.func (.func 255) #[] #[]] w fun e w'=>e = .returned (.int .i64 (Lib.idxBy (fun _ y=>decide (y.1=Qbo)) fs default))∧Below w.heap.size w w':=by
 subst hn;have eg:∀ args w,(callFunc 255 args).run Tryz.prog w = .ok (.enter 255 args) w:=enters_of Tryz.func255 (by kernel_rfl) rfl
 have:=AnyQ.slices_IndexFunc QsY 2 Tryz.isAgg379 Tryz.sizeOf379 Qzi (fun _=>rfl) (fun x=>decide (x.1=Qbo)) 255 #[] eg g 0 fs.length cap fs w (Qnx w) (Nat.le_refl _) (by omega) hg (QAd hc)
 rw [List.take_length] at this;exact this
theorem Qft{P:Program}(w:World)(t e ty:TypeId)(z:Value)(ht:P.underlying t=some (.slice e))(hv:∀ w,(zeroValue e).run P w = .ok z w)(g o c:Nat)(cur:Array Value)(te:TypeId)(hg:w.heap[g]?=some (.cells cur te (0,0)))
  (hfit:o+z.cells.toList.length≤cur.size) (h1:∀ v∈z.cells.toList,v.oneCell'=true) :
  (Builtin.clear_ #[t] ty #[.slice (some ⟨g,o,none⟩) 1 c]).run P w = .ok (.tuple #[]) (w.setRow g (splice cur.toList o z.cells.toList).toArray):=by
 have hzc:(Builtin.zeroCells z.cells 1).toList=z.cells.toList:=by
  apply List.ext_getElem
  ·simp [Builtin.zeroCells]
  ·intro i h1 h2
   have hi:i<z.cells.size:=by simpa using h2
   simp [Builtin.zeroCells,Nat.mod_eq_of_lt hi,getElem!_pos z.cells i hi]
 have hst:=run_storeCells_at P g o te z.cells.toList 0 cur w hg (by simpa using hfit) h1
 simp only [Nat.add_zero] at hst;rw [List.append_assoc] at hst;simp [Builtin.clear_,run_underlying ht,hv,hzc,hst,splice]
theorem QqK(L:List (List UInt8×List UInt8))(i:Nat)(f:List UInt8×List UInt8):Qau (L.set i f)=((Qau L).set (i*2) (.string (bs f.1))).set (i*2+1) (.string (bs f.2)):=by
 induction L generalizing i with
 |nil=>rfl
 |cons x t ih=>
  cases i with
  |zero=>rfl
  |succ i=>
   show _ :: _ :: Qau (t.set i f)=_;rw [ih,show (i+1)*2=i*2+1+1 by omega]
   rfl
theorem QuL{w:World}{g:Nat}{cur:Array Value}{t:TypeId}(h:w.heap[g]?=some (.cells cur t (0,0)))(i j:Nat)(p q:Value) :
  ((w.setCell ⟨g,i,none⟩ p).setCell ⟨g,j,none⟩ q).heap[g]?=some (.cells ((cur.setIfInBounds i p).setIfInBounds j q) t (0,0)):=by
 simp [World.setCell,Array.getElem?_modify,h]
theorem QxD(a b:List (List UInt8×List UInt8))(x y:List UInt8×List UInt8)(k i:Nat)(hk:k<b.length)(hy:b[k]=y)(hi:a.length+k=i):(a++(b.take k++x :: b.drop k)).set i y=a++(b.take (k+1)++y :: b.drop (k+1)):=by
 subst hi hy;rw [List.set_append_right _ _ (by omega),Nat.add_sub_cancel_left,List.set_append_right _ _ (by rw [List.length_take];omega),List.length_take,Nat.min_eq_left (by omega),Nat.sub_self,List.set_cons_zero,List.take_succ_eq_append_getElem hk,List.append_assoc,List.drop_eq_getElem_cons hk]
 rfl
theorem QxF(a b:List (List UInt8×List UInt8))(x:List UInt8×List UInt8)(k:Nat)(hk:k<b.length)(h:a.length+1+k<(a++(b.take k++x :: b.drop k)).length):(a++(b.take k++x :: b.drop k))[a.length+1+k]=b[k]:=by
 apply Option.some.inj;rw [←List.getElem?_eq_getElem h,List.getElem?_append_right (by omega),List.getElem?_append_right (by rw [List.length_take];omega),List.length_take,Nat.min_eq_left (by omega),show a.length+1+k-a.length-k=1 by omega,List.drop_eq_getElem_cons hk]
 rfl
structure MidRow(wr:World)(g cap N:Nat)(L:List (List UInt8×List UInt8)):Prop where
 ex:∃ cur,wr.heap[g]?=some (.cells cur 379 (0,0))∧cur.size=cap*2∧cur.toList.take (N*2)=Qau L∧L.length=N∧N≤cap∧cap≤maxLen
theorem MidRow.below{w w':World}{g cap N:Nat}{L:List (List UInt8×List UInt8)}(h:MidRow w g cap N L)(hb:Below w.heap.size w w'):MidRow w' g cap N L:=by
 obtain ⟨cur,h1,h2⟩:=h.ex;exact ⟨cur,(hb.block g (gsi h1).1).trans h1,h2⟩
theorem MidRow.lt{w:World}{g cap N:Nat}{L:List (List UInt8×List UInt8)}(h:MidRow w g cap N L):g<w.heap.size:=by
 obtain ⟨cur,h1,h2⟩:=h.ex;exact (gsi h1).1
theorem MidRow.cells{w:World}{g cap N:Nat}{L:List (List UInt8×List UInt8)}(h:MidRow w g cap N L)(j:Nat)(hj:j<N)(y:List UInt8×List UInt8)(hy:L[j]?=some y) :
  w.cell? ⟨g,j*2,none⟩=some (.string (bs y.1))∧w.cell? ⟨g,j*2+1,none⟩=some (.string (bs y.2))∧w.frozen? ⟨g,j*2,none⟩=false∧w.frozen? ⟨g,j*2+1,none⟩=false:=by
 obtain ⟨cur,h1,h2,h3,h4,h5,h6⟩:=h.ex;have hjl:j<L.length:=by omega
 obtain ⟨g1,g2⟩:=QcU L j hjl;rw [List.getElem?_eq_getElem hjl] at hy;obtain rfl:=Option.some.inj hy;have key:∀ k u,k<N*2→(Qau L)[k]?=some u→w.cell? ⟨g,k,none⟩=some u:=by
  intro k u hk hu;rw [cell_of_row w g k cur _ (0,0) h1,←Array.getElem?_toList];rw [←h3,List.getElem?_take,if_pos hk] at hu;exact hu
 refine ⟨key _ _ (by omega) g1,key _ _ (by omega) g2,?_,?_⟩
 ·unfold World.frozen?;rw [h1];rfl
 ·unfold World.frozen?;rw [h1];rfl
theorem MidRow.set{w:World}{g cap N:Nat}{L:List (List UInt8×List UInt8)}(h:MidRow w g cap N L)(i:Nat)(y:List UInt8×List UInt8) :
  MidRow ((w.setCell ⟨g,i*2,none⟩ (.string (bs y.1))).setCell ⟨g,i*2+1,none⟩ (.string (bs y.2))) g cap N (L.set i y):=by
 obtain ⟨cur,h1,h2,h3,h4,h5,h6⟩:=h.ex;refine ⟨_,QuL h1 _ _ _ _,by simp [h2],?_,by rw [List.length_set,h4],h5,h6⟩
 rw [Array.toList_setIfInBounds,Array.toList_setIfInBounds,List.take_set,List.take_set,h3,QqK]
theorem MidRow.clear{w:World}{g cap i:Nat}{L:List (List UInt8×List UInt8)}(h:MidRow w g cap (i+1) L)(base:Nat)(hb:base≤g) :
  ∃ w',(∀ ty dc,(Builtin.clear_ #[326] ty #[.slice (some ⟨g,i*2,none⟩) 1 dc]).run Tryz.prog w = .ok (.tuple #[]) w')∧w'.ownsRow base 379 2 (.slice (some ⟨g,0,none⟩) i cap) i (Qau (L.take i))∧w.grownBy w' (some g):=by
 obtain ⟨cur,h1,h2,h3,h4,h5,h6⟩:=h.ex;have hz:=Tryz.zeroValue379;refine ⟨_,fun ty dc=>Qft w 326 379 ty _ Tryz.underlying326 hz g (i*2) dc cur 379 h1 (by show i*2+2≤_;omega) (by simp [Value.cells,Value.oneCell']),?_,?_⟩
 ·refine ⟨by rw [Qbt,List.length_take];omega,.inr ⟨g,cap,_,rfl,hb,setRow_heap w g cur _ _ _ h1,by omega,?_,?_,?_⟩⟩
  ·exact h6
  ·rw [List.size_toArray,length_splice _ _ _ (by show i*2+2≤_;rw [Array.length_toList];omega),Array.length_toList,h2]
  ·have e1:Qau L=Qau (L.take i)++Qau (L.drop i):=by rw [←QfO,List.take_append_drop]
   have e2:(Qau (L.take i)).length=i*2:=by rw [Qbt,List.length_take];omega
   unfold splice;rw [List.toList_toArray,List.take_left' (by rw [List.length_take,Array.length_toList];omega)]
   have:cur.toList.take (i*2)=(cur.toList.take ((i+1)*2)).take (i*2):=by rw [List.take_take];congr 1;omega
   rw [this,h3,e1,List.take_left' e2]
 ·exact ⟨rfl,rfl,rfl,by simp [World.setRow],fun k hk hn=>setRow_other w g k _ (fun e=>hn (by rw [e]))⟩
theorem QnW{w w1 w2:World}{r:Option Nat}(h:w.grownBy w1 r)(k:w1.grownBy w2 r):w.grownBy w2 r:=
 ⟨k.os.trans h.os,k.tape.trans h.tape,k.output.trans h.output,Nat.le_trans h.size k.size,fun b hb hn=>(k.block b (Nat.lt_of_lt_of_le hb h.size) hn).trans (h.block b hb hn)⟩
def Quk(g base cap:Nat)(fs:List (List UInt8×List UInt8))(w:World)(e:Ending)(w':World):Prop:=
 e = .returned (.slice (some ⟨g,0,none⟩) fs.length cap)∧w'.ownsRow base 379 2 (.slice (some ⟨g,0,none⟩) fs.length cap) fs.length (Qau fs)∧w.grownBy w' (some g)
theorem Qml(g base cap n:Nat)(a b:List (List UInt8×List UInt8))(h:List UInt8×List UInt8)(w:World)(hn:n=(a++h :: b).length)(hh:h.1=Qbo)(ha:∀ x∈a,x.1≠Qbo)(hb:∀ x∈b,x.1≠Qbo)(hl:n≤1000000)
  (QAq:w.ownsRow base 379 2 (.slice (some ⟨g,0,none⟩) n cap) n (Qau (a++h :: b))) :
  Calls Tryz.prog 283 #[.slice (some ⟨g,0,none⟩) n cap,.func (.func 255) #[] #[]] w (Quk g base cap (a++b) w):=by
 obtain ⟨hM,QAv⟩:MidRow w g cap n (a++h :: b)∧base≤g:=by
  rcases QAq.2 with ⟨h0,-⟩|⟨g',cap',cur,e1,h1,h2,h3,h4,h5,h6⟩
  ·cases h0
  ·cases e1
   exact ⟨⟨cur,h2,h5,h6,hn.symm,h3,h4⟩,h1⟩
 have hMg:=hM.lt;have HI:=hid (QnR g n cap (a++h :: b) w hn (by omega) hMg (fun j hj=>by
  obtain ⟨h1,h2,-,-⟩:=hM.cells j (by omega) _ (List.getElem?_eq_getElem hj)
  rw [Nat.zero_add];exact ⟨h1,h2⟩))
 rw [QxW a b h hh ha] at HI;obtain ⟨i,hi⟩:∃ i,a.length+b.length=i:=⟨_,rfl⟩;have hni:n=i+1:=by rw [hn];simp;omega
 subst hni;have hcap:i+1≤cap:=by obtain ⟨cur,h1,h2,h3,h4,h5,h6⟩:=hM.ex;exact h5
 have hcap2:cap≤9223372036854775807:=by obtain ⟨cur,h1,h2,h3,h4,h5,h6⟩:=hM.ex;unfold maxLen at h6;exact h6
 have HM:=hid hM;have HB:=hid hb;have hal:a.length≤i:=by omega
 have t1:((a.length:Int) == -1)=false:=by rw [beq_eq_false_iff_ne];omega
 obtain ⟨al,hAL⟩:∃ al,a.length=al:=⟨_,rfl⟩;obtain ⟨bl,hBL⟩:∃ bl,b.length=bl:=⟨_,rfl⟩;rw [hAL] at HI t1 hal;have HAB:=hid (And.intro hAL hBL);rw [hAL,hBL] at hi;clear QAq hM hn hb ha hAL hBL;go_enter Tryz.func283,Tryz.ntmps283;go_wp2_with fail;refine HI.out.mono ?_;rintro e w1 ⟨rfl,hb1⟩;have HM1:=hid (HM.out.below hb1);have HG1:=hid ((GR.refl g w).below hb1);clear hb1 HI;go_wp2_with fail;go_loopg [5,6,7] bl (fun gk s5 s6 _ wr=>∃ (k:Nat) (x:List UInt8×List UInt8),s5 = .int .i64 ((al+k:Nat):Int)∧s6 = .int .i64 ((al+1+k:Nat):Int)∧k+gk=bl∧Hid (MidRow wr g cap (i+1) (a++(b.take k++x :: b.drop k)))∧Hid (w.grownBy wr (some g)))
 case atStart=>exact ⟨0,h,by simp,by simp,by omega,HM1,HG1⟩
 case round=>
  obtain ⟨k,x,rfl,rfl,hgk,HR,HG⟩:=hrel;obtain ⟨p,hp⟩:∃ p,al+k=p:=⟨_,rfl⟩;obtain ⟨q,hq⟩:∃ q,al+1+k=q:=⟨_,rfl⟩;have HQP:Hid (q=p+1):=hid (by omega)
  have hrg:=HR.out.lt;rw [hp,hq]
  by_cases hk:k<bl
  ·obtain ⟨g',rfl⟩:∃ g',gk=g'+1:=⟨gk-1,by omega⟩
   have tk:decide ((q:Int)<(i:Int)+1)=true:=decide_eq_true (by have:=HQP.out;omega)
   have hk2:k<b.length:=by rw [HAB.out.2];exact hk
   obtain ⟨y,hy⟩:∃ y,b[k]=y:=⟨_,rfl⟩;have HY:Hid ((a++(b.take k++x :: b.drop k))[q]?=some y):=hid (by
    have hlen:a.length+1+k<(a++(b.take k++x :: b.drop k)).length:=by
     simp only [List.length_append,List.length_cons,List.length_take,List.length_drop];omega
    have:=QxF a b x k hk2 hlen;rw [←hq,←HAB.out.1,List.getElem?_eq_getElem hlen,this,hy])
   have HS:Hid ((a++(b.take k++x :: b.drop k)).set p y=a++(b.take (k+1)++y :: b.drop (k+1))):=hid (QxD a b x y k p hk2 hy (by rw [HAB.out.1];exact hp))
   have hyc:decide (y.1=Qbo)=false:=decide_eq_false (by rw [←hy];exact HB.out _ (List.getElem_mem hk2))
   obtain ⟨c0,c1,-,-⟩:=HR.out.cells q (by omega) y HY.out
   have HN:=hid (fun w=>Qe5 y.1 y.2 w)
   rw [hyc] at HN;clear hyc hy HY hk2;go_wp2_with fail;refine (HN.out _).mono ?_;rintro e w2 ⟨rfl,hb2⟩;have HR2:=hid ((HR.out.below ((Below.refl _ _).alloc (Nat.le_refl _) (.cells #[.string (bs y.1),.string (bs y.2)] 379))).below hb2);have HG2:=hid ((HG.out.below ((Below.refl _ _).alloc (Nat.le_refl _) (.cells #[.string (bs y.1),.string (bs y.2)] 379))).below hb2);obtain ⟨z,hz⟩:∃ z,(a++(b.take k++x :: b.drop k))[p]?=some z:=⟨_,List.getElem?_eq_getElem (by
    have:=HAB.out;simp only [List.length_append,List.length_cons,List.length_take,List.length_drop];omega)⟩
   obtain ⟨d0,d1,f0,f1⟩:=HR2.out.cells p (by omega) z hz
   have hk0:w2.heap[wr.heap.size]?=some (.cells #[.string (bs y.1),.string (bs y.2)] 379 (0,0)):=(hb2.block wr.heap.size (by simp)).trans (heap_alloc_new wr _)
   have k0:w2.cell? ⟨wr.heap.size,0,none⟩=some (.string (bs y.1)):=by unfold World.cell?;rw [hk0];rfl
   have k1:w2.cell? ⟨wr.heap.size,1,none⟩=some (.string (bs y.2)):=by unfold World.cell?;rw [hk0];rfl
   clear hb2 c0 c1 hk0 hz;go_wp2_with fail;go_roundg g'
   case measure=>omega
   case rel=>exact ⟨k+1,y,by go_num,by go_num,by omega,hid (by rw [←HS.out];exact HR2.out.set p y),hid ((HG2.out.set _ _).set _ _)⟩
  ·obtain rfl:k=bl:=by omega
   have hpi:p=i:=by omega
   subst hpi;have tk:decide ((q:Int)<(p:Int)+1)=false:=decide_eq_false (by have:=HQP.out;omega)
   obtain ⟨w2,hcl,QAq,hg⟩:=HR.out.clear base QAv;have HO:=hid QAq;have HGG:=hid hg;have HT:Hid ((a++(b.take k++x :: b.drop k)).take p=a++b∧(a++b).length=p):=hid (by
    have:=HAB.out;have e1:b.take k=b:=List.take_of_length_le (by omega)
    rw [e1,←List.append_assoc];exact ⟨List.take_left' (by rw [List.length_append];omega),by rw [List.length_append];omega⟩)
   clear QAq hg;go_wp2_with fail;go_ret;unfold Quk;rw [HT.out.2];have:=HO.out;rw [HT.out.1] at this;exact ⟨rfl,this,QnW HG.out HGG.out⟩
end
section
open Go.RowKit
def RpB(w:World)(R:Nat)(c f b:Value):Prop:=w.heap[R]?=some (.cells #[c,f,b] 328 (0,0))
theorem RpB.below{w w':World}{R:Nat}{c f b:Value}(k:RpB w R c f b)(hb:Below w.heap.size w w'):RpB w' R c f b:=
 (hb.block R (gsi k).1).trans k
theorem RpB.lt{w:World}{R:Nat}{c f b:Value}(k:RpB w R c f b):R<w.heap.size:=(gsi k).1
theorem RpB.cells{w:World}{R:Nat}{c f b:Value}(k:RpB w R c f b) :
  w.cell? ⟨R,0,none⟩=some c∧w.cell? ⟨R,1,none⟩=some f∧w.cell? ⟨R,2,none⟩=some b:=by
 unfold RpB at k;refine ⟨?_,?_,?_⟩<;>(unfold World.cell?;rw [k];rfl)
theorem RpB.free{w:World}{R:Nat}{c f b:Value}(k:RpB w R c f b) :
  w.frozen? ⟨R,0,none⟩=false∧w.frozen? ⟨R,1,none⟩=false∧w.frozen? ⟨R,2,none⟩=false:=by
 unfold RpB at k;refine ⟨?_,?_,?_⟩<;>(unfold World.frozen?;rw [k];rfl)
theorem RpB.set0{w:World}{R:Nat}{c f b:Value}(k:RpB w R c f b)(v:Value):RpB (w.setCell ⟨R,0,none⟩ v) R v f b:=by
 unfold RpB at k ⊢;simp [World.setCell,Array.getElem?_modify,k]
theorem RpB.set1{w:World}{R:Nat}{c f b:Value}(k:RpB w R c f b)(v:Value):RpB (w.setCell ⟨R,1,none⟩ v) R c v b:=by
 unfold RpB at k ⊢;simp [World.setCell,Array.getElem?_modify,k]
def Qun(R:Nat)(W w':World)(c v b:Value):Prop:=RpB w' R c v b∧W.grownBy w' (some R)
theorem QrD{ops:Array Oper}{o:Oper}{a:Act}{K:Act→World→Prop}{Q:Exit→Act→World→Prop}{E:Prop}{R base:Nat}(w0:World)(hw0:w0.heap.size=base)(hR0:R<base){c v b:Value}{W2:World}{fs:List (List UInt8×List UInt8)}(W:World)(hgd:o.guard=none)(s z:Operand)
  (ho:o.op = .call { callee:=.builtin .append,args:=#[s,z],argTypes:=#[326,326] })
  (hR2:RpB W2 R c v b) (QAq:W2.ownsRow base 379 2 v fs.length (Qau fs)) (hg0:w0.grownBy W2 (some R)) (hs:a.eval s=v) (hn:fs.length<2147483648) (hbW:Below W2.heap.size W2 W)
  (B:Nat) (f:List UInt8×List UInt8) (hB:W.heap[B]?=some (.cells #[.string (bs f.1),.string (bs f.2)] 379 (0,0))) (hx:a.eval z = .slice (some ⟨B,0,none⟩) 1 1)
  (hK:∀ g cap w',w'.ownsRow base 379 2 (.slice (some ⟨g,0,none⟩) (fs.length+1) cap) (fs++[f]).length (Qau (fs++[f]))→w'.cell? ⟨R,1,none⟩=some v→w'.frozen? ⟨R,1,none⟩=false→Qun R w0 w' c v b→K (a.put o.dst (.slice (some ⟨g,0,none⟩) (fs.length+1) cap)) w') :
  if Region.wanted o (yielded ops a.tmps)=true then Oper.wp Tryz.prog o a W K Q else E:=by
 have hoW:=Qa2 QAq hbW;have hlt:=hR2.lt;have hsz:=hbW.size;have hs0:=hg0.size;refine Qlf W hgd s z ho base v fs hs hoW B f hB hx hn (by omega) (fun g cap w' h1 h2=>?_)
 have hR3:RpB w' R c v b:=(QjA h2 hoW hR0 (by omega)).trans (hR2.below hbW)
 have hg1:=hg0.below hbW;have hb3:w0.grownBy w' (some R):=⟨h2.os.trans hg1.os,h2.tape.trans hg1.tape,h2.output.trans hg1.output,Nat.le_trans hg1.size h2.size,fun k hk hne=>
  (h2.block k (Nat.lt_of_lt_of_le hk hg1.size) (fun h=>by have:=(hoW.lt k h.symm).1;omega)).trans (hg1.block k hk hne)⟩
 exact hK g cap w' h1 hR3.cells.2.1 hR3.free.2.1 ⟨hR3,hb3⟩
def QwW(R:Nat)(w:World)(b:Value)(ls:List (List UInt8))(e:Ending)(w':World):Prop:=
 (hdE ls≠0∧e = .returned (.tuple #[.int .i64 0,.iface 26 (.int .i64 (hdE ls:Nat))])∧(∃ c f,RpB w' R c f b)∧w.grownBy w' (some R))∨
 (hdE ls=0∧e = .returned (.tuple #[.int .i64 (hdN ls:Nat),.iface 376 (.string ⟨#[116,97,107,101,110]⟩)])∧(∃ f,RpB w' R (.int .i64 (hdC ls)) f b∧w'.ownsRow w.heap.size 379 2 f (Qeg (QbX ls.tail)).length (Qau (Qeg (QbX ls.tail))))∧w.grownBy w' (some R))
theorem Qo4(v:Value)(fs:List (List UInt8×List UInt8))(w:World)(hv:HoldsF w v fs)(hlen:fs.length≤1000000) :
  Calls Tryz.prog 213 #[v,.string ⟨#[99,111,110,116,101,110,116,45,108,101,110,103,116,104]⟩] w fun e w'=>e = .returned (.tuple #[.string (bs (QbC fs Qbo)),.int .i64 (Qc8 fs Qbo:Nat)])∧Below w.heap.size w w':=
 QjF v fs ⟨#[99,111,110,116,101,110,116,45,108,101,110,103,116,104]⟩ w hv hlen
theorem QvQ(w:World):Calls Tryz.prog 213 #[.slice none 0 0,.string ⟨#[99,111,110,116,101,110,116,45,108,101,110,103,116,104]⟩] w fun e w'=>e = .returned (.tuple #[.string ⟨#[]⟩,.int .i64 6])∧Below w.heap.size w w':=
 Qo4 (.slice none 0 0) [] w (HoldsF.nil _ _ _) (by decide)
theorem QpT(R:Nat)(w:World)(lv b:Value)(ls:List (List UInt8))(hR:RpB w R (.int .i64 0) (.slice none 0 0) b)(hl:HoldsS w lv ls)(hlen:ls.length≤17)(hx:∀ x∈ls,x.length≤256)(hA:Anchor R w)(hbk:lv.ownBlock≠some R) :
  Calls Tryz.prog 244 #[.pointer (some ⟨R,0,none⟩),lv] w (QwW R w b ls):=by
 have hRl:=hR.lt
 by_cases hne:ls = []
 ·subst hne
  obtain ⟨av,c,rfl,hc,hh⟩:=hl;have HR:=hid hR;clear hR hh hx hA hbk;go_enter Tryz.func244,Tryz.ntmps244;go_wp2_with fail;go_ret2;exact .inl ⟨by decide,rfl,⟨_,_,HR.out⟩,GR.refl _ _⟩
 obtain ⟨x0,ts,rfl⟩:∃ x ts,ls=x :: ts:=by cases ls with
  |nil=>exact absurd rfl hne
  |cons x ts=>exact ⟨x,ts,rfl⟩
 obtain ⟨av,c,rfl,hc,hh⟩:=hl;obtain ⟨B,o,rfl,hBl,Qao⟩:=hh (by simp)
 have c0:=Qao 0 (by simp)
 rw [Nat.add_zero] at c0;change w.cell? ⟨B,o,none⟩=some (.string (bs x0)) at c0;have HC:Hid (∀ j (hj:j<ts.length),w.cell? ⟨B,o+1+j,none⟩=some (.string (bs ts[j]))):=hid (fun j hj=>by
  have:=Qao (j+1) (by simp;omega)
  rw [show o+1+j=o+(j+1) by omega];exact this)
 have HX:Hid (∀ x∈ts,x.length≤256):=hid (fun x hxx=>hx x (List.mem_cons_of_mem _ hxx))
 have hx0:=hx x0 (List.mem_cons_self ..);have HA:=hid hA;have HR:=hid hR;have hBR:Hid (B<w.heap.size∧B≠R):=hid ⟨hBl,fun e=>hbk (by rw [e];rfl)⟩
 clear hbk;obtain ⟨X0,hX0⟩:∃ X,bs x0=X:=⟨_,rfl⟩;have hXd:X0.data.toList=x0:=by rw [←hX0,Qaj]
 have HS:=hid (fun w=>Qlh X0 w (by rw [←hX0,QaC];omega))
 rw [hXd] at HS;rw [hX0] at c0;have hn1:(x0 :: ts).length=ts.length+1:=rfl;rw [hn1] at hc hlen ⊢;have tl:(((ts.length:Int)+1)==0)=false:=by rw [beq_eq_false_iff_ne];omega
 have HG:Hid ((x0 :: ts).getD 0 []=x0∧(x0 :: ts).tail=ts∧(x0 :: ts)≠[]):=hid ⟨rfl,rfl,by simp⟩
 generalize (x0 :: ts)=LS at HG ⊢;clear Qao hh hx hA hR hne hX0 hXd hn1;have hts:ts.length≤16:=by omega
 obtain ⟨⟨C,e0⟩,hst⟩:∃ T,Qbk x0=T:=⟨_,rfl⟩;rw [hst] at HS
 by_cases he:e0=0
 case neg=>
  have HF:Hid (hdE LS=e0∧e0≠0):=hid ⟨by unfold hdE;rw [if_neg HG.out.2.2,HG.out.1,hst,if_pos he],he⟩
  have tz:((e0:Int) != 0)=true:=by rw [bne_iff_ne];omega
  clear he hst;go_enter Tryz.func244,Tryz.ntmps244;go_wp2_with fail;refine (HS.out _).mono ?_;rintro e w1 ⟨rfl,hb1⟩;have HR1:=hid (HR.out.below hb1);have HG1:=hid ((GR.refl R w).below hb1);clear hb1 c0;go_wp2_with fail;go_ret2;exact .inl ⟨by rw [HF.out.1];exact HF.out.2,by rw [HF.out.1];rfl,⟨_,_,HR1.out⟩,HG1.out⟩
 subst he;have HST:Hid ((Qbk (LS.getD 0 [])).2=0∧hdC LS=C):=hid ⟨by rw [HG.out.1,hst],by unfold hdC;rw [HG.out.1,hst]⟩
 clear hst;have HAft:Hid (QeJ ts≠0→hdE LS=QeJ ts):=hid (fun h=>by unfold hdE;rw [if_neg HG.out.2.2,if_neg (by rw [HST.out.1];simp),HG.out.2.1,if_pos h])
 have HAf2:Hid (QeJ ts=0→hdE LS=if Qc8 (QbX ts) Qbo≠0 then Qc8 (QbX ts) Qbo else QcE (QbC (QbX ts) Qbo)):=hid (fun h=>by unfold hdE;rw [if_neg HG.out.2.2,if_neg (by rw [HST.out.1];simp),HG.out.2.1,if_neg (by rw [h];simp)])
 have QCg:Hid (hdN LS=Qcq (QbC (QbX ts) Qbo)∧Qeg (QbX LS.tail)=Qeg (QbX ts)):=hid ⟨by unfold hdN;rw [HG.out.2.1],by rw [HG.out.2.1]⟩
 clear HG
 by_cases h1:c=1
 ·have ht0:ts = []:=List.length_eq_zero_iff.1 (by omega)
  subst ht0;subst h1;have HP:Hid (hdE LS=6):=hid (by rw [HAf2.out rfl];rfl)
  have QBB:=hid (fun w=>QvQ w)
  clear HC HX HAft HAf2 QCg;go_enter Tryz.func244,Tryz.ntmps244;go_wp2_with fail;refine (HS.out _).mono ?_;rintro e w1 ⟨rfl,hb1⟩;have HR1:=hid (HR.out.below hb1);have HG1:=hid ((GR.refl R w).below hb1);obtain ⟨k0,k1,-⟩:=HR1.out.cells;obtain ⟨f0,f1,-⟩:=HR1.out.free;clear hb1 c0;go_wp2_with fail;refine wp_loop_rounds 1 ?_;rw [rounds_succ];go_wp2_with fail;refine (QBB.out _).mono ?_;rintro e w2 ⟨rfl,hb2⟩;have HR2:=hid ((HR1.out.set0 (.int .i64 C)).below hb2);have HG2:=hid ((HG1.out.set 0 (.int .i64 C)).below hb2);clear hb2 k0 k1 f0 f1;go_wp2_with fail;go_ret2;exact .inl ⟨by rw [HP.out];decide,by rw [HP.out];rfl,⟨_,_,HR2.out⟩,HG2.out⟩
 ·have hc1:1<c:=by omega
  go_enter Tryz.func244,Tryz.ntmps244;go_wp2_with fail;refine (HS.out _).mono ?_;rintro e w1 ⟨rfl,hb1⟩;have HR1:=hid (HR.out.below hb1);have HG1:=hid ((GR.refl R w).below hb1);obtain ⟨k0,k1,-⟩:=HR1.out.cells;obtain ⟨f0,f1,-⟩:=HR1.out.free;clear hb1 c0;go_wp2_with fail;have hR2:=HR1.out.set0 (.int .i64 C);have hG2:=HG1.out.set 0 (.int .i64 C);generalize w1.setCell ⟨R,0,none⟩ (.int .i64 C)=W1 at hR2 hG2 ⊢;have HR2:=hid hR2;have HG2:=hid hG2;clear hR2 hG2 k0 k1 f0 f1 HR1 HG1;go_loopg [36] ts.length (fun gk s36 wr=>∃ (k:Nat) (fv:Value),s36 = .int .i64 (k:Int)∧k+gk=ts.length∧RpB wr R (.int .i64 C) fv b∧wr.ownsRow w.heap.size 379 2 fv (QbX (ts.take k)).length (Qau (QbX (ts.take k)))∧w.grownBy wr (some R)∧Hid (∀ j (hj:j<ts.length),j<k→Qa9 ts[j]=0))
  case atStart=>exact ⟨0,_,by simp,by omega,HR2.out,by rw [List.take_zero];exact World.ownsRow_nil _ _ _ _,HG2.out,hid (fun j hj h=>absurd h (Nat.not_lt_zero _))⟩
  case round=>
   obtain ⟨k,fv,rfl,hgk,hRr,QAq,hgr,HK⟩:=hrel;have HGR:=hid hgr;have hbr:=hgr.toBelow (Nat.le_of_lt hRl);have hAB:=(HA.out.step hbr);have HE:=hid hAB.env;have HANC:=hid hAB;clear hgr;have HO:=hid QAq;have HRr:=hid hRr;clear QAq hRr hAB
   by_cases hk:k<ts.length
   ·obtain ⟨g',rfl⟩:∃ g',gk=g'+1:=⟨gk-1,by omega⟩
    have tk:decide ((k:Int)<(ts.length:Int))=true:=decide_eq_true (by omega)
    have c0:wr.cell? ⟨B,o+1+k,none⟩=some (.string (bs ts[k])):=by
     have hx1:=HGR.out.block B hBR.out.1 (fun e=>hBR.out.2 (Option.some.inj e))
     have:=HC.out k hk;unfold World.cell? at this ⊢;rw [hx1];exact this
    obtain ⟨S,hS⟩:∃ S,bs ts[k]=S:=⟨_,rfl⟩;have hSd:S.data.toList=ts[k]:=by rw [←hS,Qaj]
    have hSs:S.size≤1000000:=by rw [←hS,QaC];have:=HX.out _ (List.getElem_mem hk);omega
    rw [hS] at c0;have HP:=hid (fun w hE=>QgS S w hSs hE)
    rw [hSd] at HP;have hkl:Hid ((QbX (ts.take k)).length<2147483648):=hid (by unfold QbX;rw [List.length_map,List.length_take];omega)
    clear hS hSd
    by_cases hz:Qa9 ts[k]=0
    ·rw [hz] at HP
     have HK2:Hid (∀ j (hj:j<ts.length),j<k+1→Qa9 ts[j]=0):=hid (fun j hj h=>by
      by_cases e:j=k
      ·subst e;exact hz
      ·exact HK.out j hj (by omega))
     have QAr:Hid (QbX (ts.take (k+1))=QbX (ts.take k)++[(Qa8 ts[k],Qa7 ts[k])]):=hid (Ql6 ts k hk);clear hz HK;go_wp2_with fail;refine (HP.out _ HE.out).mono ?_;rintro e w1 ⟨rfl,hb1⟩;have HR1:=hid (HRr.out.below hb1);have HO1:=hid (Qa2 HO.out hb1);have HG1:=hid (HGR.out.below hb1);have hR1l:=HR1.out.lt;clear hb1 hbr c0;go_wp2_with fail;have hR2:RpB (w1.alloc (.cells #[.string (bs (Qa8 ts[k])),.string (bs (Qa7 ts[k]))] 379)) R (.int .i64 C) fv b:=HR1.out.below ((Below.refl _ _).alloc (Nat.le_refl _) _);have hO2:=Qa2 HO1.out ((Below.refl w1.heap.size w1).alloc (Nat.le_refl _) (.cells #[.string (bs (Qa8 ts[k])),.string (bs (Qa7 ts[k]))] 379));have hg2:=HG1.out.below ((Below.refl w1.heap.size w1).alloc (Nat.le_refl _) (.cells #[.string (bs (Qa8 ts[k])),.string (bs (Qa7 ts[k]))] 379));obtain ⟨j0,j1⟩:=QwQ w1 (.string (bs (Qa8 ts[k]))) (.string (bs (Qa7 ts[k]))) 379;have hj:w1.heap.size<(w1.alloc (.cells #[.string (bs (Qa8 ts[k])),.string (bs (Qa7 ts[k]))] 379)).heap.size:=by simp
     generalize w1.alloc (.cells #[.string (bs (Qa8 ts[k])),.string (bs (Qa7 ts[k]))] 379)=W2 at hR2 hO2 hg2 j0 j1 hj ⊢;have HR2:=hid hR2;have HO2:=hid hO2;have HG2:=hid hg2;obtain ⟨-,k1,-⟩:=hR2.cells;obtain ⟨-,f1,-⟩:=hR2.free;have hRl2:=hR2.lt;clear hR2 hO2 hg2 HR1 HO1 HG1;go_region_law (refine QrD w rfl hRl _ rfl _ _ rfl HR2.out HO2.out HG2.out rfl hkl.out ?_ W2.heap.size (Qa8 ts[k],Qa7 ts[k]) ?_ rfl ?_;exact ((Below.refl _ _).alloc (Nat.le_refl _) _).drew;exact heap_alloc_new W2 _;intro g cap w3 QBj hc3 hf3 haf)
     all_goals
      go_wp2_with fail;go_roundg g'
      case measure=>omega
      case rel=>
       refine ⟨k+1,_,by simp,by omega,haf.1.set1 _,?_,haf.2.set 1 _,HK2⟩
       rw [QAr.out];exact ownsRow_setCell_below QBj (a:=⟨R,1,none⟩) hRl _
    ·have HF:Hid (hdE LS=Qa9 ts[k]∧hdE LS≠0):=hid (by
      have hfe:=Qtt ts k hk HK.out hz;have:=HAft.out (by rw [hfe];exact hz)
      rw [this,hfe];exact ⟨rfl,hz⟩)
     have tz:((Qa9 ts[k]:Int) != 0)=true:=by rw [bne_iff_ne];omega
     clear hz HK;go_wp2_with fail;refine (HP.out _ HE.out).mono ?_;rintro e w1 ⟨rfl,hb1⟩;have HR1:=hid (HRr.out.below hb1);have HG1:=hid (HGR.out.below hb1);have hR1l:=HR1.out.lt;clear hb1 hbr c0;go_wp2_with fail;go_ret2;exact .inl ⟨HF.out.2,by rw [HF.out.1];rfl,⟨_,_,HR1.out.below ((Below.refl _ _).alloc (Nat.le_refl _) _)⟩,HG1.out.below ((Below.refl _ _).alloc (Nat.le_refl _) _)⟩
   ·obtain rfl:k=ts.length:=by omega
    have tk:decide ((ts.length:Int)<(ts.length:Int))=false:=decide_eq_false (by omega)
    have hz:QeJ ts=0:=Qo8 ts (fun j hj=>HK.out j hj hj)
    rw [List.take_length] at HO;obtain ⟨fs,hfs⟩:∃ fs,QbX ts=fs:=⟨_,rfl⟩;have hfl:fs.length≤16:=by rw [←hfs];unfold QbX;rw [List.length_map];omega
    have hgl:(QbC fs Qbo).length≤256:=by rw [←hfs];exact Qo5 ts Qbo HX.out
    have HE2:=hid (HAf2.out hz);rw [hfs] at HO HE2 QCg;have QBB:=hid (fun w h=>Qo4 fv fs w h (by omega))
    have QA7:=hid (fun w hE=>QfM (bs (QbC fs Qbo)) w (by rw [QaC];omega) hE)
    rw [Qaj] at QA7;obtain ⟨-,k1,-⟩:=HRr.out.cells;clear hz HK hfs hbr
    by_cases hz:Qc8 fs Qbo=0
    case neg=>
     have HF:Hid (hdE LS=Qc8 fs Qbo∧hdE LS≠0):=hid (by rw [HE2.out,if_pos hz];exact ⟨rfl,hz⟩)
     have tz:((Qc8 fs Qbo:Int) != 0)=true:=by rw [bne_iff_ne];omega
     clear hz;go_wp2_with fail;refine (QBB.out _ (HoldsF.of_own HO.out)).mono ?_;rintro e w2 ⟨rfl,hb2⟩;have HR2:=hid (HRr.out.below hb2);have HG2:=hid (HGR.out.below hb2);clear hb2 k1;go_wp2_with fail;go_ret2;exact .inl ⟨HF.out.2,by rw [HF.out.1];rfl,⟨_,_,HR2.out⟩,HG2.out⟩
    rw [hz] at QBB;have hz':Hid (Qc8 fs Qbo=0):=hid hz;rw [hz,if_neg (by simp)] at HE2
    clear hz
    by_cases hn:QcE (QbC fs Qbo)=0
    case neg=>
     have HF:Hid (hdE LS=QcE (QbC fs Qbo)∧hdE LS≠0):=hid (by rw [HE2.out];exact ⟨rfl,hn⟩)
     have tz:((QcE (QbC fs Qbo):Int) != 0)=true:=by rw [bne_iff_ne];omega
     clear hn;go_wp2_with fail;refine (QBB.out _ (HoldsF.of_own HO.out)).mono ?_;rintro e w2 ⟨rfl,hb2⟩;have HR2:=hid (HRr.out.below hb2);have HG2:=hid (HGR.out.below hb2);have HE3:=hid (HE.out.below hb2);clear hb2 k1;go_wp2_with fail;refine (QA7.out _ HE3.out).mono ?_;rintro e w3 ⟨rfl,hb3⟩;have HR3:=hid (HR2.out.below hb3);have HG3:=hid (HG2.out.below hb3);clear hb3;go_wp2_with fail;go_ret2;exact .inl ⟨HF.out.2,by rw [HF.out.1];rfl,⟨_,_,HR3.out⟩,HG3.out⟩
    have HF:Hid (hdE LS=0):=hid (by rw [HE2.out];exact hn)
    rw [hn] at QA7;obtain ⟨N,hN⟩:∃ N,Qcq (QbC fs Qbo)=N:=⟨_,rfl⟩;rw [hN] at QA7 QCg;obtain ⟨A,x,Bf,e1,e2,e3,e4,e5⟩:=QrE fs hz'.out;have HSp:=hid (And.intro e1 (And.intro e2 (And.intro e3 (And.intro e4 e5))));have QAU:0<fs.length:=by rw [e1,List.length_append,List.length_cons];omega
    obtain ⟨g,cap,hfv,hgb⟩:∃ g cap,fv = .slice (some ⟨g,0,none⟩) fs.length cap∧w.heap.size≤g:=by
     rcases HO.out.2 with ⟨-,h0⟩|⟨g,cap,cur,hv,hb,-⟩
     ·omega
     ·exact ⟨g,cap,hv,hb⟩
    subst hfv;obtain ⟨nn,hnn⟩:∃ nn,fs.length=nn:=⟨_,rfl⟩;rw [hnn] at HO k1 HRr QBB;have HD:=hid (fun W (h:W.ownsRow w.heap.size 379 2 (.slice (some ⟨g,0,none⟩) nn cap) nn (Qau fs))=>Qml g w.heap.size cap nn A Bf x W (by rw [←hnn,HSp.out.1]) HSp.out.2.1 HSp.out.2.2.1 HSp.out.2.2.2.1 (by omega) (by rw [HSp.out.1] at h;exact h))
    obtain ⟨rs,hrs⟩:∃ rs,A++Bf=rs:=⟨_,rfl⟩;rw [hrs] at HD;have HRS:Hid (Qeg fs=rs):=hid (e5.trans hrs);clear hn e1 e2 e3 e4 e5 hN hnn QAU hrs;go_wp2_with fail;refine (QBB.out _ (by have:=HoldsF.of_own HO.out;exact this)).mono ?_
    rintro e w2 ⟨rfl,hb2⟩;have HR2:=hid (HRr.out.below hb2);have HG2:=hid (HGR.out.below hb2);have HE3:=hid (HE.out.below hb2);have HO2:=hid (Qa2 HO.out hb2);clear hb2 k1;go_wp2_with fail;refine (QA7.out _ HE3.out).mono ?_;rintro e w3 ⟨rfl,hb3⟩;have HR3:=hid (HR2.out.below hb3);have HG3:=hid (HG2.out.below hb3);have HO3:=hid (Qa2 HO2.out hb3);obtain ⟨-,k1,-⟩:=HR3.out.cells;have hs3:=HG3.out.size;clear hb3;go_wp2_with fail;refine (HD.out _ HO3.out).mono ?_;rintro e w4 ⟨rfl,QAG,hg4⟩;have HR4:Hid (RpB w4 R (.int .i64 C) (.slice (some ⟨g,0,none⟩) nn cap) b):=hid ((hg4.block R HR3.out.lt (fun e=>by have:=Option.some.inj e;omega)).trans HR3.out)
    have HG4:Hid (w.grownBy w4 (some R)):=hid ⟨hg4.os.trans HG3.out.os,hg4.tape.trans HG3.out.tape,hg4.output.trans HG3.out.output,Nat.le_trans hs3 hg4.size,fun k hk hne=>(hg4.block k (Nat.lt_of_lt_of_le hk hs3) (fun e=>by have:=Option.some.inj e;omega)).trans (HG3.out.block k hk hne)⟩
    have HO4:=hid QAG;obtain ⟨-,k1,-⟩:=HR4.out.cells;obtain ⟨-,f1,-⟩:=HR4.out.free;clear QAG hg4;go_wp2_with fail;go_ret2;refine .inr ⟨HF.out,by rw [QCg.out.1];rfl,⟨.slice (some ⟨g,0,none⟩) rs.length cap,?_,?_⟩,HG4.out.set 1 _⟩
    ·rw [HST.out.2];exact HR4.out.set1 _
    ·rw [QCg.out.2,HRS.out];exact ownsRow_setCell_below HO4.out (a:=⟨R,1,none⟩) hRl _
end
section
open Go.RowKit Go.Extern.Stop Go.Stop Go.Extern Go.Extern.Rtype
theorem Qlj(v:Value)(w:World):(Extern.ReflectliteType.typeOf #[.iface 376 v]).run Tryz.prog w = .ok (.iface 387 (.agg #[.pointer (some ⟨9,376,none⟩)])) w:=by kernel_rfl
theorem Qfv(w:World):((Extern.ReflectliteType.method fun t=>do noPackHeld "Comparable" t;Functor.map (fun a=>Value.bool a.comparable) (typeInfo t)) #[.agg #[.pointer (some ⟨9,376,none⟩)]]).run Tryz.prog w = .ok (.bool true) w:=by kernel_rfl
theorem Qll(v:Value)(w:World):(Go.method 685 387 v "Comparable").run Tryz.prog w = .ok (416,v) w:=by kernel_rfl
theorem Qxh(w:World):(binOp .eql 239 (.iface 376 (.string ⟨#[116,97,107,101,110]⟩)) (.iface 376 (.string ⟨#[116,97,107,101,110]⟩))).run Tryz.prog w = .ok (.bool true) w:=by kernel_rfl
theorem QuM(e:Int)(w:World):(binOp .eql 239 (.iface 26 (.int .i64 e)) (.iface 376 (.string ⟨#[116,97,107,101,110]⟩))).run Tryz.prog w = .ok (.bool false) w:=by kernel_rfl
theorem Qxi(v:Value)(xT:TypeId)(w:World):(Instr.typeAssert (.iface 26 v) xT 454 true).run Tryz.prog w = .ok (.tuple #[.nilIface,.bool false]) w:=run_typeAssert_lacksB Tryz.underlying454 (by kernel_rfl) (by kernel_rfl) v xT w
theorem Qnc(v:Value)(xT:TypeId)(w:World):(Instr.typeAssert (.iface 26 v) xT 395 true).run Tryz.prog w = .ok (.tuple #[.nilIface,.bool false]) w:=run_typeAssert_lacksB Tryz.underlying395 (by kernel_rfl) (by kernel_rfl) v xT w
theorem Qlk(v:Value)(xT:TypeId)(w:World):(Instr.typeAssert (.iface 26 v) xT 397 true).run Tryz.prog w = .ok (.tuple #[.nilIface,.bool false]) w:=run_typeAssert_lacksB Tryz.underlying397 (by kernel_rfl) (by kernel_rfl) v xT w
theorem Qvv(w:World):Calls Tryz.prog 245 #[.iface 376 (.string ⟨#[116,97,107,101,110]⟩),.iface 376 (.string ⟨#[116,97,107,101,110]⟩)] w fun e w'=>e = .returned (.bool true)∧w'=w:=by
 have h8:=@run_callFunc_extern Tryz.prog 249 _ Extern.ReflectliteType.typeOf Tryz.func249 (by kernel_rfl) (by kernel_rfl) (by kernel_rfl) (by kernel_rfl)
 have h32:=@run_callFunc_extern Tryz.prog 416 _ (Extern.ReflectliteType.method fun t=>do noPackHeld "Comparable" t;pure (.bool (←typeInfo t).comparable)) Tryz.func416 (by kernel_rfl) (by kernel_rfl) (by kernel_rfl) (by kernel_rfl)
 have tT:=Qlj;have cT:=Qfv;have mR:=Qll;have heq:=Qxh;go_enter Tryz.func245,Tryz.ntmps245;go_wp2;refine wp_loop_rounds 1 ?_;rw [rounds_succ];go_wp2;go_ret;exact ⟨rfl,rfl⟩
theorem Qvw(n:Int)(w:World):Calls Tryz.prog 245 #[.iface 26 (.int .i64 n),.iface 376 (.string ⟨#[116,97,107,101,110]⟩)] w fun e w'=>e = .returned (.bool false)∧w'=w:=by
 have h8:=@run_callFunc_extern Tryz.prog 249 _ Extern.ReflectliteType.typeOf Tryz.func249 (by kernel_rfl) (by kernel_rfl) (by kernel_rfl) (by kernel_rfl)
 have h32:=@run_callFunc_extern Tryz.prog 416 _ (Extern.ReflectliteType.method fun t=>do noPackHeld "Comparable" t;pure (.bool (←typeInfo t).comparable)) Tryz.func416 (by kernel_rfl) (by kernel_rfl) (by kernel_rfl) (by kernel_rfl)
 have tT:=Qlj;have cT:=Qfv;have mR:=Qll;have heq:=QuM n;have nE:=Qxi;have uE:=Qnc;have vE:=Qlk;go_enter Tryz.func245,Tryz.ntmps245;go_wp2;refine wp_loop_rounds 1 ?_;rw [rounds_succ];go_wp2;go_ret;exact ⟨rfl,rfl⟩
end
section
open Go.RowKit
theorem Qbz(w:World)(x y z:Value)(t:TypeId):Below w.heap.size w (w.alloc (.cells #[x,y,z] t)):=(Below.refl _ _).alloc (Nat.le_refl _) _
def Three(w:World)(b:Nat)(x y z:Value):Prop:=b<w.heap.size∧w.cell? ⟨b,0,none⟩=some x∧w.cell? ⟨b,1,none⟩=some y∧w.cell? ⟨b,2,none⟩=some z
theorem Three.below{w w':World}{b:Nat}{x y z:Value}(h:Three w b x y z)(hb:Below w.heap.size w w'):Three w' b x y z:=
 ⟨Nat.lt_of_lt_of_le h.1 hb.size,(hb.cell (p:=⟨b,0,none⟩) h.1).trans h.2.1,(hb.cell (p:=⟨b,1,none⟩) h.1).trans h.2.2.1,(hb.cell (p:=⟨b,2,none⟩) h.1).trans h.2.2.2⟩
theorem Three.alloc{w:World}{b:Nat}{x y z:Value}(h:Three w b x y z)(o:Obj):Three (w.alloc o) b x y z:=h.below ((Below.refl _ _).alloc (Nat.le_refl _) o)
theorem Three.new(w:World)(x y z:Value)(t:TypeId):Three (w.alloc (.cells #[x,y,z] t)) w.heap.size x y z:=by
 have hh:=heap_alloc_new w (.cells #[x,y,z] t);refine ⟨by simp,?_,?_,?_⟩<;>(unfold World.cell?;rw [hh];rfl)
end
section
open Go.RowKit
theorem QdP(w:World)(b:Nat)(t:TypeId)(x y z:Value)(h:w.heap[b]?=some (.cells #[x,y,z] t (0,0))):(loadVar 328 ⟨b,0,none⟩).run Tryz.prog w = .ok (.agg #[x,y,z]) w:=
 run_loadVar_row w b t 328 #[x,y,z] (0,0) _ h Tryz.underlying328 rfl (by kernel_rfl)
theorem Qds{w:World}{b:Nat}{x y z:Value}{t:TypeId}(h:w.heap[b]?=some (.cells #[x,y,z] t (0,0)))(x' y' z':Value) :
  (((w.setCell ⟨b,0,none⟩ x').setCell ⟨b,1,none⟩ y').setCell ⟨b,2,none⟩ z').heap[b]?=some (.cells #[x',y',z'] t (0,0)):=by
 simp [World.setCell,Array.getElem?_modify,h]
theorem QpF{w:World}{b:Nat}{x y z:Value}{t:TypeId}(h:w.heap[b]?=some (.cells #[x,y,z] t (0,0)))(z':Value) :
  (w.setCell ⟨b,2,none⟩ z').heap[b]?=some (.cells #[x,y,z'] t (0,0)):=by
 simp [World.setCell,Array.getElem?_modify,h]
theorem Qcm{B:Nat}{w0 w:World}(h:Below B w0 w)(b:Nat)(hB:B≤b)(x' y' z':Value):Below B w0 (((w.setCell ⟨b,0,none⟩ x').setCell ⟨b,1,none⟩ y').setCell ⟨b,2,none⟩ z'):=
 ((h.setCell (p:=⟨b,0,none⟩) hB _).setCell (p:=⟨b,1,none⟩) hB _).setCell (p:=⟨b,2,none⟩) hB _
theorem Qan{w:World}{b:Nat}{x y z:Value}{t:TypeId}(h:w.heap[b]?=some (.cells #[x,y,z] t (0,0))) :
  w.cell? ⟨b,0,none⟩=some x∧w.cell? ⟨b,1,none⟩=some y∧w.cell? ⟨b,2,none⟩=some z∧w.frozen? ⟨b,0,none⟩=false∧w.frozen? ⟨b,1,none⟩=false∧w.frozen? ⟨b,2,none⟩=false:=by
 refine ⟨?_,?_,?_,?_,?_,?_⟩
 ·unfold World.cell?;rw [h];rfl
 ·unfold World.cell?;rw [h];rfl
 ·unfold World.cell?;rw [h];rfl
 ·unfold World.frozen?;rw [h];rfl
 ·unfold World.frozen?;rw [h];rfl
 ·unfold World.frozen?;rw [h];rfl
theorem QrS(v:Value)(w:World):(Instr.typeAssert (.iface 26 v) 239 26 true).run Tryz.prog w = .ok (.tuple #[v,.bool true]) w:=by kernel_rfl
theorem Qgf{w:World}{b1 b2:Nat}{e:TypeId}{s n:Nat}{v:Value}{x:List Value}(h:w.ownsRow b1 e s v n x)(hb:b2≤b1):w.ownsRow b2 e s v n x:=by
 refine ⟨h.1,?_⟩;rcases h.2 with h0|⟨b,cap,cur,e1,e2,e3⟩
 ·exact .inl h0
 ·exact .inr ⟨b,cap,cur,e1,Nat.le_trans hb e2,e3⟩
def QzN(s:ByteArray)(most:Int)(fv:Value):Value:=.tuple #[.agg #[.int .i64 (Qj2 s most),fv,.string (bs (QiP s most))],.int .i64 (Qha s most),.int .i64 (Qec s most:Nat)]
def Qf5(s:ByteArray)(most:Int)(w:World)(e:Ending)(w':World):Prop:=
 ∃ fv,e = .returned (QzN s most fv)∧w'.ownsRow w.heap.size 379 2 fv (Qcf s most).length (Qau (Qcf s most))∧Below w.heap.size w w'
theorem QfB(s:ByteArray)(most:Int)(e:Nat)(h:Qec s most=e)(h0:e≠0)(w w':World)(hb:Below w.heap.size w w') :
  Qf5 s most w (.returned (.tuple #[.agg #[.int .i64 0,.slice none 0 0,.string ⟨#[]⟩],.int .i64 0,.int .i64 (e:Nat)])) w':=by
 obtain ⟨h1,h2,h3,h4⟩:=Qw5 s most (by rw [h];exact h0)
 refine ⟨.slice none 0 0,?_,?_,hb⟩
 ·unfold QzN;rw [h1,h3,h4,h];rfl
 ·rw [h2];exact World.ownsRow_nil _ _ _ _
theorem Qp1(s:ByteArray)(most:Int)(h:Qec s most=0)(w w':World)(fv:Value)(QAq:w'.ownsRow w.heap.size 379 2 fv (Qcf s most).length (Qau (Qcf s most)))(hb:Below w.heap.size w w')(C n:Int)(B:ByteArray)(h1:Qj2 s most=C)(h2:Qha s most=n)(h3:bs (QiP s most)=B) :
  Qf5 s most w (.returned (.tuple #[.agg #[.int .i64 C,fv,.string B],.int .i64 n,.int .i64 0])) w':=by
 refine ⟨fv,?_,QAq,hb⟩;unfold QzN;rw [h1,h2,h3,h];rfl
theorem Qnd(s:ByteArray)(most:Int)(w:World)(hs:s.size≤1000000)(hE:EnvF w) :
  Calls Tryz.prog 212 #[.string s,.int .i64 most] w (Qf5 s most w):=by
 have HH:=hid (Qgn s (w.alloc (.cells #[.int .i64 0,.slice none 0 0,.string ⟨#[]⟩] 328)) (by omega))
 have hbd:=Qdh s;have QB3:=Ql1 s;unfold QeO at HH;obtain ⟨⟨ls,n,e⟩,hh⟩:∃ T,Qas s=T:=⟨_,rfl⟩;rw [hh] at HH hbd QB3;have HHd:=hid hh;change (∀ x∈ls,x.length≤256)∧ls.length≤17 at hbd;change e=0→0<n∧n≤(s.size:Int) at QB3;change Hid (Calls _ _ _ _ fun r w'=>∃ v,r = .returned (.tuple #[v,.int .i64 n,.int .i64 (e:Nat)])∧w'.ownsRow _ 9 1 v ls.length (Qe4 ls)∧_) at HH
 have HBD:=hid hbd;have HB0:=hid (Qbz w (.int .i64 0) (.slice none 0 0) (.string ⟨#[]⟩) 328);have HE:=hid hE;clear hE hbd hh
 by_cases he:e=0
 case neg=>
  have HV:Hid (Qec s most=e∧e≠0):=hid ⟨by unfold Qec;rw [HHd.out];exact if_pos he,he⟩
  have tz:((e:Int) != 0)=true:=by rw [bne_iff_ne];omega
  clear he QB3;go_enter Tryz.func212,Tryz.ntmps212;go_wp2_with fail;refine HH.out.mono ?_;rintro r w1 ⟨v,rfl,-,hb1⟩;have HB1:=hid hb1;have HK:=hid ((hb1.block w.heap.size (by simp)).trans (heap_alloc_new w _))
  obtain ⟨d0,d1,d2,g0,g1,g2⟩:=Qan HK.out;clear hb1;go_wp2_with fail;refine QaK (A:=⟨w.heap.size,0,none⟩) rfl (QdP _ _ _ _ _ _ (Qds HK.out _ _ _)) rfl rfl rfl rfl ?_;exact QfB s most e HV.out.1 HV.out.2 w _ (Qcm (Qaa HB0.out HB1.out) _ (Nat.le_refl _) _ _ _)
 subst he;obtain ⟨n1,n2⟩:=QB3 rfl;obtain ⟨nx,rfl⟩:∃ nx:Nat,n=nx:=⟨n.toNat,by omega⟩
 have hh2:Hid (∀ q,Qec s most=q↔(if hdE ls≠0 then hdE ls else if most<(hdN ls:Int) then 5 else if (s.size:Int)-nx<(hdN ls:Int) then 3 else 0)=q):=hid (fun q=>by unfold Qec;rw [HHd.out];rfl)
 clear QB3;have HHD:Hid (∀ (w1:World) (v:Value),Below (w.alloc (.cells #[.int .i64 0,.slice none 0 0,.string ⟨#[]⟩] 328)).heap.size (w.alloc (.cells #[.int .i64 0,.slice none 0 0,.string ⟨#[]⟩] 328)) w1→w1.ownsRow (w.alloc (.cells #[.int .i64 0,.slice none 0 0,.string ⟨#[]⟩] 328)).heap.size 9 1 v ls.length (Qe4 ls)→
   Calls Tryz.prog 244 #[.pointer (some ⟨w.heap.size,0,none⟩),v] w1 (QwW w.heap.size w1 (.string ⟨#[]⟩) ls)):=hid (fun w1 v h1 h2=>by
  have hK:=(h1.block w.heap.size (by simp)).trans (heap_alloc_new w _)
  refine QpT w.heap.size w1 v _ ls hK (HoldsS.of_own h2) HBD.out.2 HBD.out.1 ⟨w,HE.out,rfl,HB0.out.trans (h1.mono (by simp))⟩ (fun e=>?_)
  have:=(h2.lt _ e).1;simp at this;omega)
 go_enter Tryz.func212,Tryz.ntmps212;go_wp2_with fail;refine HH.out.mono ?_;rintro r w1 ⟨v,rfl,QAq,hb1⟩;have HB1:=hid (Qaa HB0.out hb1);have HC:=hid (HHD.out w1 v hb1 QAq);have hRl:w.heap.size<w1.heap.size:=by have:=hb1.size;simp at this;omega
 clear hb1 QAq HHD HH;go_wp2_with fail;refine HC.out.mono ?_;rintro r w2 (⟨h0,rfl,⟨c,f,hR2⟩,hg2⟩|⟨h0,rfl,⟨f,hR2,QAx⟩,hg2⟩)
 ·have HV:Hid (Qec s most=hdE ls∧hdE ls≠0):=hid ⟨(hh2.out _).2 (if_pos h0),h0⟩
  have HIs:=hid (fun w=>Qvw (hdE ls:Int) w)
  have hta:=fun w=>QrS (.int .i64 (hdE ls:Int)) w
  have HB2:=hid (HB1.out.trans (hg2.toBelow (Nat.le_of_lt hRl)));have HK:=hid hR2;obtain ⟨d0,d1,d2,g0,g1,g2⟩:=Qan HK.out;clear h0 hg2 hR2;generalize hdE ls=E at *;go_wp2_with fail;refine (HIs.out _).mono ?_;rintro r w' ⟨rfl,rfl⟩;go_wp2_with fail;refine QaK (A:=⟨w.heap.size,0,none⟩) rfl (QdP _ _ _ _ _ _ (Qds HK.out _ _ _)) rfl rfl rfl rfl ?_;exact QfB s most _ HV.out.1 HV.out.2 w _ (Qcm HB2.out _ (Nat.le_refl _) _ _ _)
 ·have HIs:=hid (fun w=>Qvv w)
  have HB2:=hid (HB1.out.trans (hg2.toBelow (Nat.le_of_lt hRl)));obtain ⟨af,cf,rfl⟩:=Qbe QAx;have HO2:=hid QAx;have HK:=hid hR2;have HKB:Hid (w2.heap[w.heap.size]?=some (.cells #[.int .i64 (hdC ls),.slice af (Qeg (QbX ls.tail)).length cf,.string ⟨#[]⟩] 328 (0,0))):=hid hR2;obtain ⟨d0,d1,d2,g0,g1,g2⟩:=Qan HKB.out;obtain ⟨rs,hrs⟩:∃ rs,Qeg (QbX ls.tail)=rs:=⟨_,rfl⟩;have HRS:=hid hrs;rw [hrs] at HO2 HKB d1;clear hrs;obtain ⟨N,hN⟩:∃ N,hdN ls=N:=⟨_,rfl⟩;obtain ⟨C,hC⟩:∃ C,hdC ls=C:=⟨_,rfl⟩;have HNC:=hid (And.intro hN hC);have h0':=hid h0;rw [hN];rw [hC] at d0 HKB;clear h0 hg2 hR2 QAx HK hN hC HC
  by_cases hm:most<(N:Int)
  ·have HV:Hid (Qec s most=5):=hid ((hh2.out 5).2 (by rw [if_neg (by rw [h0'.out];simp),HNC.out.1,if_pos hm]))
   have tm:decide ((N:Int)>most)=true:=decide_eq_true (by omega)
   clear hm;go_wp2_with fail;refine (HIs.out _).mono ?_;rintro r w' ⟨rfl,rfl⟩;go_wp2_with fail;refine QaK (A:=⟨w.heap.size,0,none⟩) rfl (QdP _ _ _ _ _ _ (Qds HKB.out _ _ _)) rfl rfl rfl rfl ?_;exact QfB s most 5 HV.out (by decide) w _ (Qcm HB2.out _ (Nat.le_refl _) _ _ _)
  have tm:decide ((N:Int)>most)=false:=decide_eq_false (by omega)
  have tw:IntKind.i64.wrap ((s.size:Int)-(nx:Int))=(s.size:Int)-(nx:Int):=by rw [IntKind.wrap_i64];omega
  by_cases hsh:(s.size:Int)-(nx:Int)<(N:Int)
  ·have HV:Hid (Qec s most=3):=hid ((hh2.out 3).2 (by rw [if_neg (by rw [h0'.out];simp),HNC.out.1,if_neg hm,if_pos hsh]))
   have ts:decide ((N:Int)>(s.size:Int)-(nx:Int))=true:=decide_eq_true (by omega)
   clear hm hsh;go_wp2_with fail;refine (HIs.out _).mono ?_;rintro r w' ⟨rfl,rfl⟩;go_wp2_with fail;refine QaK (A:=⟨w.heap.size,0,none⟩) rfl (QdP _ _ _ _ _ _ (Qds HKB.out _ _ _)) rfl rfl rfl rfl ?_;exact QfB s most 3 HV.out (by decide) w _ (Qcm HB2.out _ (Nat.le_refl _) _ _ _)
  ·have hz:Qec s most=0:=(hh2.out 0).2 (by rw [if_neg (by rw [h0'.out];simp),HNC.out.1,if_neg hm,if_neg hsh])
   have HV:Hid (Qec s most=0∧Qj2 s most=C∧Qcf s most=Qeg (QbX ls.tail)∧Qha s most=(nx:Int)+(N:Int)∧bs (QiP s most)=s.extract nx (nx+N)):=hid ⟨hz,by unfold Qj2;rw [if_pos hz,HHd.out];exact HNC.out.2,by unfold Qcf;rw [if_pos hz,HHd.out],by unfold Qha;rw [if_pos hz,HHd.out];exact congrArg (fun q:Nat=>(nx:Int)+(q:Int)) HNC.out.1,by
    unfold QiP;rw [if_pos hz,HHd.out,Qcw];show bs ((s.data.toList.take ((nx:Int).toNat+hdN ls)).drop (nx:Int).toNat)=_;rw [HNC.out.1,Int.toNat_natCast]⟩
   have ts:decide ((N:Int)>(s.size:Int)-(nx:Int))=false:=decide_eq_false (by omega)
   have ta:IntKind.i64.wrap ((nx:Int)+(N:Int))=(nx:Int)+(N:Int):=by rw [IntKind.wrap_i64];omega
   have hle:nx+N≤s.size:=by omega
   have hle2:(nx:Int)+(N:Int)≤(s.size:Int):=by omega
   clear hm hsh hz;go_wp2_with fail;refine (HIs.out _).mono ?_;rintro r w' ⟨rfl,rfl⟩;go_wp2_with fail;refine QaK (A:=⟨w.heap.size,0,none⟩) rfl (QdP _ _ _ _ _ _ (Qds (QpF HKB.out _) _ _ _)) rfl rfl rfl rfl ?_;refine Qp1 s most HV.out.1 w _ _ ?_ (Qcm (HB2.out.setCell (p:=⟨w.heap.size,2,none⟩) (Nat.le_refl _) _) _ (Nat.le_refl _) _ _ _) _ _ _ HV.out.2.1 HV.out.2.2.2.1 HV.out.2.2.2.2;rw [HV.out.2.2.1,HRS.out];exact Qgf (ownsRow_setCell_below (ownsRow_setCell_below (ownsRow_setCell_below (ownsRow_setCell_below HO2.out (a:=⟨w.heap.size,2,none⟩) hRl _) (a:=⟨w.heap.size,0,none⟩) hRl _) (a:=⟨w.heap.size,1,none⟩) hRl _) (a:=⟨w.heap.size,2,none⟩) hRl _) (Nat.le_of_lt hRl)
end
section
open Go.RowKit
theorem Qk9(L:List Value)(n:Nat)(x y:Value)(h2:2≤L.length)(hn:n*2+2≤L.length) :
  (splice (splice L 2 (L.take (n*2))) 0 [x,y]).take ((n+1)*2)=x :: y :: L.take (n*2)∧(splice (splice L 2 (L.take (n*2))) 0 [x,y]).length=L.length:=by
 have h3:(L.take (n*2)).length=n*2:=by rw [List.length_take];omega
 have hA:(splice L 2 (L.take (n*2))).length=L.length:=length_splice _ _ _ (by rw [h3];omega)
 refine ⟨?_,by rw [length_splice _ _ _ (by rw [hA];simpa using h2),hA]⟩
 have h4:(L.take 2).length=2:=by rw [List.length_take];omega
 unfold splice;rw [List.take_zero,List.nil_append,show 0 + [x,y].length=2 from rfl,List.drop_left' h4];rw [show (n+1)*2=n*2+1+1 by omega]
 simp only [List.cons_append,List.nil_append,List.take_succ_cons];rw [List.take_left' h3]
theorem Qie:(Tryz.prog.info? 379).map (fun i=>(i.zero,i.size,i.bytes))=some (some (.agg #[.string ByteArray.empty,.string ByteArray.empty]),2,32):=by kernel_rfl
theorem QnO(g n c vb:Nat)(cur:Array Value)(x y:Value)(w:World)(hn:0<n)(QBK:n+1≤c)(hc:c≤maxLen)(hg:w.heap[g]?=some (.cells cur 379 (0,0)))(hsz:cur.size=c*2)
  (hv:w.heap[vb]?=some (.cells #[x,y] 379 (0,0))) (hx:x.oneCell'=true) (hy:y.oneCell'=true) (h1:∀ u∈cur.toList.take (n*2),u.oneCell'=true) (hne:vb≠g) :
  Calls Tryz.prog 253 #[.slice (some ⟨g,0,none⟩) n c,.int .i64 0,.slice (some ⟨vb,0,none⟩) 1 1] w fun e w'=>
   e = .returned (.slice (some ⟨g,0,none⟩) (n+1) c)∧∃ cur',w'.heap[g]?=some (.cells cur' 379 (0,0))∧cur'.size=c*2∧cur'.toList.take ((n+1)*2)=x :: y :: cur.toList.take (n*2)∧w.grownBy w' (some g):=by
 obtain ⟨i0,hi0,hz0,hzs,hzb⟩:=info_parts Qie;unfold maxLen at hc;have u30:=Tryz.underlying326;have hs2:(Tryz.prog.info? 379).map (·.size)=some 2:=by kernel_rfl
 have hsz2:∀ w,(Go.sizeOf 379).run Tryz.prog w = .ok 2 w:=fun w=>by simp [sizeOf,typeInfo,hi0,hzs]
 have hov:∀ lb cb,(callFunc 288 #[.slice (some ⟨vb,0,none⟩) 1 1,.slice (some ⟨g,2,none⟩) lb cb]).run Tryz.prog w = .ok (.value (.bool false)) w:=fun lb cb=>by
  rw [run_callFunc_extern Tryz.func288 (by kernel_rfl) (by kernel_rfl) (by kernel_rfl) (e:=Extern.SlicesOverlaps.overlaps #[326,326] #[4]) (by kernel_rfl),
   Lib.run_overlaps_apart w 326 4 379 u30 2 hsz2 ⟨vb,0,none⟩ ⟨g,2,none⟩ 1 1 lb cb hne 379 379 2 cur.size (by simp [World.shape?,hv]) (by simp [World.shape?,hg]) (by omega) (by simp [World.frozen?,hv]) (by simp [World.frozen?,hv])]
  rfl
 have hz2:¬((0:Int)=(n:Int)):=by omega
 have hz3:¬((c:Int)<(n:Int)+1):=by omega
 have hb2:¬(c=1):=by omega
 have hl3:(cur.toList.take (n*2)).length=n*2:=by rw [List.length_take,Array.length_toList];omega
 have QBs:∀ ty dc sc,(Builtin.copy_ #[326,326] ty #[.slice (some ⟨g,2,none⟩) n dc,.slice (some ⟨g,0,none⟩) (n+1) sc]).run Tryz.prog w.drew = .ok (goInt n) (w.drew.setRow g (splice cur.toList 2 (cur.toList.take (n*2))).toArray):=fun ty dc sc=>
  Qbx w.drew 326 326 ty 379 2 n g 2 n dc ⟨g,0,none⟩ (n+1) sc cur 379 (cur.toList.take (n*2)) u30 hs2 (by simp only [Nat.min_def];split<;>omega) hl3.symm hg
   (fun j u hj=>by
    rw [List.getElem?_take] at hj;split at hj
    ·rw [Addr.add_lit,Nat.zero_add]
     show w.cell? _=_;unfold World.cell?;rw [hg];simpa using hj
    ·cases hj) (by rw [hl3,hsz];omega) h1
 have hsr:∀ (W:World) cs,(W.setRow g cs).heap.size=W.heap.size:=fun W cs=>by simp [World.setRow]
 have mixed:Tryz.prog.follows Departure.mixedOrders=true:=by kernel_rfl
 have hw1:IntKind.i64.wrap (1:Int)=1:=by decide
 have hb3:(1:Int)≤(n:Int)+1:=by omega
 have hb4:¬(c=0):=by omega
 have hb5:(0:Int)≤(n:Int)+1:=by omega
 obtain ⟨p1,p2⟩:=Qk9 cur.toList n x y (by rw [Array.length_toList];omega) (by rw [Array.length_toList];omega)
 have hl4:(splice cur.toList 2 (cur.toList.take (n*2))).length=c*2:=by rw [length_splice _ _ _ (by rw [hl3,Array.length_toList];omega),Array.length_toList,hsz]
 obtain ⟨L1,hL1⟩:∃ L1,splice cur.toList 2 (cur.toList.take (n*2))=L1:=⟨_,rfl⟩;rw [hL1] at QBs p1 p2 hl4;obtain ⟨W1,hW1⟩:∃ W1,w.drew.setRow g L1.toArray=W1:=⟨_,rfl⟩;have hg1:W1.heap[g]?=some (.cells L1.toArray 379 (0,0)):=by rw [←hW1];exact setRow_heap w.drew g cur _ 379 _ hg
 have hv1:W1.heap[vb]?=some (.cells #[x,y] 379 (0,0)):=by rw [←hW1,setRow_other w.drew g vb _ hne];exact hv
 rw [hW1] at QBs;have QBZ:∀ ty dc,(Builtin.copy_ #[326,326] ty #[.slice (some ⟨g,0,none⟩) (n+1) dc,.slice (some ⟨vb,0,none⟩) 1 1]).run Tryz.prog W1 = .ok (goInt 1) (W1.setRow g (splice L1 0 [x,y]).toArray):=fun ty dc=>
  Qbx W1 326 326 ty 379 2 1 g 0 (n+1) dc ⟨vb,0,none⟩ 1 1 L1.toArray 379 [x,y] u30 hs2 (by simp only [Nat.min_def];split<;>omega) rfl hg1
   (fun j u hj=>by
    rw [Addr.add_lit,Nat.zero_add];unfold World.cell?;rw [hv1]
    match j,hj with
    |0,hj=>simpa using hj
    |1,hj=>simpa using hj
    |j+2,hj=>simp at hj) (by simp;omega) (fun u hu=>by
    rcases List.mem_cons.1 hu with rfl|hu
    ·exact hx
    ·rcases List.mem_cons.1 hu with rfl|hu
     ·exact hy
     ·cases hu)
 have HE:Hid (W1.setRow g (splice L1 0 [x,y]).toArray=W1.setRow g (splice L1 0 [x,y]).toArray∧W1.heap[g]?=some (.cells L1.toArray 379 (0,0))∧(splice L1 0 [x,y]).take ((n+1)*2)=x :: y :: cur.toList.take (n*2)∧(splice L1 0 [x,y]).length=c*2∧w.grownBy W1 (some g)):=hid ⟨rfl,hg1,p1,by rw [p2,Array.length_toList,hsz],by
  rw [←hW1];exact ⟨rfl,rfl,rfl,by rw [hsr];exact Nat.le_refl _,fun k hk hn=>setRow_other w.drew g k _ (fun e=>hn (by rw [e]))⟩⟩
 generalize (splice L1 0 [x,y])=L2 at QBZ HE;clear hL1 hW1 hg1 hv1 p1 p2 hl4 hl3 h1 hz0 hzs hzb hi0;go_enter Tryz.func253,Tryz.ntmps253;go_wp2_with (simp only [hov]);go_region_law_o (refine Go.Proofs.step_copy_runI rfl _ _ 326 326 rfl _ _ (by simp [Act.eval,Act.put]) (by simp [Act.eval,Act.put]) (QBs _ _ _) ?_)
 go_wp2_with (at_builtin;refine Go.Proofs.wpList_copy_runI _ rfl _ _ 326 326 rfl _ _ rfl rfl (QBZ _ _) ?_);go_ret;refine ⟨rfl,L2.toArray,setRow_heap W1 g L1.toArray _ 379 _ HE.out.2.1,?_,?_,?_⟩
 ·have:=HE.out.2.2.2.1;simpa using this
 ·have:=HE.out.2.2.1;simpa using this
 ·have h:=HE.out.2.2.2.2
  exact ⟨h.os,h.tape,h.output,Nat.le_trans h.size (by rw [hsr];exact Nat.le_refl _),fun k hk hn=>(setRow_other W1 g k _ (fun e=>hn (by rw [e]))).trans (h.block k hk hn)⟩
end
section
open Go.RowKit
theorem QeV(z:Array Value)(k:Nat):(Builtin.zeroCells z k).size=k*z.size:=by simp [Builtin.zeroCells]
theorem QnQ(g n vb:Nat)(cur:Array Value)(x y:Value)(w:World)(hn:0<n)(QAK:n≤1000000)(hg:w.heap[g]?=some (.cells cur 379 (0,0)))(hsz:cur.size=n*2)
  (hv:w.heap[vb]?=some (.cells #[x,y] 379 (0,0))) (hx:x.oneCell'=true) (hy:y.oneCell'=true) (h1:∀ u∈cur.toList,u.oneCell'=true) :
  Calls Tryz.prog 253 #[.slice (some ⟨g,0,none⟩) n n,.int .i64 0,.slice (some ⟨vb,0,none⟩) 1 1] w fun e w'=>
   ∃ cap cur',e = .returned (.slice (some ⟨w.heap.size,0,none⟩) (n+1) cap)∧n+1≤cap∧cap≤maxLen∧w'.heap[w.heap.size]?=some (.cells cur' 379 (0,0))∧cur'.size=cap*2∧cur'.toList.take ((n+1)*2)=x :: y :: cur.toList∧Below w.heap.size w w':=by
 obtain ⟨i0,hi0,hz0,hzs,hzb⟩:=info_parts Qie;have u30:=Tryz.underlying326;have hs2:(Tryz.prog.info? 379).map (·.size)=some 2:=by kernel_rfl
 have hgl:g<w.heap.size:=(gsi hg).1;have hvl:vb<w.heap.size:=(gsi hv).1;have hold:(Builtin.firstCells i0.size 0 (.slice (some ⟨g,0,none⟩) 0 n)).run Tryz.prog w.drew = .ok ([]:List Value).toArray w.drew:=
  run_firstCells_some w.drew i0.size 0 ⟨g,0,none⟩ 0 n [] (by simp) (fun j v hj=>by simp at hj)
 obtain ⟨G,hG⟩:∃ G,G=grownCap w (0+(n+1)) n 379:=⟨_,rfl⟩;have hGn:n+1≤G:=by rw [hG];have:=grownCap_ge w (0+(n+1)) n 379;omega
 have hGm:G≤maxLen:=by rw [hG];exact grownCap_le_maxLen w _ _ _ (by unfold maxLen;omega)
 obtain ⟨ROW,hROW⟩:∃ ROW:Array Value,ROW=([]:List Value).toArray++Builtin.zeroCells (Value.agg #[.string ByteArray.empty,.string ByteArray.empty]).cells (n+1)++Builtin.zeroCells (Value.agg #[.string ByteArray.empty,.string ByteArray.empty]).cells (G-(0+(n+1))):=⟨_,rfl⟩;have hRs:ROW.size=G*2:=by
  rw [hROW,Array.size_append,Array.size_append,QeV,QeV];show 0+(n+1)*2+(G-(0+(n+1)))*2=_;omega
 obtain ⟨W1,hW1⟩:∃ W1,W1=w.drew.alloc (.cells ROW 379):=⟨_,rfl⟩;have hrz:∀ ty,(Builtin.append_ #[326,3] ty #[.slice (some ⟨g,0,none⟩) 0 n,.int .i64 ((n:Int)+1)]).run Tryz.prog w =
   .ok (.slice (some ⟨w.heap.size,0,none⟩) (n+1) G) W1:=fun ty=>by
  have h:=Lib.run_append_grow_zeros w 326 3 ty 379 i0 _ .i64 .i64 u30 Tryz.underlying3 hi0 hz0 (some ⟨g,0,none⟩) 0 n [] hold (n+1) (by omega) (by omega) (by omega) (by omega) (by rw [hzb];omega) (by rw [hzb];exact growslice_fits (by omega) (by omega))
  rw [←hG,←hROW,←hW1,Nat.zero_add] at h;exact h
 have hN1:W1.heap[w.heap.size]?=some (.cells ROW 379 (0,0)):=by rw [hW1];exact heap_alloc_new w.drew _
 have hB1:Below w.heap.size w W1:=by rw [hW1];exact ((Below.refl _ _).drew).alloc (Nat.le_refl _) _
 have hg1:W1.heap[g]?=some (.cells cur 379 (0,0)):=(hB1.block g hgl).trans hg;have hv1:W1.heap[vb]?=some (.cells #[x,y] 379 (0,0)):=(hB1.block vb hvl).trans hv;have hsr:∀ (W:World) k cs,(W.setRow k cs).heap.size=W.heap.size:=fun W k cs=>by simp [World.setRow]
 have QBs:∀ ty dc,(Builtin.copy_ #[326,326] ty #[.slice (some ⟨w.heap.size,0,none⟩) (n+1) dc,.slice (some ⟨vb,0,none⟩) 1 1]).run Tryz.prog W1 = .ok (goInt 1) (W1.setRow w.heap.size (splice ROW.toList 0 [x,y]).toArray):=fun ty dc=>
  Qbx W1 326 326 ty 379 2 1 w.heap.size 0 (n+1) dc ⟨vb,0,none⟩ 1 1 ROW 379 [x,y] u30 hs2 (by simp only [Nat.min_def];split<;>omega) rfl hN1
   (fun j u hj=>by
    rw [Addr.add_lit,Nat.zero_add];unfold World.cell?;rw [hv1]
    match j,hj with
    |0,hj=>simpa using hj
    |1,hj=>simpa using hj
    |j+2,hj=>simp at hj) (by simp;omega) (fun u hu=>by
    rcases List.mem_cons.1 hu with rfl|hu
    ·exact hx
    ·rcases List.mem_cons.1 hu with rfl|hu
     ·exact hy
     ·cases hu)
 obtain ⟨L1,hL1⟩:∃ L1,splice ROW.toList 0 [x,y]=L1:=⟨_,rfl⟩;rw [hL1] at QBs;have hL1s:L1.length=G*2:=by rw [←hL1,length_splice _ _ _ (by show 0+2≤ROW.toList.length;rw [Array.length_toList,hRs];omega),Array.length_toList,hRs]
 have hL1t:L1.take 2 = [x,y]:=by rw [←hL1];unfold splice;simp
 obtain ⟨W2,hW2⟩:∃ W2,W1.setRow w.heap.size L1.toArray=W2:=⟨_,rfl⟩;rw [hW2] at QBs;have hN2:W2.heap[w.heap.size]?=some (.cells L1.toArray 379 (0,0)):=by rw [←hW2];exact setRow_heap W1 _ ROW _ 379 _ hN1
 have hg2:W2.heap[g]?=some (.cells cur 379 (0,0)):=by rw [←hW2,setRow_other W1 _ g _ (by omega)];exact hg1
 have QBZ:∀ (W:World),W.heap=W2.heap→∀ ty dc sc,(Builtin.copy_ #[326,326] ty #[.slice (some ⟨w.heap.size,2,none⟩) n dc,.slice (some ⟨g,0,none⟩) n sc]).run Tryz.prog W = .ok (goInt n) (W.setRow w.heap.size (splice L1 2 cur.toList).toArray):=fun W hW ty dc sc=>
  Qbx W 326 326 ty 379 2 n w.heap.size 2 n dc ⟨g,0,none⟩ n sc L1.toArray 379 cur.toList u30 hs2 (by simp only [Nat.min_def];split<;>omega) (by rw [Array.length_toList,hsz]) (by rw [hW];exact hN2)
   (fun j u hj=>by
    rw [Addr.add_lit,Nat.zero_add];unfold World.cell?;rw [hW,hg2];simpa using hj) (by rw [Array.length_toList,hsz];simp;omega) h1
 have hB2:Below w.heap.size w W2:=by
  rw [←hW2];exact ⟨hB1.os,hB1.tape,hB1.output,by rw [hsr];exact hB1.size,fun k hk=>(setRow_other W1 _ k _ (by omega)).trans (hB1.block k hk)⟩
 have hfin:(splice L1 2 cur.toList).take ((n+1)*2)=x :: y :: cur.toList∧(splice L1 2 cur.toList).length=G*2:=by
  refine ⟨?_,by rw [length_splice _ _ _ (by rw [hL1s,Array.length_toList,hsz];omega),hL1s]⟩
  unfold splice;rw [hL1t];have:(n+1)*2=n*2+1+1:=by omega
  rw [this];simp only [List.cons_append,List.nil_append,List.take_succ_cons];rw [List.take_left' (by rw [Array.length_toList,hsz])]
 have HE:=hid (And.intro hN2 (And.intro hB2 hfin));have mixed:Tryz.prog.follows Departure.mixedOrders=true:=by kernel_rfl
 have hz2:¬((0:Int)=(n:Int)):=by omega
 have hz3:(n:Int)<(n:Int)+1:=by omega
 have hw1:IntKind.i64.wrap (1:Int)=1:=by decide
 have hb3:(1:Int)≤(n:Int)+1:=by omega
 have hb5:(0:Int)≤(n:Int)+1:=by omega
 have hb6:¬(G=1):=by omega
 have hb7:¬(G=0):=by omega
 have hb8:¬(n=0):=by omega
 unfold maxLen at hGm;have hG63:G≤9223372036854775807:=hGm;clear hG hROW hRs hW1 hN1 hB1 hg1 hv1 hL1 hL1s hL1t hW2 hN2 hg2 hB2 hfin hold hz0 hzs hzb hi0;go_enter Tryz.func253,Tryz.ntmps253;go_wp2_with (first
  |(at_builtin;refine Lib.wpList_append_run _ rfl _ _ _ _ rfl _ _ rfl rfl _ _ (hrz _) ?_)
  |(at_builtin;refine wpList_copy_runI _ rfl _ _ 326 326 rfl _ _ rfl rfl (QBs _ _) ?_)
  |(at_builtin;refine wpList_copy_runI _ rfl _ _ 326 326 rfl _ _ rfl rfl (QBZ _ (by rfl) _ _ _) ?_))
 go_region_law_o (refine step_copy_runI rfl _ _ 326 326 rfl (.slice (some ⟨w.heap.size,2,none⟩) n (G-1)) (.slice (some ⟨g,0,none⟩) n n) (by simp [Act.eval,Act.put]) (by simp [Act.eval,Act.put]) (QBZ _ (by rfl) _ _ _) ?_)
 go_wp2;go_ret;refine ⟨G,(splice L1 2 cur.toList).toArray,rfl,hGn,hGm,?_,?_,?_,?_⟩
 ·exact setRow_heap _ _ L1.toArray _ 379 _ HE.out.1
 ·have:=HE.out.2.2.2;simpa using this
 ·have:=HE.out.2.2.1;simpa using this
 ·have h:=HE.out.2.1
  exact ⟨h.os,h.tape,h.output,Nat.le_trans h.size (by rw [hsr];exact Nat.le_refl _),fun k hk=>(setRow_other _ _ k _ (by omega)).trans (h.block k hk)⟩
theorem QnP(v:Value)(vb base:Nat)(f:List UInt8×List UInt8)(w:World)(QAq:w.ownsRow base 379 2 v 0 [])(hv:w.heap[vb]?=some (.cells #[.string (bs f.1),.string (bs f.2)] 379 (0,0)))(QAv:base≤w.heap.size) :
  Calls Tryz.prog 253 #[v,.int .i64 0,.slice (some ⟨vb,0,none⟩) 1 1] w fun e w'=>∃ v',e = .returned v'∧w'.ownsRow base 379 2 v' 1 (Qau [f])∧w.grownBy w' v.ownBlock:=by
 obtain ⟨i0,hi,hz0,hz1,hz2⟩:=info_parts Qjw;obtain ⟨av,cv,rfl⟩:∃ a c,v = .slice a 0 c:=by
  rcases QAq.2 with ⟨rfl,-⟩|⟨g,cap,cur,rfl,-⟩
  ·exact ⟨_,_,rfl⟩
  ·exact ⟨_,_,rfl⟩
 have hO:=hid QAq;have hV:=hid hv;clear QAq hv;go_enter Tryz.func253,Tryz.ntmps253;go_wp2_with (at_builtin;go_loud (refine wpList_append_lies _ rfl _ _ 326 (by rfl) base 379 i0 _ 2 32 Tryz.underlying326 hi hz0 hz1 hz2 rfl (by decide) _ 0 [] (by rfl) hO.out ⟨vb,0,none⟩ 1 1 [.string (bs f.1),.string (bs f.2)] (by rfl) rfl (World.news_of_block hV.out) (by simp [Value.oneCell']) (by decide) (by decide) (by decide) QAv _ rfl ?_);intro g cap w1 h1 h2 h3 h4)
 go_ret;exact ⟨_,rfl,h1,h2⟩
theorem Qqu(v:Value)(fs:List (List UInt8×List UInt8))(f:List UInt8×List UInt8)(vb base:Nat)(w:World)(QAq:w.ownsRow base 379 2 v fs.length (Qau fs))(hv:w.heap[vb]?=some (.cells #[.string (bs f.1),.string (bs f.2)] 379 (0,0)))(hne:v.ownBlock≠some vb)(hl:fs.length≤1000000)(QAv:base≤w.heap.size) :
  Calls Tryz.prog 253 #[v,.int .i64 0,.slice (some ⟨vb,0,none⟩) 1 1] w fun e w'=>∃ v',e = .returned v'∧w'.ownsRow base 379 2 v' (fs.length+1) (Qau (f :: fs))∧w.grownBy w' v.ownBlock:=by
 by_cases hn:fs = []
 ·subst hn
  exact QnP v vb base f w QAq hv QAv
 ·have QAU:0<fs.length:=List.length_pos_iff.2 hn
  have hfl:=Qbt fs;rcases QAq.2 with ⟨-,h0⟩|⟨g,cap,cur,rfl,hb,hg,hle,hm,hs,ht⟩
  ·omega
  ·have hgl:g<w.heap.size:=(gsi hg).1
   have QAA:∀ u∈cur.toList.take (fs.length*2),u.oneCell'=true:=by rw [ht];exact QjG fs
   have hvg:vb≠g:=fun e=>hne (by rw [e];rfl)
   by_cases hr:fs.length+1≤cap
   ·refine (QnO g fs.length cap vb cur _ _ w QAU hr hm hg hs hv rfl rfl QAA hvg).mono ?_
    rintro e w' ⟨rfl,cur',h1,h2,h3,h4⟩;refine ⟨_,rfl,⟨by rw [Qbt,List.length_cons],.inr ⟨g,cap,cur',rfl,hb,h1,hr,hm,h2,?_⟩⟩,h4⟩
    rw [h3,ht];rfl
   ·obtain rfl:cap=fs.length:=by omega
    have hfull:cur.toList.take (fs.length*2)=cur.toList:=List.take_of_length_le (by rw [Array.length_toList,hs];exact Nat.le_refl _)
    rw [hfull] at ht QAA;refine (QnQ g fs.length vb cur _ _ w QAU hl hg hs hv rfl rfl QAA).mono ?_;rintro e w' ⟨cap,cur',rfl,h1,h2,h3,h4,h5,h6⟩;refine ⟨_,rfl,⟨by rw [Qbt,List.length_cons],.inr ⟨w.heap.size,cap,cur',rfl,QAv,h3,h1,h2,h4,?_⟩⟩,⟨h6.os,h6.tape,h6.output,h6.size,fun k hk _=>h6.block k hk⟩⟩
    rw [h5,ht];rfl
end
end Go.Proofs.YtilaebjndadkhaaGreatDoor
