/- What parts of the program compute: packed for TopReach. Conditions: none. -/
import Derived.Test.YtilaebjndadkhaaGreatDoorPz3
set_option linter.all false
set_option maxRecDepth 100000
set_option maxHeartbeats 8000000
open Go.Lib (hid)
namespace Go.Proofs.YtilaebjndadkhaaGreatDoor
section
def QcC:List UInt8→List (List UInt8)
 |[]=>[[]]
 |c :: r=>if c=32 then [] :: QcC r else match QcC r with
  |w :: ws=>(c :: w) :: ws
  |[]=>[[c]]
open Go.Lib in
theorem QcS(c:UInt8)(r:List UInt8):index (c :: r) [32]=if c=32 then 0 else if index r [32] == -1 then -1 else index r [32]+1:=by
 by_cases h:c=32
 ·subst h
  unfold index;simp
 ·rw [if_neg h]
  have h0 : [(32:UInt8)].isPrefixOf (c :: r)=false:=by simp [List.isPrefixOf];exact fun e=>h e.symm
  rw [index.eq_def];simp only [h0];rfl
open Go.Lib in
theorem Qm5(l:List UInt8):split l [32]=QcC l:=by
 induction l with
 |nil=>rfl
 |cons c r ih=>
  by_cases hc:c=32
  ·have hi:index (c :: r) [32]=(0:Nat):=by rw [QcS,if_pos hc];rfl
   unfold split;rw [count_hit (by simp) hi,Nat.add_comm,splitK,if_neg (by rw [hi];decide),hi,QcC,if_pos hc,←ih]
   rfl
  ·rw [QcC,if_neg hc]
   rcases index_spec r [32] with ⟨hm,_⟩|⟨i,hi,_⟩
   ·have h1:index (c :: r) [32] = -1:=by rw [QcS,if_neg hc,hm];rfl
    have e1:split (c :: r) [32] = [c :: r]:=by unfold split;rw [count_miss h1];rfl
    have e2:split r [32] = [r]:=by unfold split;rw [count_miss hm];rfl
    rw [e1,←ih,e2]
   ·have h1:index (c :: r) [32]=((i+1:Nat):Int):=by
     rw [QcS,if_neg hc,hi,if_neg (by simp<;>omega)];rfl
    have e1:split (c :: r) [32]=(c :: r.take i) :: splitK [32] 0 (count (r.drop (i+1)) [32]) (r.drop (i+1)):=by
     unfold split;rw [count_hit (by simp) h1,Nat.add_comm,splitK,if_neg (by rw [h1];simp<;>omega),h1]
     rfl
    have e2:split r [32]=(r.take i) :: splitK [32] 0 (count (r.drop (i+1)) [32]) (r.drop (i+1)):=by
     unfold split;rw [count_hit (by simp) hi,Nat.add_comm,splitK,if_neg (by rw [hi];simp<;>omega),hi]
     rfl
    rw [e1,←ih,e2]
open Go.Lib in
theorem QgG(s:ByteArray):(splitB ⟨#[32]⟩ 0 (countB s ⟨#[32]⟩) s).map Value.string=Qe4 (QcC s.data.toList):=by
 have h:=splitB_data ⟨#[32]⟩ 0 (countB s ⟨#[32]⟩) s;have h2:splitK (⟨#[32]⟩:ByteArray).data.toList 0 (countB s ⟨#[32]⟩) s.data.toList=QcC s.data.toList:=Qm5 s.data.toList;rw [h2] at h;unfold Qe4;rw [←h,List.map_map];apply List.map_congr_left;intro x _;simp only [Function.comp_apply,Qcx]
open Go.Lib in
theorem QgU(s:ByteArray):countB s ⟨#[32]⟩+1=(QcC s.data.toList).length:=by
 have h:=QgG s;have h2:=congrArg List.length h;rw [QcY,List.length_map] at h2;rw [←h2];have h3:=splitB_data ⟨#[32]⟩ 0 (countB s ⟨#[32]⟩) s;have key:∀ l:List UInt8,(split l [32]).length=count l [32]+1:=by
  intro l
  induction l with
  |nil=>rfl
  |cons c r ih=>
   rcases index_spec (c :: r) [32] with ⟨hm,_⟩|⟨i,hi,_⟩
   ·have e1:split (c :: r) [32] = [c :: r]:=by unfold split;rw [count_miss hm];rfl
    rw [e1,count_miss hm];rfl
   ·by_cases hc:c=32
    ·have hi0:index (c :: r) [32]=(0:Nat):=by rw [QcS,if_pos hc];rfl
     have e2:split (c :: r) [32] = [] :: split r [32]:=by
      unfold split;rw [count_hit (by simp) hi0,Nat.add_comm,splitK,if_neg (by rw [hi0];decide),hi0];rfl
     rw [e2,count_hit (by simp) hi0,List.length_cons,ih]
     show _=1+count r [32]+1;omega
    ·rcases index_spec r [32] with ⟨hm,_⟩|⟨j,hj,_⟩
     ·have h1:index (c :: r) [32] = -1:=by rw [QcS,if_neg hc,hm];rfl
      rw [h1] at hi;omega
     ·have h1:index (c :: r) [32]=((j+1:Nat):Int):=by
       rw [QcS,if_neg hc,hj,if_neg (by simp<;>omega)];rfl
      have e1:split (c :: r) [32]=(c :: r.take j) :: splitK [32] 0 (count (r.drop (j+1)) [32]) (r.drop (j+1)):=by
       unfold split;rw [count_hit (by simp) h1,Nat.add_comm,splitK,if_neg (by rw [h1];simp<;>omega),h1]
       rfl
      have e2:split r [32]=(r.take j) :: splitK [32] 0 (count (r.drop (j+1)) [32]) (r.drop (j+1)):=by
       unfold split;rw [count_hit (by simp) hj,Nat.add_comm,splitK,if_neg (by rw [hj];simp<;>omega),hj]
       rfl
      have e3:count (c :: r) [32]=count r [32]:=by
       rw [count_hit (by simp) h1,count_hit (by simp) hj];rfl
      rw [e1,e3,←ih,e2];rfl
 have h4:=key s.data.toList;have h5:=congrArg List.length h3;rw [List.length_map] at h5;rw [h5];exact h4.symm
end
section
open Go.RowKit
def Qdd:Nat→ByteArray→Int→List (List UInt8)→List (List UInt8)×Int×Nat
 |0,_,_,_=>([],0,21)
 |f+1,s,a,xs=>if Qbg s a≠0 then ([],0,Qbg s a) else if (QaL s a).toList.isEmpty=true then (xs,Qbj s a,0)
   else if xs.length=17 then ([],0,21) else Qdd f s (Qbj s a) (xs++[(QaL s a).data.toList])
def Qas(s:ByteArray):List (List UInt8)×Int×Nat:=Qdd 18 s 0 []
theorem Ql0(f:Nat)(s:ByteArray)(a:Int)(xs:List (List UInt8))(h:Qbg s a≠0):Qdd (f+1) s a xs=([],0,Qbg s a):=by rw [Qdd,if_pos h]
theorem Qif(f:Nat)(s:ByteArray)(a:Int)(xs:List (List UInt8))(h:Qbg s a=0)(h2:(QaL s a).toList.isEmpty=true):Qdd (f+1) s a xs=(xs,Qbj s a,0):=by
 rw [Qdd,if_neg (by simp [h]),if_pos h2]
theorem Qjy(f:Nat)(s:ByteArray)(a:Int)(xs:List (List UInt8))(h:Qbg s a=0)(h2:(QaL s a).toList.isEmpty=false)(h3:xs.length=17):Qdd (f+1) s a xs=([],0,21):=by
 rw [Qdd,if_neg (by simp [h]),if_neg (by simp [h2]),if_pos h3]
theorem Qgr(f:Nat)(s:ByteArray)(a:Int)(xs:List (List UInt8))(h:Qbg s a=0)(h2:(QaL s a).toList.isEmpty=false)(h3:xs.length≠17):Qdd (f+1) s a xs=Qdd f s (Qbj s a) (xs++[(QaL s a).data.toList]):=by
 rw [Qdd,if_neg (by simp [h]),if_neg (by simp [h2]),if_neg h3]
def QeO(s:ByteArray)(w:World)(e:Ending)(w':World):Prop:=
 ∃ v,e = .returned (.tuple #[v,.int .i64 (Qas s).2.1,.int .i64 (Qas s).2.2])∧w'.ownsRow w.heap.size 9 1 v (Qas s).1.length (Qe4 (Qas s).1)∧Below w.heap.size w w'
def QyE(s:ByteArray)(w:World)(v j:Value)(wr:World):Prop:=
 ∃ (a:Int) (xs:List (List UInt8)),xs.length≤17∧j = .int .i64 a∧wr.ownsRow w.heap.size 9 1 v xs.length (Qe4 xs)∧Below w.heap.size w wr∧Qdd (18-xs.length) s a xs=Qas s
theorem QkO(s:ByteArray)(w w':World)(v:Value)(n:Int)(e:Nat)(xs:List (List UInt8))(h:Qas s=(xs,n,e))(QAq:w'.ownsRow w.heap.size 9 1 v xs.length (Qe4 xs))(hb:Below w.heap.size w w') :
  QeO s w (.returned (.tuple #[v,.int .i64 n,.int .i64 e])) w':=by
 unfold QeO;rw [h];exact ⟨v,rfl,QAq,hb⟩
theorem Qbe{w:World}{base n:Nat}{e:TypeId}{size:Nat}{v:Value}{xs:List Value}(h:w.ownsRow base e size v n xs):∃ a c,v = .slice a n c:=by
 rcases h.2 with ⟨rfl,rfl⟩|⟨g,cap,cur,rfl,_⟩
 ·exact ⟨_,_,rfl⟩
 ·exact ⟨_,_,rfl⟩
def Qy1(v:Value):Nat:=match v with
 | .slice _ n _=>18-n
 |_=>0
theorem Qgn(s:ByteArray)(w:World)(hs:s.size≤9223372036854775807) :
  Calls Tryz.prog 222 #[.string s] w (QeO s w):=by
 go_enter Tryz.func222,Tryz.ntmps222;go_wp2_with fail;go_loopw [2,5] (fun v j wr=>QyE s w v j wr) (fun v _ _=>Qy1 v)
 case atStart=>exact ⟨0,[],by simp,rfl,World.ownsRow_nil _ _ _ _,Below.refl _ _,rfl⟩
 case round=>
  obtain ⟨a,xs,hx,rfl,QAq,hb,hr⟩:=hrel;obtain ⟨av,cv,rfl⟩:=Qbe QAq;obtain ⟨f,hf⟩:∃ f,18-xs.length=f+1:=⟨17-xs.length,by omega⟩
  rw [hf] at hr
  by_cases he:Qbg s a=0
  ·have he':((Qbg s a:Nat):Int)=0:=by omega
   by_cases hl:(QaL s a).toList.isEmpty=true
   ·have H:=hid ((Qif f s a xs he hl).symm.trans hr)
    have Hf:=hid hf;clear hr hf he;go_wp2_with (go_at_call 265;refine (QeG _ _ _ hs).mono ?_;rintro e w' ⟨rfl,rfl⟩);go_ret3;exact QkO s w _ _ _ 0 xs H.out.symm QAq hb
   ·have hl':(QaL s a).toList.isEmpty=false:=by simpa using hl
    clear hl
    by_cases h17:xs.length=17
    ·have H:=hid ((Qjy f s a xs he hl' h17).symm.trans hr)
     have Hf:=hid hf;have hd:16<xs.length:=by omega
     have H17:=hid h17;clear hr hf he h17;go_wp2_with (go_at_call 265;refine (QeG _ _ _ hs).mono ?_;rintro e w' ⟨rfl,rfl⟩);go_ret3;exact QkO s w _ _ _ 21 [] H.out.symm (World.ownsRow_nil _ _ _ _) hb
    ·have H:=hid ((Qgr f s a xs he hl' h17).symm.trans hr)
     have Hf:=hid hf;have hd:xs.length<17:=by omega
     have hd2:xs.length≤16:=by omega
     clear hr hf he h17;have He:=hid (Qcx (QaL s a)).symm;go_wp2_with (first
      |(go_at_call 265;refine (QeG _ _ _ hs).mono ?_;rintro e w' ⟨rfl,rfl⟩)
      |(at_builtin;refine Qra _ (by rfl) _ _ (by rfl) w.heap.size _ xs (by rfl) QAq (QaL s a) (QaL s a).data.toList He.out (by rfl) (by omega) hb.size ?_;intro v' w1 QAt hg1 hne1))
     have hb1:=Qf0 hb hg1 QAq (Nat.le_refl _) hb.size;have hlen:(xs++[(QaL s a).data.toList]).length=xs.length+1:=by simp
     obtain ⟨av',cv',rfl⟩:=Qbe QAt;go_roundw
     case rel=>exact ⟨Qbj s a,xs++[(QaL s a).data.toList],by omega,rfl,QAt,hb1,by rw [←H.out,hlen];congr 1;have:=Hf.out;omega⟩
     case measure=>simp [Qy1];omega
  ·have he':(((Qbg s a:Nat):Int) != 0)=true:=by rw [bne_iff_ne];omega
   have H:=hid ((Ql0 f s a xs he).symm.trans hr);have Hf:=hid hf;clear hr hf he;go_wp2_with (go_at_call 265;refine (QeG _ _ _ hs).mono ?_;rintro e w' ⟨rfl,rfl⟩);go_ret3;exact QkO s w _ _ _ _ [] H.out.symm (World.ownsRow_nil _ _ _ _) hb
end
section
open Go.RowKit
def QhU(x:List UInt8):Prop:=∀ c∈x,Qaz c.toNat=true
def QcK:List (List UInt8)→List UInt8
 |[]=>[]
 |x :: t=>x++13 :: 10 :: QcK t
theorem Qff(l m:List (List UInt8)):QcK (l++m)=QcK l++QcK m:=by
 induction l with
 |nil=>rfl
 |cons x t ih=>simp [QcK,ih]
theorem QrM(x rest:List UInt8):∀ n,QhU x→n+x.length≤256→scan (x++13 :: 10 :: rest) n=(n+x.length,0):=by
 induction x with
 |nil=>intro n _ _;rw [List.nil_append,scan,if_neg (by simp),if_pos (by simp)];rfl
 |cons c t ih=>
  intro n hp hl;have hc:=hp c (List.mem_cons_self ..);have h13:c≠13:=fun e=>by rw [e] at hc;exact absurd hc (by decide)
  rw [List.cons_append,scan,if_neg (by simp [h13]),if_neg (by simp [h13]),if_neg (by simp [hc]),if_neg (by simp at hl;omega),ih (n+1) (fun c h=>hp c (List.mem_cons_of_mem _ h)) (by simp at hl;omega)]
  simp;omega
theorem Qlc(s:ByteArray)(pre x rest:List UInt8)(hs:s.data.toList=pre++(x++13 :: 10 :: rest))(hp:QhU x)(hl:x.length≤256) :
  Qbg s (pre.length:Int)=0∧QaL s (pre.length:Int)=bs x∧Qbj s (pre.length:Int)=((pre++(x++[13,10])).length:Int):=by
 have hsz:pre.length≤s.size:=by rw [←Qab,hs];simp
 have hsc:Qcb s.data.toList pre.length 0=(x.length,0):=by
  unfold Qcb;rw [hs,List.drop_left,QrM x rest 0 hp (by omega)];simp
 have he:Qbg s (pre.length:Int)=0:=by rw [QeB s _ hsz,hsc]
 refine ⟨he,?_,?_⟩
 ·unfold QaL
  rw [if_pos he,Int.toNat_natCast,hsc,Qcw,hs]
  congr 1
  rw [←List.append_assoc,←List.length_append,List.take_left,List.drop_left]
 ·unfold Qbj
  rw [if_pos he,Int.toNat_natCast,hsc];simp;omega
theorem Qgp(x:List UInt8):(bs x).toList.isEmpty=x.isEmpty:=by rw [ByteArray.toList_eq,Qaj]
def QfK(x:List UInt8):Prop:=x≠[]∧QhU x∧x.length≤256
theorem Qtf(s:ByteArray)(rest:List UInt8):∀ (ls:List (List UInt8)) (pre:List UInt8) (xs:List (List UInt8)) (f:Nat),(∀ x∈ls,QfK x)→xs.length+ls.length≤17→f+xs.length=18→
  s.data.toList=pre++(QcK ls++13 :: 10 :: rest)→Qdd f s (pre.length:Int) xs=(xs++ls,((pre++QcK ls).length:Int)+2,0):=by
 intro ls
 induction ls with
 |nil=>
  intro pre xs f _ hle hf hs;obtain ⟨f,rfl⟩:∃ g,f=g+1:=⟨f-1,by simp at hle;omega⟩
  obtain ⟨h1,h2,h3⟩:=Qlc s pre [] rest (by simpa [QcK] using hs) (fun c h=>by simp at h) (by simp)
  rw [Qif f s _ xs h1 (by rw [h2,Qgp];rfl),h3]
  simp [QcK]
 |cons x t ih=>
  intro pre xs f hg hle hf hs;obtain ⟨hx0,hxp,hxl⟩:=hg x (List.mem_cons_self ..);obtain ⟨f,rfl⟩:∃ g,f=g+1:=⟨f-1,by simp at hle;omega⟩
  have hs':s.data.toList=pre++(x++13 :: 10 :: (QcK t++13 :: 10 :: rest)):=by rw [hs];simp [QcK]
  obtain ⟨h1,h2,h3⟩:=Qlc s pre x _ hs' hxp hxl;rw [Qgr f s _ xs h1 (by rw [h2,Qgp];cases x<;>simp_all) (by simp at hle;omega),h3,h2,Qaj]
  rw [ih (pre++(x++[13,10])) (xs++[x]) f (fun y hy=>hg y (List.mem_cons_of_mem _ hy)) (by simp at hle ⊢;omega) (by simp;omega) (by rw [hs'];simp)]
  simp [QcK]
theorem Qc0(x:List UInt8)(h:Qa0 x=0):QhU x∧x.length≤256:=by
 unfold Qa0 at h;split at h
 ·cases h
 ·rename_i h1
  split at h
  ·cases h
  ·refine ⟨fun c hc=>?_,by omega⟩
   have h2:(x.all fun c=>Qaz c.toNat)=true:=by simpa using h1
   exact List.all_eq_true.1 h2 c hc
end
section
open Go.RowKit
theorem QbT(c:UInt8):Qih.contains c=Qtp c:=by
 unfold Qih Qtp;simp only [List.contains,List.elem];cases (c==32)<;>cases (c==9)<;>rfl
theorem Qjb(g:UInt8)(X:List UInt8)(h:Qtp g=true):Go.Lib.trimS (g :: X) Qih=Go.Lib.trimS X Qih:=by
 have hg:Qih.contains g=true:=(QbT g).trans h;unfold Go.Lib.trimS Go.Lib.trimRightS Go.Lib.trimLeftS;rw [List.reverse_cons,List.dropWhile_append];split
 ·rename_i he
  rw [List.isEmpty_iff] at he;rw [he,List.dropWhile_cons_of_pos hg];rfl
 ·rw [List.reverse_append]
  show List.dropWhile _ (g :: _)=_;rw [List.dropWhile_cons_of_pos hg];rfl
theorem QpA(X:List UInt8)(g:UInt8)(h:Qtp g=true):Go.Lib.trimS (X++[g]) Qih=Go.Lib.trimS X Qih:=by
 have hg:Qih.contains g=true:=(QbT g).trans h;unfold Go.Lib.trimS Go.Lib.trimRightS;rw [List.reverse_append];show Go.Lib.trimLeftS (List.dropWhile _ (g :: _)).reverse _=_;rw [List.dropWhile_cons_of_pos hg];rfl
theorem QjW(X:List UInt8):(Go.Lib.trimS X Qih).length≤X.length:=by
 unfold Go.Lib.trimS Go.Lib.trimRightS Go.Lib.trimLeftS;refine Nat.le_trans (List.dropWhile_suffix _).length_le ?_;rw [List.length_reverse];refine Nat.le_trans (List.dropWhile_suffix _).length_le ?_;rw [List.length_reverse];exact Nat.le_refl _
def Qcv(X:List UInt8):Bool:=match X with|[]=>false|c :: _=>Qtp c
def Qgk(X:List UInt8):Bool:=!Qcv X && !Qcv X.reverse
theorem QpB(X:List UInt8)(h1:Qcv X=false)(h2:Qcv X.reverse=false):Go.Lib.trimS X Qih=X:=by
 have key:∀ Y:List UInt8,Qcv Y=false→Y.dropWhile (Qih.contains ·)=Y:=by
  intro Y h;cases Y with
  |nil=>rfl
  |cons c t=>exact List.dropWhile_cons_of_neg (by rw [QbT];show ¬Qtp c=true;rw [show Qtp c=false from h];decide)
 unfold Go.Lib.trimS Go.Lib.trimRightS Go.Lib.trimLeftS;rw [key _ h2,List.reverse_reverse,key _ h1]
theorem Qhr(X:List UInt8):Go.Lib.trimS X Qih=X↔Qgk X=true:=by
 unfold Qgk;constructor
 ·intro h
  have a:Qcv X=false:=by
   cases X with
   |nil=>rfl
   |cons c t=>
    rw [Bool.eq_false_iff];intro hc;have:=QjW t;rw [←Qjb c t hc,h] at this;simp at this;omega
  have b:Qcv X.reverse=false:=by
   cases hr:X.reverse with
   |nil=>rfl
   |cons c t=>
    rw [Bool.eq_false_iff];intro hc;have e:X=t.reverse++[c]:=by rw [←List.reverse_reverse X,hr,List.reverse_cons]
    have:=QjW t.reverse;rw [←QpA t.reverse c hc,←e,h,e] at this;simp at this;omega
  rw [a,b];rfl
 ·intro h
  simp only [Bool.and_eq_true,Bool.not_eq_true'] at h;exact QpB X h.1 h.2
def Qhx(v:List UInt8):List UInt8:=if v.isEmpty then [] else 32 :: v
def QaT(n v:List UInt8):List UInt8:=Qfi true n++58 :: Qhx v
def Qby(n v:List UInt8):Bool:=QdO n&&Qa1 v&&Qgk v
def QaI(n v:List UInt8):Nat:=if Qby n v=true then (if 256<(QaT n v).length then 5 else 0) else 4
def QfN(n v:List UInt8):List UInt8:=if QaI n v=0 then QaT n v else []
theorem QjZ(b:Bool)(l:List UInt8):(Qfi b l).length=l.length:=by
 induction l generalizing b with
 |nil=>rfl
 |cons c t ih=>simp [Qfi,ih]
theorem QmX(t v:List UInt8)(h:Qgk v=true):Go.Lib.trimRightS (t++[58,32]++v) Qih=t++58 :: Qhx v:=by
 unfold Go.Lib.trimRightS Qhx;cases hv:v with
 |nil=>
  simp only [List.isEmpty_nil,if_true];have e:(t++[58,32]++[]).reverse=32 :: 58 :: t.reverse:=by simp
  rw [e,List.dropWhile_cons_of_pos (by decide),List.dropWhile_cons_of_neg (by decide)]
  simp
 |cons a r=>
  rw [←hv];have hb:Qcv v.reverse=false:=by
   unfold Qgk at h;simp only [Bool.and_eq_true,Bool.not_eq_true'] at h;exact h.2
  have e:(t++[58,32]++v).reverse=v.reverse++(32 :: 58 :: t.reverse):=by simp
  rw [e];cases hr:v.reverse with
  |nil=>rw [List.reverse_eq_nil_iff.1 hr] at hv;exact absurd hv (by simp)
  |cons c u=>
   rw [hr] at hb;rw [List.cons_append,List.dropWhile_cons_of_neg (by rw [QbT];rw [show Qtp c=false from hb];decide),←List.cons_append,←hr,List.reverse_append]
   simp [hv]
end
section
open Go.RowKit
theorem Qwt(m t:List UInt8)(h:∀ c∈m,c≠58):Qaq (m++58 :: t)=m:=by
 unfold Qaq;rw [List.takeWhile_append_of_pos (fun c hc=>by simpa using h c hc),List.takeWhile_cons_of_neg (by decide),List.append_nil]
theorem QuW(m n v t:List UInt8)(h:∀ c∈m,c≠58)(hm:Qa1 m=true)(ht:Qa1 t=true)(hn:QdO n=true)(e:m.map Qd2=n)(hv:Go.Lib.trimS t Qih=v) :
  Qa8 (m++58 :: t)=n∧Qa7 (m++58 :: t)=v∧Qa9 (m++58 :: t)=0:=by
 have ha:=Qwt m t h;have QBT:QbM (m++58 :: t)=n:=by unfold QbM;rw [ha,e]
 have hval:QdK (m++58 :: t)=v:=by
  unfold QdK;rw [ha];rw [show (m++58 :: t).drop (m.length+1)=t by
   rw [←List.drop_drop,List.drop_left];rfl]
  exact hv
 have hok:Qcp (m++58 :: t)=true:=by
  unfold Qcp;rw [QBT,hn,ha];have hp:Qa1 (m++58 :: t)=true:=by
   unfold Qa1 at hm ht ⊢;rw [List.all_append,hm,List.all_cons,ht];rfl
  rw [hp,decide_eq_true (by simp)];rfl
 unfold Qa8 Qa7 Qa9;rw [hok];exact ⟨QBT,hval,rfl⟩
theorem QfD(n:Nat)(h:QaV n=true):(97≤n∧n≤122)∨(48≤n∧n≤57)∨n=45:=by
 rcases Qny n with ⟨a,b,_⟩|⟨a,b,_⟩|⟨a,_⟩|⟨_,_,c⟩|⟨_,_,c⟩|⟨_,c⟩
 ·exact .inl ⟨a,b⟩
 ·exact .inr (.inl ⟨a,b⟩)
 ·exact .inr (.inr a)
 ·rw [c] at h;exact absurd h (by decide)
 ·rw [c] at h;exact absurd h (by decide)
 ·rw [c] at h;exact absurd h (by decide)
theorem Qvn(n:Nat):QiM n=true↔97≤n∧n≤122:=by
 unfold QiM;simp
theorem Qf8(b:Bool)(n:Nat)(h:QaV n=true):QgY b n=n∨(97≤n∧n≤122∧QgY b n=n-32):=by
 unfold QgY;split
 ·rename_i hb
  simp only [Bool.and_eq_true] at hb;have:=(Qvn n).1 hb.2;exact .inr ⟨this.1,this.2,rfl⟩
 ·exact .inl rfl
theorem Qg9(b:Bool)(c:UInt8)(h:QaV c.toNat=true):(UInt8.ofNat (QgY b c.toNat)).toNat=QgY b c.toNat:=by
 rw [UInt8.toNat_ofNat'];have:=QfD _ h;rcases Qf8 b _ h with e|⟨_,_,e⟩<;>rw [e]<;>omega
theorem Qrt(b:Bool)(c:UInt8)(h:QaV c.toNat=true):Qd2 (UInt8.ofNat (QgY b c.toNat))=c:=by
 unfold Qd2;rw [Qg9 b c h];have hb:=QfD _ h;apply UInt8.toNat_inj.1;rw [UInt8.toNat_ofNat'];unfold Qd1;rcases Qf8 b _ h with e|⟨a1,a2,e⟩
 ·rw [e,if_neg (by omega)];omega
 ·rw [e,if_pos (by omega)];omega
theorem Qei(n:Nat)(h1:32≤n)(h2:n≤126):Qaz n=true:=by
 unfold Qaz;rw [decide_eq_true h1,decide_eq_true h2];simp
theorem Qru(b:Bool)(c:UInt8)(h:QaV c.toNat=true):Qaz (UInt8.ofNat (QgY b c.toNat)).toNat=true∧UInt8.ofNat (QgY b c.toNat)≠58:=by
 rw [Qg9 b c h];have hb:=QfD _ h;rcases Qf8 b _ h with e|⟨a1,a2,e⟩
 ·refine ⟨by rw [e];exact Qei _ (by omega) (by omega),fun he=>?_⟩
  have:=congrArg UInt8.toNat he;rw [Qg9 b c h,e] at this;have:(58:UInt8).toNat=58:=rfl;omega
 ·refine ⟨by rw [e];exact Qei _ (by omega) (by omega),fun he=>?_⟩
  have:=congrArg UInt8.toNat he;rw [Qg9 b c h,e] at this;have:(58:UInt8).toNat=58:=rfl;omega
theorem QpD(b:Bool)(l:List UInt8)(h:∀ c∈l,QaV c.toNat=true):(Qfi b l).map Qd2=l:=by
 induction l generalizing b with
 |nil=>rfl
 |cons c t ih=>
  show Qd2 _ :: (Qfi _ t).map Qd2=c :: t;rw [Qrt b c (h c (List.mem_cons_self ..)),ih _ (fun d hd=>h d (List.mem_cons_of_mem _ hd))]
theorem Qjd(b:Bool)(l:List UInt8)(h:∀ c∈l,QaV c.toNat=true):Qa1 (Qfi b l)=true∧∀ c∈Qfi b l,c≠58:=by
 induction l generalizing b with
 |nil=>exact ⟨rfl,fun c hc=>by simp [Qfi] at hc⟩
 |cons c t ih=>
  have h1:=Qru b c (h c (List.mem_cons_self ..));have h2:=ih (stB c) (fun d hd=>h d (List.mem_cons_of_mem _ hd))
  constructor
  ·show Qa1 (_ :: _)=true
   unfold Qa1 at h2 ⊢;rw [List.all_cons,h1.1,h2.1];rfl
  ·intro d hd
   change d∈UInt8.ofNat (QgY b c.toNat) :: Qfi (stB c) t at hd;rcases List.mem_cons.1 hd with rfl|hd
   ·exact h1.2
   ·exact h2.2 d hd
theorem Qh4(n:List UInt8)(h:QdO n=true):(∀ c∈n,QaV c.toNat=true)∧n≠[]∧n.length≤32:=by
 unfold QdO at h;simp only [Bool.and_eq_true,Bool.not_eq_true',decide_eq_true_eq,List.all_eq_true] at h;exact ⟨h.2,fun e=>by rw [e] at h;exact absurd h.1.1 (by decide),h.1.2⟩
theorem QhT(n v:List UInt8)(h:Qby n v=true):QdO n=true∧Qa1 v=true∧Qgk v=true:=by
 unfold Qby at h;simp only [Bool.and_eq_true] at h;exact ⟨h.1.1,h.1.2,h.2⟩
theorem Qfa(n v:List UInt8)(h:QaI n v=0):Qby n v=true∧(QaT n v).length≤256:=by
 unfold QaI at h;split at h
 ·split at h
  ·exact absurd h (by decide)
  ·exact ⟨by assumption,by omega⟩
 ·exact absurd h (by decide)
theorem Qhw(v:List UInt8)(h:Qa1 v=true):Qa1 (Qhx v)=true:=by
 unfold Qhx;split
 ·rfl
 ·unfold Qa1 at h ⊢;rw [List.all_cons,h];rfl
theorem Qpz(v:List UInt8)(h:Qgk v=true):Go.Lib.trimS (Qhx v) Qih=v:=by
 unfold Qhx;split
 ·rename_i he;rw [List.isEmpty_iff] at he;rw [he];rfl
 ·rw [Qjb 32 v (by decide)];exact (Qhr v).2 h
theorem QdJ(n v:List UInt8)(h:Qby n v=true):Qa8 (QaT n v)=n∧Qa7 (QaT n v)=v∧Qa9 (QaT n v)=0:=by
 obtain ⟨h1,h2,h3⟩:=QhT n v h;obtain ⟨ha,hne,hlen⟩:=Qh4 n h1;obtain ⟨p1,p2⟩:=Qjd true n ha;exact QuW _ n v _ p2 p1 (Qhw v h2) h1 (QpD true n ha) (Qpz v h3)
theorem Qr7(n v:List UInt8)(h:QaI n v=0):Qa0 (QaT n v)=0:=by
 obtain ⟨hk,hl⟩:=Qfa n v h;obtain ⟨h1,h2,h3⟩:=QhT n v hk;obtain ⟨ha,hne,hlen⟩:=Qh4 n h1;obtain ⟨p1,p2⟩:=Qjd true n ha;have hp:Qa1 (QaT n v)=true:=by
  have ht:=Qhw v h2;unfold QaT;unfold Qa1 at p1 ht ⊢;rw [List.all_append,p1,List.all_cons,ht];rfl
 unfold Qa0;unfold Qa1 at hp;rw [hp,if_neg (by decide),if_neg (by omega)]
end
section
open Go.RowKit
def Qcu(p:List UInt8):List UInt8:=[71,69,84,32]++p++[32,72,84,84,80,47,49,46,49]
def Qdb(h:List UInt8):List UInt8:=[72,111,115,116,58,32]++h
def Qdo(a b:Int):List UInt8:=[82,97,110,103,101,58,32]++QgD a b
def Qlo(p h:List UInt8)(a b:Int):List UInt8:=QcK [Qcu p,Qdb h,Qdo a b]++[13,10]
def QoP(p h:List UInt8)(a b:Int):List (List UInt8):=[Qcu p,Qdb h,Qdo a b,[]]
def QiH(p h:List UInt8)(a b:Int):List UInt8:=if QgE p h a b=0 then Qlo p h a b else []
theorem QeA(p h:List UInt8)(a b:Int)(he:QgE p h a b=0):QeR p=true∧Qen h=true∧Qc9 a b=0:=by
 unfold QgE at he;split at he
 ·exact absurd he (by decide)
 ·rename_i hn
  refine ⟨?_,?_,he⟩
  ·cases e:QeR p with
   |false=>exact absurd (.inl e) hn
   |true=>rfl
  ·cases e:Qen h with
   |false=>exact absurd (.inr e) hn
   |true=>rfl
theorem QhW(p:List UInt8)(h:QeR p=true):p.length≤64∧(∀ c∈p,Qdy c.toNat=true)∧p≠[]:=by
 unfold QeR at h;simp only [Bool.and_eq_true,decide_eq_true_eq,List.all_eq_true] at h;refine ⟨h.1.2,h.2,?_⟩;intro e;rw [e] at h;exact absurd h.1.1 (by decide)
theorem QfG(p:List UInt8)(h:Qen p=true):p.length≤32∧(∀ c∈p,QeT c.toNat=true)∧p≠[]:=by
 unfold Qen at h;simp only [Bool.and_eq_true,decide_eq_true_eq,List.all_eq_true,Bool.not_eq_true',List.isEmpty_eq_false_iff] at h;exact ⟨h.1.2,h.2,h.1.1⟩
theorem Qnq(x:Nat)(h:Qdy x=true):Qaz x=true∧x≠32:=by
 unfold Qdy at h;simp only [Bool.and_eq_true,decide_eq_true_eq] at h;exact ⟨Qei x (by omega) (by omega),by omega⟩
theorem Qe7(x:Nat)(h:QeT x=true):Qaz x=true∧x≠32:=by
 unfold QeT QiM Qes at h;simp only [Bool.or_eq_true,Bool.and_eq_true,decide_eq_true_eq,beq_iff_eq] at h;exact ⟨Qei x (by omega) (by omega),by omega⟩
theorem Qov(l:List UInt8)(h:QhU l)(hl:l.length≤256):Qa0 l=0:=by
 unfold Qa0;rw [if_neg (by rw [List.all_eq_true.2 h];decide),if_neg (by omega)]
theorem Qgw(n:Int):QhU (Qfk n):=by
 intro c hc;unfold Qfk at hc;split at hc
 ·simp at hc
 ·have:=List.all_eq_true.1 (QcQ n.toNat) c hc
  unfold Qes at this;simp only [Bool.and_eq_true,decide_eq_true_eq] at this;exact Qei _ (by omega) (by omega)
theorem QlM(p:List UInt8)(h:QeR p=true):Qa0 (Qcu p)=0:=by
 obtain ⟨h1,h2,-⟩:=QhW p h;refine Qov _ ?_ (by unfold Qcu;simp;omega)
 intro c hc;unfold Qcu at hc;rw [List.mem_append,List.mem_append] at hc;rcases hc with (hc|hc)|hc
 ·exact (show ∀ d∈([71,69,84,32]:List UInt8),Qaz d.toNat=true by decide) c hc
 ·exact (Qnq _ (h2 c hc)).1
 ·exact (show ∀ d∈([32,72,84,84,80,47,49,46,49]:List UInt8),Qaz d.toNat=true by decide) c hc
theorem QlL(p:List UInt8)(h:Qen p=true):Qa0 (Qdb p)=0:=by
 obtain ⟨h1,h2,-⟩:=QfG p h;refine Qov _ ?_ (by unfold Qdb;simp;omega)
 intro c hc;unfold Qdb at hc;rw [List.mem_append] at hc;rcases hc with hc|hc
 ·exact (show ∀ d∈([72,111,115,116,58,32]:List UInt8),Qaz d.toNat=true by decide) c hc
 ·exact (Qe7 _ (h2 c hc)).1
theorem Qpm(a b:Int)(ha:a≤9223372036854775807)(hb:b≤9223372036854775807):(QgD a b).length≤47:=by
 unfold QgD;split
 ·rw [List.length_append];have:=Qht a b ha hb;have e:Qey.length=6:=rfl;omega
 ·exact Nat.zero_le _
theorem QjP(a b:Int):QhU (QgD a b):=by
 unfold QgD;split
 ·intro c hc
  unfold Qe3 at hc;rw [List.mem_append,List.mem_append,List.mem_cons] at hc;rcases hc with hc|hc|hc|hc
  ·exact (show ∀ d∈Qey,Qaz d.toNat=true by decide) c hc
  ·exact Qgw a c hc
  ·subst hc;decide
  ·exact Qgw b c hc
 ·intro c hc;simp at hc
theorem QlK(a b:Int)(ha:a≤9223372036854775807)(hb:b≤9223372036854775807):Qa0 (Qdo a b)=0:=by
 refine Qov _ ?_ (by unfold Qdo;have:=Qpm a b ha hb;simp;omega)
 intro c hc;unfold Qdo at hc;rw [List.mem_append] at hc;rcases hc with hc|hc
 ·exact (show ∀ d∈([82,97,110,103,101,58,32]:List UInt8),Qaz d.toNat=true by decide) c hc
 ·exact QjP a b c hc
theorem QfA(s:ByteArray)(w:World)(hs:s.size≤256)(h:Qa0 s.data.toList=0) :
  Calls Tryz.prog 181 #[.string s] w fun e w'=>e = .returned (.tuple #[.string (s++⟨#[13,10]⟩),.int .i64 0])∧w'=w:=by
 have:=QfE s w (by omega)
 unfold Qeh at this;rw [if_pos h,h] at this;exact this
theorem Qys(B:Nat)(x y z:ByteArray)(W:World)(hx:x.size≤1000000)(hy:y.size≤1000000)(hz:z.size≤1000000)(h0:W.cell? ⟨B,0,none⟩=some (.string x))(h1:W.cell? ⟨B,1,none⟩=some (.string y))(h2:W.cell? ⟨B,2,none⟩=some (.string z))(hB:B<W.heap.size) :
  Calls Tryz.prog 73 #[.slice (some ⟨B,0,none⟩) 3 3,.string ⟨#[32]⟩] W fun e w'=>e = .returned (.string (bs (x.data.toList++32 :: (y.data.toList++32 :: z.data.toList))))∧Below W.heap.size W w':=by
 have hj:Lib.join ([x,y,z].map (·.data.toList)) (ByteArray.mk #[32]).data.toList=x.data.toList++32 :: (y.data.toList++32 :: z.data.toList):=by
  simp [Lib.join]
 have:=Tryz.strings_Join B 0 3 [x,y,z] ⟨#[32]⟩ W (fun j u hj=>by
  match j,hj with
  |0,hj=>simp at hj;subst hj;exact h0
  |1,hj=>simp at hj;subst hj;exact h1
  |2,hj=>simp at hj;subst hj;exact h2) hB (by simp) (by simp) (by
   rw [hj];simp only [List.length_append,List.length_cons,Qab];omega)
 rw [hj] at this;exact this
theorem Qwl(x y z:ByteArray)(W:World)(hx:x.size≤1000000)(hy:y.size≤1000000)(hz:z.size≤1000000) :
  Calls Tryz.prog 73 #[.slice (some ⟨W.heap.size,0,none⟩) 3 3,.string ⟨#[32]⟩] (W.alloc (.cells #[.string x,.string y,.string z] 9)).drew fun e w'=>e = .returned (.string (bs (x.data.toList++32 :: (y.data.toList++32 :: z.data.toList))))∧Below (W.alloc (.cells #[.string x,.string y,.string z] 9)).drew.heap.size (W.alloc (.cells #[.string x,.string y,.string z] 9)).drew w':=by
 have hh:(W.alloc (.cells #[.string x,.string y,.string z] 9)).drew.heap[W.heap.size]?=some (.cells #[.string x,.string y,.string z] 9 (0,0)):=heap_alloc_new W _;refine Qys W.heap.size x y z _ hx hy hz ?_ ?_ ?_ (by simp)<;>(unfold World.cell?;rw [hh];rfl)
theorem QmB(p h:ByteArray)(a b:Int)(w:World)(hE:EnvF w)(ha0 : -9223372036854775808≤a)(ha:a≤9223372036854775807)(hb0 : -9223372036854775808≤b)(hb:b≤9223372036854775807) :
  Calls Tryz.prog 142 #[.agg #[.string p,.string h,.int .i64 a,.int .i64 b]] w fun e w'=>e = .returned (.tuple #[.string (bs (QiH p.data.toList h.data.toList a b)),.int .i64 (QgE p.data.toList h.data.toList a b:Nat)])∧Below w.heap.size w w':=by
 have HC:=hid (fun w=>Qdl p h a b w)
 have HA:=hid (fun w hE=>QpY a b w hE ha0 ha hb0 hb)
 have HE:=hid (hE.below (Qbp w (.string p) (.string h) (.int .i64 a) (.int .i64 b) 69));clear hE
 by_cases he:QgE p.data.toList h.data.toList a b=0
 ·obtain ⟨z1,z2,hr⟩:=QeA _ _ _ _ he
  have hp:p.size≤64:=by have:=(QhW _ z1).1;rwa [Qab] at this
  have hh:h.size≤32:=by have:=(QfG _ z2).1;rwa [Qab] at this
  have o1:=QlM _ z1;have o2:=QlL _ z2;have o3:=QlK a b ha hb;have HRQ:Hid (QiH p.data.toList h.data.toList a b=Qlo p.data.toList h.data.toList a b):=hid (if_pos he);rw [he] at HC ⊢;rw [hr] at HA;obtain ⟨Q,hQ⟩:∃ Q,bs (QgD a b)=Q:=⟨_,rfl⟩;rw [hQ] at HA;have hQs:Q.size≤47:=by rw [←hQ,QaC];exact Qpm a b ha hb
  have p1:=fun w=>run_string_add_sum (P:=Tryz.prog) w ⟨#[72,111,115,116,58,32]⟩ h (by show 6+_≤_;omega)
  have p2:=fun w=>run_string_add_sum (P:=Tryz.prog) w ⟨#[82,97,110,103,101,58,32]⟩ Q (by show 7+_≤_;omega)
  obtain ⟨L1,hL1⟩:∃ L1,bs (Qcu p.data.toList)=L1:=⟨_,rfl⟩;have e2:(⟨#[72,111,115,116,58,32]⟩:ByteArray)++h=bs (Qdb h.data.toList):=by
   rw [show (⟨#[72,111,115,116,58,32]⟩:ByteArray)=bs [72,111,115,116,58,32] from rfl]
   conv=>lhs;rw [←Qcx h]
   rw [QdD];rfl
  have e3:(⟨#[82,97,110,103,101,58,32]⟩:ByteArray)++Q=bs (Qdo a b):=by
   rw [show (⟨#[82,97,110,103,101,58,32]⟩:ByteArray)=bs [82,97,110,103,101,58,32] from rfl,←hQ,QdD];rfl
  have s1:L1.size≤77:=by rw [←hL1,QaC];unfold Qcu;have:=Qab p;simp only [List.length_append,List.length_cons,List.length_nil];omega
  have HX:Hid (∀ (W:World) (B:Nat),(W.cell? ⟨B,0,none⟩=some (.string L1)∧W.cell? ⟨B,1,none⟩=some (.string (⟨#[72,111,115,116,58,32]⟩++h))∧W.cell? ⟨B,2,none⟩=some (.string (⟨#[82,97,110,103,101,58,32]⟩++Q))∧W.cell? ⟨B,3,none⟩=some (.string ⟨#[]⟩))→∀ k,k<4→∀ O,O=bs (QcK ((QoP p.data.toList h.data.toList a b).take k))→
    ∃ X,W.cell? ⟨B,k,none⟩=some (.string X)∧X.size≤100∧(∀ w,Calls Tryz.prog 181 #[.string X] w fun e w'=>e = .returned (.tuple #[.string (X++⟨#[13,10]⟩),.int .i64 0])∧w'=w)∧O++(X++⟨#[13,10]⟩)=bs (QcK ((QoP p.data.toList h.data.toList a b).take (k+1)))):=hid (by
   intro W B hc k hk O hO;obtain ⟨c0,c1,c2,c3⟩:=hc;have hb:∀ (O:ByteArray) (X:ByteArray) (A:List (List UInt8)) (x:List UInt8),O=bs (QcK A)→X=bs x→O++(X++⟨#[13,10]⟩)=bs (QcK (A++[x])):=by
    intro O X A x h1 h2;rw [h1,h2,show (⟨#[13,10]⟩:ByteArray)=bs [13,10] from rfl,QdD,QdD,Qff];rfl
   match k,hk with
   |0,_=>exact ⟨L1,c0,by omega,fun w=>QfA L1 w (by omega) (by rw [←hL1,Qaj];exact o1),hb _ _ [] _ hO hL1.symm⟩
   |1,_=>exact ⟨_,c1,by rw [ByteArray.size_append];show 6+_≤_;omega,fun w=>QfA _ w (by rw [ByteArray.size_append];show 6+_≤_;omega) (by rw [e2,Qaj];exact o2),hb _ _ [Qcu p.data.toList] _ hO e2⟩
   |2,_=>exact ⟨_,c2,by rw [ByteArray.size_append];show 7+_≤_;omega,fun w=>QfA _ w (by rw [ByteArray.size_append];show 7+_≤_;omega) (by rw [e3,Qaj];exact o3),hb _ _ [Qcu p.data.toList,Qdb h.data.toList] _ hO e3⟩
   |3,_=>exact ⟨_,c3,by decide,fun w=>QfA _ w (by decide) (by decide),hb _ _ [Qcu p.data.toList,Qdb h.data.toList,Qdo a b] [] hO rfl⟩)
  clear e2 e3 o1 o2 o3 z1 z2;have hl1:(⟨#[71,69,84]⟩:ByteArray).data.toList++32 :: (p.data.toList++32 :: (⟨#[72,84,84,80,47,49,46,49]⟩:ByteArray).data.toList)=Qcu p.data.toList:=by unfold Qcu;simp
  have hJ:=fun W=>Qwl ⟨#[71,69,84]⟩ p ⟨#[72,84,84,80,47,49,46,49]⟩ W (by decide) (by omega) (by decide)
  rw [hl1,hL1] at hJ;have HJ:=hid hJ;clear hl1 hJ;go_enter Tryz.func142,Tryz.ntmps142;go_wp2_with fail;refine (HC.out _).mono ?_;rintro e w1 ⟨rfl,hb1⟩;obtain ⟨c0,c1,c2,c3⟩:=QfZ hb1;have HB1:=hid hb1;have HE1:=hid (HE.out.below hb1);clear hb1;go_wp2_with fail;refine (HA.out _ HE1.out).mono ?_;rintro e w2 ⟨rfl,hb2⟩;have HB2:=hid (Qaa HB1.out hb2);have HE2:=hid (HE1.out.below hb2);obtain ⟨c0,c1,c2,c3⟩:=QfZ HB2.out;have hlt:w.heap.size<w2.heap.size:=by have:=HB2.out.size;simp at this;omega
  clear hb2;go_wp2_with fail;go_region_with (first
   |(go_at_call 73;go_loud (refine (HJ.out _).mono ?_;rintro e wx ⟨rfl,hbx⟩;obtain ⟨hcx,hfx⟩:=Qz0 hbx;have hsx:=hbx.size)))
  all_goals
   have hbx':Below w2.heap.size w2 wx:=Qaa (((Below.refl _ _).alloc (Nat.le_refl _) _).drew) hbx;have HB3:=hid (Qaa HB2.out (Qaa hbx' ((Below.refl _ _).alloc (Nat.le_refl _) (.cells #[.string L1,.string (⟨#[72,111,115,116,58,32]⟩++h),.string (⟨#[82,97,110,103,101,58,32]⟩++Q),.string ⟨#[]⟩] 9))));have HK:=hid (QwP wx (.string L1) (.string (⟨#[72,111,115,116,58,32]⟩++h)) (.string (⟨#[82,97,110,103,101,58,32]⟩++Q)) (.string ⟨#[]⟩) 9);clear hbx hbx' hcx hfx hsx c0 c1 c2 c3 hlt p1 p2;generalize hN:wx.alloc (.cells #[.string L1,.string (⟨#[72,111,115,116,58,32]⟩++h),.string (⟨#[82,97,110,103,101,58,32]⟩++Q),.string ⟨#[]⟩] 9)=wn at HB3 HK ⊢;clear hN;go_wp2_with fail;go_simp;go_loopg [7,34] 4 (fun gk s7 s34 wy=>∃ (k:Nat) (O:ByteArray),s7 = .string O∧s34 = .int .i64 (k:Int)∧wy=wn∧k+gk=4∧O.size≤k*200∧Hid (O=bs (QcK ((QoP p.data.toList h.data.toList a b).take k))))
   case atStart=>exact ⟨0,⟨#[]⟩,rfl,by simp,rfl,by omega,by decide,hid rfl⟩
   case round=>
    obtain ⟨k,O,rfl,rfl,rfl,hgk,hOs,HO⟩:=hrel
    by_cases hk:k<4
    ·obtain ⟨g',rfl⟩:∃ g',gk=g'+1:=⟨gk-1,by omega⟩
     have tk:decide ((k:Int)<4)=true:=decide_eq_true (by omega)
     obtain ⟨X,hc,hXs,HP,HO2⟩:=HX.out wr wx.heap.size HK.out k hk O HO.out;have padd:=fun w=>run_string_add_sum (P:=Tryz.prog) w O (X++⟨#[13,10]⟩) (by rw [ByteArray.size_append];show _+(_+2)≤_;omega)
     have HPP:=hid HP;have HOO:=hid HO2;clear HP HO2;go_wp2_with fail;refine (HPP.out _).mono ?_;rintro e w' ⟨rfl,rfl⟩;go_wp2_with fail;go_roundg g'
     case measure=>omega
     case rel=>exact ⟨k+1,_,rfl,by simp,rfl,by omega,by rw [ByteArray.size_append,ByteArray.size_append];show _+(_+2)≤_;omega,hid HOO.out⟩
    ·obtain rfl:k=4:=by omega
     have HR:Hid (O=bs (Qlo p.data.toList h.data.toList a b)):=hid (by rw [HO.out];congr 1;unfold Qlo QoP;simp [QcK])
     go_wp2_with fail;go_ret2;exact ⟨by rw [HRQ.out,←HR.out];rfl,Qaa (Qbp w _ _ _ _ _) HB3.out⟩
 ·have HR:Hid (QiH p.data.toList h.data.toList a b = []):=hid (if_neg he)
  obtain ⟨Z,hZ⟩:∃ Z,QgE p.data.toList h.data.toList a b=Z:=⟨_,rfl⟩;rw [hZ] at HC he ⊢;have tz:((Z:Int) != 0)=true:=by rw [bne_iff_ne];omega
  clear hZ;go_enter Tryz.func142,Tryz.ntmps142;go_wp2_with fail;refine (HC.out _).mono ?_;rintro e w1 ⟨rfl,hb1⟩;go_wp2_with fail;go_ret2;exact ⟨by rw [HR.out];rfl,Qaa (Qbp w _ _ _ _ _) hb1⟩
end
section
open Go.RowKit
def Qpr(w:World)(m:Int):Prop:=w.cell? ⟨1,0,none⟩=some (.int .i64 m)
theorem QnG(s:ByteArray)(m:Int)(w:World)(hs:s.size<1073741824)(hm:Qpr w m) :
  Calls Tryz.prog 319 #[.string s] w fun e w'=>∃ v,e = .returned v∧w'.ownsRow w.heap.size 9 1 v (QcC s.data.toList).length (Qe4 (QcC s.data.toList))∧Below w.heap.size w w':=by
 have Hm:=hid hm;clear hm;go_enter Tryz.func319,Tryz.ntmps319;go_wp2_with (go_at_call 334;refine (Tryz.strings_Split s _ m _ (by omega) Hm.out (by decide)).mono ?_;rintro e w' ⟨rfl,rfl⟩)
 go_ret;refine ⟨_,rfl,?_,(Below.refl _ _).alloc (Nat.le_refl _) _⟩;rw [QgG,QgU];exact Qsn w _ _ rfl (by
  rw [←QgU];have:=Go.Lib.count_le s.data.toList [32];have h2:Go.Lib.countB s ⟨#[32]⟩≤s.size+1:=by simpa using this
  unfold maxLen;omega)
end
section
open Go.RowKit
def RdB(w:World)(R:Nat)(l f p h a b:Value):Prop:=w.heap[R]?=some (.cells #[l,f,p,h,a,b] 433 (0,0))
theorem RdB.below{w w':World}{R:Nat}{l f p h a b:Value}(k:RdB w R l f p h a b)(hb:Below w.heap.size w w'):RdB w' R l f p h a b:=
 (hb.block R (gsi k).1).trans k
theorem RdB.lt{w:World}{R:Nat}{l f p h a b:Value}(k:RdB w R l f p h a b):R<w.heap.size:=(gsi k).1
theorem RdB.cells{w:World}{R:Nat}{l f p h a b:Value}(k:RdB w R l f p h a b) :
  w.cell? ⟨R,0,none⟩=some l∧w.cell? ⟨R,1,none⟩=some f∧w.cell? ⟨R,2,none⟩=some p∧w.cell? ⟨R,3,none⟩=some h∧w.cell? ⟨R,4,none⟩=some a∧w.cell? ⟨R,5,none⟩=some b:=by
 unfold RdB at k;refine ⟨?_,?_,?_,?_,?_,?_⟩<;>(unfold World.cell?;rw [k];rfl)
theorem RdB.free{w:World}{R:Nat}{l f p h a b:Value}(k:RdB w R l f p h a b) :
  w.frozen? ⟨R,0,none⟩=false∧w.frozen? ⟨R,1,none⟩=false∧w.frozen? ⟨R,2,none⟩=false∧w.frozen? ⟨R,3,none⟩=false∧w.frozen? ⟨R,4,none⟩=false∧w.frozen? ⟨R,5,none⟩=false:=by
 unfold RdB at k;refine ⟨?_,?_,?_,?_,?_,?_⟩<;>(unfold World.frozen?;rw [k];rfl)
theorem RdB.set1{w:World}{R:Nat}{l f p h a b:Value}(k:RdB w R l f p h a b)(v:Value):RdB (w.setCell ⟨R,1,none⟩ v) R l v p h a b:=by
 unfold RdB at k ⊢;simp [World.setCell,Array.getElem?_modify,k]
theorem RdB.set2{w:World}{R:Nat}{l f p h a b:Value}(k:RdB w R l f p h a b)(v:Value):RdB (w.setCell ⟨R,2,none⟩ v) R l f v h a b:=by
 unfold RdB at k ⊢;simp [World.setCell,Array.getElem?_modify,k]
theorem RdB.set3{w:World}{R:Nat}{l f p h a b:Value}(k:RdB w R l f p h a b)(v:Value):RdB (w.setCell ⟨R,3,none⟩ v) R l f p v a b:=by
 unfold RdB at k ⊢;simp [World.setCell,Array.getElem?_modify,k]
theorem RdB.set45{w:World}{R:Nat}{l f p h a b:Value}(k:RdB w R l f p h a b)(u v:Value):RdB ((w.setCell ⟨R,4,none⟩ u).setCell ⟨R,5,none⟩ v) R l f p h u v:=by
 unfold RdB at k ⊢;simp [World.setCell,Array.getElem?_modify,k]
theorem Qbr(w:World)(a:Addr)(v:Value):(w.setCell a v).heap.size=w.heap.size:=by simp
theorem GR.refl(R:Nat)(w:World):w.grownBy w (some R):=⟨rfl,rfl,rfl,Nat.le_refl _,fun _ _ _=>rfl⟩
theorem _root_.Go.World.grownBy.below{w w1 w2:World}{r:Option Nat}(h:w.grownBy w1 r)(hb:Below w1.heap.size w1 w2):w.grownBy w2 r:=
 ⟨hb.os.trans h.os,hb.tape.trans h.tape,hb.output.trans h.output,Nat.le_trans h.size hb.size,fun k hk hne=>(hb.block k (Nat.lt_of_lt_of_le hk h.size)).trans (h.block k hk hne)⟩
theorem _root_.Go.World.grownBy.set{w w1:World}{R:Nat}(h:w.grownBy w1 (some R))(j:Nat)(v:Value):w.grownBy (w1.setCell ⟨R,j,none⟩ v) (some R):=by
 have hk:Below R w1 (w1.setCell ⟨R,j,none⟩ v):=(Below.refl R w1).setCell (p:=⟨R,j,none⟩) (Nat.le_refl _) v;refine ⟨hk.os.trans h.os,hk.tape.trans h.tape,hk.output.trans h.output,by rw [Qbr];exact h.size,fun k hk hne=>?_⟩
 refine Eq.trans ?_ (h.block k hk hne);have hkR:R≠k:=fun e=>hne (by rw [e])
 simp [World.setCell,Array.getElem?_modify,hkR]
theorem _root_.Go.World.grownBy.toBelow{w w':World}{R:Nat}(h:w.grownBy w' (some R))(hR:R≤w.heap.size):Below R w w':=
 (Below.refl R w).grown h hR (fun k hk=>by have:=Option.some.inj hk;omega)
def QfL(ws:List (List UInt8)):Nat:=if ws.length≠3 then 4 else if ws.getD 0 []≠[71,69,84] then 14 else if ws.getD 2 []≠[72,84,84,80,47,49,46,49] then 13 else if QeR (ws.getD 1 [])=false then 2 else 0
def Qck(ls:List (List UInt8)):Nat:=if ls = [] then 4 else QfL (QcC (ls.getD 0 []))
def Qhq(ls:List (List UInt8)):List UInt8:=(QcC (ls.getD 0 [])).getD 1 []
theorem QtZ(x l:List UInt8):((bs x).toList==l)=decide (x=l):=by
 rw [ByteArray.toList_eq,Qaj]
 by_cases h:x=l
 ·subst h;simp
 ·simp [h]
theorem Qrl(l:List UInt8):∀ x∈QcC l,x.length≤l.length:=by
 induction l with
 |nil=>intro x hx;simp [QcC] at hx;subst hx;exact Nat.le_refl _
 |cons c t ih=>
  intro x hx;unfold QcC at hx;split at hx
  ·rcases List.mem_cons.1 hx with rfl|hx
   ·exact Nat.zero_le _
   ·have:=ih x hx;simp;omega
  ·cases hw:QcC t with
   |nil=>rw [hw] at hx;simp at hx;subst hx;simp
   |cons y ys=>
    rw [hw] at hx ih;rcases List.mem_cons.1 hx with rfl|hx
    ·have:=ih y (List.mem_cons_self ..);simp;omega
    ·have:=ih x (List.mem_cons_of_mem _ hx);simp;omega
def Qui(R:Nat)(w:World)(lv fv p h a b:Value)(ls:List (List UInt8))(e:Ending)(w':World):Prop:=e = .returned (.int .i64 (Qck ls:Nat))∧RdB w' R lv fv (if Qck ls=0 then .string (bs (Qhq ls)) else p) h a b∧w.grownBy w' (some R)
theorem Qt7(R:Nat)(w:World)(lv fv p h a b:Value)(ls:List (List UInt8))(hR:RdB w R lv fv p h a b)(hl:HoldsS w lv ls)(hx:∀ x∈ls,x.length≤1000000)(hE:EnvF w) :
  Calls Tryz.prog 294 #[.pointer (some ⟨R,0,none⟩)] w (Qui R w lv fv p h a b ls):=by
 obtain ⟨k0,-,-,-,-,-⟩:=hR.cells;obtain ⟨-,-,f2,-,-,-⟩:=hR.free;have hRl:=hR.lt
 by_cases hn:ls = []
 ·subst hn
  obtain ⟨av,c,rfl,hc,hh⟩:=hl;have HR:=hid hR;clear hR hh hx hE;go_enter Tryz.func294,Tryz.ntmps294;go_wp2_with fail;go_ret;exact ⟨rfl,HR.out,GR.refl _ _⟩
 ·obtain ⟨av,c,rfl,hc,hh⟩:=hl
  obtain ⟨B,o,rfl,hBl,Qao⟩:=hh hn;have QAU:0<ls.length:=List.length_pos_iff.2 hn;have c0:=Qao 0 QAU;rw [Nat.add_zero] at c0;obtain ⟨x0,hx0⟩:∃ x0,ls[0]=x0:=⟨_,rfl⟩;have hxl:x0.length≤1000000:=hx x0 (hx0 ▸ List.getElem_mem QAU);have hg:ls.getD 0 []=x0:=by rw [List.getD_eq_getElem?_getD,List.getElem?_eq_getElem QAU,hx0];rfl
  rw [hx0] at c0;have HF:Hid (Qck ls=QfL (QcC x0)∧Qhq ls=(QcC x0).getD 1 []):=hid ⟨by unfold Qck;rw [if_neg hn,hg],by unfold Qhq;rw [hg]⟩
  obtain ⟨m,hm⟩:=hE.m;have HW:=hid (QnG (bs x0) m w (by rw [QaC];omega) hm)
  have tl:((ls.length:Int)==0)=false:=by rw [beq_eq_false_iff_ne];omega
  have HRR:=hid hR;have hwl:=Qrl x0;obtain ⟨ws,hws⟩:∃ ws,QcC x0=ws:=⟨_,rfl⟩;rw [Qaj,hws] at HW;rw [hws] at HF hwl;clear Qao hh hx hR hg hx0 hm hE;go_enter Tryz.func294,Tryz.ntmps294;go_wp2_with fail;refine HW.out.mono ?_;rintro e w1 ⟨v,rfl,QAq,hb1⟩;have HB1:=hid hb1;have hS:=HoldsS.of_own QAq;obtain ⟨av,cv,hv,hcv,hhv⟩:=hS;subst hv;have HR1:=hid (HRR.out.below hb1);obtain ⟨-,-,g2,-,-,-⟩:=HR1.out.free;clear QAq c0 k0 f2 hb1
  by_cases h3:ws.length=3
  ·obtain ⟨B',o',rfl,hBl',QAQ⟩:=hhv (by intro e;rw [e] at h3;simp at h3)
   have d0:=QAQ 0 (by omega)
   have d1:=QAQ 1 (by omega)
   have d2:=QAQ 2 (by omega)
   rw [Nat.add_zero] at d0;obtain ⟨y0,y1,y2,rfl⟩:∃ y0 y1 y2,ws = [y0,y1,y2]:=by
    match ws,h3 with
    |[y0,y1,y2],_=>exact ⟨y0,y1,y2,rfl⟩
   change w1.cell? ⟨B',o',none⟩=some (.string (bs y0)) at d0;change w1.cell? ⟨B',o'+1,none⟩=some (.string (bs y1)) at d1;change w1.cell? ⟨B',o'+2,none⟩=some (.string (bs y2)) at d2;have HP:=hid (fun w=>QiD (bs y1) w)
   rw [Qaj] at HP;have e0:=QtZ y0 [71,69,84];have e2:=QtZ y2 [72,84,84,80,47,49,46,49];clear QAQ hhv h3 hwl
   by_cases q0:y0 = [71,69,84]
   ·rw [decide_eq_true q0] at e0
    by_cases q2:y2 = [72,84,84,80,47,49,46,49]
    ·rw [decide_eq_true q2] at e2
     cases hp:QeR y1 with
     |false=>
      rw [hp] at HP;have HFF:Hid (Qck ls=2):=hid (by rw [HF.out.1];unfold QfL;simp [q0,q2,hp])
      clear hp q0 q2;go_wp2_with fail;refine (HP.out _).mono ?_;rintro e w2 ⟨rfl,hb2⟩;go_wp2_with fail;go_ret;exact ⟨by rw [HFF.out];rfl,by rw [HFF.out];exact HR1.out.below hb2,((GR.refl R w).below HB1.out).below hb2⟩
     |true=>
      rw [hp] at HP;have HFF:Hid (Qck ls=0∧Qhq ls=y1):=hid ⟨by rw [HF.out.1];unfold QfL;simp [q0,q2,hp],HF.out.2⟩
      clear hp q0 q2;go_wp2_with fail;refine (HP.out _).mono ?_;rintro e w2 ⟨rfl,hb2⟩;obtain ⟨-,-,g2',-,-,-⟩:=(HR1.out.below hb2).free;obtain ⟨-,-,k2',-,-,-⟩:=(HR1.out.below hb2).cells;have d1':=(hb2.cell (p:=⟨B',o'+1,none⟩) hBl').trans d1;have HB2:=hid hb2;clear hb2 d0 d2 d1 g2;go_wp2_with fail;go_ret;refine ⟨by rw [HFF.out.1];rfl,?_,?_⟩
      ·rw [HFF.out.1,HFF.out.2];exact (HR1.out.below HB2.out).set2 _
      ·exact (((GR.refl R w).below HB1.out).below HB2.out).set 2 _
    ·rw [decide_eq_false q2] at e2
     have HFF:Hid (Qck ls=13):=hid (by rw [HF.out.1];unfold QfL;simp [q0,q2])
     clear q0 q2;go_wp2_with fail;go_ret;exact ⟨by rw [HFF.out];rfl,by rw [HFF.out];exact HR1.out,(GR.refl R w).below HB1.out⟩
   ·rw [decide_eq_false q0] at e0
    have HFF:Hid (Qck ls=14):=hid (by rw [HF.out.1];unfold QfL;simp [q0])
    clear q0;go_wp2_with fail;go_ret;exact ⟨by rw [HFF.out];rfl,by rw [HFF.out];exact HR1.out,(GR.refl R w).below HB1.out⟩
  ·have HFF:Hid (Qck ls=4):=hid (by rw [HF.out.1];unfold QfL;rw [if_pos h3])
   have t3:((ws.length:Int) != 3)=true:=by rw [bne_iff_ne];omega
   clear hhv h3;go_wp2_with fail;go_ret;exact ⟨by rw [HFF.out];rfl,by rw [HFF.out];exact HR1.out,(GR.refl R w).below HB1.out⟩
end
section
open Go.RowKit
structure Touch(S:Nat→Prop)(w w':World):Prop where
 os:w'.os=w.os
 tape:w'.tape=w.tape
 output:w'.output=w.output
 size:w.heap.size≤w'.heap.size
 block:∀ k,k<w.heap.size→¬S k→w'.heap[k]?=w.heap[k]?
theorem Touch.refl(S:Nat→Prop)(w:World):Touch S w w:=⟨rfl,rfl,rfl,Nat.le_refl _,fun _ _ _=>rfl⟩
theorem Touch.trans{S S':Nat→Prop}{a b c:World}(h:Touch S a b)(k:Touch S' b c)(hS:∀ g,S' g→S g∨a.heap.size≤g):Touch S a c:=
 ⟨k.os.trans h.os,k.tape.trans h.tape,k.output.trans h.output,Nat.le_trans h.size k.size,fun i hi hn=>
  (k.block i (Nat.lt_of_lt_of_le hi h.size) (fun hs=>(hS i hs).elim hn (fun h2=>by omega))).trans (h.block i hi hn)⟩
theorem Touch.of_below{S:Nat→Prop}{w w':World}(h:Below w.heap.size w w'):Touch S w w':=⟨h.os,h.tape,h.output,h.size,fun k hk _=>h.block k hk⟩
theorem Touch.of_grown{S:Nat→Prop}{w w':World}{row:Option Nat}(h:w.grownBy w' row)(hr:∀ g,row=some g→S g∨w.heap.size≤g):Touch S w w':=
 ⟨h.os,h.tape,h.output,h.size,fun k hk hn=>h.block k hk (fun e=>(hr k e.symm).elim hn (fun h2=>by omega))⟩
theorem Touch.mono{S S':Nat→Prop}{w w':World}(h:Touch S w w')(hS:∀ g,S g→S' g):Touch S' w w':=⟨h.os,h.tape,h.output,h.size,fun k hk hn=>h.block k hk (fun hs=>hn (hS k hs))⟩
theorem Touch.below{S:Nat→Prop}{B:Nat}{w w':World}(h:Touch S w w')(hS:∀ g,S g→B≤g)(hB:B≤w.heap.size):Below B w w':=
 ⟨h.os,h.tape,h.output,h.size,fun k hk=>h.block k (by omega) (fun hs=>by have:=hS k hs;omega)⟩
theorem Qad{w w':World}{base:Nat}{e:TypeId}{size:Nat}{v:Value}{n:Nat}{xs:List Value}(h:w.ownsRow base e size v n xs)(hb:∀ g,v.ownBlock=some g→w'.heap[g]?=w.heap[g]?):w'.ownsRow base e size v n xs:=by
 refine ⟨h.1,?_⟩;rcases h.2 with hn|⟨g,cap,cur,rfl,hg,hgg,rest⟩
 ·exact .inl hn
 ·refine .inr ⟨g,cap,cur,rfl,hg,?_,rest⟩
  rw [hb g rfl];exact hgg
theorem QoB{w w':World}{S:Nat→Prop}{base:Nat}{e:TypeId}{size:Nat}{v:Value}{n:Nat}{xs:List Value}(h:w.ownsRow base e size v n xs)(ht:Touch S w w')(hn:∀ g,v.ownBlock=some g→¬S g):w'.ownsRow base e size v n xs:=
 Qad h (fun g hg=>ht.block g (h.lt g hg).2 (hn g hg))
theorem QbJ{w:World}{base:Nat}{e:TypeId}{size:Nat}{v:Value}{n:Nat}{xs:List Value}(h:w.ownsRow base e size v n xs)(g:Nat)(hg:v.ownBlock=some g):∃ cur,w.heap[g]?=some (.cells cur e (0,0)):=by
 rcases h.2 with ⟨rfl,_⟩|⟨g',cap,cur,rfl,_,hgg,_⟩
 ·cases hg
 ·obtain rfl:g'=g:=by simpa [Value.ownBlock] using hg
  exact ⟨cur,hgg⟩
theorem Qdz{w:World}{b1 b2:Nat}{e1 e2:TypeId}{s1 s2 n1 n2:Nat}{v1 v2:Value}{x1 x2:List Value}(h1:w.ownsRow b1 e1 s1 v1 n1 x1)(h2:w.ownsRow b2 e2 s2 v2 n2 x2)(hne:e1≠e2):v1.ownBlock=none∨v1.ownBlock≠v2.ownBlock:=by
 cases hv:v1.ownBlock with
 |none=>exact .inl rfl
 |some g=>
  refine .inr (fun e=>?_)
  obtain ⟨c1,k1⟩:=QbJ h1 g hv;obtain ⟨c2,k2⟩:=QbJ h2 g e.symm;rw [k1] at k2;simp only [Option.some.injEq,Obj.cells.injEq] at k2;exact hne k2.2.1
theorem QdL{w:World}{b1:Nat}{e1:TypeId}{s1 n1:Nat}{v1:Value}{x1:List Value}(h1:w.ownsRow b1 e1 s1 v1 n1 x1){b:Nat}{es:Array MapEntry}{clock:Nat}(hb:w.heap[b]?=some (.map es clock)):v1.ownBlock≠some b:=fun hv=>by
 obtain ⟨c1,k1⟩:=QbJ h1 b hv;rw [k1] at hb;cases hb
theorem QaH{w:World}{b1:Nat}{e1:TypeId}{s1 n1:Nat}{v1:Value}{x1:List Value}(h1:w.ownsRow b1 e1 s1 v1 n1 x1){b:Nat}{cs:Array Value}{t:TypeId}{m:Nat×Nat}(hb:w.heap[b]?=some (.cells cs t m))(hne:e1≠t):v1.ownBlock≠some b:=fun hv=>by
 obtain ⟨c1,k1⟩:=QbJ h1 b hv;rw [k1] at hb;simp only [Option.some.injEq,Obj.cells.injEq] at hb;exact hne hb.2.1
def QaG(l:List UInt8):List Value:=l.map fun b=>Value.int .u8 (b.toNat:Int)
theorem Qk3(l:List UInt8):(QaG l).length=l.length:=by simp [QaG]
theorem QfX(a b:List UInt8):QaG (a++b)=QaG a++QaG b:=by simp [QaG]
theorem Qq2(s:ByteArray):Lib.strCells s=QaG s.data.toList:=rfl
theorem QeQ(w:World)(t u ty e:TypeId)(i:TypeInfo)(ht:Tryz.prog.underlying t=some (.slice e))(hu:Tryz.prog.underlying u=some .string)(hi:Tryz.prog.info? e=some i)(hz:i.zero=some (.int .u8 0))(QBJ:i.size=1)(hby:i.bytes=1)
  (v:Value) (n:Nat) (xs:List Value) (QAq:w.ownsRow 0 e 1 v n xs) (s:ByteArray) (h0:0<s.size) (h63:n+s.size≤maxLen) (hbytes:n+s.size≤140737488355328) (v':Value) (w':World) (hr:(Builtin.append_ #[t,u] ty #[v,.string s]).run Tryz.prog w = .ok v' w') :
  v'.ownBlock=v.ownBlock∨v'.ownBlock=some w.heap.size:=by
 unfold maxLen at h63;have hxl:xs.length=n:=by simpa using QAq.1
 rcases QAq.2 with ⟨rfl,rfl⟩|⟨g,cap,cur,rfl,hbg,hg,hnc,hcm,hcs,htake⟩
 ·have h:=run_append_nil_string (P:=Tryz.prog) w t u ty e i (.int .u8 0) ht hu hi hz s h0 (by omega) (by rw [hby];omega)
  rw [h] at hr;injection hr with e1 _
  exact .inr (by rw [←e1];rfl)
 ·by_cases QBK:n+s.size≤cap
  ·have h:=Lib.run_append_room_string (P:=Tryz.prog) w t u ty e i ht hu hi QBJ g n cap cur hg s QBK (by have:cur.size=cap:=(by simpa using hcs);omega)
   rw [h] at hr;injection hr with e1 _
   exact .inl (by rw [←e1];rfl)
  ·have h:=Lib.run_append_grow_string (P:=Tryz.prog) w t u ty e i (.int .u8 0) ht hu hi hz ⟨g,0,none⟩ n cap xs (by rw [QBJ];simpa using hxl) (QAq.cells (g:=g) rfl) s (by omega) (by omega) (by rw [hby];exact growslice_fits (by omega) (by omega))
   rw [h] at hr;injection hr with e1 _
   exact .inr (by rw [←e1];rfl)
theorem Qaf{S:Nat→Prop}{w w':World}{a:Addr}(v:Value)(h:Touch S w w')(ha:S a.block∨w.heap.size≤a.block):Touch S w (w'.setCell a v):=
 h.trans (S':=fun g=>g=a.block) ⟨rfl,rfl,rfl,by rw [Qbr];exact Nat.le_refl _,fun k hk hn=>Below.heap_setCell _ _ _ _ hn⟩ (fun g hg=>by rw [hg];exact ha)
end
section
open Go.RowKit
theorem Qmf(e:Ent):Qay [e] = [.int .u64 (e.1:Nat),.int .u64 (e.2.1:Nat),.int .u32 (e.2.2.1:Nat),.int .u32 (e.2.2.2:Nat)]:=rfl
theorem Qik(L:List Ent)(j:Nat)(hj:j<L.length):Qay L=Qay (L.take j)++([.int .u64 (L[j].1:Nat),.int .u64 (L[j].2.1:Nat),.int .u32 (L[j].2.2.1:Nat),.int .u32 (L[j].2.2.2:Nat)]++Qay (L.drop (j+1))):=by
 conv=>lhs;rw [show L=L.take j++([L[j]]++L.drop (j+1)) by
  rw [List.singleton_append,←List.drop_eq_getElem_cons hj,List.take_append_drop]]
 rw [Qer,Qer,Qmf]
theorem Qij(L:List Ent)(j:Nat)(hj:j<L.length)(e:Ent):Qay (L.set j e)=Qay (L.take j)++([.int .u64 (e.1:Nat),.int .u64 (e.2.1:Nat),.int .u32 (e.2.2.1:Nat),.int .u32 (e.2.2.2:Nat)]++Qay (L.drop (j+1))):=by
 rw [Qik (L.set j e) j (by rw [List.length_set];exact hj)]
 rw [List.take_set_of_le (Nat.le_refl _),List.drop_set_of_lt (Nat.lt_succ_self _),List.getElem_set_self]
theorem Qle(L:List Ent)(j:Nat)(hj:j<L.length):(Qay (L.take j)).length=j*4:=by
 rw [QbD,List.length_take,Nat.min_eq_left (Nat.le_of_lt hj)]
theorem QhL{w:World}{B:Nat}{L:List Ent}{T:TypeId}(k:w.heap[B]?=some (.cells (Qay L).toArray T (0,0)))(j:Nat)(hj:j<L.length)(f:Nat)(e:Ent)(v:Value)
  (h:([.int .u64 (L[j].1:Nat),.int .u64 (L[j].2.1:Nat),.int .u32 (L[j].2.2.1:Nat),.int .u32 (L[j].2.2.2:Nat)]:List Value).set f v = [.int .u64 (e.1:Nat),.int .u64 (e.2.1:Nat),.int .u32 (e.2.2.1:Nat),.int .u32 (e.2.2.2:Nat)]) (hf:f<4) :
  (w.setCell ⟨B,j*4+f,none⟩ v).heap[B]?=some (.cells (Qay (L.set j e)).toArray T (0,0)):=by
 have e1:(Qay L).set (j*4+f) v=Qay (L.set j e):=by
  rw [Qik L j hj,Qij L j hj e,List.set_append_right _ _ (by rw [Qle L j hj];omega),Qle L j hj,Nat.add_sub_cancel_left,List.set_append_left _ _ (by simpa using hf),h]
 rw [←e1];simp [World.setCell,Array.getElem?_modify,k]
theorem QgH{w:World}{B:Nat}{L:List Ent}{T:TypeId}(k:w.heap[B]?=some (.cells (Qay L).toArray T (0,0)))(j:Nat)(hj:j<L.length) :
  (w.cell? ⟨B,j*4,none⟩=some (.int .u64 (L[j].1:Nat))∧w.cell? ⟨B,j*4+1,none⟩=some (.int .u64 (L[j].2.1:Nat))∧w.cell? ⟨B,j*4+2,none⟩=some (.int .u32 (L[j].2.2.1:Nat))∧w.cell? ⟨B,j*4+3,none⟩=some (.int .u32 (L[j].2.2.2:Nat)))∧
  w.frozen? ⟨B,j*4,none⟩=false∧w.frozen? ⟨B,j*4+1,none⟩=false∧w.frozen? ⟨B,j*4+2,none⟩=false∧w.frozen? ⟨B,j*4+3,none⟩=false:=by
 obtain ⟨h0,h1,h2,h3⟩:=QfP L j hj;have key:∀ i u,(Qay L)[i]?=some u→w.cell? ⟨B,i,none⟩=some u:=by
  intro i u hu;unfold World.cell?;rw [k];simpa using hu
 refine ⟨⟨key _ _ h0,key _ _ h1,key _ _ h2,key _ _ h3⟩,?_,?_,?_,?_⟩
 all_goals (unfold World.frozen?;rw [k];rfl)
theorem QhH{w:World}{B:Nat}{L':List Ent}{T:TypeId}{a:Addr}{v:Value}(h:(w.setCell a v).heap[B]?=some (.cells (Qay L').toArray T (0,0)))(ha:a.block=B)(o:Obj):((w.setCell a v).alloc o).heap[B]?=some (.cells (Qay L').toArray T (0,0))∧Touch (fun g=>g=B) w ((w.setCell a v).alloc o):=
 ⟨(heap_alloc_old _ _ (gsi h).1).trans h,(Qaf _ (Touch.refl _ _) (.inl ha)).trans (S':=fun g=>g=B) (Touch.of_below ((Below.refl _ _).alloc (Nat.le_refl _) _)) (fun g hg=>.inl hg)⟩
def Qfh(c i:Nat)(a:Ent)(x:Nat)(w:World)(B:Nat)(L:List Ent)(j:Nat)(T:TypeId)(e:Ending)(w':World):Prop:=
 ∃ L',e = .returned (.int .i64 ((Qd5 c i a (L.getD j QaZ) x).1:Nat))∧w'.heap[B]?=some (.cells (Qay L').toArray T (0,0))∧L'.length=L.length∧((Qd5 c i a (L.getD j QaZ) x).1=0→L'=L.set j (Qd5 c i a (L.getD j QaZ) x).2)∧Touch (fun g=>g=B) w w'
theorem Qbw{c i:Nat}{a:Ent}{x:Nat}{w:World}{B:Nat}{L:List Ent}{j:Nat}{T:TypeId}{e:Ending}{w':World}(E:Nat)(e':Ent)(hs:Qd5 c i a (L.getD j QaZ) x=(E,e'))(he:e = .returned (.int .i64 (E:Nat)))(L':List Ent)(hk:w'.heap[B]?=some (.cells (Qay L').toArray T (0,0)))(hl:L'.length=L.length)(h0:E=0→L'=L.set j e')(ht:Touch (fun g=>g=B) w w'):Qfh c i a x w B L j T e w':=by
 refine ⟨L',?_,hk,hl,?_,ht⟩
 ·rw [hs];exact he
 ·rw [hs];exact h0
theorem Qb7{L:List Ent}{j:Nat}(hj:j<L.length):L.getD j QaZ=L[j]:=by rw [List.getD_eq_getElem?_getD,List.getElem?_eq_getElem hj];rfl
theorem Qw8(i a0 a1 a2 a3 x:Nat)(w:World)(B:Nat)(L:List Ent)(j:Nat)(T:TypeId)(hj:j<L.length)(k:w.heap[B]?=some (.cells (Qay L).toArray T (0,0)))(ha:a0<18446744073709551616)(hx:x<18446744073709551616) :
  Calls Tryz.prog 133 #[.int .i64 0,.int .i64 i,.agg #[.int .u64 a0,.int .u64 a1,.int .u32 a2,.int .u32 a3],.pointer (some ⟨B,j*4,none⟩),.int .u64 x] w (Qfh 0 i (a0,a1,a2,a3) x w B L j T):=by
 have hb0:=QaJ w (.int .u64 a0) (.int .u64 a1) (.int .u32 a2) (.int .u32 a3) 86;have hBl:=(gsi k).1;have k0:=(hb0.block B hBl).trans k;obtain ⟨⟨c0,c1,c2,c3⟩,f0,f1,f2,f3⟩:=QgH k0 j hj;obtain ⟨d0,d1,d2,d3⟩:=QcN w (.int .u64 a0) (.int .u64 a1) (.int .u32 a2) (.int .u32 a3) 86;obtain ⟨Y,hY⟩:∃ Y,(a0+x)%18446744073709551616=Y:=⟨_,rfl⟩;have hw0:IntKind.u64.wrap ((a0:Int)+(x:Int))=(Y:Int):=by rw [IntKind.wrap_u64];omega
 have QAX:(w.setCell ⟨B,j*4,none⟩ (.int .u64 (Y:Nat))).heap[B]?=some (.cells (Qay (L.set j (Y,L[j].2.1,L[j].2.2.1,L[j].2.2.2))).toArray T (0,0)):=QhL k j hj 0 (Y,L[j].2.1,L[j].2.2.1,L[j].2.2.2) (.int .u64 (Y:Nat)) rfl (by decide)
 have HW:=hid (QhH QAX rfl (.cells #[.int .u64 a0,.int .u64 a1,.int .u32 a2,.int .u32 a3] 86));have g0:=(QgH HW.out.1 j (by rw [List.length_set];exact hj)).1.1
 rw [List.getElem_set_self] at g0;have hM:Qd5 0 i (a0,a1,a2,a3) (L.getD j QaZ) x=((if Y<x then 11 else 0),(Y,L[j].2.1,L[j].2.2.1,L[j].2.2.2)):=by
  rw [Qb7 hj];unfold Qd5;rw [if_pos rfl];simp only [hY]
 by_cases hlt:Y<x
 ·rw [if_pos hlt] at hM
  have HM:=hid hM;have t1:decide (Y<x)=true:=decide_eq_true hlt;clear hM QAX hY hlt k0 hb0;go_enter Tryz.func133,Tryz.ntmps133;go_wp2_with fail;go_ret;exact Qbw 11 _ HM.out rfl _ HW.out.1 (List.length_set ..) (fun h=>by cases h) HW.out.2
 ·rw [if_neg hlt] at hM
  have HM:=hid hM;have t1:decide (Y<x)=false:=decide_eq_false hlt;clear hM QAX hY hlt k0 hb0;go_enter Tryz.func133,Tryz.ntmps133;go_wp2_with fail;go_ret;exact Qbw 0 _ HM.out rfl _ HW.out.1 (List.length_set ..) (fun _=>rfl) HW.out.2
theorem QuI(i a0 a1 a2 a3 x:Nat)(w:World)(B:Nat)(L:List Ent)(j:Nat)(T:TypeId)(hj:j<L.length)(k:w.heap[B]?=some (.cells (Qay L).toArray T (0,0)))(hx:x<18446744073709551616) :
  Calls Tryz.prog 133 #[.int .i64 1,.int .i64 i,.agg #[.int .u64 a0,.int .u64 a1,.int .u32 a2,.int .u32 a3],.pointer (some ⟨B,j*4,none⟩),.int .u64 x] w (Qfh 1 i (a0,a1,a2,a3) x w B L j T):=by
 have hb0:=QaJ w (.int .u64 a0) (.int .u64 a1) (.int .u32 a2) (.int .u32 a3) 86;have hBl:=(gsi k).1;have k0:=(hb0.block B hBl).trans k;obtain ⟨⟨c0,c1,c2,c3⟩,f0,f1,f2,f3⟩:=QgH k0 j hj;have hM:Qd5 1 i (a0,a1,a2,a3) (L.getD j QaZ) x=((if 4294967296≤x then 11 else 0),(L[j].1,L[j].2.1,L[j].2.2.1,x)):=by
  rw [Qb7 hj];unfold Qd5;rw [if_neg (by decide),if_pos rfl]
 by_cases hlt:4294967296≤x
 ·rw [if_pos hlt] at hM
  have HM:=hid hM;have HK0:=hid k0;have HT:=hid (Touch.of_below (S:=fun g=>g=B) hb0)
  have t1:decide (4294967296≤x)=true:=decide_eq_true hlt;have t2:decide ((x:Int)≥4294967296)=true:=decide_eq_true (by omega)
  clear hM hlt k0 hb0;go_enter Tryz.func133,Tryz.ntmps133;go_wp2_with fail;go_ret;exact Qbw 11 _ HM.out rfl _ HK0.out rfl (fun h=>by cases h) HT.out
 ·rw [if_neg hlt] at hM
  have HM:=hid hM;have t1:decide (4294967296≤x)=false:=decide_eq_false hlt;have t2:decide ((x:Int)≥4294967296)=false:=decide_eq_false (by omega)
  have hw0:IntKind.u32.wrap (x:Int)=(x:Int):=by
   have:IntKind.u32.wrap (x:Int)=(x:Int)%4294967296:=by simp [IntKind.wrap,IntKind.bits,IntKind.signed]
   rw [this];omega
  have HW:=hid (QhH (QhL k j hj 3 (L[j].1,L[j].2.1,L[j].2.2.1,x) (.int .u32 (x:Nat)) rfl (by decide)) rfl (.cells #[.int .u64 a0,.int .u64 a1,.int .u32 a2,.int .u32 a3] 86))
  clear hM hlt k0 hb0;go_enter Tryz.func133,Tryz.ntmps133;go_wp2_with fail;go_ret;exact Qbw 0 _ HM.out rfl _ HW.out.1 (List.length_set ..) (fun _=>rfl) HW.out.2
theorem Qm8(i a0 a1 a2 a3 x:Nat)(w:World)(B:Nat)(L:List Ent)(j:Nat)(T:TypeId)(hj:j<L.length)(k:w.heap[B]?=some (.cells (Qay L).toArray T (0,0)))(hx:x<18446744073709551616) :
  Calls Tryz.prog 133 #[.int .i64 2,.int .i64 i,.agg #[.int .u64 a0,.int .u64 a1,.int .u32 a2,.int .u32 a3],.pointer (some ⟨B,j*4,none⟩),.int .u64 x] w (Qfh 2 i (a0,a1,a2,a3) x w B L j T):=by
 have hb0:=QaJ w (.int .u64 a0) (.int .u64 a1) (.int .u32 a2) (.int .u32 a3) 86;have hBl:=(gsi k).1;have k0:=(hb0.block B hBl).trans k;obtain ⟨⟨c0,c1,c2,c3⟩,f0,f1,f2,f3⟩:=QgH k0 j hj;have hM:Qd5 2 i (a0,a1,a2,a3) (L.getD j QaZ) x=((if 4294967296≤x then 11 else 0),(L[j].1,L[j].2.1,x,L[j].2.2.2)):=by
  rw [Qb7 hj];unfold Qd5;rw [if_neg (by decide),if_neg (by decide),if_pos rfl]
 by_cases hlt:4294967296≤x
 ·rw [if_pos hlt] at hM
  have HM:=hid hM;have HK0:=hid k0;have HT:=hid (Touch.of_below (S:=fun g=>g=B) hb0)
  have t1:decide (4294967296≤x)=true:=decide_eq_true hlt;have t2:decide ((x:Int)≥4294967296)=true:=decide_eq_true (by omega)
  clear hM hlt k0 hb0;go_enter Tryz.func133,Tryz.ntmps133;go_wp2_with fail;go_ret;exact Qbw 11 _ HM.out rfl _ HK0.out rfl (fun h=>by cases h) HT.out
 ·rw [if_neg hlt] at hM
  have HM:=hid hM;have t1:decide (4294967296≤x)=false:=decide_eq_false hlt;have t2:decide ((x:Int)≥4294967296)=false:=decide_eq_false (by omega)
  have hw0:IntKind.u32.wrap (x:Int)=(x:Int):=by
   have:IntKind.u32.wrap (x:Int)=(x:Int)%4294967296:=by simp [IntKind.wrap,IntKind.bits,IntKind.signed]
   rw [this];omega
  have HW:=hid (QhH (QhL k j hj 2 (L[j].1,L[j].2.1,x,L[j].2.2.2) (.int .u32 (x:Nat)) rfl (by decide)) rfl (.cells #[.int .u64 a0,.int .u64 a1,.int .u32 a2,.int .u32 a3] 86))
  clear hM hlt k0 hb0;go_enter Tryz.func133,Tryz.ntmps133;go_wp2_with fail;go_ret;exact Qbw 0 _ HM.out rfl _ HW.out.1 (List.length_set ..) (fun _=>rfl) HW.out.2
end
section
open Go.RowKit
theorem QzV(i:Nat)(a e:Ent)(x:Nat):Qd5 3 i a e x=((if (i=0∧x=0)∨(0<i∧0<x∧x-1=QdN a) then 4 else 0),(e.1,(if x=0 then QdN a else x-1),e.2.2.1,e.2.2.2)):=by
 unfold Qd5;rw [if_neg (by decide),if_neg (by decide),if_neg (by decide)]
theorem Qae{W W':World}{B:Nat}{C:Array Value}{T:TypeId}(h:W.heap[B]?=some (.cells C T (0,0)))(hb:Below W.heap.size W W'):W'.heap[B]?=some (.cells C T (0,0)):=(hb.block B (gsi h).1).trans h
theorem Qm7(i a0 a1 a2 a3 x:Nat)(w:World)(B:Nat)(L:List Ent)(j:Nat)(T:TypeId)(hj:j<L.length)(k:w.heap[B]?=some (.cells (Qay L).toArray T (0,0)))(ha:a2<4294967296)(hx:x<18446744073709551616) :
  Calls Tryz.prog 133 #[.int .i64 3,.int .i64 i,.agg #[.int .u64 a0,.int .u64 a1,.int .u32 a2,.int .u32 a3],.pointer (some ⟨B,j*4,none⟩),.int .u64 x] w (Qfh 3 i (a0,a1,a2,a3) x w B L j T):=by
 have hb0:=QaJ w (.int .u64 a0) (.int .u64 a1) (.int .u32 a2) (.int .u32 a3) 86;have hBl:=(gsi k).1;have k0:=(hb0.block B hBl).trans k;obtain ⟨⟨c0,c1,c2,c3⟩,f0,f1,f2,f3⟩:=QgH k0 j hj;have HNx:=hid (fun W=>Qmi a0 a1 a2 a3 W ha)
 obtain ⟨Y,hY⟩:∃ Y:Nat,Y=(if x=0 then 18446744073709551615 else x-1):=⟨_,rfl⟩
 have hw0:IntKind.u64.wrap ((x:Int)-1)=(Y:Int):=by
  rw [IntKind.wrap_u64,hY]
  by_cases h:x=0
  ·rw [if_pos h,h];rfl
  ·rw [if_neg h];omega
 have HW:Hid (((w.alloc (.cells #[.int .u64 a0,.int .u64 a1,.int .u32 a2,.int .u32 a3] 86)).setCell ⟨B,j*4+1,none⟩ (.int .u64 (Y:Nat))).heap[B]?=some (.cells (Qay (L.set j (L[j].1,Y,L[j].2.2.1,L[j].2.2.2))).toArray T (0,0))∧Touch (fun g=>g=B) w ((w.alloc (.cells #[.int .u64 a0,.int .u64 a1,.int .u32 a2,.int .u32 a3] 86)).setCell ⟨B,j*4+1,none⟩ (.int .u64 (Y:Nat)))):=hid ⟨QhL k0 j hj 1 (L[j].1,Y,L[j].2.2.1,L[j].2.2.2) (.int .u64 (Y:Nat)) rfl (by decide),Qaf _ (Touch.of_below hb0) (.inl rfl)⟩
 have HE4:Hid (E4 ((w.alloc (.cells #[.int .u64 a0,.int .u64 a1,.int .u32 a2,.int .u32 a3] 86)).setCell ⟨B,j*4+1,none⟩ (.int .u64 (Y:Nat))) w.heap.size a0 a1 a2 a3):=hid (by
  have h:=heap_alloc_new w (.cells #[.int .u64 a0,.int .u64 a1,.int .u32 a2,.int .u32 a3] 86);have h2:=(Below.heap_setCell (w.alloc (.cells #[.int .u64 a0,.int .u64 a1,.int .u32 a2,.int .u32 a3] 86)) ⟨B,j*4+1,none⟩ (.int .u64 (Y:Nat)) w.heap.size (by show w.heap.size≠B;omega)).trans h
  exact (QaF h2).1)
 have HSz:Hid (w.heap.size<((w.alloc (.cells #[.int .u64 a0,.int .u64 a1,.int .u32 a2,.int .u32 a3] 86)).setCell ⟨B,j*4+1,none⟩ (.int .u64 (Y:Nat))).heap.size):=hid (by simp)
 have hM:=QzV i (a0,a1,a2,a3) (L.getD j QaZ) x;rw [Qb7 hj] at hM;have HN:=hid (And.intro hj k);clear k0 hb0 k
 by_cases hx0:x=0
 ·by_cases hi0:i=0
  ·rw [if_pos (.inl ⟨hi0,hx0⟩)] at hM
   rw [←Qb7 hj] at hM;have HM:=hid hM;have s1:((i:Int)==0)=true:=by rw [hi0];rfl
   have s2:((x:Int)==0)=true:=by rw [hx0];rfl
   clear hM hx0 hi0 hY hBl;go_enter Tryz.func133,Tryz.ntmps133;go_wp2_with fail;refine Qac (by kernel_rfl) (by kernel_rfl) ?_
   repeat (go_big_quiet_step ((go_at_call 170;exact Qav (HNx.out _))))
   refine wpQuiet_nil ?_;intro W1 hw';have HQ:=hid (QaM hw');clear hw';go_wp2_with fail;go_ret;exact Qbw 4 _ HM.out rfl _ (Qae HW.out.1 HQ.out) (List.length_set ..) (fun h=>by cases h) (HW.out.2.trans (S':=fun g=>g=B) (Touch.of_below HQ.out) (fun g hg=>.inl hg))
  ·have hc:¬((i=0∧x=0)∨(0<i∧0<x∧x-1=QdN (a0,a1,a2,a3))):=by
    rintro (⟨h,-⟩|⟨-,h,-⟩)
    ·exact hi0 h
    ·omega
   rw [if_neg hc,if_pos hx0] at hM;rw [←Qb7 hj] at hM;have HM:=hid hM;have s1:((i:Int)==0)=false:=by rw [beq_eq_false_iff_ne];omega
   have s2:((x:Int)==0)=true:=by rw [hx0];rfl
   have s3:decide (0<i)=true:=decide_eq_true (by omega)
   have s4:decide (0<x)=false:=decide_eq_false (by omega)
   clear hM hx0 hi0 hY hc hBl;generalize QdN (a0,a1,a2,a3)=Z at HNx HM;go_enter Tryz.func133,Tryz.ntmps133;go_wp2_with fail;refine Qac (by kernel_rfl) (by kernel_rfl) ?_
   repeat (go_big_quiet_step ((go_at_call 170;exact Qav (HNx.out _))))
   refine wpQuiet_nil ?_;intro W1 hw';have HQ:=hid (QaM hw');clear hw' c0 c1 c2 c3 f0 f1 f2 f3;have HR1:=hid (Qae HW.out.1 HQ.out);have h4:=Qdk HE4.out HSz.out HQ.out;obtain ⟨d0,d1,d2,d3⟩:=h4;go_wp2_with fail;refine (HNx.out _).mono ?_;rintro e W2 ⟨rfl,hb2⟩;have HR2:=hid (Qae HR1.out hb2);have HT2:Hid (Touch (fun g=>g=B) w W2):=hid (HW.out.2.trans (S':=fun g=>g=B) (Touch.of_below (Qaa HQ.out hb2)) (fun g hg=>.inl hg))
   obtain ⟨⟨c0,c1,c2,c3⟩,f0,f1,f2,f3⟩:=QgH HR2.out j (by rw [List.length_set];exact HN.out.1)
   clear hb2 d0 d1 d2 d3;go_wp2_with fail;go_ret;refine Qbw 0 _ HM.out rfl _ (QhL HR2.out j (by rw [List.length_set];exact HN.out.1) 1 (L[j].1,Z,L[j].2.2.1,L[j].2.2.2) (.int .u64 (Z:Nat)) (by rw [List.getElem_set_self];rfl) (by decide)) (by rw [List.length_set,List.length_set]) (fun _=>by rw [List.set_set,Qb7 HN.out.1]) (Qaf _ HT2.out (.inl rfl))
 ·have hYx:Y=x-1:=by rw [hY,if_neg hx0]
  have s2:((x:Int)==0)=false:=by rw [beq_eq_false_iff_ne];omega
  have s4:decide (0<x)=true:=decide_eq_true (by omega)
  rw [if_neg hx0] at hM
  by_cases hi0:i=0
  ·have hc:¬((i=0∧x=0)∨(0<i∧0<x∧x-1=QdN (a0,a1,a2,a3))):=by
    rintro (⟨-,h⟩|⟨h,-⟩)
    ·exact hx0 h
    ·omega
   rw [if_neg hc,←hYx,←Qb7 hj] at hM;have HM:=hid hM;have s1:((i:Int)==0)=true:=by rw [hi0];rfl
   have s3:decide (0<i)=false:=decide_eq_false (by omega)
   clear hM hx0 hi0 hY hYx hc hBl;go_enter Tryz.func133,Tryz.ntmps133;go_wp2_with fail;refine Qac (by kernel_rfl) (by kernel_rfl) ?_
   repeat (go_big_quiet_step ((go_at_call 170;exact Qav (HNx.out _))))
   refine wpQuiet_nil ?_;intro W1 hw';have HQ:=hid (QaM hw');clear hw' c0 c1 c2 c3 f0 f1 f2 f3;go_wp2_with fail;go_ret;exact Qbw 0 _ HM.out rfl _ (Qae HW.out.1 HQ.out) (List.length_set ..) (fun _=>by rw [Qb7 HN.out.1]) (HW.out.2.trans (S':=fun g=>g=B) (Touch.of_below HQ.out) (fun g hg=>.inl hg))
  ·have s1:((i:Int)==0)=false:=by rw [beq_eq_false_iff_ne];omega
   have s3:decide (0<i)=true:=decide_eq_true (by omega)
   have HA:=hid (fun (p:BelowOf ((w.alloc (.cells #[.int .u64 a0,.int .u64 a1,.int .u32 a2,.int .u32 a3] 86)).setCell ⟨B,j*4+1,none⟩ (.int .u64 (Y:Nat))))=>Qdk HE4.out HSz.out p.below)
   have HC:=hid (fun (p:BelowOf ((w.alloc (.cells #[.int .u64 a0,.int .u64 a1,.int .u32 a2,.int .u32 a3] 86)).setCell ⟨B,j*4+1,none⟩ (.int .u64 (Y:Nat))))=>(QgH (Qae HW.out.1 p.below) j (by rw [List.length_set];exact HN.out.1)).1.2.1)
   rw [List.getElem_set_self] at HC;obtain ⟨Z,hZ⟩:∃ Z,QdN (a0,a1,a2,a3)=Z:=⟨_,rfl⟩;rw [hZ] at HNx hM
   by_cases hz:Y=Z
   ·rw [if_pos (.inr ⟨by omega,by omega,by omega⟩),←Qb7 hj] at hM
    have HM:=hid hM;have s5:((Y:Int)==(Z:Int))=true:=by rw [hz];exact beq_self_eq_true _
    have s6:(Y==Z)=true:=by rw [hz];exact beq_self_eq_true _
    clear hM hx0 hi0 hY hYx hZ hz hBl;go_enter Tryz.func133,Tryz.ntmps133;go_wp2_with fail;generalize (w.alloc (.cells #[.int .u64 a0,.int .u64 a1,.int .u32 a2,.int .u32 a3] 86)).setCell ⟨B,j*4+1,none⟩ (.int .u64 (Y:Nat))=W0 at HA HC HW HE4 HSz ⊢;have k0:=fun p=>(HA.out p).1
    have k1:=fun p=>(HA.out p).2.1
    have k2:=fun p=>(HA.out p).2.2.1
    have k3:=fun p=>(HA.out p).2.2.2
    have k4:=fun p=>HC.out p
    refine Qac (by kernel_rfl) (by kernel_rfl) ?_
    repeat (go_big_quiet_step ((go_at_call 170;exact Qav (HNx.out _))))
    refine wpQuiet_nil ?_;intro W1 hw';have HQ:=hid (QaM hw');clear hw' c0 c1 c2 c3 f0 f1 f2 f3 k0 k1 k2 k3 k4;go_wp2_with fail;go_ret;exact Qbw 4 _ HM.out rfl _ (Qae HW.out.1 HQ.out) (List.length_set ..) (fun h=>by cases h) (HW.out.2.trans (S':=fun g=>g=B) (Touch.of_below HQ.out) (fun g hg=>.inl hg))
   ·have hc:¬((i=0∧x=0)∨(0<i∧0<x∧x-1=Z)):=by
     rintro (⟨-,h⟩|⟨-,-,h⟩)
     ·exact hx0 h
     ·exact hz (hYx.trans h)
    rw [if_neg hc,←hYx,←Qb7 hj] at hM;have HM:=hid hM;have s5:((Y:Int)==(Z:Int))=false:=by rw [beq_eq_false_iff_ne];omega
    have s6:(Y==Z)=false:=by rw [beq_eq_false_iff_ne];exact hz
    clear hM hx0 hi0 hY hYx hZ hz hc hBl;go_enter Tryz.func133,Tryz.ntmps133;go_wp2_with fail;generalize (w.alloc (.cells #[.int .u64 a0,.int .u64 a1,.int .u32 a2,.int .u32 a3] 86)).setCell ⟨B,j*4+1,none⟩ (.int .u64 (Y:Nat))=W0 at HA HC HW HE4 HSz ⊢;have k0:=fun p=>(HA.out p).1
    have k1:=fun p=>(HA.out p).2.1
    have k2:=fun p=>(HA.out p).2.2.1
    have k3:=fun p=>(HA.out p).2.2.2
    have k4:=fun p=>HC.out p
    refine Qac (by kernel_rfl) (by kernel_rfl) ?_
    repeat (go_big_quiet_step ((go_at_call 170;exact Qav (HNx.out _))))
    refine wpQuiet_nil ?_;intro W1 hw';have HQ:=hid (QaM hw');clear hw' c0 c1 c2 c3 f0 f1 f2 f3 k0 k1 k2 k3 k4;go_wp2_with fail;go_ret;exact Qbw 0 _ HM.out rfl _ (Qae HW.out.1 HQ.out) (List.length_set ..) (fun _=>by rw [Qb7 HN.out.1]) (HW.out.2.trans (S':=fun g=>g=B) (Touch.of_below HQ.out) (fun g hg=>.inl hg))
end
end Go.Proofs.YtilaebjndadkhaaGreatDoor
