/- What parts of the program compute: packed for TopReach. Conditions: none. -/
import Derived.Test.YtilaebjndadkhaaGreatDoorPz4
set_option linter.all false
set_option maxRecDepth 100000
set_option maxHeartbeats 8000000
open Go.Lib (hid)
namespace Go.Proofs.YtilaebjndadkhaaGreatDoor
section
open Go.RowKit
theorem QtV{w w':World}{a:Addr}(h:w'.heap[a.block]?=w.heap[a.block]?):w'.cell? a=w.cell? a:=by unfold World.cell?;rw [h]
variable {w W:World} {g G H k:Nat} {x y:Value} {u v:ByteArray}
end
section
open Go.RowKit
def Qch(code:Int):ByteArray:=
 if code=200 then ⟨#[79,75]⟩ else if code=206 then ⟨#[80,97,114,116,105,97,108,32,67,111,110,116,101,110,116]⟩
 else if code=400 then ⟨#[66,97,100,32,82,101,113,117,101,115,116]⟩ else if code=404 then ⟨#[78,111,116,32,70,111,117,110,100]⟩
 else if code=416 then ⟨#[82,97,110,103,101,32,78,111,116,32,83,97,116,105,115,102,105,97,98,108,101]⟩
 else if code=502 then ⟨#[66,97,100,32,71,97,116,101,119,97,121]⟩ else ⟨#[79,116,104,101,114]⟩
def QbQ(code:Int):Int:=if code<100∨599<code then 0 else code/100
def Qap(c:UInt8):Bool:=decide (48≤c.toNat)&&decide (c.toNat≤57)
def Qbi:List UInt8:=[72,84,84,80,47,49,46,49,32]
def Qe1(r:List UInt8):Int×Nat:=match r with
 |a :: b :: c :: t=>if t≠[]∧t.head?≠some 32 then (0,4) else if (Qap a&&Qap b&&Qap c)=false then (0,4)
   else if QbQ (100*((a.toNat:Int)-48)+10*((b.toNat:Int)-48)+((c.toNat:Int)-48))=0 then (0,4)
   else (100*((a.toNat:Int)-48)+10*((b.toNat:Int)-48)+((c.toNat:Int)-48),0)
 |_=>(0,4)
def Qbk(l:List UInt8):Int×Nat:=if Qa0 l=4 then (0,4) else if Qbi.isPrefixOf l=false then (0,13) else Qe1 (l.drop 9)
theorem QhP(code:Int):(Qch code).size≤21:=by
 unfold Qch
 repeat' split
 all_goals decide
theorem Qiv(code:Int)(h:code<100∨599<code):QbQ code=0:=if_pos h
theorem Qph(code:Int)(h1:100≤code)(h2:code≤599):QbQ code=code/100:=if_neg (by omega)
theorem Qmu(code:Int)(h1:100≤code)(h2:code≤599):1≤QbQ code∧QbQ code≤5:=by rw [Qph code h1 h2];omega
theorem Qmv(code:Int):QbQ code=0↔(code<100∨599<code):=by
 constructor
 ·intro h
  rcases Classical.em (code<100∨599<code) with h'|h'
  ·exact h'
  ·have:=Qmu code (by omega) (by omega);omega
 ·exact Qiv code
def QbS(code:Int):ByteArray:=(⟨Qbi.toArray⟩++⟨(Go.Lib.itoa code).toArray⟩++⟨#[32]⟩)++Qch code
def Qdn(code:Int):ByteArray:=if QbQ code=0 then ⟨#[]⟩ else QbS code
def Qci(code:Int):Nat:=if QbQ code=0 then 8 else 0
end
section
open Go.RowKit
structure Env(w:World):Prop where
 m:∃ m,Qpr w m
 tab:Go.Lib.TabIs Tryz.prog w "internal/strconv.uint64pow10" .u64 Go.Lib.pow10Tab
 big:6<w.heap.size
end
section
open Go.RowKit
theorem Qj6(code:Int)(w:World) :
  Calls Tryz.prog 287 #[.int .i64 code] w fun e w'=>e = .returned (.string (Qch code))∧w'=w:=by
 by_cases h1:code=200
 ·subst h1;go_enter Tryz.func287,Tryz.ntmps287;go_wp2_with fail;go_ret;exact ⟨QdF rfl,rfl⟩
 ·by_cases h2:code=206
  ·subst h2;go_enter Tryz.func287,Tryz.ntmps287;go_wp2_with fail;go_ret;exact ⟨QdF rfl,rfl⟩
  ·by_cases h3:code=400
   ·subst h3;go_enter Tryz.func287,Tryz.ntmps287;go_wp2_with fail;go_ret;exact ⟨QdF rfl,rfl⟩
   ·by_cases h4:code=404
    ·subst h4;go_enter Tryz.func287,Tryz.ntmps287;go_wp2_with fail;go_ret;exact ⟨QdF rfl,rfl⟩
    ·by_cases h5:code=416
     ·subst h5;go_enter Tryz.func287,Tryz.ntmps287;go_wp2_with fail;go_ret;exact ⟨QdF rfl,rfl⟩
     ·by_cases h6:code=502
      ·subst h6;go_enter Tryz.func287,Tryz.ntmps287;go_wp2_with fail;go_ret;exact ⟨QdF rfl,rfl⟩
      ·have H:Hid (Qch code=⟨#[79,116,104,101,114]⟩):=hid (by unfold Qch;rw [if_neg h1,if_neg h2,if_neg h3,if_neg h4,if_neg h5,if_neg h6])
       have k1:(code==200)=false:=by rw [beq_eq_false_iff_ne];exact h1
       have k2:(code==206)=false:=by rw [beq_eq_false_iff_ne];exact h2
       have k3:(code==400)=false:=by rw [beq_eq_false_iff_ne];exact h3
       have k4:(code==404)=false:=by rw [beq_eq_false_iff_ne];exact h4
       have k5:(code==416)=false:=by rw [beq_eq_false_iff_ne];exact h5
       have k6:(code==502)=false:=by rw [beq_eq_false_iff_ne];exact h6
       clear h1 h2 h3 h4 h5 h6;go_enter Tryz.func287,Tryz.ntmps287;go_wp2_with fail;go_ret;exact ⟨QdF H.out.symm,rfl⟩
theorem Qde(code:Int)(w:World) :
  Calls Tryz.prog 286 #[.int .i64 code] w fun e w'=>e = .returned (.int .i64 (QbQ code))∧w'=w:=by
 by_cases h:code<100
 ·have H:=hid (Qiv code (.inl h))
  go_enter Tryz.func286,Tryz.ntmps286;go_wp2_with fail;go_ret;exact ⟨QbE H.out.symm,rfl⟩
 ·by_cases h2:599<code
  ·have H:=hid (Qiv code (.inr h2))
   go_enter Tryz.func286,Tryz.ntmps286;go_wp2_with fail;go_ret;exact ⟨QbE H.out.symm,rfl⟩
  ·have H:=hid (Qph code (by omega) (by omega))
   go_enter Tryz.func286,Tryz.ntmps286;go_wp2_with fail;go_ret;exact ⟨QbE H.out.symm,rfl⟩
end
section
open Go.RowKit
theorem Qq5(w:World)(k:Nat)(os:Array Obj):Below w.heap.size w (Go.Sort.grow (w.drewN k) os):=by
 refine ⟨rfl,rfl,rfl,?_,fun j hj=>?_⟩
 ·show w.heap.size≤(w.heap++os).size
  simp
 ·show (w.heap++os)[j]?=w.heap[j]?
  rw [Array.getElem?_append_left hj]
theorem Qvu(n:Int)(h0 : -9223372036854775808≤n)(h1:n≤9223372036854775807)(w:World)(hE:Env w) :
  Calls Tryz.prog 279 #[.int .i64 n] w fun e w'=>e = .returned (.string (bs (Go.Lib.itoa n)))∧Below w.heap.size w w':=
 (Tryz.strconv_Itoa n h0 h1 w hE.tab).mono fun _ _ ⟨he,k,os,hw⟩=>⟨he,hw ▸ Qq5 w k os⟩
theorem Qlg(code:Int)(w:World)(hE:Env w)(h0 : -9223372036854775808≤code)(h1:code≤9223372036854775807) :
  Calls Tryz.prog 252 #[.int .i64 code] w fun e w'=>e = .returned (.tuple #[.string (Qdn code),.int .i64 (Qci code)])∧Below w.heap.size w w':=by
 by_cases hc:QbQ code=0
 ·have hP:Hid (Qdn code=⟨#[]⟩∧Qci code=8):=hid ⟨if_pos hc,if_pos hc⟩
  go_enter Tryz.func252,Tryz.ntmps252;go_wp2_with (go_at_call 286;refine (Qde _ _).mono ?_;rintro e w' ⟨rfl,rfl⟩);go_ret2;exact ⟨by rw [hP.out.1,hP.out.2];rfl,Below.refl _ _⟩
 ·have hP:Hid (Qdn code=QbS code∧Qci code=0):=hid ⟨if_neg hc,if_neg hc⟩
  have hcb:(QbQ code==0)=false:=by rw [beq_eq_false_iff_ne];exact hc
  have hl:=Qvt code h0 h1;have hr:=QhP code;obtain ⟨I,hI⟩:∃ I,I=bs (Go.Lib.itoa code):=⟨_,rfl⟩;have hIs:I.size≤21:=by rw [hI,QaC];exact hl
  have y1:(ByteArray.mk #[72,84,84,80,47,49,46,49,32]).size+I.size≤9223372036854775807:=by show 9+_≤_;omega
  have y2:((ByteArray.mk #[72,84,84,80,47,49,46,49,32])++I).size+(ByteArray.mk #[32]).size≤9223372036854775807:=by rw [ByteArray.size_append];show 9+_+1≤_;omega
  have y3:((ByteArray.mk #[72,84,84,80,47,49,46,49,32])++I++ByteArray.mk #[32]).size+(Qch code).size≤9223372036854775807:=by rw [ByteArray.size_append,ByteArray.size_append];show 9+_+1+_≤_;omega
  have HI:=hid hI;have HE:=hid hE;clear hc hI hE;go_enter Tryz.func252,Tryz.ntmps252;go_wp2_with (go_at_call 286;refine (Qde _ _).mono ?_;rintro e w' ⟨rfl,rfl⟩);refine (Qvu code h0 h1 _ HE.out).mono ?_;rw [←HI.out];rintro e w1 ⟨rfl,hb⟩;go_wp2_with (go_at_call 287;refine (Qj6 _ _).mono ?_;rintro e w' ⟨rfl,rfl⟩);go_ret2;refine ⟨?_,hb⟩;rw [hP.out.1,hP.out.2];unfold QbS;rw [HI.out];rfl
end
section
open Go.RowKit
def QeM:List UInt8:=[48,49,50,51,52,53,54,55,56,57]
theorem Qmj(c:UInt8):QeM.contains c=Qap c:=by
 have h:∀ n:Fin 256,QeM.contains (UInt8.ofNat n.val)=Qap (UInt8.ofNat n.val):=by decide +kernel
 have:=h ⟨c.toNat,c.toNat_lt⟩;simpa using this
theorem QdW{p:UInt8→Bool}(l:List UInt8):l.dropWhile p = []↔l.all p=true:=by
 induction l with
 |nil=>simp
 |cons a t ih=>
  by_cases h:p a=true
  ·rw [List.dropWhile_cons_of_pos h,ih];simp [h]
  ·rw [List.dropWhile_cons_of_neg h];simp [h]
theorem QmW(l cs:List UInt8):(Go.Lib.trimS l cs).isEmpty=l.all (cs.contains ·):=by
 unfold Go.Lib.trimS Go.Lib.trimLeftS Go.Lib.trimRightS;rw [Bool.eq_iff_iff,List.isEmpty_iff];constructor
 ·intro h
  have h1:=(QdW _).1 h;rw [List.all_reverse] at h1;have h2:(l.reverse.dropWhile (cs.contains ·)) = []:=by
   cases hd:l.reverse.dropWhile (cs.contains ·) with
   |nil=>rfl
   |cons a t=>
    have hn:=List.head?_dropWhile_not (cs.contains ·) l.reverse
    rw [hd] at h1 hn;simp only [List.head?_cons] at hn;simp only [List.all_cons,Bool.and_eq_true] at h1;rw [h1.1] at hn;exact absurd hn (by decide)
  have h3:=(QdW _).1 h2
  rwa [List.all_reverse] at h3
 ·intro h
  have h2:(l.reverse.dropWhile (cs.contains ·)) = []:=(QdW _).2 (by rw [List.all_reverse];exact h)
  rw [h2];rfl
theorem Qn4(l:List UInt8):(Go.Lib.trimS l QeM).isEmpty=l.all Qap:=by
 rw [QmW]
 congr 1
 funext c
 exact Qmj c
theorem three(l:List UInt8)(h:3≤l.length):l=l[0] :: l[1] :: l[2] :: l.drop 3:=by
 match l,h with
 |a :: b :: c :: t,_=>rfl
theorem Qmq(l:List UInt8)(h:l.length<3):Qe1 l=(0,4):=by
 match l,h with
 |[],_=>rfl
 |[_],_=>rfl
 |[_,_],_=>rfl
def Qgj(a b c:UInt8):Int:=100*((a.toNat:Int)-48)+10*((b.toNat:Int)-48)+((c.toNat:Int)-48)
theorem QdZ(a b c:UInt8)(t:List UInt8):Qe1 (a :: b :: c :: t)=if t≠[]∧t.head?≠some 32 then (0,4) else if (Qap a&&Qap b&&Qap c)=false then (0,4)
   else if QbQ (Qgj a b c)=0 then (0,4) else (Qgj a b c,0):=rfl
theorem Qis(l:List UInt8)(h:3<l.length)(h2:l[3]≠32):Qe1 l=(0,4):=by
 match l,h,h2 with
 |a :: b :: c :: d :: t,_,h2=>
  rw [QdZ,if_pos ⟨by simp,by simpa using h2⟩]
theorem Qfd(l:List UInt8)(h:3≤l.length)(h2:∀ h3:3<l.length,l[3]=32) :
  Qe1 l=if (Qap l[0]&&Qap l[1]&&Qap l[2])=false then (0,4) else if QbQ (Qgj l[0] l[1] l[2])=0 then (0,4) else (Qgj l[0] l[1] l[2],0):=by
 match l,h,h2 with
 |[a,b,c],_,_=>
  rw [QdZ];rfl
 |a :: b :: c :: d :: t,_,h2=>
  have hd:d=32:=h2 (by simp)
  rw [QdZ,if_neg (by simp [hd])];rfl
theorem Qk0(l:List UInt8)(h:3≤l.length)(hd:(Qap l[0]&&Qap l[1]&&Qap l[2])=false):Qe1 l=(0,4):=by
 by_cases h3:3<l.length
 ·by_cases h4:l[3]=32
  ·rw [Qfd l h (fun _=>h4),if_pos hd]
  ·exact Qis l h3 h4
 ·rw [Qfd l h (fun h'=>absurd h' h3),if_pos hd]
theorem QeK(c:UInt8)(h:Qap c=true):48≤c.toNat∧c.toNat≤57:=by
 unfold Qap at h;simpa using h
theorem Qq7(a b c:UInt8)(ha:Qap a=true)(hb:Qap b=true)(hc:Qap c=true):Go.Lib.atoi [a,b,c]=some (Qgj a b c):=by
 obtain ⟨a1,a2⟩:=QeK a ha;obtain ⟨b1,b2⟩:=QeK b hb;obtain ⟨c1,c2⟩:=QeK c hc;have d1:Go.Lib.digitVal a=some (a.toNat-48):=if_pos ⟨a1,a2⟩;have d2:Go.Lib.digitVal b=some (b.toNat-48):=if_pos ⟨b1,b2⟩;have d3:Go.Lib.digitVal c=some (c.toNat-48):=if_pos ⟨c1,c2⟩;have n1:(a==45)=false:=by rw [beq_eq_false_iff_ne];intro e;subst e;simp at a1
 have n2:(a==43)=false:=by rw [beq_eq_false_iff_ne];intro e;subst e;simp at a1
 unfold Go.Lib.atoi Go.Lib.decNat;simp only [n1,n2,Go.Lib.decFrom,d1,d2,d3,List.isEmpty_cons,Bool.false_eq_true,if_false,Option.map_some];unfold Qgj
 congr 1
 omega
end
section
open Go.RowKit
theorem QhA(l:List UInt8)(h:Qa0 l=4):Qbk l=(0,4):=if_pos h
theorem QiQ(l:List UInt8)(h:Qa0 l≠4)(h2:Qbi.isPrefixOf l=false):Qbk l=(0,13):=by
 unfold Qbk;rw [if_neg h,if_pos h2]
theorem QhB(l:List UInt8)(h:Qa0 l≠4)(h2:Qbi.isPrefixOf l=true):Qbk l=Qe1 (l.drop 9):=by
 unfold Qbk;rw [if_neg h,if_neg (by simp [h2])]
end
section
open Go.RowKit
theorem Qj7(s:ByteArray)(w:World)(hs:s.size≤9223372036854775807) :
  Calls Tryz.prog 327 #[.string s] w fun e w'=>e = .returned (.bool (s.data.toList.all Qap))∧Below w.heap.size w w':=by
 have QAO:Calls Tryz.prog 199 #[.string s,.string ⟨#[48,49,50,51,52,53,54,55,56,57]⟩] w (fun e w'=>e = .returned (.string (bs (Go.Lib.trimS s.data.toList QeM)))∧Below w.heap.size w w'):=
  Any.strings_Trim_laid Tryz.lays160 (by kernel_rfl) s ⟨#[48,49,50,51,52,53,54,55,56,57]⟩ w hs (by decide) (Go.Proofs.ascii_of_all (by decide))
 have he:(bs (Go.Lib.trimS s.data.toList QeM)).toList.isEmpty=s.data.toList.all Qap:=by
  rw [Qgp];exact Qn4 _
 obtain ⟨R,hR⟩:∃ R,R=bs (Go.Lib.trimS s.data.toList QeM):=⟨_,rfl⟩;rw [←hR] at QAO he;have QBg:=hid QAO;have He:=hid he;clear hR QAO he;go_enter Tryz.func327,Tryz.ntmps327;go_wp2_with fail;refine QBg.out.mono ?_;rintro e w' ⟨rfl,hb⟩;go_wp2_with fail;go_ret;exact ⟨QaE He.out,hb⟩
def Qed(l:List UInt8):Bool:=decide (3≤l.length)&&(decide (l.length=3)||l[3]? == some 32)&&((l.take 3).all Qap)
theorem QhE(l:List UInt8)(h:l.length<3):Qed l=false:=by
 unfold Qed;rw [decide_eq_false (by omega)];rfl
theorem Qjg(l:List UInt8)(h:3<l.length)(h2:l[3]?≠some 32):Qed l=false:=by
 unfold Qed;have:(l[3]? == some 32)=false:=by rw [beq_eq_false_iff_ne];exact h2
 rw [this,decide_eq_false (show ¬l.length=3 by omega)];simp
theorem Qga(l:List UInt8)(h:3≤l.length)(h2:l.length=3∨l[3]?=some 32):Qed l=(Qap l[0]&&Qap l[1]&&Qap l[2]):=by
 unfold Qed;have h3:(decide (l.length=3)||l[3]? == some 32)=true:=by
  rcases h2 with h2|h2
  ·rw [decide_eq_true h2];rfl
  ·rw [h2];simp
 rw [decide_eq_true h,h3,Bool.true_and,Bool.true_and]
 match l,h with
 |a :: b :: c :: t,_=>simp [Bool.and_assoc]
theorem Qjj(s:ByteArray)(k:Nat)(h:k<s.size):(s.extract k (k+1)).data.toList = [s[k]]:=by
 rw [Qcw,Qaj,List.take_succ_eq_append_getElem (by simpa using h),List.drop_append_of_le_length (by simp;omega),List.drop_of_length_le (by simp;omega)]
 rfl
theorem QeL(t:ByteArray)(b:UInt8)(B:Bool)(w:World)(hs:t.size≤9223372036854775807)(hb:t.data.toList = [b])(hB:Qap b=B) :
  Calls Tryz.prog 327 #[.string t] w fun e w'=>e = .returned (.bool B)∧Below w.heap.size w w':=by
 have h:=Qj7 t w hs;rw [hb] at h;simpa [hB] using h
theorem QgF(s:ByteArray)(w:World)(hs:s.size≤9223372036854775807) :
  Calls Tryz.prog 309 #[.string s] w fun e w'=>e = .returned (.bool (Qed s.data.toList))∧Below w.heap.size w w':=by
 by_cases h3:s.size<3
 ·have H:=hid (QhE s.data.toList (by rw [Qab];exact h3))
  have t1:((s.size:Int)==3)=false:=by rw [beq_eq_false_iff_ne];omega
  go_enter Tryz.func309,Tryz.ntmps309;go_wp2_with fail;go_ret;exact ⟨QaE H.out.symm,Below.refl _ _⟩
 ·by_cases ht:∃ h:3<s.size,s[3]≠32
  ·obtain ⟨hlt,hne⟩:=ht
   have H:=hid (Qjg s.data.toList (by rw [Qab];exact hlt) (by rw [List.getElem?_eq_getElem (by rw [Qab];exact hlt)];intro e;exact hne (Option.some.inj e)))
   have hc3:((s[3].toNat:Int) != 32)=true:=by
    rw [bne_iff_ne];intro e;exact hne (UInt8.toNat_inj.1 (by show _=32;omega))
   clear hne;go_enter Tryz.func309,Tryz.ntmps309;go_wp2_with fail;go_ret;exact ⟨QaE H.out.symm,Below.refl _ _⟩
  ·have hm:=Qga s.data.toList (by rw [Qab];omega) (by
    rcases Nat.lt_or_ge 3 s.size with h|h
    ·right
     rw [List.getElem?_eq_getElem (by rw [Qab];exact h)]
     have:s[3]=32:=Classical.byContradiction fun hne=>ht ⟨h,hne⟩
     exact congrArg some this
    ·left;rw [Qab];omega)
   change Qed s.data.toList=(Qap (s[0]'(by omega))&&Qap (s[1]'(by omega))&&Qap (s[2]'(by omega))) at hm
   have hx:s.data.toList.length=s.size:=Qab s;have QBH:(s.extract 0 3).size=3:=by rw [ByteArray.size_extract];omega
   obtain ⟨a,ha⟩:∃ a,a=s[0]'(by omega):=⟨_,rfl⟩
   obtain ⟨b,hb⟩:∃ b,b=s[1]'(by omega):=⟨_,rfl⟩
   obtain ⟨c,hc⟩:∃ c,c=s[2]'(by omega):=⟨_,rfl⟩
   have g0:((s.extract 0 3).extract 0 1).data.toList = [a]:=by
    rw [Qjj (s.extract 0 3) 0 (by omega),ByteArray.getElem_extract,ha]
   have g1:((s.extract 0 3).extract 1 2).data.toList = [b]:=by
    rw [Qjj (s.extract 0 3) 1 (by omega),ByteArray.getElem_extract,hb]
   have g2:((s.extract 0 3).extract 2 3).data.toList = [c]:=by
    rw [Qjj (s.extract 0 3) 2 (by omega),ByteArray.getElem_extract,hc]
   have k0:(s.extract 0 1).data.toList = [a]:=by
    rw [Qjj s 0 (by omega),ha]
   have k1:(s.extract 1 2).data.toList = [b]:=by
    rw [Qjj s 1 (by omega),hb]
   have k2:(s.extract 2 3).data.toList = [c]:=by
    rw [Qjj s 2 (by omega),hc]
   rw [←ha,←hb,←hc] at hm;clear ha hb hc;obtain ⟨da,hda⟩:∃ d,Qap a=d:=⟨_,rfl⟩;obtain ⟨db,hdb⟩:∃ d,Qap b=d:=⟨_,rfl⟩;obtain ⟨dc,hdc⟩:∃ d,Qap c=d:=⟨_,rfl⟩;rw [hda,hdb,hdc] at hm;have z1:((s.extract 0 3).extract 0 1).size≤9223372036854775807:=by rw [ByteArray.size_extract];omega
   have z2:((s.extract 0 3).extract 1 2).size≤9223372036854775807:=by rw [ByteArray.size_extract];omega
   have z3:((s.extract 0 3).extract 2 3).size≤9223372036854775807:=by rw [ByteArray.size_extract];omega
   have y1:(s.extract 0 1).size≤9223372036854775807:=by rw [ByteArray.size_extract];omega
   have y2:(s.extract 1 2).size≤9223372036854775807:=by rw [ByteArray.size_extract];omega
   have y3:(s.extract 2 3).size≤9223372036854775807:=by rw [ByteArray.size_extract];omega
   have C0:=fun w=>QeL _ a da w z1 g0 hda
   have C1:=fun w=>QeL _ b db w z2 g1 hdb
   have C2:=fun w=>QeL _ c dc w z3 g2 hdc
   have D0:=fun w=>QeL _ a da w y1 k0 hda
   have D1:=fun w=>QeL _ b db w y2 k1 hdb
   have D2:=fun w=>QeL _ c dc w y3 k2 hdc
   clear hda hdb hdc g0 g1 g2 k0 k1 k2 z1 z2 z3 y1 y2 y3 hx;have Hm:=hid hm;have HC0:=hid C0;have HC1:=hid C1;have HC2:=hid C2;have HD0:=hid D0;have HD1:=hid D1;have HD2:=hid D2;clear hm C0 C1 C2 D0 D1 D2
   by_cases h4:3<s.size
   ·have hc3:((s[3].toNat:Int) != 32)=false:=by
     have:s[3]=32:=Classical.byContradiction fun hne=>ht ⟨h4,hne⟩
     rw [this];rfl
    clear ht;cases da
    ·go_enter Tryz.func309,Tryz.ntmps309
     go_wp2_with fail;refine (HC0.out _).mono ?_;rintro e w1 ⟨rfl,hb1⟩;go_wp2_with fail;go_ret;exact ⟨QaE (by rw [Hm.out];rfl),hb1⟩
    ·cases db
     ·go_enter Tryz.func309,Tryz.ntmps309
      go_wp2_with fail;refine (HC0.out _).mono ?_;rintro e w1 ⟨rfl,hb1⟩;go_wp2_with fail;refine (HC1.out _).mono ?_;rintro e w2 ⟨rfl,hb2⟩;go_wp2_with fail;go_ret;exact ⟨QaE (by rw [Hm.out];rfl),Qaa hb1 hb2⟩
     ·go_enter Tryz.func309,Tryz.ntmps309
      go_wp2_with fail;refine (HC0.out _).mono ?_;rintro e w1 ⟨rfl,hb1⟩;go_wp2_with fail;refine (HC1.out _).mono ?_;rintro e w2 ⟨rfl,hb2⟩;go_wp2_with fail;refine (HC2.out _).mono ?_;rintro e w3 ⟨rfl,hb3⟩;cases dc <;>
      ·go_wp2_with fail
       go_ret;exact ⟨QaE (by rw [Hm.out];rfl),Qaa hb1 (Qaa hb2 hb3)⟩
   ·have t3:((s.size:Int)==3)=true:=by rw [beq_iff_eq];omega
    have t4:s.size=3:=by omega
    clear ht;cases da
    ·go_enter Tryz.func309,Tryz.ntmps309
     go_wp2_with fail;refine (HD0.out _).mono ?_;rintro e w1 ⟨rfl,hb1⟩;go_wp2_with fail;go_ret;exact ⟨QaE (by rw [Hm.out];rfl),hb1⟩
    ·cases db
     ·go_enter Tryz.func309,Tryz.ntmps309
      go_wp2_with fail;refine (HD0.out _).mono ?_;rintro e w1 ⟨rfl,hb1⟩;go_wp2_with fail;refine (HD1.out _).mono ?_;rintro e w2 ⟨rfl,hb2⟩;go_wp2_with fail;go_ret;exact ⟨QaE (by rw [Hm.out];rfl),Qaa hb1 hb2⟩
     ·go_enter Tryz.func309,Tryz.ntmps309
      go_wp2_with fail;refine (HD0.out _).mono ?_;rintro e w1 ⟨rfl,hb1⟩;go_wp2_with fail;refine (HD1.out _).mono ?_;rintro e w2 ⟨rfl,hb2⟩;go_wp2_with fail;refine (HD2.out _).mono ?_;rintro e w3 ⟨rfl,hb3⟩;cases dc <;>
      ·go_wp2_with fail
       go_ret;exact ⟨QaE (by rw [Hm.out];rfl),Qaa hb1 (Qaa hb2 hb3)⟩
theorem Qit(l:List UInt8)(h:Qed l=false):Qe1 l=(0,4):=by
 rcases Nat.lt_or_ge l.length 3 with h3|h3
 ·exact Qmq l h3
 ·by_cases h2:l.length=3∨l[3]?=some 32
  ·exact Qk0 l h3 (by rw [←Qga l h3 h2];exact h)
  ·have h4:3<l.length:=by omega
   exact Qis l h4 (fun e=>h2 (.inr (by rw [List.getElem?_eq_getElem h4,e])))
theorem Qmr(l:List UInt8)(h:Qed l=true):∃ a b c,3≤l.length∧l.take 3 = [a,b,c]∧Qap a=true∧Qap b=true∧Qap c=true∧Qe1 l=if QbQ (Qgj a b c)=0 then (0,4) else (Qgj a b c,0):=by
 rcases Nat.lt_or_ge l.length 3 with h3|h3
 ·rw [QhE l h3] at h;exact absurd h (by decide)
 ·by_cases h2:l.length=3∨l[3]?=some 32
  ·have hm:=Qga l h3 h2
   rw [h] at hm;have hm':=hm.symm;rw [Bool.and_eq_true,Bool.and_eq_true] at hm';refine ⟨l[0],l[1],l[2],h3,?_,hm'.1.1,hm'.1.2,hm'.2,?_⟩
   ·match l,h3 with
    |a :: b :: c :: t,_=>rfl
   ·rw [Qfd l h3 ?_,if_neg (by rw [←hm];decide)]
    intro h4;rcases h2 with h2|h2
    ·omega
    ·rw [List.getElem?_eq_getElem h4] at h2;exact Option.some.inj h2
  ·have h4:3<l.length:=by omega
   rw [Qjg l h4 (fun e=>h2 (.inr e))] at h;exact absurd h (by decide)
theorem QjK(s:ByteArray)(w:World)(R:ByteArray)(B:Bool)(hR:R=bs (Lib.trimPrefix s.data.toList Qbi))(hB:Lib.hasPrefix s.data.toList Qbi=B) :
  Calls Tryz.prog 198 #[.string s,.string ⟨#[72,84,84,80,47,49,46,49,32]⟩] w fun e w'=>e = .returned (.tuple #[.string R,.bool B])∧w'=w:=by
 have h:=Tryz.strings_CutPrefix s ⟨#[72,84,84,80,47,49,46,49,32]⟩ w;subst hR;subst hB;exact h
theorem QcZ(l:List UInt8)(n:Int)(e:Nat)(h:Qbk l=(n,e)):Ending.returned (.tuple #[.int .i64 n,.int .i64 e]) = .returned (.tuple #[.int .i64 (Qbk l).1,.int .i64 (Qbk l).2]):=by rw [h]
theorem Qlh(s:ByteArray)(w:World)(hs:s.size≤9223372036854775807) :
  Calls Tryz.prog 280 #[.string s] w fun e w'=>e = .returned (.tuple #[.int .i64 (Qbk s.data.toList).1,.int .i64 (Qbk s.data.toList).2])∧Below w.heap.size w w':=by
 by_cases h4:Qa0 s.data.toList=4
 ·have H:=hid (QhA s.data.toList h4)
  have QBe:=QfE s w hs;rw [h4] at QBe;have QBF:=hid QBe;clear QBe h4;go_enter Tryz.func280,Tryz.ntmps280;go_wp2_with fail;refine QBF.out.mono ?_;rintro e w' ⟨rfl,rfl⟩;go_wp2_with fail;go_ret2;exact ⟨QcZ _ 0 4 H.out,Below.refl _ _⟩
 ·obtain ⟨E,hE⟩:∃ E,E=Qa0 s.data.toList:=⟨_,rfl⟩
  have hE4:((E:Int)==4)=false:=by rw [beq_eq_false_iff_ne,hE];omega
  have hE4':(E==4)=false:=by rw [beq_eq_false_iff_ne,hE];omega
  have QBe:=QfE s w hs;rw [←hE] at QBe;obtain ⟨PL,hPL⟩:∃ PL,PL=Qeh s:=⟨_,rfl⟩;rw [←hPL] at QBe;have QBF:=hid QBe;clear QBe hE hPL
  by_cases QAT:Qbi.isPrefixOf s.data.toList=true
  ·have QAE:=QhB _ h4 QAT
   obtain ⟨R,hR⟩:∃ R,R=bs (Lib.trimPrefix s.data.toList Qbi):=⟨_,rfl⟩;have QB7:=hid (QjK s w R true hR QAT);have hRl:R.data.toList=s.data.toList.drop 9:=by
    rw [hR,Qaj];unfold Lib.trimPrefix;rw [if_pos (show Lib.hasPrefix s.data.toList Qbi=true from QAT)];rfl
   have hRs:R.size≤9223372036854775807:=by
    rw [←Qab,hRl,List.length_drop,Qab];omega
   rw [←hRl] at QAE;clear hR hRl QAT h4;cases hsh:Qed R.data.toList with
   |false=>
    have H:=hid (QAE.trans (Qit _ hsh));have QBh:=fun w=>QgF R w hRs
    rw [hsh] at QBh;have Hshp:=hid QBh;clear QBh hsh QAE;go_enter Tryz.func280,Tryz.ntmps280;go_wp2_with fail;refine QBF.out.mono ?_;rintro e w' ⟨rfl,rfl⟩;go_wp2_with fail;refine QB7.out.mono ?_;rintro e w' ⟨rfl,rfl⟩;go_wp2_with fail;refine (Hshp.out _).mono ?_;rintro e w1 ⟨rfl,hb1⟩;go_wp2_with fail;go_ret2;exact ⟨QcZ _ 0 4 H.out,hb1⟩
   |true=>
    obtain ⟨a,b,c,h3,ht,ha,hb,hc,hcd⟩:=Qmr _ hsh;rw [hcd] at QAE;rw [Qab] at h3;have QBh:=fun w=>QgF R w hRs
    rw [hsh] at QBh;have Hshp:=hid QBh;have hT:(R.extract 0 3).data.toList = [a,b,c]:=by rw [Qcw,Qaj,List.drop_zero];exact ht
    have hato:=fun w=>Tryz.strconv_Atoi (R.extract 0 3) (Qgj a b c) (by rw [ByteArray.size_extract];omega) (by rw [hT];exact Qq7 a b c ha hb hc) w
    have Hato:=hid hato;obtain ⟨C,hC⟩:∃ C,C=Qgj a b c:=⟨_,rfl⟩;rw [←hC] at Hato QAE;have hCb:0≤C∧C≤999:=by
     obtain ⟨a1,a2⟩:=QeK a ha;obtain ⟨b1,b2⟩:=QeK b hb;obtain ⟨c1,c2⟩:=QeK c hc;rw [hC];unfold Qgj;omega
    obtain ⟨hC0,hC9⟩:=hCb;clear QBh hsh hcd ht ha hb hc hT hato hC
    by_cases hcl:QbQ C=0
    ·rw [if_pos hcl] at QAE
     have H:=hid QAE;clear QAE;go_enter Tryz.func280,Tryz.ntmps280;go_wp2_with fail;refine QBF.out.mono ?_;rintro e w' ⟨rfl,rfl⟩;go_wp2_with fail;refine QB7.out.mono ?_;rintro e w' ⟨rfl,rfl⟩;go_wp2_with fail;refine (Hshp.out _).mono ?_;rintro e w1 ⟨rfl,hb1⟩;go_wp2_with fail;refine (Hato.out _).mono ?_;rintro e w2 ⟨rfl,t,rfl⟩;go_wp2_with (go_at_call 286;refine (Qde _ _).mono ?_;rintro e w' ⟨rfl,rfl⟩);go_ret2;exact ⟨QcZ _ 0 4 H.out,Qaa hb1 (Go.Joins.below_bytesWorld _ _ _ _ (Nat.le_refl _))⟩
    ·rw [if_neg hcl] at QAE
     have H:=hid QAE;have hclb:(QbQ C==0)=false:=by rw [beq_eq_false_iff_ne];exact hcl
     clear QAE hcl;go_enter Tryz.func280,Tryz.ntmps280;go_wp2_with fail;refine QBF.out.mono ?_;rintro e w' ⟨rfl,rfl⟩;go_wp2_with fail;refine QB7.out.mono ?_;rintro e w' ⟨rfl,rfl⟩;go_wp2_with fail;refine (Hshp.out _).mono ?_;rintro e w1 ⟨rfl,hb1⟩;go_wp2_with fail;refine (Hato.out _).mono ?_;rintro e w2 ⟨rfl,t,rfl⟩;go_wp2_with (go_at_call 286;refine (Qde _ _).mono ?_;rintro e w' ⟨rfl,rfl⟩);go_ret2;exact ⟨QcZ _ C 0 H.out,Qaa hb1 (Go.Joins.below_bytesWorld _ _ _ _ (Nat.le_refl _))⟩
  ·have QBi:Qbi.isPrefixOf s.data.toList=false:=Bool.eq_false_iff.2 QAT
   have H:=hid (QiQ _ h4 QBi);obtain ⟨R,hR⟩:∃ R,R=bs (Lib.trimPrefix s.data.toList Qbi):=⟨_,rfl⟩;have QB7:=hid (QjK s w R false hR QBi);clear hR QAT QBi h4;go_enter Tryz.func280,Tryz.ntmps280;go_wp2_with fail;refine QBF.out.mono ?_;rintro e w' ⟨rfl,rfl⟩;go_wp2_with fail;refine QB7.out.mono ?_;rintro e w' ⟨rfl,rfl⟩;go_wp2_with fail;go_ret2;exact ⟨QcZ _ 0 13 H.out,Below.refl _ _⟩
end
section
open Go.RowKit
def Qyh(n:Nat):List UInt8:=[UInt8.ofNat (48+n/100),UInt8.ofNat (48+n/10%10),UInt8.ofNat (48+n%10)]
theorem Qir(n:Nat)(h1:100≤n)(h2:n≤999):Go.Lib.decDigits n=Qyh n:=by
 rw [Go.Lib.decDigits,dif_neg (by omega),Go.Lib.decDigits,dif_neg (by omega),Go.Lib.decDigits_one (show n/10/10<10 by omega)]
 rw [show n/10/10=n/100 by omega]
 rfl
theorem QqR(n:Nat)(h1:100≤n)(h2:n≤999):∀ k,k<10→Qap (UInt8.ofNat (48+k))=true:=by
 decide +kernel
theorem Qfo(k:Nat)(h:k<10):(UInt8.ofNat (48+k)).toNat=48+k:=by
 rw [UInt8.toNat_ofNat',Nat.mod_eq_of_lt (by omega)]
theorem Qv9(n:Nat)(h1:100≤n)(h2:n≤999):Qgj (UInt8.ofNat (48+n/100)) (UInt8.ofNat (48+n/10%10)) (UInt8.ofNat (48+n%10))=n:=by
 unfold Qgj;rw [Qfo _ (by omega),Qfo _ (by omega),Qfo _ (by omega)]
 omega
theorem Qip(k:Nat)(h:k<10):Qaz (UInt8.ofNat (48+k)).toNat=true:=by
 rw [Qfo k h];have:∀ k,k<10→Qaz (48+k)=true:=by decide
 exact this k h
theorem QmE(n:Nat)(h1:100≤n)(h2:n≤999)(t:List UInt8):(Qbi++Qyh n++t).all (fun c=>Qaz c.toNat)=t.all (fun c=>Qaz c.toNat):=by
 rw [List.all_append,List.all_append];have e1:Qbi.all (fun c=>Qaz c.toNat)=true:=by decide +kernel
 have e2:(Qyh n).all (fun c=>Qaz c.toNat)=true:=by
  unfold Qyh;simp only [List.all_cons,List.all_nil];rw [Qip _ (by omega),Qip _ (by omega),Qip _ (by omega)];rfl
 rw [e1,e2,Bool.true_and,Bool.true_and]
theorem QhS(l:List UInt8):Qa0 l=4↔l.all (fun c=>Qaz c.toNat)=false:=by
 unfold Qa0;constructor
 ·intro h
  split at h
  ·assumption
  ·split at h<;>exact absurd h (by decide)
 ·intro h;rw [if_pos h]
theorem Qj8(n:Nat)(h1:100≤n)(h2:n≤599)(t:List UInt8)(ht:t = []∨t.head?=some 32) :
  Qbk (Qbi++Qyh n++t)=if t.all (fun c=>Qaz c.toNat)=false then (0,4) else ((n:Int),0):=by
 have hp:=QmE n h1 (by omega) t
 by_cases hpl:t.all (fun c=>Qaz c.toNat)=false
 ·rw [if_pos hpl]
  exact QhA _ ((QhS _).2 (by rw [hp];exact hpl))
 ·rw [if_neg hpl]
  rw [QhB _ (fun h=>hpl (by rw [←hp];exact (QhS _).1 h)) (by
   rw [List.isPrefixOf_iff_prefix,List.append_assoc];exact List.prefix_append _ _)]
  rw [List.append_assoc,List.drop_append_of_le_length (by decide)]
  have hv:Qbi.drop 9 = []:=by decide
  rw [hv,List.nil_append];show Qe1 (_ :: _ :: _ :: t)=_;have hd:=QqR n h1 (by omega)
  rw [QdZ,if_neg (by
   rintro ⟨h3,h4⟩;rcases ht with h|h
   ·exact h3 h
   ·exact h4 h),if_neg (by rw [hd _ (by omega),hd _ (by omega),hd _ (by omega)];decide),Qv9 n h1 (by omega),if_neg (by
   have:=Qmu (n:Int) (by omega) (by omega);omega)]
theorem Qcg(n:Nat)(h1:100≤n)(h2:n≤999):(QbS (n:Int)).data.toList=Qbi++Qyh n++(32 :: (Qch (n:Int)).data.toList):=by
 unfold QbS;rw [QnM _ (by omega),Int.toNat_natCast,Qir n h1 h2]
 simp [ByteArray.data_append]
theorem QgI(code:Int):(Qch code).data.toList.all (fun c=>Qaz c.toNat)=true:=by
 unfold Qch
 repeat' split
 all_goals decide +kernel
theorem QiR(n:Nat)(h1:100≤n)(h2:n≤999):(QbS (n:Int)).size=13+(Qch (n:Int)).size:=by
 rw [←Qab,Qcg n h1 h2];simp [Qbi,Qyh];omega
theorem QgZ(n:Nat)(h1:100≤n)(h2:n≤599):Qa0 (QbS (n:Int)).data.toList=0:=by
 have hl:=QiR n h1 (by omega)
 have hr:=QhP (n:Int);unfold Qa0;rw [if_neg (by
  rw [Qcg n h1 (by omega),QmE n h1 (by omega),List.all_cons,QgI];decide),if_neg (by rw [Qab];omega)]
theorem Qfq(n:Nat)(h1:100≤n)(h2:n≤599):Qbk (QbS (n:Int)).data.toList=((n:Int),0):=by
 rw [Qcg n h1 (by omega),Qj8 n h1 h2 _ (.inr rfl),if_neg (by rw [List.all_cons,QgI];decide)]
end
section
open Go.RowKit
def Anchor(R:Nat)(w:World):Prop:=∃ wa,EnvF wa∧wa.heap.size=R∧Below R wa w
theorem Anchor.env{R:Nat}{w:World}(h:Anchor R w):EnvF w:=by
 obtain ⟨wa,h1,rfl,h3⟩:=h;exact h1.below h3
theorem Anchor.step{R:Nat}{w w':World}(h:Anchor R w)(hb:Below R w w'):Anchor R w':=by
 obtain ⟨wa,h1,h2,h3⟩:=h;exact ⟨wa,h1,h2,h3.trans hb⟩
def HoldsLt(w:World)(R:Nat)(v:Value)(xs:List (List UInt8)):Prop:=
 ∃ a c,v = .slice a xs.length c∧xs.length≤c∧(xs≠[]→∃ b o,a=some ⟨b,o,none⟩∧b<R∧∀ j (hj:j<xs.length),w.cell? ⟨b,o+j,none⟩=some (.string (bs xs[j])))
theorem HoldsLt.holds{w:World}{R:Nat}{v:Value}{xs:List (List UInt8)}(h:HoldsLt w R v xs)(hR:R≤w.heap.size):HoldsS w v xs:=by
 obtain ⟨a,c,h1,h2,h3⟩:=h;exact ⟨a,c,h1,h2,fun hn=>let ⟨b,o,e1,e2,e3⟩:=h3 hn;⟨b,o,e1,Nat.lt_of_lt_of_le e2 hR,e3⟩⟩
theorem HoldsLt.step{w w':World}{R:Nat}{v:Value}{xs:List (List UInt8)}(h:HoldsLt w R v xs)(hb:Below R w w'):HoldsLt w' R v xs:=by
 obtain ⟨a,c,h1,h2,h3⟩:=h;exact ⟨a,c,h1,h2,fun hn=>let ⟨b,o,e1,e2,e3⟩:=h3 hn;⟨b,o,e1,e2,fun j hj=>(hb.cell (p:=⟨b,o+j,none⟩) e2).trans (e3 j hj)⟩⟩
theorem HoldsLt.of{w:World}{v:Value}{xs:List (List UInt8)}(h:HoldsS w v xs):HoldsLt w w.heap.size v xs:=h
def QeJ:List (List UInt8)→Nat
 |[]=>0
 |l :: t=>if Qa9 l≠0 then Qa9 l else QeJ t
def QbX(ls:List (List UInt8)):List (List UInt8×List UInt8):=ls.map fun l=>(Qa8 l,Qa7 l)
theorem Ql7(xs:List (List UInt8)):∀ k,(∀ j (hj:j<xs.length),j<k→Qa9 xs[j]=0)→QeJ xs=QeJ (xs.drop k):=by
 induction xs with
 |nil=>intro k _;simp
 |cons x t ih=>
  intro k h;cases k with
  |zero=>rfl
  |succ k=>
   have h0:=h 0 (by simp) (by omega)
   show (if Qa9 x≠0 then Qa9 x else QeJ t)=QeJ (t.drop k)
   rw [if_neg (fun hh=>hh h0)]
   exact ih k (fun j hj hk=>h (j+1) (by simp;omega) (by omega))
theorem Qtt(xs:List (List UInt8))(k:Nat)(hk:k<xs.length)(h:∀ j (hj:j<xs.length),j<k→Qa9 xs[j]=0)(hb:Qa9 xs[k]≠0):QeJ xs=Qa9 xs[k]:=by
 rw [Ql7 xs k h,List.drop_eq_getElem_cons hk];exact if_pos hb
theorem Qo8(xs:List (List UInt8))(h:∀ j (hj:j<xs.length),Qa9 xs[j]=0):QeJ xs=0:=by
 rw [Ql7 xs xs.length (fun j hj _=>h j hj),List.drop_length];rfl
theorem Ql6(xs:List (List UInt8))(k:Nat)(hk:k<xs.length):QbX (xs.take (k+1))=QbX (xs.take k)++[(Qa8 xs[k],Qa7 xs[k])]:=by
 unfold QbX;rw [List.take_succ_eq_append_getElem hk,List.map_append];rfl
theorem Qlf{ops:Array Oper}{o:Oper}{a:Act}{K:Act→World→Prop}{Q:Exit→Act→World→Prop}{E:Prop}(W:World)(hgd:o.guard=none)(s x:Operand)
  (ho:o.op = .call { callee:=.builtin .append,args:=#[s,x],argTypes:=#[326,326] })
  (base:Nat) (v:Value) (fs:List (List UInt8×List UInt8)) (hs:a.eval s=v) (QAq:W.ownsRow base 379 2 v fs.length (Qau fs))
  (B:Nat) (f:List UInt8×List UInt8) (hB:W.heap[B]?=some (.cells #[.string (bs f.1),.string (bs f.2)] 379 (0,0))) (hx:a.eval x = .slice (some ⟨B,0,none⟩) 1 1) (hn:fs.length<2147483648) (QAv:base≤W.heap.size)
  (h:∀ g cap w',w'.ownsRow base 379 2 (.slice (some ⟨g,0,none⟩) (fs.length+1) cap) (fs++[f]).length (Qau (fs++[f]))→W.grownBy w' v.ownBlock→K (a.put o.dst (.slice (some ⟨g,0,none⟩) (fs.length+1) cap)) w') :
  if Region.wanted o (yielded ops a.tmps)=true then Oper.wp Tryz.prog o a W K Q else E:=by
 obtain ⟨i0,hi,hz0,hz1,hz2⟩:=info_parts Qjw;refine step_append_lies W hgd s x 326 ho base 379 i0 _ 2 32 Tryz.underlying326 hi hz0 hz1 hz2 rfl (by decide) v fs.length (Qau fs) hs QAq ⟨B,0,none⟩ 1 1 [.string (bs f.1),.string (bs f.2)] hx rfl (World.news_of_block hB) (by simp [Value.oneCell']) (by decide) (by unfold maxLen;omega) (by omega) QAv _ rfl ?_
 intro g cap w' h1 h2 _ _;refine h g cap w' ?_ h2;rw [List.length_append,QfO];exact h1
theorem QjA{w w':World}{v:Value}{base R:Nat}{e:TypeId}{size n:Nat}{xs:List Value}(hg:w.grownBy w' v.ownBlock)(QAq:w.ownsRow base e size v n xs)(hR:R<base)(hRw:R<w.heap.size):w'.heap[R]?=w.heap[R]?:=
 hg.block R hRw (fun h=>by have:=(QAq.lt R h.symm).1;omega)
def QwC(R:Nat)(W w':World)(l v p h a b:Value):Prop:=RdB w' R l v p h a b∧W.grownBy w' (some R)
theorem QrC{ops:Array Oper}{o:Oper}{a:Act}{K:Act→World→Prop}{Q:Exit→Act→World→Prop}{E:Prop}{R base:Nat}(w0:World)(hw0:w0.heap.size=base)(hR0:R<base){l v p h x y:Value}{W2:World}{fs:List (List UInt8×List UInt8)}(W:World)(hgd:o.guard=none)(s z:Operand)
  (ho:o.op = .call { callee:=.builtin .append,args:=#[s,z],argTypes:=#[326,326] })
  (hR2:RdB W2 R l v p h x y) (QAq:W2.ownsRow base 379 2 v fs.length (Qau fs)) (hg0:w0.grownBy W2 (some R)) (hs:a.eval s=v) (hn:fs.length<2147483648) (hbW:Below W2.heap.size W2 W)
  (B:Nat) (f:List UInt8×List UInt8) (hB:W.heap[B]?=some (.cells #[.string (bs f.1),.string (bs f.2)] 379 (0,0))) (hx:a.eval z = .slice (some ⟨B,0,none⟩) 1 1)
  (hK:∀ g cap w',w'.ownsRow base 379 2 (.slice (some ⟨g,0,none⟩) (fs.length+1) cap) (fs++[f]).length (Qau (fs++[f]))→w'.cell? ⟨R,1,none⟩=some v→w'.frozen? ⟨R,1,none⟩=false→QwC R w0 w' l v p h x y→K (a.put o.dst (.slice (some ⟨g,0,none⟩) (fs.length+1) cap)) w') :
  if Region.wanted o (yielded ops a.tmps)=true then Oper.wp Tryz.prog o a W K Q else E:=by
 have hoW:=Qa2 QAq hbW;have hlt:=hR2.lt;have hsz:=hbW.size;have hs0:=hg0.size;refine Qlf W hgd s z ho base v fs hs hoW B f hB hx hn (by omega) (fun g cap w' h1 h2=>?_)
 have hR3:RdB w' R l v p h x y:=(QjA h2 hoW hR0 (by omega)).trans (hR2.below hbW)
 have hg1:=hg0.below hbW;have hb3:w0.grownBy w' (some R):=⟨h2.os.trans hg1.os,h2.tape.trans hg1.tape,h2.output.trans hg1.output,Nat.le_trans hg1.size h2.size,fun k hk hne=>
  (h2.block k (Nat.lt_of_lt_of_le hk hg1.size) (fun h=>by have:=(hoW.lt k h.symm).1;omega)).trans (hg1.block k hk hne)⟩
 exact hK g cap w' h1 hR3.cells.2.1 hR3.free.2.1 ⟨hR3,hb3⟩
theorem Qsl{w w':World}{R B:Nat}{e:TypeId}{k:Nat}{v:Value}{n:Nat}{xs:List Value}(h:w.ownsRow B e k v n xs)(g:w.grownBy w' (some R))(hR:R<B):w'.ownsRow B e k v n xs:=by
 refine ⟨h.1,?_⟩;rcases h.2 with h0|⟨b,cap,cur,e1,e2,e3,e4⟩
 ·exact .inl h0
 ·exact .inr ⟨b,cap,cur,e1,e2,(g.block b (gsi e3).1 (fun e=>by have:=Option.some.inj e;omega)).trans e3,e4⟩
def Que(R:Nat)(w:World)(lv p h a b:Value)(ls:List (List UInt8))(e:Ending)(w':World):Prop:=
 e = .returned (.int .i64 (QeJ ls.tail:Nat))∧(∃ fv,RdB w' R lv fv p h a b∧(QeJ ls.tail=0→w'.ownsRow w.heap.size 379 2 fv (QbX ls.tail).length (Qau (QbX ls.tail))))∧w.grownBy w' (some R)
theorem Qt6(R:Nat)(w:World)(lv p h a b:Value)(ls:List (List UInt8))(hR:RdB w R lv (.slice none 0 0) p h a b)(hl:HoldsLt w R lv ls)(hne:ls≠[])(hlen:ls.length≤1000000)(hx:∀ x∈ls,x.length≤1000000)(hA:Anchor R w) :
  Calls Tryz.prog 295 #[.pointer (some ⟨R,0,none⟩)] w (Que R w lv p h a b ls):=by
 obtain ⟨k0,-,-,-,-,-⟩:=hR.cells;have hRl:=hR.lt;obtain ⟨av,c,rfl,hc,hh⟩:=hl;obtain ⟨B,o,rfl,hBl,Qao⟩:=hh hne;obtain ⟨x0,ts,rfl⟩:∃ x ts,ls=x :: ts:=by cases ls with
  |nil=>exact absurd rfl hne
  |cons x ts=>exact ⟨x,ts,rfl⟩
 have HC:Hid (∀ j (hj:j<ts.length),w.cell? ⟨B,o+1+j,none⟩=some (.string (bs ts[j]))):=hid (fun j hj=>by
  have:=Qao (j+1) (by simp;omega)
  rw [show o+1+j=o+(j+1) by omega];exact this)
 have HX:Hid (∀ x∈ts,x.length≤1000000):=hid (fun x hxx=>hx x (List.mem_cons_of_mem _ hxx))
 have HA:=hid hA;have HR:=hid hR;have hn1:((x0 :: ts).length:Nat)=ts.length+1:=rfl;rw [hn1] at hc hlen k0;have HRL:Hid (RdB w R (.slice (some ⟨B,o,none⟩) (ts.length+1) c) (.slice none 0 0) p h a b):=HR;have HT:Hid ((x0 :: ts).tail=ts):=hid rfl;rw [hn1];generalize (x0 :: ts)=LS at HT ⊢;clear Qao hh hx hA hR hne hn1 HR;have hts:ts.length≤1000000:=by omega
 by_cases h1:c=1
 ·have ht0:ts = []:=List.length_eq_zero_iff.1 (by omega)
  subst ht0;subst h1;have HP:Hid (QeJ LS.tail=0∧QbX LS.tail = []):=hid (by rw [HT.out];exact ⟨rfl,rfl⟩)
  clear HT HC HX;go_enter Tryz.func295,Tryz.ntmps295;go_wp2_with fail;refine wp_loop_rounds 1 ?_;rw [rounds_succ];go_wp2_with fail;go_ret;exact ⟨by rw [HP.out.1];rfl,⟨_,HRL.out,fun _=>by rw [HP.out.2];exact World.ownsRow_nil _ _ _ _⟩,GR.refl _ _⟩
 ·have hc1:1<c:=by omega
  go_enter Tryz.func295,Tryz.ntmps295;go_wp2_with fail;go_loopg [13] ts.length (fun gk s13 wr=>∃ (k:Nat) (fv:Value),s13 = .int .i64 (k:Int)∧k+gk=ts.length∧RdB wr R (.slice (some ⟨B,o,none⟩) (ts.length+1) c) fv p h a b∧wr.ownsRow w.heap.size 379 2 fv (QbX (ts.take k)).length (Qau (QbX (ts.take k)))∧w.grownBy wr (some R)∧Hid (∀ j (hj:j<ts.length),j<k→Qa9 ts[j]=0))
  case atStart=>exact ⟨0,_,by simp,by omega,HRL.out,by rw [List.take_zero];exact World.ownsRow_nil _ _ _ _,GR.refl _ _,hid (fun j hj h=>absurd h (Nat.not_lt_zero _))⟩
  case round=>
   obtain ⟨k,fv,rfl,hgk,hRr,QAq,hgr,HK⟩:=hrel;have HGR:=hid hgr;have hbr:=hgr.toBelow (Nat.le_of_lt hRl);clear hgr;have HO:=hid QAq;have HRr:=hid hRr;clear QAq hRr
   by_cases hk:k<ts.length
   ·obtain ⟨g',rfl⟩:∃ g',gk=g'+1:=⟨gk-1,by omega⟩
    have tk:decide ((k:Int)<(ts.length:Int))=true:=decide_eq_true (by omega)
    have c0:=(hbr.cell (p:=⟨B,o+1+k,none⟩) hBl).trans (HC.out k hk);obtain ⟨S,hS⟩:∃ S,bs ts[k]=S:=⟨_,rfl⟩;have hSd:S.data.toList=ts[k]:=by rw [←hS,Qaj]
    have hSs:S.size≤1000000:=by rw [←hS,QaC];exact HX.out _ (List.getElem_mem hk)
    rw [hS] at c0;have HP:=hid (fun w hE=>QgS S w hSs hE)
    rw [hSd] at HP;have HE:=hid (HA.out.step hbr).env;have hkl:Hid ((QbX (ts.take k)).length<2147483648):=hid (by unfold QbX;rw [List.length_map,List.length_take];omega)
    clear hS hSd
    by_cases hz:Qa9 ts[k]=0
    ·rw [hz] at HP
     have HK2:Hid (∀ j (hj:j<ts.length),j<k+1→Qa9 ts[j]=0):=hid (fun j hj h=>by
      by_cases e:j=k
      ·subst e;exact hz
      ·exact HK.out j hj (by omega))
     have QAr:Hid (QbX (ts.take (k+1))=QbX (ts.take k)++[(Qa8 ts[k],Qa7 ts[k])]):=hid (Ql6 ts k hk);clear hz HK;go_wp2_with fail;refine (HP.out _ HE.out).mono ?_;rintro e w1 ⟨rfl,hb1⟩;have HR1:=hid (HRr.out.below hb1);have HO1:=hid (Qa2 HO.out hb1);have HG1:=hid (HGR.out.below hb1);have hR1l:=HR1.out.lt;clear hb1 hbr c0;go_wp2_with fail;have hR2:RdB (w1.alloc (.cells #[.string (bs (Qa8 ts[k])),.string (bs (Qa7 ts[k]))] 379)) R (.slice (some ⟨B,o,none⟩) (ts.length+1) c) fv p h a b:=HR1.out.below ((Below.refl _ _).alloc (Nat.le_refl _) _);have hO2:=Qa2 HO1.out ((Below.refl w1.heap.size w1).alloc (Nat.le_refl _) (.cells #[.string (bs (Qa8 ts[k])),.string (bs (Qa7 ts[k]))] 379));have hg2:=HG1.out.below ((Below.refl w1.heap.size w1).alloc (Nat.le_refl _) (.cells #[.string (bs (Qa8 ts[k])),.string (bs (Qa7 ts[k]))] 379));obtain ⟨j0,j1⟩:=QwQ w1 (.string (bs (Qa8 ts[k]))) (.string (bs (Qa7 ts[k]))) 379;have hj:w1.heap.size<(w1.alloc (.cells #[.string (bs (Qa8 ts[k])),.string (bs (Qa7 ts[k]))] 379)).heap.size:=by simp
     generalize w1.alloc (.cells #[.string (bs (Qa8 ts[k])),.string (bs (Qa7 ts[k]))] 379)=W2 at hR2 hO2 hg2 j0 j1 hj ⊢;have HR2:=hid hR2;have HO2:=hid hO2;have HG2:=hid hg2;obtain ⟨-,k1,-,-,-,-⟩:=hR2.cells;obtain ⟨-,f1,-,-,-,-⟩:=hR2.free;have hRl2:=hR2.lt;clear hR2 hO2 hg2 HR1 HO1 HG1;go_region_law (refine QrC w rfl hRl _ rfl _ _ rfl HR2.out HO2.out HG2.out rfl hkl.out ?_ W2.heap.size (Qa8 ts[k],Qa7 ts[k]) ?_ rfl ?_;exact ((Below.refl _ _).alloc (Nat.le_refl _) _).drew;exact heap_alloc_new W2 _;intro g cap w3 QBj hc3 hf3 haf)
     all_goals
      go_wp2_with fail;go_roundg g'
      case measure=>omega
      case rel=>
       refine ⟨k+1,_,by simp,by omega,haf.1.set1 _,?_,haf.2.set 1 _,HK2⟩
       rw [QAr.out];exact ownsRow_setCell_below QBj (a:=⟨R,1,none⟩) hRl _
    ·have HF:Hid (QeJ LS.tail=Qa9 ts[k]∧QeJ LS.tail≠0):=hid (by rw [HT.out,Qtt ts k hk HK.out hz];exact ⟨rfl,hz⟩)
     have tz:((Qa9 ts[k]:Int) != 0)=true:=by rw [bne_iff_ne];omega
     clear hz HK;go_wp2_with fail;refine (HP.out _ HE.out).mono ?_;rintro e w1 ⟨rfl,hb1⟩;have HR1:=hid (HRr.out.below hb1);have HG1:=hid (HGR.out.below hb1);have hR1l:=HR1.out.lt;clear hb1 hbr c0;go_wp2_with fail;go_ret;exact ⟨by rw [HF.out.1];rfl,⟨_,HR1.out.below ((Below.refl _ _).alloc (Nat.le_refl _) _),fun h=>absurd h HF.out.2⟩,HG1.out.below ((Below.refl _ _).alloc (Nat.le_refl _) _)⟩
   ·obtain rfl:k=ts.length:=by omega
    have tk:decide ((ts.length:Int)<(ts.length:Int))=false:=decide_eq_false (by omega)
    have HP:Hid (QeJ LS.tail=0∧QbX LS.tail=QbX (ts.take ts.length)):=hid (by rw [HT.out,List.take_length];exact ⟨Qo8 ts (fun j hj=>HK.out j hj hj),rfl⟩)
    clear HT HK;go_wp2_with fail;go_ret;exact ⟨by rw [HP.out.1];rfl,⟨_,HRr.out,fun _=>by rw [HP.out.2];exact HO.out⟩,HGR.out⟩
end
section
open Go.RowKit
def Qb1:List UInt8:=[104,111,115,116]
def QaP:List UInt8:=[114,97,110,103,101]
def QmJ(fs:List (List UInt8×List UInt8)):Nat:=if Qc8 fs Qb1≠0 then Qc8 fs Qb1 else if Qen (QbC fs Qb1)=false then 2 else 0
def Qf6(fs:List (List UInt8×List UInt8)):Nat:=if Qc8 fs QaP≠0 then Qc8 fs QaP else QbH (QbC fs QaP)
def Qwu(R:Nat)(w:World)(lv fv p a b:Value)(fs:List (List UInt8×List UInt8))(e:Ending)(w':World):Prop:=
 e = .returned (.int .i64 (QmJ fs:Nat))∧RdB w' R lv fv p (.string (bs (QbC fs Qb1))) a b∧w.grownBy w' (some R)
def Qwv(R:Nat)(w:World)(lv fv p h:Value)(fs:List (List UInt8×List UInt8))(e:Ending)(w':World):Prop:=
 e = .returned (.int .i64 (Qf6 fs:Nat))∧(∃ a b,RdB w' R lv fv p h a b∧(Qf6 fs=0→a = .int .i64 (QcI (QbC fs QaP))∧b = .int .i64 (QcH (QbC fs QaP))))∧w.grownBy w' (some R)
theorem Qx3(v:Value)(fs:List (List UInt8×List UInt8))(n:ByteArray)(k:List UInt8)(hk:n.data.toList=k)(w:World)(hv:HoldsF w v fs)(hlen:fs.length≤1000000) :
  Calls Tryz.prog 213 #[v,.string n] w fun e w'=>e = .returned (.tuple #[.string (bs (QbC fs k)),.int .i64 (Qc8 fs k)])∧Below w.heap.size w w':=by
 subst hk;exact QjF v fs n w hv hlen
theorem Qwq(R:Nat)(w:World)(lv fv p a b:Value)(h0:ByteArray)(fs:List (List UInt8×List UInt8))(hR:RdB w R lv fv p (.string h0) a b)(hf:HoldsF w fv fs)(hlen:fs.length≤1000000) :
  Calls Tryz.prog 296 #[.pointer (some ⟨R,0,none⟩)] w (Qwu R w lv fv p a b fs):=by
 obtain ⟨-,k1,-,-,-,-⟩:=hR.cells;have HG:=hid (Qx3 fv fs ⟨#[104,111,115,116]⟩ Qb1 rfl w hf hlen);obtain ⟨H,hH⟩:∃ H,bs (QbC fs Qb1)=H:=⟨_,rfl⟩;have hHd:H.data.toList=QbC fs Qb1:=by rw [←hH,Qaj]
 have HH:=hid (fun w=>QiE H w)
 rw [hHd] at HH;rw [hH] at HG;have HHH:=hid hH;have HR:=hid hR;have hRl:=hR.lt;clear hR hf hH hHd
 by_cases hg:Qc8 fs Qb1=0
 ·rw [hg] at HG
  cases hb:Qen (QbC fs Qb1) with
  |false=>
   rw [hb] at HH;have HE:Hid (QmJ fs=2):=hid (by unfold QmJ;rw [if_neg (fun h=>h hg),if_pos hb])
   clear hg hb;go_enter Tryz.func296,Tryz.ntmps296;go_wp2_with fail;refine HG.out.mono ?_;rintro e w1 ⟨rfl,hb1⟩;have HR1:=hid (HR.out.below hb1);obtain ⟨-,-,-,k3,-,-⟩:=HR1.out.cells;obtain ⟨-,-,-,f3,-,-⟩:=HR1.out.free;have HB1:=hid hb1;clear hb1 k1;go_wp2_with fail;have HR2:=hid (HR1.out.set3 (.string H));have HB2:=hid (((GR.refl R w).below HB1.out).set 3 (.string H));generalize w1.setCell ⟨R,3,none⟩ (.string H)=w2 at HR2 HB2 ⊢;refine (HH.out _).mono ?_;rintro e w3 ⟨rfl,hb3⟩;go_wp2_with fail;go_ret;exact ⟨by rw [HE.out];rfl,by rw [HHH.out];exact HR2.out.below hb3,HB2.out.below hb3⟩
  |true=>
   rw [hb] at HH;have HE:Hid (QmJ fs=0):=hid (by unfold QmJ;rw [if_neg (fun h=>h hg),if_neg (by rw [hb];decide)])
   clear hg hb;go_enter Tryz.func296,Tryz.ntmps296;go_wp2_with fail;refine HG.out.mono ?_;rintro e w1 ⟨rfl,hb1⟩;have HR1:=hid (HR.out.below hb1);obtain ⟨-,-,-,k3,-,-⟩:=HR1.out.cells;obtain ⟨-,-,-,f3,-,-⟩:=HR1.out.free;have HB1:=hid hb1;clear hb1 k1;go_wp2_with fail;have HR2:=hid (HR1.out.set3 (.string H));have HB2:=hid (((GR.refl R w).below HB1.out).set 3 (.string H));generalize w1.setCell ⟨R,3,none⟩ (.string H)=w2 at HR2 HB2 ⊢;refine (HH.out _).mono ?_;rintro e w3 ⟨rfl,hb3⟩;go_wp2_with fail;go_ret;exact ⟨by rw [HE.out];rfl,by rw [HHH.out];exact HR2.out.below hb3,HB2.out.below hb3⟩
 ·have HE:Hid (QmJ fs=Qc8 fs Qb1):=hid (by unfold QmJ;rw [if_pos hg])
  have tz:((Qc8 fs Qb1:Int) != 0)=true:=by rw [bne_iff_ne];omega
  generalize Qc8 fs Qb1=Z at HG HE tz;clear hg;go_enter Tryz.func296,Tryz.ntmps296;go_wp2_with fail;refine HG.out.mono ?_;rintro e w1 ⟨rfl,hb1⟩;have HR1:=hid (HR.out.below hb1);obtain ⟨-,-,-,k3,-,-⟩:=HR1.out.cells;obtain ⟨-,-,-,f3,-,-⟩:=HR1.out.free;have HB1:=hid hb1;clear hb1 k1;go_wp2_with fail;go_ret;exact ⟨by rw [HE.out];rfl,by rw [HHH.out];exact HR1.out.set3 _,((GR.refl R w).below HB1.out).set 3 _⟩
theorem Qwr(R:Nat)(w:World)(lv fv p h:Value)(a0 b0:Int)(fs:List (List UInt8×List UInt8))(hR:RdB w R lv fv p h (.int .i64 a0) (.int .i64 b0))(hf:HoldsF w fv fs)(hlen:fs.length≤1000000)(hs:(QbC fs QaP).length≤1000000)(hA:Anchor R w) :
  Calls Tryz.prog 297 #[.pointer (some ⟨R,0,none⟩)] w (Qwv R w lv fv p h fs):=by
 obtain ⟨-,k1,-,-,-,-⟩:=hR.cells;have HG:=hid (Qx3 fv fs ⟨#[114,97,110,103,101]⟩ QaP rfl w hf hlen);obtain ⟨H,hH⟩:∃ H,bs (QbC fs QaP)=H:=⟨_,rfl⟩;have hHd:H.data.toList=QbC fs QaP:=by rw [←hH,Qaj]
 have HH:=hid (fun w hE=>Qlq H w (by rw [←hH,QaC];exact hs) hE)
 rw [hHd] at HH;rw [hH] at HG;have HR:=hid hR;have HE:=hid hA.env;have hRl:=hR.lt;clear hR hf hH hHd hs hA
 by_cases hg:Qc8 fs QaP=0
 ·rw [hg] at HG
  have HW:Hid (Qf6 fs=QbH (QbC fs QaP)):=hid (by unfold Qf6;rw [if_neg (fun h=>h hg)])
  clear hg;go_enter Tryz.func297,Tryz.ntmps297;go_wp2_with fail;refine HG.out.mono ?_;rintro e w1 ⟨rfl,hb1⟩;have HR1:=hid (HR.out.below hb1);have HB1:=hid hb1;have HE1:=hid (HE.out.below hb1);clear hb1 k1;go_wp2_with fail;refine (HH.out _ HE1.out).mono ?_;rintro e w2 ⟨rfl,hb2⟩;have HR2:=hid (HR1.out.below hb2);obtain ⟨-,-,-,-,k4,k5⟩:=HR2.out.cells;obtain ⟨-,-,-,-,f4,f5⟩:=HR2.out.free;have HB2:=hid (Qaa HB1.out hb2);clear hb2;go_wp2_with fail;go_ret;exact ⟨by rw [HW.out];rfl,⟨_,_,HR2.out.set45 _ _,fun _=>⟨rfl,rfl⟩⟩,(((GR.refl R w).below HB2.out).set 4 _).set 5 _⟩
 ·have HW:Hid (Qf6 fs=Qc8 fs QaP∧Qf6 fs≠0):=hid (by unfold Qf6;rw [if_pos hg];exact ⟨rfl,hg⟩)
  have tz:((Qc8 fs QaP:Int) != 0)=true:=by rw [bne_iff_ne];omega
  generalize Qc8 fs QaP=Z at HG HW tz;clear hg;go_enter Tryz.func297,Tryz.ntmps297;go_wp2_with fail;refine HG.out.mono ?_;rintro e w1 ⟨rfl,hb1⟩;have HR1:=hid (HR.out.below hb1);have HB1:=hid hb1;clear hb1 k1;go_wp2_with fail;go_ret;exact ⟨by rw [HW.out.1];rfl,⟨_,_,HR1.out,fun h=>absurd h HW.out.2⟩,(GR.refl R w).below HB1.out⟩
end
section
open Go.RowKit
theorem Qld(s:ByteArray)(a:Int):(QaL s a).data.toList.length≤256:=by
 unfold QaL;split
 ·rename_i h
  have:=(QyT (s.data.toList.drop a.toNat) 0 (by omega)).2.2.1
  rw [Qab,ByteArray.size_extract];unfold Qcb;omega
 ·exact Nat.zero_le _
theorem QnT(s:ByteArray):∀ (f:Nat) (a:Int) (xs:List (List UInt8)),(∀ x∈xs,x.length≤256)→xs.length≤17→(∀ x∈(Qdd f s a xs).1,x.length≤256)∧(Qdd f s a xs).1.length≤17:=by
 intro f
 induction f with
 |zero=>intro a xs _ _;exact ⟨fun x h=>by simp [Qdd] at h,by simp [Qdd]⟩
 |succ f ih=>
  intro a xs h1 h2;unfold Qdd;split
  ·exact ⟨fun x h=>by simp at h,by simp⟩
  ·split
   ·exact ⟨h1,h2⟩
   ·split
    ·exact ⟨fun x h=>by simp at h,by simp⟩
    ·rename_i h17
     refine ih _ _ (fun x hx=>?_) (by rw [List.length_append,List.length_singleton];omega)
     rw [List.mem_append,List.mem_singleton] at hx;rcases hx with hx|rfl
     ·exact h1 x hx
     ·exact Qld s a
theorem Qdh(s:ByteArray):(∀ x∈(Qas s).1,x.length≤256)∧(Qas s).1.length≤17:=QnT s 18 0 [] (fun x h=>by simp at h) (by decide)
theorem Qjl(l:List UInt8):(Qa7 l).length≤l.length:=by
 unfold Qa7;split
 ·unfold QdK
  have:=QjW (l.drop ((Qaq l).length+1));rw [List.length_drop] at this;omega
 ·exact Nat.zero_le _
theorem QvR(fs:List (List UInt8×List UInt8))(k:List UInt8):QbC fs k = []∨∃ f∈fs,QbC fs k=f.2:=by
 unfold QbC;split
 ·rename_i v h
  right;have hm:v∈QfH fs k:=by rw [h];exact List.mem_singleton.2 rfl
  unfold QfH at hm;obtain ⟨f,hf,rfl⟩:=List.mem_map.1 hm;exact ⟨f,(List.mem_filter.1 hf).1,rfl⟩
 ·exact .inl rfl
theorem Qo5(ls:List (List UInt8))(k:List UInt8)(h:∀ x∈ls,x.length≤256):(QbC (QbX ls) k).length≤256:=by
 rcases QvR (QbX ls) k with e|⟨f,hf,e⟩
 ·rw [e];exact Nat.zero_le _
 ·rw [e]
  unfold QbX at hf;obtain ⟨x,hx,rfl⟩:=List.mem_map.1 hf;exact Nat.le_trans (Qjl x) (h x hx)
def lnE(ls:List (List UInt8)):Nat:=if Qck ls≠0 then Qck ls else if QeJ ls.tail≠0 then QeJ ls.tail else if QmJ (QbX ls.tail)≠0 then QmJ (QbX ls.tail) else Qf6 (QbX ls.tail)
def Qg5(s:ByteArray):Nat:=if (Qas s).2.2≠0 then (Qas s).2.2 else lnE (Qas s).1
def Qcz(s:ByteArray):List UInt8:=if Qg5 s=0 then Qhq (Qas s).1 else []
def QcA(s:ByteArray):List UInt8:=if Qg5 s=0 then QbC (QbX (Qas s).1.tail) Qb1 else []
def QmR(s:ByteArray):Int:=if Qg5 s=0 then QcI (QbC (QbX (Qas s).1.tail) QaP) else 0
def QmQ(s:ByteArray):Int:=if Qg5 s=0 then QcH (QbC (QbX (Qas s).1.tail) QaP) else 0
def QmP(s:ByteArray):Int:=if Qg5 s=0 then (Qas s).2.1 else 0
def Qyw(s:ByteArray):Value:=.tuple #[.agg #[.string (bs (Qcz s)),.string (bs (QcA s)),.int .i64 (QmR s),.int .i64 (QmQ s)],.int .i64 (QmP s),.int .i64 (Qg5 s:Nat)]
theorem Qf3(s:ByteArray)(e:Nat)(h:Qg5 s=e)(h0:e≠0):Qyw s = .tuple #[.agg #[.string ⟨#[]⟩,.string ⟨#[]⟩,.int .i64 0,.int .i64 0],.int .i64 0,.int .i64 (e:Nat)]:=by
 have hn:Qg5 s≠0:=by rw [h];exact h0
 unfold Qyw Qcz QcA QmR QmQ QmP;rw [if_neg hn,if_neg hn,if_neg hn,if_neg hn,if_neg hn,h];rfl
structure PSt(w:World)(R:Nat)(lv:Value)(ls:List (List UInt8))(wx:World):Prop where
 anc:Anchor R wx
 hold:HoldsLt wx R lv ls
 fs:wx.heap[R+1]?=some (.cells #[.func (.func 294) #[] #[],.func (.func 295) #[] #[],.func (.func 296) #[] #[],.func (.func 297) #[] #[]] 436 (0,0))
 res:wx.heap[w.heap.size]?=some (.cells #[.string ⟨#[]⟩,.string ⟨#[]⟩,.int .i64 0,.int .i64 0] 69 (0,0))
 bel:Below w.heap.size w wx
 Rlt:w.heap.size<R
theorem PSt.lt{w wx:World}{R:Nat}{lv:Value}{ls:List (List UInt8)}(h:PSt w R lv ls wx):R+1<wx.heap.size:=(gsi h.fs).1
theorem PSt.keep{w wx wy:World}{R:Nat}{lv:Value}{ls:List (List UInt8)}(h:PSt w R lv ls wx)(g:wx.grownBy wy (some R)):PSt w R lv ls wy:=by
 have hl:=h.lt;have hb:=g.toBelow (by omega)
 have hr:=h.Rlt;exact ⟨h.anc.step hb,h.hold.step hb,(g.block (R+1) hl (by simp)).trans h.fs,(g.block w.heap.size (by omega) (fun e=>by have:=Option.some.inj e;omega)).trans h.res,h.bel.trans (hb.mono (Nat.le_of_lt hr)),hr⟩
theorem PSt.alloc{w wx:World}{R:Nat}{lv:Value}{ls:List (List UInt8)}(h:PSt w R lv ls wx)(o:Obj):PSt w R lv ls (wx.alloc o):=
 h.keep ((GR.refl R wx).below ((Below.refl _ _).alloc (Nat.le_refl _) o))
theorem RdB.alloc{w:World}{R:Nat}{l f p h a b:Value}(k:RdB w R l f p h a b)(o:Obj):RdB (w.alloc o) R l f p h a b:=k.below ((Below.refl _ _).alloc (Nat.le_refl _) o)
theorem PSt.cells{w wx:World}{R:Nat}{lv:Value}{ls:List (List UInt8)}(h:PSt w R lv ls wx) :
  wx.cell? ⟨R+1,0,none⟩=some (.func (.func 294) #[] #[])∧wx.cell? ⟨R+1,1,none⟩=some (.func (.func 295) #[] #[])∧wx.cell? ⟨R+1,2,none⟩=some (.func (.func 296) #[] #[])∧wx.cell? ⟨R+1,3,none⟩=some (.func (.func 297) #[] #[]):=by
 have k:=h.fs;refine ⟨?_,?_,?_,?_⟩<;>(unfold World.cell?;rw [k];rfl)
theorem Qgt{w:World}{b:Nat}{x y z u:Value}{t:TypeId}(k:w.heap[b]?=some (.cells #[x,y,z,u] t (0,0))) :
  (w.cell? ⟨b,0,none⟩=some x∧w.cell? ⟨b,1,none⟩=some y∧w.cell? ⟨b,2,none⟩=some z∧w.cell? ⟨b,3,none⟩=some u)∧(w.frozen? ⟨b,0,none⟩=false∧w.frozen? ⟨b,1,none⟩=false∧w.frozen? ⟨b,2,none⟩=false∧w.frozen? ⟨b,3,none⟩=false):=by
 refine ⟨⟨?_,?_,?_,?_⟩,⟨?_,?_,?_,?_⟩⟩<;>first|(unfold World.cell?;rw [k];rfl)|(unfold World.frozen?;rw [k];rfl)
theorem PSt.start{w w1:World}{lv:Value}{ls:List (List UInt8)}(hE:EnvF w1)(hS:HoldsLt w1 w1.heap.size lv ls)(hb:Below (w.alloc (.cells #[.string ⟨#[]⟩,.string ⟨#[]⟩,.int .i64 0,.int .i64 0] 69)).heap.size (w.alloc (.cells #[.string ⟨#[]⟩,.string ⟨#[]⟩,.int .i64 0,.int .i64 0] 69)) w1)(o:Obj) :
  PSt w w1.heap.size lv ls ((w1.alloc o).alloc (.cells #[.func (.func 294) #[] #[],.func (.func 295) #[] #[],.func (.func 296) #[] #[],.func (.func 297) #[] #[]] 436)):=by
 have hb2:Below w1.heap.size w1 ((w1.alloc o).alloc (.cells #[.func (.func 294) #[] #[],.func (.func 295) #[] #[],.func (.func 296) #[] #[],.func (.func 297) #[] #[]] 436)):=((Below.refl _ _).alloc (Nat.le_refl _) o).alloc (by simp) _
 have hsz:w.heap.size<w1.heap.size:=by have:=hb.size;simp at this;omega
 refine ⟨⟨w1,hE,rfl,hb2⟩,hS.step hb2,heap_alloc2_new w1 o _,?_,(Qbp w _ _ _ _ _).trans ((hb.mono (by simp)).trans (hb2.mono (Nat.le_of_lt hsz))),hsz⟩
 exact (hb2.block w.heap.size hsz).trans ((hb.block w.heap.size (by simp)).trans (heap_alloc_new w _))
theorem Qt9(s:ByteArray)(ls:List (List UInt8))(n:Int)(h:Qas s=(ls,n,0))(hl:lnE ls=0) :
  Qyw s = .tuple #[.agg #[.string (bs (Qhq ls)),.string (bs (QbC (QbX ls.tail) Qb1)),.int .i64 (QcI (QbC (QbX ls.tail) QaP)),.int .i64 (QcH (QbC (QbX ls.tail) QaP))],.int .i64 n,.int .i64 0]:=by
 have h0:Qg5 s=0:=by unfold Qg5;rw [h];exact hl
 unfold Qyw Qcz QcA QmR QmQ QmP;rw [if_pos h0,if_pos h0,if_pos h0,if_pos h0,if_pos h0,h0,h];rfl
theorem Qtg(s:ByteArray)(w:World)(hs:s.size≤9223372036854775807):Calls Tryz.prog 222 #[.string s] w (QeO s w):=Qgn s w hs
theorem QmC(s:ByteArray)(w:World)(hs:s.size≤1000000)(hE:EnvF w) :
  Calls Tryz.prog 257 #[.string s] w fun e w'=>e = .returned (Qyw s)∧Below w.heap.size w w':=by
 have HH:=hid (Qtg s (w.alloc (.cells #[.string ⟨#[]⟩,.string ⟨#[]⟩,.int .i64 0,.int .i64 0] 69)) (by omega))
 obtain ⟨V,hV⟩:∃ V,Qyw s=V:=⟨_,rfl⟩;rw [hV];have HV:=hid hV;have HE:=hid (hE.below (Qbp w (.string ⟨#[]⟩) (.string ⟨#[]⟩) (.int .i64 0) (.int .i64 0) 69));have hbd:=Qdh s;unfold QeO at HH;obtain ⟨⟨ls,n,e⟩,hh⟩:∃ T,Qas s=T:=⟨_,rfl⟩;rw [hh] at HH hbd;have HHd:=hid hh;change (∀ x∈ls,x.length≤256)∧ls.length≤17 at hbd;change Hid (Calls _ _ _ _ fun r w'=>∃ v,r = .returned (.tuple #[v,.int .i64 n,.int .i64 (e:Nat)])∧w'.ownsRow _ 9 1 v ls.length (Qe4 ls)∧_) at HH
 have HBD:=hid hbd;clear hE hV hbd hh
 by_cases he:e=0
 ·subst he
  have HL:Hid (Qg5 s=lnE ls):=hid (by unfold Qg5;rw [HHd.out];rfl)
  go_enter Tryz.func257,Tryz.ntmps257;go_wp2_with fail;refine HH.out.mono ?_;rintro e w1 ⟨v,rfl,QAq,hb1⟩;obtain ⟨av,cv,rfl⟩:=Qbe QAq;have HB1:=hid hb1;have HE1:=hid (HE.out.below hb1);have HS:=hid (HoldsLt.of (HoldsS.of_own QAq));clear hb1 QAq;go_wp2_with fail;have hP1:=PSt.start HE1.out HS.out HB1.out (.cells #[.slice av ls.length cv,.slice none 0 0,.string ⟨#[]⟩,.string ⟨#[]⟩,.int .i64 0,.int .i64 0] 433);have hR1:RdB ((w1.alloc (.cells #[.slice av ls.length cv,.slice none 0 0,.string ⟨#[]⟩,.string ⟨#[]⟩,.int .i64 0,.int .i64 0] 433)).alloc (.cells #[.func (.func 294) #[] #[],.func (.func 295) #[] #[],.func (.func 296) #[] #[],.func (.func 297) #[] #[]] 436)) w1.heap.size (.slice av ls.length cv) (.slice none 0 0) (.string ⟨#[]⟩) (.string ⟨#[]⟩) (.int .i64 0) (.int .i64 0):=RdB.alloc (heap_alloc_new w1 _) _;generalize (w1.alloc (.cells #[.slice av ls.length cv,.slice none 0 0,.string ⟨#[]⟩,.string ⟨#[]⟩,.int .i64 0,.int .i64 0] 433)).alloc (.cells #[.func (.func 294) #[] #[],.func (.func 295) #[] #[],.func (.func 296) #[] #[],.func (.func 297) #[] #[]] 436)=W1 at hP1 hR1 ⊢;have HP1:=hid hP1;have HR1:=hid hR1;obtain ⟨q0,-,-,-⟩:=hP1.cells;generalize hR:w1.heap.size=R at HP1 HR1 q0 ⊢;have HS':=hid HS.out;clear hP1 hR1 HS HB1 HE1 hR HS' HE HH;refine wp_loop_rounds 5 ?_;rw [rounds_succ];go_wp2_with fail;refine (Qt7 R _ _ _ _ _ _ _ ls (HR1.out.alloc _) ((HP1.out.alloc _).hold.holds (by have:=(HP1.out.alloc (.cells #[.func (.func 294) #[] #[]] 436)).lt;omega)) (fun x hx=>by have:=HBD.out.1 x hx;omega) (HP1.out.alloc _).anc.env).mono ?_
  rintro e w2 ⟨rfl,hr2,hg2⟩;have HP2:=hid ((HP1.out.alloc _).keep hg2);obtain ⟨-,q1,-,-⟩:=HP2.out.cells;have HR2:=hid hr2;clear hr2 hg2 q0
  by_cases h1:Qck ls=0
  case neg=>
   have HVB:=hid (Qf3 s (Qck ls) (by rw [HL.out];unfold lnE;rw [if_pos h1]) h1)
   have tz:((Qck ls:Int) != 0)=true:=by rw [bne_iff_ne];omega
   obtain ⟨⟨d0,d1,d2,d3⟩,⟨g0,g1,g2,g3⟩⟩:=Qgt HP2.out.res;clear h1 q1;go_wp2_with fail;refine QaK (A:=⟨w.heap.size,0,none⟩) rfl (QeF _ _ _ _ _ _ _ (QeI HP2.out.res _ _ _ _)) rfl rfl rfl rfl ?_;exact ⟨by rw [←HV.out,HVB.out];rfl,QcT HP2.out.bel _ (Nat.le_refl _) _ _ _ _⟩
  have hne:ls≠[]:=by intro e;rw [e] at h1;exact absurd h1 (by decide)
  have HR2':Hid (RdB w2 R (.slice av ls.length cv) (.slice none 0 0) (.string (bs (Qhq ls))) (.string ⟨#[]⟩) (.int .i64 0) (.int .i64 0)):=hid (by have:=HR2.out;rw [if_pos h1] at this;exact this)
  have H1:=hid h1;rw [h1];have HN:=hid hne;clear h1 HR2 hne;go_wp2_with fail;rw [rounds_succ];go_wp2_with fail;refine (Qt6 R _ _ _ _ _ _ ls (HR2'.out.alloc _) (HP2.out.alloc _).hold HN.out (by have:=HBD.out.2;omega) (fun x hx=>by have:=HBD.out.1 x hx;omega) (HP2.out.alloc _).anc).mono ?_
  rintro e w3 ⟨rfl,⟨fv,hr3,hf3⟩,hg3⟩;have HP3:=hid ((HP2.out.alloc _).keep hg3);obtain ⟨-,-,q2,-⟩:=HP3.out.cells;have HR3:=hid hr3;have HF3:=hid hf3;clear hr3 hg3 q1 hf3
  by_cases h2:QeJ ls.tail=0
  case neg=>
   have HVB:=hid (Qf3 s (QeJ ls.tail) (by rw [HL.out];unfold lnE;rw [if_neg (fun h=>h H1.out),if_pos h2]) h2)
   have tz:((QeJ ls.tail:Int) != 0)=true:=by rw [bne_iff_ne];omega
   obtain ⟨⟨d0,d1,d2,d3⟩,⟨g0,g1,g2,g3⟩⟩:=Qgt HP3.out.res;clear h2 q2;go_wp2_with fail;refine QaK (A:=⟨w.heap.size,0,none⟩) rfl (QeF _ _ _ _ _ _ _ (QeI HP3.out.res _ _ _ _)) rfl rfl rfl rfl ?_;exact ⟨by rw [←HV.out,HVB.out];rfl,QcT HP3.out.bel _ (Nat.le_refl _) _ _ _ _⟩
  have HFO:=hid (HF3.out h2);have hRb:Hid (R<(w2.alloc (.cells #[.func (.func 295) #[] #[]] 436)).heap.size):=hid (by have:=(HP2.out.alloc (.cells #[.func (.func 295) #[] #[]] 436)).lt;omega)
  have H2:=hid h2;rw [h2];obtain ⟨fs,hfs⟩:∃ fs,QbX ls.tail=fs:=⟨_,rfl⟩;rw [hfs] at HFO;have HF:Hid (HoldsF w3 fv fs):=hid (HoldsF.of_own HFO.out);have hfl:fs.length≤17:=by rw [←hfs];unfold QbX;rw [List.length_map,List.length_tail];have:=HBD.out.2;omega
  have hgl:(QbC fs QaP).length≤256:=by rw [←hfs];exact Qo5 ls.tail QaP (fun x hx=>HBD.out.1 x (List.mem_of_mem_tail hx))
  have HFS:=hid hfs;have HGL:=hid (And.intro hfl hgl);clear h2 HF3 hfs hfl hgl;go_wp2_with fail;rw [rounds_succ];go_wp2_with fail;refine (Qwq R _ _ fv _ _ _ _ fs (HR3.out.alloc _) (HF.out.below ((Below.refl _ _).alloc (Nat.le_refl _) _)) (by have:=HGL.out.1;omega)).mono ?_
  rintro e w4 ⟨rfl,hr4,hg4⟩;have HP4:=hid ((HP3.out.alloc _).keep hg4);obtain ⟨-,-,-,q3⟩:=HP4.out.cells;have HR4:=hid hr4;have HG4:=hid hg4;clear hr4 hg4 q2
  by_cases h3:QmJ fs=0
  case neg=>
   have HVB:=hid (Qf3 s (QmJ fs) (by rw [HL.out];unfold lnE;rw [if_neg (fun h=>h H1.out),if_neg (fun h=>h H2.out),HFS.out,if_pos h3]) h3)
   have tz:((QmJ fs:Int) != 0)=true:=by rw [bne_iff_ne];omega
   obtain ⟨⟨d0,d1,d2,d3⟩,⟨g0,g1,g2,g3⟩⟩:=Qgt HP4.out.res;clear h3 q3;go_wp2_with fail;refine QaK (A:=⟨w.heap.size,0,none⟩) rfl (QeF _ _ _ _ _ _ _ (QeI HP4.out.res _ _ _ _)) rfl rfl rfl rfl ?_;exact ⟨by rw [←HV.out,HVB.out];rfl,QcT HP4.out.bel _ (Nat.le_refl _) _ _ _ _⟩
  have H3:=hid h3;rw [h3];clear h3;go_wp2_with fail;rw [rounds_succ];go_wp2_with fail;have HF4:Hid (HoldsF w4 fv fs):=hid (HoldsF.of_own (Qsl (Qa2 HFO.out ((Below.refl _ _).alloc (Nat.le_refl _) _)) HG4.out hRb.out));refine (Qwr R _ _ fv _ _ _ _ fs (HR4.out.alloc _) (HF4.out.below ((Below.refl _ _).alloc (Nat.le_refl _) _)) (by have:=HGL.out.1;omega) (by have:=HGL.out.2;omega) (HP4.out.alloc _).anc).mono ?_
  rintro e w5 ⟨rfl,⟨a5,b5,hr5,ha5⟩,hg5⟩;have HP5:=hid ((HP4.out.alloc _).keep hg5);have HR5:=hid hr5;have HA5:=hid ha5;clear hr5 hg5 q3 ha5
  by_cases h4:Qf6 fs=0
  case neg=>
   have HVB:=hid (Qf3 s (Qf6 fs) (by rw [HL.out];unfold lnE;rw [if_neg (fun h=>h H1.out),if_neg (fun h=>h H2.out),HFS.out,if_neg (fun h=>h H3.out)]) h4)
   have tz:((Qf6 fs:Int) != 0)=true:=by rw [bne_iff_ne];omega
   obtain ⟨⟨d0,d1,d2,d3⟩,⟨g0,g1,g2,g3⟩⟩:=Qgt HP5.out.res;clear h4;go_wp2_with fail;refine QaK (A:=⟨w.heap.size,0,none⟩) rfl (QeF _ _ _ _ _ _ _ (QeI HP5.out.res _ _ _ _)) rfl rfl rfl rfl ?_;exact ⟨by rw [←HV.out,HVB.out];rfl,QcT HP5.out.bel _ (Nat.le_refl _) _ _ _ _⟩
  obtain ⟨rfl,rfl⟩:=HA5.out h4;have HVG:=hid (Qt9 s ls n HHd.out (by unfold lnE;rw [if_neg (fun h=>h H1.out),if_neg (fun h=>h H2.out),HFS.out,if_neg (fun h=>h H3.out)];exact h4))
  rw [h4];obtain ⟨-,-,r2,r3,r4,r5⟩:=HR5.out.cells;obtain ⟨⟨d0,d1,d2,d3⟩,⟨g0,g1,g2,g3⟩⟩:=Qgt HP5.out.res;clear h4 HA5;go_wp2_with fail;rw [rounds_succ];go_wp2_with fail;refine QaK (A:=⟨w.heap.size,0,none⟩) rfl (QeF _ _ _ _ _ _ _ (QeI HP5.out.res _ _ _ _)) rfl rfl rfl rfl ?_;exact ⟨by rw [←HV.out,HVG.out,HFS.out];rfl,QcT HP5.out.bel _ (Nat.le_refl _) _ _ _ _⟩
 ·have HVB:=hid (Qf3 s e (by unfold Qg5;rw [HHd.out];exact if_pos he) he)
  have tz:((e:Int) != 0)=true:=by rw [bne_iff_ne];omega
  clear he;go_enter Tryz.func257,Tryz.ntmps257;go_wp2_with fail;refine HH.out.mono ?_;rintro e w1 ⟨v,rfl,-,hb1⟩;have HB1:=hid hb1;have HK:=hid ((hb1.block w.heap.size (by simp)).trans (heap_alloc_new w _))
  obtain ⟨⟨d0,d1,d2,d3⟩,⟨g0,g1,g2,g3⟩⟩:=Qgt HK.out;clear hb1;go_wp2_with fail;refine QaK (A:=⟨w.heap.size,0,none⟩) rfl (QeF _ _ _ _ _ _ _ (QeI HK.out _ _ _ _)) rfl rfl rfl rfl ?_;exact ⟨by rw [←HV.out,HVB.out];rfl,QcT (Qaa (Qbp w _ _ _ _ _) HB1.out) _ (Nat.le_refl _) _ _ _ _⟩
end
section
open Go.RowKit
theorem Qlb(s:ByteArray)(a:Int)(h:Qbg s a=0)(h0:0≤a):a+2≤Qbj s a∧Qbj s a≤(s.size:Int):=by
 have hin:¬(a<0∨(s.size:Int)<a):=by
  intro hh;rw [Qhv s a hh] at h;exact absurd h (by decide)
 obtain ⟨i,rfl⟩:∃ i:Nat,a=(i:Int):=⟨a.toNat,by omega⟩
 have hi:i≤s.size:=by omega
 have hz:=h;rw [QeB s i hi] at hz;unfold Qbj;rw [if_pos h,Int.toNat_natCast];have:=QrL (s.data.toList.drop i) 0 hz;unfold Qcb;have hl:(s.data.toList.drop i).length=s.size-i:=by rw [List.length_drop,Qab]
 omega
theorem QvH(s:ByteArray):∀ (f:Nat) (a:Int) (xs:List (List UInt8)),0≤a→(Qdd f s a xs).2.2=0→0<f→a+2≤(Qdd f s a xs).2.1∧(Qdd f s a xs).2.1≤(s.size:Int):=by
 intro f
 induction f with
 |zero=>intro a xs _ _ hf;omega
 |succ f ih=>
  intro a xs h0 he _
  by_cases h:Qbg s a=0
  ·obtain ⟨b1,b2⟩:=Qlb s a h h0
   by_cases h2:(QaL s a).toList.isEmpty=true
   ·rw [Qif f s a xs h h2]
    exact ⟨b1,b2⟩
   ·rw [Bool.not_eq_true] at h2
    by_cases h3:xs.length=17
    ·rw [Qjy f s a xs h h2 h3] at he
     exact absurd he (by decide)
    ·rw [Qgr f s a xs h h2 h3] at he ⊢
     rcases f with _|f
     ·simp [Qdd] at he
     ·obtain ⟨c1,c2⟩:=ih (Qbj s a) _ (by omega) he (by omega)
      exact ⟨by omega,c2⟩
  ·rw [Ql0 f s a xs h] at he
   exact absurd he h
theorem Ql1(s:ByteArray)(h:(Qas s).2.2=0):0<(Qas s).2.1∧(Qas s).2.1≤(s.size:Int):=by
 have:=QvH s 18 0 [] (by omega) h (by omega)
 unfold Qas;exact ⟨by omega,this.2⟩
theorem Qrk(p:List UInt8)(h:∀ c∈p,c≠32):QcC p = [p]:=by
 induction p with
 |nil=>rfl
 |cons c t ih=>
  rw [QcC,if_neg (h c (List.mem_cons_self ..)),ih fun c hc=>h c (List.mem_cons_of_mem _ hc)]
theorem Qk5(p r:List UInt8)(h:∀ c∈p,c≠32):QcC (p++32 :: r)=p :: QcC r:=by
 induction p with
 |nil=>rw [List.nil_append,QcC,if_pos rfl]
 |cons c t ih=>
  rw [List.cons_append,QcC,if_neg (h c (List.mem_cons_self ..)),ih fun c hc=>h c (List.mem_cons_of_mem _ hc)]
theorem Qsi(p:List UInt8)(h:QeR p=true):∀ c∈p,c≠32:=by
 intro c hc e;subst e;exact absurd ((QhW p h).2.1 32 hc) (by decide)
theorem Qh7(p:List UInt8)(h:QeR p=true):QcC (Qcu p) = [[71,69,84],p,[72,84,84,80,47,49,46,49]]:=by
 have e:Qcu p = [71,69,84]++32 :: (p++32 :: [72,84,84,80,47,49,46,49]):=by unfold Qcu;simp
 rw [e,Qk5 _ _ (by decide),Qk5 _ _ (Qsi p h),Qrk _ (by decide)]
theorem QnI(h:List UInt8)(hh:Qen h=true):Qdb h=QaT Qb1 h:=by
 have hne:=(QfG h hh).2.2;unfold Qdb QaT Qhx;rw [if_neg (by cases h<;>simp_all),show Qfi true Qb1 = [72,111,115,116] by decide]
 rfl
theorem QvD(h:List UInt8)(hh:Qen h=true):Qby Qb1 h=true:=by
 obtain ⟨-,h2,h3⟩:=QfG h hh;have hg:∀ c∈h,Qtp c=false:=by
  intro c hc;have:=Qe7 c.toNat (h2 c hc);have h9:c≠9:=by rintro rfl;exact absurd (h2 9 hc) (by decide)
  have h32:c≠32:=by rintro rfl;exact absurd (h2 32 hc) (by decide)
  rw [←QbT];unfold Qih;simp [h9,h32]
 have hgap:∀ l:List UInt8,(∀ c∈l,Qtp c=false)→Qcv l=false:=by
  intro l hl;cases l with
  |nil=>rfl
  |cons c t=>exact hl c (List.mem_cons_self ..)
 unfold Qby;rw [show QdO Qb1=true by decide,Bool.true_and,Bool.and_eq_true]
 refine ⟨List.all_eq_true.2 fun c hc=>(Qe7 c.toNat (h2 c hc)).1,?_⟩
 unfold Qgk;rw [hgap h hg,hgap h.reverse (fun c hc=>hg c (List.mem_reverse.1 hc))]
 rfl
theorem Qfz(a b:Int)(h:Qc9 a b=0):QgD a b=Qey++(Go.Lib.decDigits a.toNat++45 :: Go.Lib.decDigits b.toNat):=by
 obtain ⟨h1,h2,h3⟩:=Qco a b h;unfold QgD Qe3 Qfk;rw [if_pos h,if_neg (by omega),if_neg (by omega)]
theorem QnH(a b:Int)(h:Qc9 a b=0):Qdo a b=QaT QaP (QgD a b):=by
 unfold Qdo QaT Qhx;rw [Qfz a b h,if_neg (by simp [Qey]),show Qfi true QaP = [82,97,110,103,101] by decide]
 rfl
theorem Qmk(n:Nat):∀ c∈Go.Lib.decDigits n,Qtp c=false∧c≠45∧c≠47:=by
 intro c hc;have:=QkY _ (List.all_eq_true.1 (QcQ n) c hc);have h9:c≠9:=by rintro rfl;exact absurd this (by decide)
 have h32:c≠32:=by rintro rfl;exact absurd this (by decide)
 refine ⟨?_,by rintro rfl;exact absurd this (by decide),by rintro rfl;exact absurd this (by decide)⟩
 rw [←QbT];unfold Qih;simp [h9,h32]
theorem QkX(n:Nat)(x:List UInt8):Qcv (x++Go.Lib.decDigits n).reverse=false:=by
 rw [List.reverse_append];cases e:(Go.Lib.decDigits n).reverse with
 |nil=>exact absurd (List.reverse_eq_nil_iff.1 e) (Qev n)
 |cons c t=>exact (Qmk n c (by rw [←List.mem_reverse,e];exact List.mem_cons_self ..)).1
theorem Qr0(a b:Int)(h:Qc9 a b=0):Qby QaP (QgD a b)=true:=by
 unfold Qby;rw [show QdO QaP=true by decide,Bool.true_and,Bool.and_eq_true]
 refine ⟨List.all_eq_true.2 fun c hc=>QjP a b c hc,?_⟩
 unfold Qgk;rw [Qfz a b h];have e1:Qcv (Qey++(Go.Lib.decDigits a.toNat++45 :: Go.Lib.decDigits b.toNat))=false:=by
  unfold Qey;rfl
 have e2:Qey++(Go.Lib.decDigits a.toNat++45 :: Go.Lib.decDigits b.toNat)=(Qey++(Go.Lib.decDigits a.toNat++[45]))++Go.Lib.decDigits b.toNat:=by simp
 rw [e1,e2,QkX];rfl
theorem Qea(c:UInt8)(x t:List UInt8)(h:∀ d∈x,d≠c):QeP c (x++c :: t)=x:=by
 unfold QeP;rw [List.takeWhile_append_of_pos (fun d hd=>by simpa using h d hd),List.takeWhile_cons_of_neg (by simp)]
 simp
theorem QnU(c:UInt8)(x t:List UInt8)(h:∀ d∈x,d≠c):Qhj c (x++c :: t)=true:=by
 unfold Qhj;rw [Qea c x t h];simp
theorem QcG(c:UInt8)(x t:List UInt8)(h:∀ d∈x,d≠c):Qbb c (x++c :: t)=t:=by
 unfold Qbb;rw [Qea c x t h,←List.drop_drop,List.drop_left];rfl
theorem Qcj(n:Nat)(h:n≤9007199254740991):QcE (Go.Lib.decDigits n)=0∧Qcq (Go.Lib.decDigits n)=n:=by
 have e:QcE (Go.Lib.decDigits n)=0:=by
  unfold QcE;rw [Qqa,if_neg (by decide),Qe0,if_neg (by omega)]
 refine ⟨e,?_⟩;unfold Qcq;rw [if_pos e,Qe0]
theorem QmD(a b:Int)(h:Qc9 a b=0):QbH (QgD a b)=0∧QcI (QgD a b)=a∧QcH (QgD a b)=b:=by
 obtain ⟨h1,h2,h3⟩:=Qco a b h;have hd:(QgD a b).drop 6=Go.Lib.decDigits a.toNat++45 :: Go.Lib.decDigits b.toNat:=by rw [Qfz a b h];rfl
 have hno:∀ d∈Go.Lib.decDigits a.toNat,d≠45:=fun d hd=>(Qmk _ d hd).2.1
 have hok:QiF (QgD a b)=true:=by
  unfold QiF;rw [hd,QnU _ _ _ hno,Qfz a b h,Bool.and_true];exact List.isPrefixOf_iff_prefix.2 (List.prefix_append _ _)
 have hF:QgX (QgD a b)=a.toNat:=by unfold QgX;rw [hd,Qea _ _ _ hno,(Qcj _ (by omega)).2]
 have hT:QgW (QgD a b)=b.toNat:=by unfold QgW;rw [hd,QcG _ _ _ hno,(Qcj _ (by omega)).2]
 have he:QbH (QgD a b)=0:=by
  unfold QbH;rw [if_neg (by rw [hok];decide),hF,hT,hd,Qea _ _ _ hno,QcG _ _ _ hno]
  unfold Qpy;rw [(Qcj _ (by omega)).1,(Qcj _ (by omega)).1,if_neg (by decide),Int.toNat_of_nonneg h1,Int.toNat_of_nonneg (by omega)]
  exact h
 refine ⟨he,?_,?_⟩
 ·unfold QcI;rw [if_pos he,hF];exact Int.toNat_of_nonneg h1
 ·unfold QcH;rw [if_pos he,hT];exact Int.toNat_of_nonneg (by omega)
theorem QjE(h:List UInt8)(a b:Int)(hh:Qen h=true)(hr:Qc9 a b=0):QeJ [Qdb h,Qdo a b]=0∧QbX [Qdb h,Qdo a b] = [(Qb1,h),(QaP,QgD a b)]:=by
 obtain ⟨x1,x2,x3⟩:=QdJ Qb1 h (QvD h hh);obtain ⟨y1,y2,y3⟩:=QdJ QaP (QgD a b) (Qr0 a b hr);rw [QnI h hh,QnH a b hr];refine ⟨?_,?_⟩
 ·unfold QeJ QeJ QeJ
  rw [x3,y3];rfl
 ·unfold QbX
  simp [x1,x2,y1,y2]
theorem Qo2(x y:List UInt8):Qc8 [(Qb1,x),(QaP,y)] Qb1=0∧QbC [(Qb1,x),(QaP,y)] Qb1=x∧Qc8 [(Qb1,x),(QaP,y)] QaP=0∧QbC [(Qb1,x),(QaP,y)] QaP=y:=by
 have n1:(QaP==Qb1)=false:=by decide
 have n2:(Qb1==QaP)=false:=by decide
 have e1:QfH [(Qb1,x),(QaP,y)] Qb1 = [x]:=by unfold QfH;simp [List.filter,n1]
 have e2:QfH [(Qb1,x),(QaP,y)] QaP = [y]:=by unfold QfH;simp [List.filter,n2]
 unfold Qc8 QbC;rw [e1,e2];exact ⟨rfl,rfl,rfl,rfl⟩
theorem Qy0(p h:List UInt8)(a b:Int)(he:QgE p h a b=0):lnE [Qcu p,Qdb h,Qdo a b]=0∧Qhq [Qcu p,Qdb h,Qdo a b]=p:=by
 obtain ⟨hp,hh,hr⟩:=QeA p h a b he;obtain ⟨f1,f2⟩:=QjE h a b hh hr;obtain ⟨g1,g2,g3,g4⟩:=Qo2 h (QgD a b);obtain ⟨k1,k2,k3⟩:=QmD a b hr;have hf:Qck [Qcu p,Qdb h,Qdo a b]=0:=by
  unfold Qck QfL;rw [if_neg (by simp),show ([Qcu p,Qdb h,Qdo a b]:List (List UInt8)).getD 0 []=Qcu p from rfl,Qh7 p hp]
  simp [hp]
 refine ⟨?_,?_⟩
 ·unfold lnE
  rw [hf,List.tail_cons,f1,f2];unfold QmJ Qf6;rw [g1,g2,g3,g4,hh,k1];rfl
 ·unfold Qhq
  rw [show ([Qcu p,Qdb h,Qdo a b]:List (List UInt8)).getD 0 []=Qcu p from rfl,Qh7 p hp];rfl
theorem Qjv(p h:List UInt8)(a b:Int)(he:QgE p h a b=0)(ha:a≤9223372036854775807)(hb:b≤9223372036854775807):∀ x∈[Qcu p,Qdb h,Qdo a b],QfK x:=by
 obtain ⟨hp,hh,hr⟩:=QeA p h a b he;intro x hx;simp only [List.mem_cons,List.not_mem_nil,or_false] at hx;rcases hx with rfl|rfl|rfl
 ·have:=Qc0 _ (QlM p hp);exact ⟨by simp [Qcu],this.1,this.2⟩
 ·have:=Qc0 _ (QlL h hh);exact ⟨by simp [Qdb],this.1,this.2⟩
 ·have:=Qc0 _ (QlK a b ha hb);exact ⟨by simp [Qdo],this.1,this.2⟩
theorem Qyu(p h:List UInt8)(a b:Int)(he:QgE p h a b=0)(ha:a≤9223372036854775807)(hb:b≤9223372036854775807)(s:ByteArray)(rest:List UInt8)(hs:s.data.toList=Qlo p h a b++rest) :
  Qg5 s=0∧Qcz s=p∧QcA s=h∧QmR s=a∧QmQ s=b∧QmP s=(Qlo p h a b).length:=by
 obtain ⟨hp,hh,hr⟩:=QeA p h a b he;have hd:Qas s=([Qcu p,Qdb h,Qdo a b],((Qlo p h a b).length:Int),0):=by
  have:=Qtf s rest [Qcu p,Qdb h,Qdo a b] [] [] 18 (Qjv p h a b he ha hb) (by simp) (by simp) (by rw [hs];unfold Qlo;simp)
  unfold Qas;rw [show (0:Int)=((([]:List UInt8).length:Nat):Int) from rfl,this];unfold Qlo;simp
 obtain ⟨l1,l2⟩:=Qy0 p h a b he;obtain ⟨f1,f2⟩:=QjE h a b hh hr;obtain ⟨g1,g2,g3,g4⟩:=Qo2 h (QgD a b);obtain ⟨k1,k2,k3⟩:=QmD a b hr;have e0:Qg5 s=0:=by unfold Qg5;rw [hd];simpa using l1
 refine ⟨e0,?_,?_,?_,?_,?_⟩
 ·unfold Qcz;rw [if_pos e0,hd];exact l2
 ·unfold QcA;rw [if_pos e0,hd];simp only [List.tail_cons];rw [f2,g2]
 ·unfold QmR;rw [if_pos e0,hd];simp only [List.tail_cons];rw [f2,g4,k2]
 ·unfold QmQ;rw [if_pos e0,hd];simp only [List.tail_cons];rw [f2,g4,k3]
 ·unfold QmP;rw [if_pos e0,hd]
theorem Qt8(s:ByteArray)(h0:Qg5 s=0):QgE (Qcz s) (QcA s) (QmR s) (QmQ s)=0∧0<QmP s∧QmP s≤(s.size:Int)∧0≤QmR s∧QmR s≤9007199254740990∧0≤QmQ s∧QmQ s≤9007199254740990:=by
 have hh:(Qas s).2.2=0:=by
  by_cases h:(Qas s).2.2=0
  ·exact h
  ·unfold Qg5 at h0;rw [if_pos h] at h0;exact h0
 have hl:lnE (Qas s).1=0:=by unfold Qg5 at h0;rw [if_neg (by simp [hh])] at h0;exact h0
 have h1:Qck (Qas s).1=0:=by
  by_cases h:Qck (Qas s).1=0
  ·exact h
  ·unfold lnE at hl;rw [if_pos h] at hl;exact hl
 unfold lnE at hl;rw [if_neg (by simp [h1])] at hl
 have h2:QeJ (Qas s).1.tail=0:=by
  by_cases h:QeJ (Qas s).1.tail=0
  ·exact h
  ·rw [if_pos h] at hl;exact hl
 rw [if_neg (by simp [h2])] at hl
 have h3:QmJ (QbX (Qas s).1.tail)=0:=by
  by_cases h:QmJ (QbX (Qas s).1.tail)=0
  ·exact h
  ·rw [if_pos h] at hl;exact hl
 rw [if_neg (by simp [h3])] at hl
 have hp:QeR (Qhq (Qas s).1)=true:=by
  unfold Qck QfL at h1;unfold Qhq;split at h1
  ·exact absurd h1 (by decide)
  split at h1
  ·exact absurd h1 (by decide)
  split at h1
  ·exact absurd h1 (by decide)
  split at h1
  ·exact absurd h1 (by decide)
  split at h1
  ·exact absurd h1 (by decide)
  ·rename_i hx
   simpa using hx
 have hH:Qen (QbC (QbX (Qas s).1.tail) Qb1)=true:=by
  unfold QmJ at h3;split at h3
  ·rename_i hx;exact absurd h3 hx
  split at h3
  ·exact absurd h3 (by decide)
  ·rename_i hx
   simpa using hx
 have hA:QbH (QbC (QbX (Qas s).1.tail) QaP)=0:=by
  unfold Qf6 at hl;split at hl
  ·rename_i hx;exact absurd hl hx
  ·exact hl
 have hr:Qc9 (QgX (QbC (QbX (Qas s).1.tail) QaP)) (QgW (QbC (QbX (Qas s).1.tail) QaP))=0:=by
  have hA':=hA;unfold QbH at hA';split at hA'
  ·exact absurd hA' (by decide)
  split at hA'
  ·rename_i hx;exact absurd hA' hx
  ·exact hA'
 obtain ⟨n1,n2⟩:=Ql1 s hh;obtain ⟨r1,r2,r3⟩:=Qco _ _ hr;unfold Qcz QcA QmR QmQ QmP;rw [if_pos h0,if_pos h0,if_pos h0,if_pos h0,if_pos h0];unfold QcI QcH;rw [if_pos hA,if_pos hA];refine ⟨?_,n1,n2,r1,by omega,by omega,r3⟩
 unfold QgE;rw [if_neg (by simp [hp,hH])]
 exact hr
theorem Qyv(s:ByteArray)(h0:Qg5 s≠0):Qcz s = []∧QcA s = []∧QmR s=0∧QmQ s=0∧QmP s=0:=by
 unfold Qcz QcA QmR QmQ QmP;rw [if_neg h0,if_neg h0,if_neg h0,if_neg h0,if_neg h0];exact ⟨rfl,rfl,rfl,rfl,rfl⟩
end
end Go.Proofs.YtilaebjndadkhaaGreatDoor
