/- What parts of the program compute: packed for TopReach. Conditions: none. -/
import Derived.Test.YtilaebjndadkhaaGreatDoorPz1
set_option linter.all false
set_option maxRecDepth 100000
set_option maxHeartbeats 8000000
open Go.Lib (hid)
namespace Go.Proofs.YtilaebjndadkhaaGreatDoor
section
open Go.RowKit
theorem Qrq(w:World)(x y z:Value)(t:TypeId):(w.alloc (.cells #[x,y,z] t)).cell? ⟨w.heap.size,0,none⟩=some x∧(w.alloc (.cells #[x,y,z] t)).cell? ⟨w.heap.size,1,none⟩=some y∧(w.alloc (.cells #[x,y,z] t)).cell? ⟨w.heap.size,2,none⟩=some z:=by
 have h:=heap_alloc_new w (.cells #[x,y,z] t);refine ⟨?_,?_,?_⟩<;>(unfold World.cell?;rw [h];rfl)
theorem Qbm{w:World}{b:Nat}{x0 x1 x2:Value}{t:TypeId}(k:w.heap[b]?=some (.cells #[x0,x1,x2] t (0,0))) :
  (w.cell? ⟨b,0,none⟩=some x0∧w.cell? ⟨b,1,none⟩=some x1∧w.cell? ⟨b,2,none⟩=some x2)∧w.frozen? ⟨b,0,none⟩=false∧w.frozen? ⟨b,1,none⟩=false∧w.frozen? ⟨b,2,none⟩=false:=by
 refine ⟨⟨?_,?_,?_⟩,?_,?_,?_⟩
 all_goals first
  |(unfold World.cell?;rw [k];rfl)
  |(unfold World.frozen?;rw [k];rfl)
theorem Qb2{w:World}{b:Nat}{x0 x1 x2:Value}{t:TypeId}(k:w.heap[b]?=some (.cells #[x0,x1,x2] t (0,0)))(y0 y1 y2:Value):(((w.setCell ⟨b,0,none⟩ y0).setCell ⟨b,1,none⟩ y1).setCell ⟨b,2,none⟩ y2).heap[b]?=some (.cells #[y0,y1,y2] t (0,0)):=by
 simp [World.setCell,Array.getElem?_modify,k]
theorem Qbh{w W:World}{b:Nat}(h:Below w.heap.size w W)(hb:w.heap.size≤b)(y0 y1 y2:Value):Below w.heap.size w (((W.setCell ⟨b,0,none⟩ y0).setCell ⟨b,1,none⟩ y1).setCell ⟨b,2,none⟩ y2):=
 ((h.setCell (p:=⟨b,0,none⟩) hb _).setCell (p:=⟨b,1,none⟩) hb _).setCell (p:=⟨b,2,none⟩) hb _
theorem QbR(w:World)(x y z:Value)(t:TypeId):Below w.heap.size w (w.alloc (.cells #[x,y,z] t)):=(Below.refl _ _).alloc (Nat.le_refl _) _
theorem QbN(w:World)(b:Nat)(t:TypeId)(x0 x1 x2:Value)(h:w.heap[b]?=some (.cells #[x0,x1,x2] t (0,0))):(loadVar 246 ⟨b,0,none⟩).run Tryz.prog w = .ok (.agg #[x0,x1,x2]) w:=
 run_loadVar_row w b t 246 #[x0,x1,x2] (0,0) _ h Tryz.underlying246 rfl (by kernel_rfl)
theorem QjX(w:World)(x y z a b c:Value)(t u:TypeId):((w.alloc (.cells #[x,y,z] t)).alloc (.cells #[a,b,c] u)).heap[w.heap.size]?=some (.cells #[x,y,z] t (0,0))∧((w.alloc (.cells #[x,y,z] t)).alloc (.cells #[a,b,c] u)).heap[w.heap.size+1]?=some (.cells #[a,b,c] u (0,0)):=by
 have h1:=heap_alloc_new w (.cells #[x,y,z] t);have h2:=heap_alloc_new (w.alloc (.cells #[x,y,z] t)) (.cells #[a,b,c] u);refine ⟨(heap_alloc_old _ _ (by simp)).trans h1,?_⟩
 rw [show (w.alloc (.cells #[x,y,z] t)).heap.size=w.heap.size+1 by simp] at h2
 exact h2
theorem Qpw(s:ByteArray)(a d e:Int)(w:World) :
  Calls Tryz.prog 177 #[.agg #[.string s,.int .i64 a,.int .i64 d],.int .i64 e] w fun r w'=>r = .returned (.tuple #[.int .u64 0,.agg #[.string s,.int .i64 a,.int .i64 e]])∧Below w.heap.size w w':=by
 go_enter Tryz.func177,Tryz.ntmps177;go_wp2_with fail;go_region
 all_goals
  go_wp2_with fail;refine QaS (A:=⟨w.heap.size+1,0,none⟩) rfl (QbN _ _ _ _ _ _ (QjX w _ _ _ _ _ _ _ _).2) rfl rfl rfl ?_;exact ⟨rfl,(((Below.refl _ _).alloc (Nat.le_refl _) _).alloc (by simp) _).drew⟩
theorem QiA(x y:Nat)(hx:x<18446744073709551616)(hy:y<18446744073709551616):bits .or .u64 (x:Int) (y:Int)=((x ||| y:Nat):Int):=by
 have hz:x ||| y<2 ^ 64:=Nat.or_lt_two_pow (by omega) (by omega)
 have h1:(BitVec.ofInt 64 (x:Int)).toNat=x:=by
  rw [BitVec.ofInt_natCast,BitVec.toNat_ofNat];exact Nat.mod_eq_of_lt (by omega)
 have h2:(BitVec.ofInt 64 (y:Int)).toNat=y:=by
  rw [BitVec.ofInt_natCast,BitVec.toNat_ofNat];exact Nat.mod_eq_of_lt (by omega)
 show IntKind.u64.wrap ((BitVec.ofInt 64 (x:Int) ||| BitVec.ofInt 64 (y:Int)).toNat:Int)=_
 rw [BitVec.toNat_or,h1,h2,IntKind.wrap_u64];omega
theorem Qmz(b:Nat)(hb:b<256):bits .and .u8 (b:Int) 127=((b%128:Nat):Int):=by
 have h1:(BitVec.ofInt 8 (b:Int)).toNat=b:=by
  rw [BitVec.ofInt_natCast,BitVec.toNat_ofNat];exact Nat.mod_eq_of_lt (by omega)
 have h2:(BitVec.ofInt 8 127).toNat=127:=by decide
 show IntKind.u8.wrap ((BitVec.ofInt 8 (b:Int) &&& BitVec.ofInt 8 127).toNat:Int)=_;rw [BitVec.toNat_and,h1,h2,show b &&& 127=b%128 from Nat.and_two_pow_sub_one_eq_mod b 7];have:IntKind.u8.wrap ((b%128:Nat):Int)=((b%128:Nat):Int)%256:=by simp [IntKind.wrap,IntKind.bits,IntKind.signed]
 rw [this];omega
theorem Qst(X y k:Nat)(hX:X<128 ^ k)(hy:y*128 ^ k<18446744073709551616)(hX2:X<18446744073709551616):bits .or .u64 (X:Int) (IntKind.u64.wrap ((y:Int)*2 ^ (7*k)))=((X+y*128 ^ k:Nat):Int):=by
 have hp:(2:Nat) ^ (7*k)=128 ^ k:=by rw [Nat.pow_mul]
 have e:IntKind.u64.wrap ((y:Int)*2 ^ (7*k))=((y*128 ^ k:Nat):Int):=by
  rw [IntKind.wrap_u64,←hp];have e1:((y:Int)*2 ^ (7*k))=((y*2 ^ (7*k):Nat):Int):=by
   rw [Int.natCast_mul,Int.natCast_pow];rfl
  rw [e1];rw [←hp] at hy;generalize y*2 ^ (7*k)=M at hy ⊢;omega
 rw [e,QiA _ _ hX2 hy,Nat.or_comm]
 congr 1
 rw [←hp] at hX ⊢;have:=Nat.shiftLeft_add_eq_or_of_lt hX y;rw [Nat.shiftLeft_eq] at this;omega
theorem Qsu(X:Nat)(z:Int):∃ Y:Nat,Y<18446744073709551616∧bits .or .u64 (X:Int) (IntKind.u64.wrap z)=(Y:Int):=by
 have h:∀ u v:Int,∃ Y:Nat,Y<18446744073709551616∧bits .or .u64 u v=(Y:Int):=by
  intro u v;refine ⟨(BitVec.ofInt 64 u ||| BitVec.ofInt 64 v).toNat,(BitVec.isLt _),?_⟩
  show IntKind.u64.wrap ((BitVec.ofInt 64 u ||| BitVec.ofInt 64 v).toNat:Int)=_
  have:=(BitVec.ofInt 64 u ||| BitVec.ofInt 64 v).isLt
  rw [IntKind.wrap_u64];omega
 exact h _ _
theorem QzS(t:List UInt8)(k:Nat)(hk:k<t.length)(h:∀ j (hj:j<k),128≤(t[j]'(by omega)).toNat)(hb:t[k].toNat<128):vK t=k:=by
 induction t generalizing k with
 |nil=>simp at hk
 |cons x r ih=>
  unfold vK at ih ⊢;rw [List.takeWhile_cons];cases k with
  |zero=>
   have:x.toNat<128:=hb;rw [decide_eq_false (by omega)];rfl
  |succ k=>
   have h0:128≤x.toNat:=h 0 (by omega)
   rw [decide_eq_true h0,if_pos rfl,List.length_cons,ih k (by simpa using hk) (fun j hj=>h (j+1) (by omega)) hb]
theorem QyN(t:List UInt8)(k:Nat)(hk:k≤t.length)(h:∀ j (hj:j<k),128≤(t[j]'(by omega)).toNat):k≤vK t:=by
 induction t generalizing k with
 |nil=>simp at hk;omega
 |cons x r ih=>
  cases k with
  |zero=>omega
  |succ k=>
   unfold vK at ih ⊢;have h0:128≤x.toNat:=h 0 (by omega)
   rw [List.takeWhile_cons,decide_eq_true h0,if_pos rfl,List.length_cons];have:=ih k (by simpa using hk) (fun j hj=>h (j+1) (by omega))
   omega
theorem QzT(t:List UInt8):vK t≤t.length:=(List.takeWhile_prefix _).length_le
def QwT(s:ByteArray)(a:Nat):Value:=
 if vE (s.data.toList.drop a)=0 then .tuple #[.int .u64 (vX (s.data.toList.drop a):Nat),.agg #[.string s,.int .i64 ((a+vN (s.data.toList.drop a):Nat):Int),.int .i64 0]]
 else .tuple #[.int .u64 0,.agg #[.string s,.int .i64 a,.int .i64 (vE (s.data.toList.drop a):Nat)]]
theorem QjU(s:ByteArray)(a E:Nat)(h:vE (s.data.toList.drop a)=E)(h0:E≠0):QwT s a = .tuple #[.int .u64 0,.agg #[.string s,.int .i64 a,.int .i64 (E:Nat)]]:=by
 unfold QwT;rw [h,if_neg h0]
theorem QmU(s:ByteArray)(a X n:Nat)(h:vE (s.data.toList.drop a)=0)(hX:vX (s.data.toList.drop a)=X)(hn:vN (s.data.toList.drop a)=n):QwT s a = .tuple #[.int .u64 (X:Nat),.agg #[.string s,.int .i64 ((a+n:Nat):Int),.int .i64 0]]:=by
 unfold QwT;rw [if_pos h,hX,hn]
theorem Qrn(t:List UInt8)(h:10≤vK t):vE t=11:=by unfold vE;exact if_pos h
theorem Quu(t:List UInt8)(h:vK t<10)(h2:vK t=t.length):vE t=3:=by unfold vE;rw [if_neg (by omega),if_pos h2]
theorem QyP(t:List UInt8)(h:vK t=9)(h2:9<t.length)(h3:1<(t.getD 9 0).toNat):vE t=11:=by
 unfold vE;rw [if_neg (by omega),if_neg (by omega),if_pos ⟨h,h3⟩]
theorem Qw2(t:List UInt8)(k:Nat)(h:vK t=k)(hk:k<10)(h2:k<t.length)(h3:¬(k=9∧1<(t.getD 9 0).toNat))(h4:0<k)(h5:(t.getD k 0).toNat=0):vE t=4:=by
 unfold vE;rw [h,if_neg (by omega),if_neg (by omega),if_neg h3,if_pos ⟨h4,h5⟩]
theorem Qw3(t:List UInt8)(k:Nat)(h:vK t=k)(hk:k<10)(h2:k<t.length)(h3:¬(k=9∧1<(t.getD 9 0).toNat))(h5:¬(0<k∧(t.getD k 0).toNat=0)):vE t=0:=by
 unfold vE;rw [h,if_neg (by omega),if_neg (by omega),if_neg h3,if_neg h5]
end
section
open Go.RowKit
theorem Qme(s:ByteArray)(a:Nat):(s.extract a s.size).data.toList=s.data.toList.drop a:=by
 have h:s.data.toList.length=s.size:=Qab s;simp [ByteArray.data_extract];exact List.take_of_length_le (by rw [List.length_drop,h];exact Nat.le_refl _)
theorem QcB{w:World}{X Y:Value}(h:X=Y){W:World}(hb:Below w.heap.size w W):Ending.returned X = .returned Y∧Below w.heap.size w W:=⟨by rw [h],hb⟩
theorem Qja(s:ByteArray)(a:Nat)(w:World)(ha:a≤s.size)(hs:s.size≤1000000) :
  Calls Tryz.prog 132 #[.agg #[.string s,.int .i64 a,.int .i64 0]] w fun r w'=>r = .returned (QwT s a)∧Below w.heap.size w w':=by
 have t0:decide ((a:Int)<0)=false:=decide_eq_false (by omega)
 have t1:decide (s.size<a)=false:=decide_eq_false (by omega)
 have hT:=QjX w (.string s) (.int .i64 a) (.int .i64 0) (.string ⟨#[]⟩) (.int .i64 0) (.int .i64 0) 246 246;have hB:Below w.heap.size w ((w.alloc (.cells #[.string s,.int .i64 a,.int .i64 0] 246)).alloc (.cells #[.string ⟨#[]⟩,.int .i64 0,.int .i64 0] 246)):=((Below.refl _ _).alloc (Nat.le_refl _) _).alloc (by simp) _
 obtain ⟨⟨c0,c1,c2⟩,-⟩:=Qbm hT.1;have hTl:=Qme s a;have QCf:=hid (fun e W=>Qpw s a 0 e W)
 obtain ⟨V,hV⟩:∃ V,QwT s a=V:=⟨_,rfl⟩;have HVb:=hid (fun E h h0=>hV.symm.trans (QjU s a E h h0))
 have HVo:=hid (fun X n h hX hn=>hV.symm.trans (QmU s a X n h hX hn))
 rw [hV];have hLn:(s.data.toList.drop a).length=s.size-a:=by rw [List.length_drop,Qab]
 generalize s.data.toList.drop a=L at hTl HVb HVo hLn;obtain ⟨N,hN⟩:∃ N,s.size-a=N:=⟨_,rfl⟩;rw [hN] at hLn;have hNs:a+N≤s.size:=by omega
 have HH:=hid (And.intro hT hB);clear hV;go_enter Tryz.func132,Tryz.ntmps132;go_wp2_with fail;go_step3;go_wp2_with fail;go_step3;go_wp2_with fail
 try rw [hN]
 generalize s.extract a s.size=T at hTl ⊢;have hTs:T.size=N:=by rw [←hLn,←hTl,Qab]
 have HG:Hid (∀ k (h:k<L.length) (h':k<T.size),L[k].toNat=T[k].toNat):=hid (fun k h h'=>by
  subst hTl;rfl)
 have HL:=hid hLn;clear hTl hLn hN;generalize hW:((w.alloc (.cells #[.string s,.int .i64 a,.int .i64 0] 246)).alloc (.cells #[.string ⟨#[]⟩,.int .i64 0,.int .i64 0] 246))=W at HH hT hB c0 c1 c2 ⊢;clear hW hT hB;obtain ⟨⟨d0,d1,d2⟩,-,g1,-⟩:=Qbm HH.out.1.1;obtain ⟨⟨p0,p1,p2⟩,q0,q1,q2⟩:=Qbm HH.out.1.2;go_loop [4,5,6,36] (fun x n wh i=>∃ k X:Nat,k≤N∧k≤10∧i = .int .i64 k∧n = .int .i64 k∧wh = .bool false∧x = .int .u64 X∧X<18446744073709551616∧Hid (k≤9→X=QmK (L.take k))∧Hid (∀ j (h:j<k) (h':j<L.length),128≤L[j].toNat)) (fun _ _ _ i=>N-(intOf i).toNat)
 case atStart=>exact ⟨0,0,by omega,by omega,rfl,rfl,rfl,rfl,by decide,hid (fun _=>rfl),hid (fun j h=>absurd h (Nat.not_lt_zero _))⟩
 case round=>
  obtain ⟨k,X,hkN,hk10,rfl,rfl,rfl,rfl,hX,HX,HJ⟩:=hrel
  by_cases hlt:k<N
  ·have hTk:k<T.size:=by omega
   by_cases h10:k=10
   ·have HV11:Hid (V=_):=hid (HVb.out 11 (Qrn L (by
     have:=QyN L k (by have:=HL.out;omega) (fun j hj=>HJ.out j hj (by have:=HL.out;omega))
     omega)) (by decide))
    subst h10;clear HX HJ HVb HVo HG;go_wp2_with fail;refine (QCf.out _ _).mono ?_;rintro e w1 ⟨rfl,hb1⟩;have H1:=hid ((hb1.block _ (gsi HH.out.1.2).1).trans HH.out.1.2);have HB1:=hid (Qaa HH.out.2 hb1);clear hb1 p0 p1 p2 q0 q1 q2;obtain ⟨⟨p0,p1,p2⟩,q0,q1,q2⟩:=Qbm H1.out;go_wp2_with fail
    try rw [Exit.noGoto_ret]
    refine QaS (A:=⟨w.heap.size+1,0,none⟩) rfl (QbN _ _ _ _ _ _ (Qb2 H1.out _ _ _)) rfl rfl rfl ?_;exact QcB HV11.out.symm (Qbh HB1.out (by omega) _ _ _)
   ·have t10:((k:Int)==10)=false:=by rw [beq_eq_false_iff_ne];omega
    have hk9:k<10:=by omega
    have hLk:k<L.length:=by have:=HL.out;omega
    obtain ⟨b,hb⟩:∃ b:Nat,T[k].toNat=b:=⟨_,rfl⟩;have hb8:b<256:=by rw [←hb];exact T[k].toNat_lt
    have hLb:L[k].toNat=b:=(HG.out k hLk hTk).trans hb;have htk:L.take (k+1)=L.take k++[L[k]]:=List.take_succ_eq_append_getElem hLk;have hlen:(L.take k).length=k:=by rw [List.length_take];omega
    by_cases hbl:b<128
    ·have tb:decide (b<128)=true:=decide_eq_true hbl
     have tb':decide ((b:Int)<128)=true:=decide_eq_true (by omega)
     have HKK:vK L=k:=QzS L k hLk (fun j hj=>HJ.out j hj (by omega)) (by omega)
     have hgk:(L.getD k 0).toNat=b:=by rw [List.getD_eq_getElem?_getD,List.getElem?_eq_getElem hLk];exact hLb
     have HA:Hid (∃ Y:Nat,Y<18446744073709551616∧bits .or .u64 (X:Int) (IntKind.u64.wrap ((b:Int)*2 ^ (7*k)))=(Y:Int)∧(¬(k=9∧1<b)→Y=QmK (L.take (k+1)))):=hid (by
      by_cases h9:¬(k=9∧1<b)
      ·have hXe:=HX.out (by omega)
       have QBb:=Qj3 (L.take k);rw [hlen,←hXe] at QBb;have hm:b*128 ^ k<18446744073709551616∧X+b*128 ^ k<18446744073709551616:=by
        by_cases hk9':k=9
        ·have hb1:b≤1:=by omega
         have h8':(128:Nat) ^ 9=9223372036854775808:=by decide
         rw [hk9',h8'] at QBb ⊢;omega
        ·have hp:(128:Nat) ^ k≤128 ^ 8:=Nat.pow_le_pow_right (by decide) (by omega)
         have hm:b*128 ^ k≤127*128 ^ 8:=Nat.mul_le_mul (by omega) hp
         have h8:(127:Nat)*128 ^ 8=9151314442816847872:=by decide
         have h8':(128:Nat) ^ 8=72057594037927936:=by decide
         omega
       refine ⟨X+b*128 ^ k,hm.2,Qst X b k QBb hm.1 hX,fun _=>?_⟩
       rw [htk,Qhy,hlen,←hXe,hLb,Nat.mod_eq_of_lt hbl]
      ·obtain ⟨Y,hY,he⟩:=Qsu X ((b:Int)*2 ^ (7*k))
       exact ⟨Y,hY,he,fun h=>absurd h h9⟩)
     obtain ⟨Y,hY,hYe,hYs⟩:=HA.out;have tn0:(((k:Int)+1)==10)=decide (k=9):=by
      by_cases h:k=9
      ·rw [h];rfl
      ·rw [decide_eq_false h,beq_eq_false_iff_ne];omega
     by_cases h9:k=9∧1<b
     ·obtain ⟨h9,hb1⟩:=h9
      have HVx:Hid (V=_):=hid (HVb.out 11 (QyP L (HKK.trans h9) (by omega) (by rw [←h9,hgk];exact hb1)) (by decide))
      rw [decide_eq_true h9] at tn0;have u1:decide (1<b)=true:=decide_eq_true hb1;have u2:decide ((b:Int)>1)=true:=decide_eq_true (by omega)
      clear HX HJ HVb HVo HG HA hYs hlen htk h9 hb1 HKK hgk;go_wp2_with fail;refine (QCf.out _ _).mono ?_;rintro e w1 ⟨rfl,QBt⟩;have H1:=hid ((QBt.block _ (gsi HH.out.1.2).1).trans HH.out.1.2);have HB1:=hid (Qaa HH.out.2 QBt);clear QBt p0 p1 p2 q0 q1 q2;obtain ⟨⟨p0,p1,p2⟩,q0,q1,q2⟩:=Qbm H1.out;go_wp2_with fail
      try rw [Exit.noGoto_ret]
      refine QaS (A:=⟨w.heap.size+1,0,none⟩) rfl (QbN _ _ _ _ _ _ (Qb2 H1.out _ _ _)) rfl rfl rfl ?_;exact QcB HVx.out.symm (Qbh HB1.out (by omega) _ _ _)
     ·have QB5:=hYs h9
      have hXv:vX L=Y:=by unfold vX vN;rw [HKK,QB5]
      have hNv:vN L=k+1:=by unfold vN;rw [HKK]
      have h9':¬(k=9∧1<(L.getD 9 0).toNat):=by
       rintro ⟨e1,e2⟩;rw [←e1,hgk] at e2;exact h9 ⟨e1,e2⟩
      by_cases hz:0<k∧b=0
      ·have HVx:Hid (V=_):=hid (HVb.out 4 (Qw2 L k HKK hk9 hLk h9' hz.1 (by rw [hgk];exact hz.2)) (by decide))
       obtain ⟨hk0,hb0⟩:=hz;have u1:decide (1<b)=false:=decide_eq_false (by omega)
       have u2:decide ((b:Int)>1)=false:=decide_eq_false (by omega)
       have u3:((b:Int)==0)=true:=by rw [hb0];rfl
       have u4:decide (0<k)=true:=decide_eq_true hk0;have u5:decide ((k:Int)+1>1)=true:=decide_eq_true (by omega)
       have hb1:=hb0;cases hd:decide (k=9)<;>rw [hd] at tn0<;>clear hd
       all_goals
        clear HX HJ HVb HVo HG HA hYs hlen htk h9 hb1 HKK hgk hXv hNv h9' QB5 hb0;go_wp2_with fail;refine (QCf.out _ _).mono ?_;rintro e w1 ⟨rfl,QBt⟩;have H1:=hid ((QBt.block _ (gsi HH.out.1.2).1).trans HH.out.1.2);have HB1:=hid (Qaa HH.out.2 QBt);clear QBt p0 p1 p2 q0 q1 q2;obtain ⟨⟨p0,p1,p2⟩,q0,q1,q2⟩:=Qbm H1.out;go_wp2_with fail
        try rw [Exit.noGoto_ret]
        refine QaS (A:=⟨w.heap.size+1,0,none⟩) rfl (QbN _ _ _ _ _ _ (Qb2 H1.out _ _ _)) rfl rfl rfl ?_;exact QcB HVx.out.symm (Qbh HB1.out (by omega) _ _ _)
      ·have HVx:Hid (V=_):=hid (HVo.out Y (k+1) (Qw3 L k HKK hk9 hLk h9' (by rw [hgk];exact hz)) hXv hNv)
       have hw1:IntKind.i64.wrap ((a:Int)+((k:Int)+1))=(a:Int)+((k:Int)+1):=by rw [IntKind.wrap_i64];omega
       have HVe:Hid ((a:Int)+((k:Int)+1)=((a+(k+1):Nat):Int)):=hid (by omega)
       have hK9:k=9→b≤1:=fun e=>by
        have:=fun h=>h9 ⟨e,h⟩
        omega
       by_cases hk0:0<k
       ·have u3:((b:Int)==0)=false:=by
         rw [beq_eq_false_iff_ne];have:=fun h=>hz ⟨hk0,h⟩
         omega
        have u4:decide (0<k)=true:=decide_eq_true hk0;have u5:decide ((k:Int)+1>1)=true:=decide_eq_true (by omega)
        by_cases hd:k=9
        ·rw [decide_eq_true hd] at tn0
         have u1:decide (1<b)=false:=decide_eq_false (by have:=hK9 hd;omega)
         have u2:decide ((b:Int)>1)=false:=decide_eq_false (by have:=hK9 hd;omega)
         clear hd;clear HX HJ HVb HVo HG HA hYs hlen htk h9 HKK hgk hXv hNv h9' QB5 hK9 hz;go_wp2_with fail;go_region
         all_goals
          go_wp2_with fail
          try rw [Exit.noGoto_ret]
          refine QaS (A:=⟨w.heap.size+1,0,none⟩) rfl (QbN _ _ _ _ _ _ (Qb2 ((Below.heap_setCell _ _ _ _ (by simp)).trans HH.out.1.2) _ _ _)) rfl rfl rfl ?_
          exact QcB (by rw [HVx.out,←HVe.out]<;>rfl) (Qbh (HH.out.2.setCell (p:=⟨w.heap.size,1,none⟩) (Nat.le_refl _) _) (by omega) _ _ _).drew
        ·rw [decide_eq_false hd] at tn0
         clear hd;clear HX HJ HVb HVo HG HA hYs hlen htk h9 HKK hgk hXv hNv h9' QB5 hK9 hz;go_wp2_with fail;go_region
         all_goals
          go_wp2_with fail
          try rw [Exit.noGoto_ret]
          refine QaS (A:=⟨w.heap.size+1,0,none⟩) rfl (QbN _ _ _ _ _ _ (Qb2 ((Below.heap_setCell _ _ _ _ (by simp)).trans HH.out.1.2) _ _ _)) rfl rfl rfl ?_
          exact QcB (by rw [HVx.out,←HVe.out]<;>rfl) (Qbh (HH.out.2.setCell (p:=⟨w.heap.size,1,none⟩) (Nat.le_refl _) _) (by omega) _ _ _).drew
       ·have u4:decide (0<k)=false:=decide_eq_false hk0
        have u5:decide ((k:Int)+1>1)=false:=decide_eq_false (by omega)
        rw [decide_eq_false (by omega)] at tn0
        clear HX HJ HVb HVo HG HA hYs hlen htk h9 HKK hgk hXv hNv h9' QB5 hK9 hz;go_wp2_with fail;go_region
        all_goals
         go_wp2_with fail
         try rw [Exit.noGoto_ret]
         refine QaS (A:=⟨w.heap.size+1,0,none⟩) rfl (QbN _ _ _ _ _ _ (Qb2 ((Below.heap_setCell _ _ _ _ (by simp)).trans HH.out.1.2) _ _ _)) rfl rfl rfl ?_
         exact QcB (by rw [HVx.out,←HVe.out]<;>rfl) (Qbh (HH.out.2.setCell (p:=⟨w.heap.size,1,none⟩) (Nat.le_refl _) _) (by omega) _ _ _).drew
    ·have tb:decide (b<128)=false:=decide_eq_false hbl
     have tb':decide ((b:Int)<128)=false:=decide_eq_false (by omega)
     have HA:Hid (∃ Y:Nat,Y<18446744073709551616∧bits .or .u64 (X:Int) (IntKind.u64.wrap (IntKind.u64.wrap (bits .and .u8 (b:Int) 127)*2 ^ (7*k)))=(Y:Int)∧(k+1≤9→Y=QmK (L.take (k+1)))):=hid (by
      have hw:IntKind.u64.wrap (bits .and .u8 (b:Int) 127)=((b%128:Nat):Int):=by
       rw [Qmz b hb8,IntKind.wrap_u64];omega
      rw [hw]
      by_cases h9:k+1≤9
      ·have hXe:=HX.out (by omega)
       have QBb:=Qj3 (L.take k);rw [hlen,←hXe] at QBb;have hp:(128:Nat) ^ k≤128 ^ 8:=Nat.pow_le_pow_right (by decide) (by omega)
       have hm:b%128*128 ^ k≤127*128 ^ 8:=Nat.mul_le_mul (by omega) hp
       have h8:(127:Nat)*128 ^ 8=9151314442816847872:=by decide
       have h8':(128:Nat) ^ 8=72057594037927936:=by decide
       refine ⟨X+b%128*128 ^ k,by omega,Qst X (b%128) k QBb (by omega) hX,fun _=>?_⟩
       rw [htk,Qhy,hlen,←hXe,hLb]
      ·obtain ⟨Y,hY,he⟩:=Qsu X (((b%128:Nat):Int)*2 ^ (7*k))
       exact ⟨Y,hY,he,fun h=>absurd h h9⟩)
     obtain ⟨Y,hY,hYe,hYs⟩:=HA.out;have HYs:=hid hYs;have HJ1:Hid (∀ j (h:j<k+1) (h':j<L.length),128≤L[j].toNat):=hid (fun j h h'=>by
      by_cases hj:j<k
      ·exact HJ.out j hj h'
      ·obtain rfl:j=k:=by omega
       omega)
     clear HX HJ HVb HVo HG HA hYs hlen htk;go_wp2_with fail;go_round
     case rel=>exact ⟨k+1,Y,by omega,by omega,by go_num,by go_num,rfl,by first|rfl|rw [hYe],hY,HYs,HJ1⟩
     case measure=>simp [intOf];omega
  ·obtain rfl:k=N:=by omega
   have HKK:Hid (vK L=k):=hid (by
    have h1:=QyN L k (by have:=HL.out;omega) (fun j hj=>HJ.out j hj (by have:=HL.out;omega))
    have h2:=QzT L;have:=HL.out;omega)
   by_cases h10:k=10
   ·have HV11:Hid (V=_):=hid (HVb.out 11 (Qrn L (by have:=HKK.out;omega)) (by decide))
    subst h10;clear HX HJ HVb HVo HG;go_wp2_with fail;refine (QCf.out _ _).mono ?_;rintro e w1 ⟨rfl,hb1⟩;have H1:=hid ((hb1.block _ (gsi HH.out.1.2).1).trans HH.out.1.2);have HB1:=hid (Qaa HH.out.2 hb1);clear hb1 p0 p1 p2 q0 q1 q2;obtain ⟨⟨p0,p1,p2⟩,q0,q1,q2⟩:=Qbm H1.out;go_wp2_with fail
    try rw [Exit.noGoto_ret]
    refine QaS (A:=⟨w.heap.size+1,0,none⟩) rfl (QbN _ _ _ _ _ _ (Qb2 H1.out _ _ _)) rfl rfl rfl ?_;exact QcB HV11.out.symm (Qbh HB1.out (by omega) _ _ _)
   ·have HV3:Hid (V=_):=hid (HVb.out 3 (Quu L (by have:=HKK.out;omega) (by have:=HKK.out;have:=HL.out;omega)) (by decide))
    have t10:((k:Int)==10)=false:=by rw [beq_eq_false_iff_ne];omega
    clear HX HJ HVb HVo HG HKK;go_wp2_with fail;refine (QCf.out _ _).mono ?_;rintro e w1 ⟨rfl,hb1⟩;have H1:=hid ((hb1.block _ (gsi HH.out.1.2).1).trans HH.out.1.2);have HB1:=hid (Qaa HH.out.2 hb1);clear hb1 p0 p1 p2 q0 q1 q2;obtain ⟨⟨p0,p1,p2⟩,q0,q1,q2⟩:=Qbm H1.out;go_wp2_with fail
    try rw [Exit.noGoto_ret]
    refine QaS (A:=⟨w.heap.size+1,0,none⟩) rfl (QbN _ _ _ _ _ _ (Qb2 H1.out _ _ _)) rfl rfl rfl ?_;exact QcB HV3.out.symm (Qbh HB1.out (by omega) _ _ _)
end
section
open Go.RowKit
def Qes(n:Nat):Bool:=decide (48≤n)&&decide (n≤57)
def QiM(n:Nat):Bool:=decide (97≤n)&&decide (n≤122)
def QaV(n:Nat):Bool:=QiM n||Qes n||n==45
def QdO(l:List UInt8):Bool:=!l.isEmpty&&decide (l.length≤32)&&l.all (fun c=>QaV c.toNat)
theorem Qyi(n:Nat)(h:128≤n):Qes n=false:=by unfold Qes;simp;omega
theorem QsG(n:Nat)(h:128≤n):QaV n=false:=by
 unfold QaV QiM Qes;have:(n==45)=false:=by rw [beq_eq_false_iff_ne];omega
 rw [this];simp;omega
theorem Qgx(s:ByteArray)(pos:Nat)(h:pos<s.size)(h2:s[pos].toNat<128):Utf8.decode s pos=(s[pos].toNat,1):=by
 rw [Go.Lib.decode_N];have:s.data.toList.getD pos 0=s[pos]:=by
  rw [List.getD_eq_getElem?_getD,List.getElem?_eq_getElem (by rw [Qab];exact h)];rfl
 rw [this];exact Go.Lib.decodeN_ascii _ _ _ _ _ h2
theorem Qmm(n b0 b1 b2 b3:Nat)(h:128≤b0):128≤(Go.Lib.decodeN n b0 b1 b2 b3).1:=by
 unfold Go.Lib.decodeN;rw [if_neg (by omega)]
 split
 ·split
  ·assumption
  ·decide
 ·split
  ·split
   ·rename_i h;show 128≤_;omega
   ·decide
  ·split
   ·split
    ·rename_i h;show 128≤_;omega
    ·decide
   ·decide
theorem Qn6(s:ByteArray)(pos:Nat)(h:pos<s.size)(h2:128≤s[pos].toNat):128≤(Utf8.decode s pos).1:=by
 rw [Go.Lib.decode_N];have:s.data.toList.getD pos 0=s[pos]:=by
  rw [List.getD_eq_getElem?_getD,List.getElem?_eq_getElem (by rw [Qab];exact h)];rfl
 rw [this];exact Qmm _ _ _ _ _ h2
theorem QlW(p:Nat→Bool)(hp:∀ x,128≤x→p x=true)(s:ByteArray):∀ (f pos:Nat),s.size≤pos+f→
  decide (Go.Lib.idxFuncFrom p true s f pos<0)=(s.data.toList.drop pos).all (fun c=>!p c.toNat):=by
 intro f
 induction f with
 |zero=>
  intro pos h;rw [List.drop_eq_nil_of_le (by rw [Qab];omega)]
  rfl
 |succ f ih=>
  intro pos h
  by_cases hlt:pos<s.size
  ·have hd:s.data.toList.drop pos=s[pos] :: s.data.toList.drop (pos+1):=List.drop_eq_getElem_cons (by rw [Qab];exact hlt)
   unfold Go.Lib.idxFuncFrom;rw [if_pos hlt,hd,List.all_cons]
   by_cases hb:s[pos].toNat<128
   ·rw [Qgx s pos hlt hb]
    by_cases hc:p s[pos].toNat=true
    ·rw [if_pos hc,hc]
     have hn:¬((pos:Int)<0):=by omega
     rw [decide_eq_false hn];rfl
    ·rw [if_neg hc,ih (pos+1) (by omega)]
     simp [hc]
   ·have hn:¬((pos:Int)<0):=by omega
    rw [if_pos (hp _ (Qn6 s pos hlt (by omega))),hp _ (show 128≤s[pos].toNat by omega),decide_eq_false hn];rfl
  ·rw [List.drop_eq_nil_of_le (by rw [Qab];omega),Go.Lib.idxFuncFrom_end _ _ _ _ _ hlt]
   rfl
theorem QkL(p:Nat→Bool)(hp:∀ x,128≤x→p x=true)(s:ByteArray) :
  decide (Go.Lib.idxFunc p true s<0)=s.data.toList.all (fun c=>!p c.toNat):=
 QlW p hp s s.size 0 (by omega)
end
end Go.Proofs.YtilaebjndadkhaaGreatDoor
namespace Go.Proofs
open Go.Shelf
def Tryz.lays156_ren:Go.Shelf.Ren:=⟨fun|156=>73|165=>128|166=>129|169=>130|240=>175|241=>176|276=>207|277=>208|n=>n,fun|31=>171|9=>9|3=>3|4=>4|0=>0|20=>20|72=>236|76=>240|70=>234|37=>157|75=>239|127=>280|164=>321|5=>5|80=>151|n=>n,fun|n=>n⟩
theorem Tryz.lays156:Go.Proofs.Lays.n156 Tryz.prog Tryz.lays156_ren:={ mixed:=by kernel_rfl,f156:=Tryz.func73.trans (congrArg some (by kernel_rfl)),f165:=Tryz.func128.trans (congrArg some (by kernel_rfl)),f166:=Tryz.func129.trans (congrArg some (by kernel_rfl)),f169:=Tryz.func130.trans (congrArg some (by kernel_rfl)),f240:=Tryz.func175.trans (congrArg some (by kernel_rfl)),f241:=Tryz.func176.trans (congrArg some (by kernel_rfl)),f276:=Tryz.func207.trans (congrArg some (by kernel_rfl)),f277:=Tryz.func208.trans (congrArg some (by kernel_rfl)),t0:=Tryz.underlying0,a0:=Tryz.isAgg0,z0:=Tryz.sizeOf0,v0:=Tryz.zeroValue0,t3:=Tryz.underlying3,a3:=Tryz.isAgg3,z3:=Tryz.sizeOf3,v3:=Tryz.zeroValue3,t4:=Tryz.underlying4,a4:=Tryz.isAgg4,z4:=Tryz.sizeOf4,v4:=Tryz.zeroValue4,t9:=Tryz.underlying9,a9:=Tryz.isAgg9,z9:=Tryz.sizeOf9,v9:=Tryz.zeroValue9,t20:=Tryz.underlying20,a20:=Tryz.isAgg20,z20:=Tryz.sizeOf20,v20:=Tryz.zeroValue20,t31:=Tryz.underlying171,a31:=Tryz.isAgg171,z31:=Tryz.sizeOf171,v31:=Tryz.zeroValue171,t37:=Tryz.underlying157,a37:=Tryz.isAgg157,z37:=Tryz.sizeOf157,v37:=Tryz.zeroValue157,t70:=Tryz.underlying234,a70:=Tryz.isAgg234,z70:=Tryz.sizeOf234,v70:=Tryz.zeroValue234,t72:=Tryz.underlying236,a72:=Tryz.isAgg236,z72:=Tryz.sizeOf236,v72:=Tryz.zeroValue236,t75:=Tryz.underlying239,a75:=Tryz.isAgg239,z75:=Tryz.sizeOf239,v75:=Tryz.zeroValue239,t76:=Tryz.underlying240,a76:=Tryz.isAgg240,z76:=Tryz.sizeOf240,v76:=Tryz.zeroValue240,t127:=Tryz.underlying280,a127:=Tryz.isAgg280,z127:=Tryz.sizeOf280,v127:=Tryz.zeroValue280,t164:=Tryz.underlying321,a164:=Tryz.isAgg321,z164:=Tryz.sizeOf321,v164:=Tryz.zeroValue321 }
theorem Tryz.Builder_Extra_156:Builder.Extra Tryz.prog Tryz.lays156_ren:={ sizeBuilder:=by kernel_rfl,liesBuilder:=by kernel_rfl,t5:=Tryz.underlying5,a5:=Tryz.isAgg5,z5:=Tryz.sizeOf5,v5:=Tryz.zeroValue5,infoByte:=by kernel_rfl,cellsByte:=by kernel_rfl,sizeByte:=by kernel_rfl,neB5:=by decide }
open Go.RowKit in
theorem Tryz.strings_Join(bk o c:Nat)(xs:List ByteArray)(sep:ByteArray)(w:World)(QA4:∀ (j:Nat) x,xs[j]?=some x→w.cell? ⟨bk,o+j,none⟩=some (.string x))(hbk:bk<w.heap.size)(hN:xs.length≤140737488355328)(hcap:xs.length≤c)(hlen:(Lib.join (xs.map (·.data.toList)) sep.data.toList).length≤140737488355328) :
  Calls Tryz.prog 73 #[.slice (some ⟨bk,o,none⟩) xs.length c,.string sep] w fun e w'=>e = .returned (.string ⟨(Lib.join (xs.map (·.data.toList)) sep.data.toList).toArray⟩)∧Below w.heap.size w w':=Any.strings_Join Tryz.lays156 Tryz.Builder_Extra_156 bk o c xs sep w QA4 hbk hN hcap hlen
def Tryz.lays162_ren:Go.Shelf.Ren:=⟨fun|162=>292|232=>235|227=>231|234=>236|236=>237|228=>269|271=>271|151=>270|120=>302|197=>226|152=>272|260=>268|137=>158|119=>303|224=>304|225=>305|217=>189|266=>223|n=>n,fun|9=>9|4=>4|3=>3|5=>5|117=>366|116=>365|0=>0|124=>369|21=>21|105=>360|46=>132|119=>441|139=>444|138=>443|n=>n,fun|3=>2|4=>3|n=>n⟩
theorem Tryz.lays162:Go.Proofs.Lays.n162 Tryz.prog Tryz.lays162_ren:={ mixed:=by kernel_rfl,f119:=Tryz.func303.trans (congrArg some (by kernel_rfl)),f120:=Tryz.func302.trans (congrArg some (by kernel_rfl)),f137:=Tryz.func158.trans (congrArg some (by kernel_rfl)),f151:=Tryz.func270.trans (congrArg some (by kernel_rfl)),f152:=Tryz.func272.trans (congrArg some (by kernel_rfl)),f162:=Tryz.func292.trans (congrArg some (by kernel_rfl)),f197:=Tryz.func226.trans (congrArg some (by kernel_rfl)),f217:=Tryz.func189.trans (congrArg some (by kernel_rfl)),f224:=Tryz.func304.trans (congrArg some (by kernel_rfl)),f225:=Tryz.func305.trans (congrArg some (by kernel_rfl)),f227:=Tryz.func231.trans (congrArg some (by kernel_rfl)),f228:=Tryz.func269.trans (congrArg some (by kernel_rfl)),f232:=Tryz.func235.trans (congrArg some (by kernel_rfl)),f234:=Tryz.func236.trans (congrArg some (by kernel_rfl)),f236:=Tryz.func237.trans (congrArg some (by kernel_rfl)),f260:=Tryz.func268.trans (congrArg some (by kernel_rfl)),f266:=Tryz.func223.trans (congrArg some (by kernel_rfl)),f271:=Tryz.func271.trans (congrArg some (by kernel_rfl)),t0:=Tryz.underlying0,a0:=Tryz.isAgg0,z0:=Tryz.sizeOf0,v0:=Tryz.zeroValue0,t3:=Tryz.underlying3,a3:=Tryz.isAgg3,z3:=Tryz.sizeOf3,v3:=Tryz.zeroValue3,t4:=Tryz.underlying4,a4:=Tryz.isAgg4,z4:=Tryz.sizeOf4,v4:=Tryz.zeroValue4,t5:=Tryz.underlying5,a5:=Tryz.isAgg5,z5:=Tryz.sizeOf5,v5:=Tryz.zeroValue5,t9:=Tryz.underlying9,a9:=Tryz.isAgg9,z9:=Tryz.sizeOf9,v9:=Tryz.zeroValue9,t21:=Tryz.underlying21,a21:=Tryz.isAgg21,z21:=Tryz.sizeOf21,v21:=Tryz.zeroValue21,t46:=Tryz.underlying132,a46:=Tryz.isAgg132,z46:=Tryz.sizeOf132,v46:=Tryz.zeroValue132,t105:=Tryz.underlying360,a105:=Tryz.isAgg360,z105:=Tryz.sizeOf360,v105:=Tryz.zeroValue360,t116:=Tryz.underlying365,a116:=Tryz.isAgg365,z116:=Tryz.sizeOf365,t117:=Tryz.underlying366,a117:=Tryz.isAgg366,z117:=Tryz.sizeOf366,v117:=Tryz.zeroValue366,t119:=Tryz.underlying441,a119:=Tryz.isAgg441,z119:=Tryz.sizeOf441,t124:=Tryz.underlying369,a124:=Tryz.isAgg369,z124:=Tryz.sizeOf369,v124:=Tryz.zeroValue369,t138:=Tryz.underlying443,a138:=Tryz.isAgg443,z138:=Tryz.sizeOf443,v138:=Tryz.zeroValue443,t139:=Tryz.underlying444,a139:=Tryz.isAgg444,z139:=Tryz.sizeOf444,v139:=Tryz.zeroValue444,g3:=by kernel_rfl,g4:=by kernel_rfl }
def Tryz.lays160_ren:Go.Shelf.Ren:=⟨fun|160=>199|232=>235|231=>230|227=>231|234=>236|233=>232|236=>237|235=>233|228=>269|271=>271|151=>270|197=>226|120=>302|152=>272|260=>268|137=>158|119=>303|224=>304|225=>305|217=>189|266=>223|n=>n,fun|9=>9|4=>4|3=>3|5=>5|117=>366|116=>365|0=>0|124=>369|21=>21|105=>360|46=>132|119=>441|139=>444|138=>443|n=>n,fun|3=>2|4=>3|n=>n⟩
theorem Tryz.lays160:Go.Proofs.Lays.n160 Tryz.prog Tryz.lays160_ren:={ mixed:=by kernel_rfl,f119:=Tryz.func303.trans (congrArg some (by kernel_rfl)),f120:=Tryz.func302.trans (congrArg some (by kernel_rfl)),f137:=Tryz.func158.trans (congrArg some (by kernel_rfl)),f151:=Tryz.func270.trans (congrArg some (by kernel_rfl)),f152:=Tryz.func272.trans (congrArg some (by kernel_rfl)),f160:=Tryz.func199.trans (congrArg some (by kernel_rfl)),f197:=Tryz.func226.trans (congrArg some (by kernel_rfl)),f217:=Tryz.func189.trans (congrArg some (by kernel_rfl)),f224:=Tryz.func304.trans (congrArg some (by kernel_rfl)),f225:=Tryz.func305.trans (congrArg some (by kernel_rfl)),f227:=Tryz.func231.trans (congrArg some (by kernel_rfl)),f228:=Tryz.func269.trans (congrArg some (by kernel_rfl)),f231:=Tryz.func230.trans (congrArg some (by kernel_rfl)),f232:=Tryz.func235.trans (congrArg some (by kernel_rfl)),f233:=Tryz.func232.trans (congrArg some (by kernel_rfl)),f234:=Tryz.func236.trans (congrArg some (by kernel_rfl)),f235:=Tryz.func233.trans (congrArg some (by kernel_rfl)),f236:=Tryz.func237.trans (congrArg some (by kernel_rfl)),f260:=Tryz.func268.trans (congrArg some (by kernel_rfl)),f266:=Tryz.func223.trans (congrArg some (by kernel_rfl)),f271:=Tryz.func271.trans (congrArg some (by kernel_rfl)),t0:=Tryz.underlying0,a0:=Tryz.isAgg0,z0:=Tryz.sizeOf0,v0:=Tryz.zeroValue0,t3:=Tryz.underlying3,a3:=Tryz.isAgg3,z3:=Tryz.sizeOf3,v3:=Tryz.zeroValue3,t4:=Tryz.underlying4,a4:=Tryz.isAgg4,z4:=Tryz.sizeOf4,v4:=Tryz.zeroValue4,t5:=Tryz.underlying5,a5:=Tryz.isAgg5,z5:=Tryz.sizeOf5,v5:=Tryz.zeroValue5,t9:=Tryz.underlying9,a9:=Tryz.isAgg9,z9:=Tryz.sizeOf9,v9:=Tryz.zeroValue9,t21:=Tryz.underlying21,a21:=Tryz.isAgg21,z21:=Tryz.sizeOf21,v21:=Tryz.zeroValue21,t46:=Tryz.underlying132,a46:=Tryz.isAgg132,z46:=Tryz.sizeOf132,v46:=Tryz.zeroValue132,t105:=Tryz.underlying360,a105:=Tryz.isAgg360,z105:=Tryz.sizeOf360,v105:=Tryz.zeroValue360,t116:=Tryz.underlying365,a116:=Tryz.isAgg365,z116:=Tryz.sizeOf365,t117:=Tryz.underlying366,a117:=Tryz.isAgg366,z117:=Tryz.sizeOf366,v117:=Tryz.zeroValue366,t119:=Tryz.underlying441,a119:=Tryz.isAgg441,z119:=Tryz.sizeOf441,t124:=Tryz.underlying369,a124:=Tryz.isAgg369,z124:=Tryz.sizeOf369,v124:=Tryz.zeroValue369,t138:=Tryz.underlying443,a138:=Tryz.isAgg443,z138:=Tryz.sizeOf443,v138:=Tryz.zeroValue443,t139:=Tryz.underlying444,a139:=Tryz.isAgg444,z139:=Tryz.sizeOf444,v139:=Tryz.zeroValue444,g3:=by kernel_rfl,g4:=by kernel_rfl }
def Tryz.lays103_ren:Go.Shelf.Ren:=⟨fun|103=>198|210=>234|206=>135|n=>n,fun|9=>9|4=>4|24=>314|3=>3|n=>n,fun|n=>n⟩
theorem Tryz.lays103:Go.Proofs.Lays.n103 Tryz.prog Tryz.lays103_ren:={ mixed:=by kernel_rfl,f103:=Tryz.func198.trans (congrArg some (by kernel_rfl)),f206:=Tryz.func135.trans (congrArg some (by kernel_rfl)),f210:=Tryz.func234.trans (congrArg some (by kernel_rfl)),t3:=Tryz.underlying3,a3:=Tryz.isAgg3,z3:=Tryz.sizeOf3,v3:=Tryz.zeroValue3,t4:=Tryz.underlying4,a4:=Tryz.isAgg4,z4:=Tryz.sizeOf4,v4:=Tryz.zeroValue4,t9:=Tryz.underlying9,a9:=Tryz.isAgg9,z9:=Tryz.sizeOf9,v9:=Tryz.zeroValue9,t24:=Tryz.underlying314,a24:=Tryz.isAgg314,z24:=Tryz.sizeOf314,v24:=Tryz.zeroValue314 }
open Go.RowKit in
theorem Tryz.strings_CutPrefix(s p:ByteArray)(w:World) :
  Calls Tryz.prog 198 #[.string s,.string p] w fun e w'=>e = .returned (.tuple #[.string ⟨(Lib.trimPrefix s.data.toList p.data.toList).toArray⟩,.bool (Lib.hasPrefix s.data.toList p.data.toList)])∧w'=w:=Any.strings_CutPrefix Tryz.lays103 s p w
def Tryz.lays172_ren:Go.Shelf.Ren:=⟨fun|172=>201|244=>239|245=>240|247=>274|279=>275|280=>276|281=>277|282=>278|287=>306|316=>167|171=>279|205=>307|321=>324|322=>325|243=>308|246=>326|283=>337|284=>338|285=>339|286=>340|129=>109|317=>346|318=>347|319=>348|320=>349|337=>359|338=>360|n=>n,fun|9=>9|3=>3|75=>239|76=>240|4=>4|5=>5|167=>415|37=>157|0=>0|85=>416|2=>2|168=>418|53=>43|175=>445|46=>132|210=>448|127=>280|145=>466|143=>464|21=>21|171=>488|173=>490|212=>498|51=>84|20=>20|213=>499|232=>530|233=>531|80=>151|n=>n,fun|15=>4|16=>5|17=>6|18=>7|19=>8|n=>n⟩
theorem Tryz.lays172:Go.Proofs.Lays.n172 Tryz.prog Tryz.lays172_ren:={ mixed:=by kernel_rfl,f129:=Tryz.func109.trans (congrArg some (by kernel_rfl)),f171:=Tryz.func279.trans (congrArg some (by kernel_rfl)),f172:=Tryz.func201.trans (congrArg some (by kernel_rfl)),f205:=Tryz.func307.trans (congrArg some (by kernel_rfl)),f243:=Tryz.func308.trans (congrArg some (by kernel_rfl)),f244:=Tryz.func239.trans (congrArg some (by kernel_rfl)),f245:=Tryz.func240.trans (congrArg some (by kernel_rfl)),f246:=Tryz.func326.trans (congrArg some (by kernel_rfl)),f247:=Tryz.func274.trans (congrArg some (by kernel_rfl)),f279:=Tryz.func275.trans (congrArg some (by kernel_rfl)),f280:=Tryz.func276.trans (congrArg some (by kernel_rfl)),f281:=Tryz.func277.trans (congrArg some (by kernel_rfl)),f282:=Tryz.func278.trans (congrArg some (by kernel_rfl)),f283:=Tryz.func337.trans (congrArg some (by kernel_rfl)),f284:=Tryz.func338.trans (congrArg some (by kernel_rfl)),f285:=Tryz.func339.trans (congrArg some (by kernel_rfl)),f286:=Tryz.func340.trans (congrArg some (by kernel_rfl)),f287:=Tryz.func306.trans (congrArg some (by kernel_rfl)),f316:=Tryz.func167.trans (congrArg some (by kernel_rfl)),f317:=Tryz.func346.trans (congrArg some (by kernel_rfl)),f318:=Tryz.func347.trans (congrArg some (by kernel_rfl)),f319:=Tryz.func348.trans (congrArg some (by kernel_rfl)),f320:=Tryz.func349.trans (congrArg some (by kernel_rfl)),f321:=Tryz.func324.trans (congrArg some (by kernel_rfl)),f322:=Tryz.func325.trans (congrArg some (by kernel_rfl)),f337:=Tryz.func359.trans (congrArg some (by kernel_rfl)),f338:=Tryz.func360.trans (congrArg some (by kernel_rfl)),t0:=Tryz.underlying0,a0:=Tryz.isAgg0,z0:=Tryz.sizeOf0,v0:=Tryz.zeroValue0,t2:=Tryz.underlying2,a2:=Tryz.isAgg2,z2:=Tryz.sizeOf2,v2:=Tryz.zeroValue2,t3:=Tryz.underlying3,a3:=Tryz.isAgg3,z3:=Tryz.sizeOf3,v3:=Tryz.zeroValue3,t4:=Tryz.underlying4,a4:=Tryz.isAgg4,z4:=Tryz.sizeOf4,v4:=Tryz.zeroValue4,t5:=Tryz.underlying5,a5:=Tryz.isAgg5,z5:=Tryz.sizeOf5,v5:=Tryz.zeroValue5,t9:=Tryz.underlying9,a9:=Tryz.isAgg9,z9:=Tryz.sizeOf9,v9:=Tryz.zeroValue9,t20:=Tryz.underlying20,a20:=Tryz.isAgg20,z20:=Tryz.sizeOf20,v20:=Tryz.zeroValue20,t21:=Tryz.underlying21,a21:=Tryz.isAgg21,z21:=Tryz.sizeOf21,v21:=Tryz.zeroValue21,t37:=Tryz.underlying157,a37:=Tryz.isAgg157,z37:=Tryz.sizeOf157,v37:=Tryz.zeroValue157,t46:=Tryz.underlying132,a46:=Tryz.isAgg132,z46:=Tryz.sizeOf132,v46:=Tryz.zeroValue132,t51:=Tryz.underlying84,a51:=Tryz.isAgg84,z51:=Tryz.sizeOf84,v51:=Tryz.zeroValue84,t53:=Tryz.underlying43,a53:=Tryz.isAgg43,z53:=Tryz.sizeOf43,v53:=Tryz.zeroValue43,t75:=Tryz.underlying239,a75:=Tryz.isAgg239,z75:=Tryz.sizeOf239,v75:=Tryz.zeroValue239,t76:=Tryz.underlying240,a76:=Tryz.isAgg240,z76:=Tryz.sizeOf240,v76:=Tryz.zeroValue240,t85:=Tryz.underlying416,a85:=Tryz.isAgg416,z85:=Tryz.sizeOf416,v85:=Tryz.zeroValue416,t127:=Tryz.underlying280,a127:=Tryz.isAgg280,z127:=Tryz.sizeOf280,v127:=Tryz.zeroValue280,t143:=Tryz.underlying464,a143:=Tryz.isAgg464,z143:=Tryz.sizeOf464,v143:=Tryz.zeroValue464,t145:=Tryz.underlying466,a145:=Tryz.isAgg466,z145:=Tryz.sizeOf466,v145:=Tryz.zeroValue466,t167:=Tryz.underlying415,a167:=Tryz.isAgg415,z167:=Tryz.sizeOf415,v167:=Tryz.zeroValue415,t168:=Tryz.underlying418,a168:=Tryz.isAgg418,z168:=Tryz.sizeOf418,v168:=Tryz.zeroValue418,t171:=Tryz.underlying488,a171:=Tryz.isAgg488,z171:=Tryz.sizeOf488,v171:=Tryz.zeroValue488,t173:=Tryz.underlying490,a173:=Tryz.isAgg490,z173:=Tryz.sizeOf490,v173:=Tryz.zeroValue490,t175:=Tryz.underlying445,a175:=Tryz.isAgg445,z175:=Tryz.sizeOf445,v175:=Tryz.zeroValue445,t210:=Tryz.underlying448,a210:=Tryz.isAgg448,z210:=Tryz.sizeOf448,v210:=Tryz.zeroValue448,t212:=Tryz.underlying498,a212:=Tryz.isAgg498,z212:=Tryz.sizeOf498,v212:=Tryz.zeroValue498,t213:=Tryz.underlying499,a213:=Tryz.isAgg499,z213:=Tryz.sizeOf499,t232:=Tryz.underlying530,a232:=Tryz.isAgg530,z232:=Tryz.sizeOf530,v232:=Tryz.zeroValue530,t233:=Tryz.underlying531,a233:=Tryz.isAgg531,z233:=Tryz.sizeOf531,v233:=Tryz.zeroValue531,g15:=by kernel_rfl,g16:=by kernel_rfl,g17:=by kernel_rfl,g18:=by kernel_rfl,g19:=by kernel_rfl }
open Go.RowKit in
theorem Tryz.strconv_Atoi(s:ByteArray)(n:Int)(hl:s.size≤18)(h:Lib.atoi s.data.toList=some n)(w:World) :
  Calls Tryz.prog 201 #[.string s] w fun e w'=>e = .returned (.tuple #[.int .i64 n,.nilIface])∧∃ t,w'=Lib.bytesWorld w 5 t:=Any.strconv_Atoi Tryz.lays172 s n hl h w
def Tryz.laysM171_ren:Go.Shelf.Ren:=⟨fun|171=>279|243=>308|246=>326|283=>337|284=>338|285=>339|286=>340|129=>109|317=>346|318=>347|319=>348|320=>349|337=>359|338=>360|n=>n,fun|3=>3|9=>9|2=>2|4=>4|171=>488|0=>0|53=>43|37=>157|5=>5|173=>490|212=>498|51=>84|20=>20|213=>499|46=>132|232=>530|233=>531|n=>n,fun|17=>6|18=>7|19=>8|n=>n⟩
theorem Tryz.laysM171:Go.Proofs.LaysM.n171 Tryz.prog Tryz.laysM171_ren:={ mixed:=by kernel_rfl,f129:=Tryz.func109.trans (congrArg some (by kernel_rfl)),f171:=Tryz.func279.trans (congrArg some (by kernel_rfl)),f243:=Tryz.func308.trans (congrArg some (by kernel_rfl)),f246:=Tryz.func326.trans (congrArg some (by kernel_rfl)),f283:=Tryz.func337.trans (congrArg some (by kernel_rfl)),f284:=Tryz.func338.trans (congrArg some (by kernel_rfl)),f285:=Tryz.func339.trans (congrArg some (by kernel_rfl)),f286:=Tryz.func340.trans (congrArg some (by kernel_rfl)),f317:=Tryz.func346.trans (congrArg some (by kernel_rfl)),f318:=Tryz.func347.trans (congrArg some (by kernel_rfl)),f319:=Tryz.func348.trans (congrArg some (by kernel_rfl)),f320:=Tryz.func349.trans (congrArg some (by kernel_rfl)),f337:=Tryz.func359.trans (congrArg some (by kernel_rfl)),f338:=Tryz.func360.trans (congrArg some (by kernel_rfl)),t0:=Tryz.underlying0,a0:=Tryz.isAgg0,z0:=Tryz.sizeOf0,v0:=Tryz.zeroValue0,t2:=Tryz.underlying2,a2:=Tryz.isAgg2,z2:=Tryz.sizeOf2,v2:=Tryz.zeroValue2,t3:=Tryz.underlying3,a3:=Tryz.isAgg3,z3:=Tryz.sizeOf3,v3:=Tryz.zeroValue3,t4:=Tryz.underlying4,a4:=Tryz.isAgg4,z4:=Tryz.sizeOf4,v4:=Tryz.zeroValue4,t5:=Tryz.underlying5,a5:=Tryz.isAgg5,z5:=Tryz.sizeOf5,v5:=Tryz.zeroValue5,t9:=Tryz.underlying9,a9:=Tryz.isAgg9,z9:=Tryz.sizeOf9,v9:=Tryz.zeroValue9,t20:=Tryz.underlying20,a20:=Tryz.isAgg20,z20:=Tryz.sizeOf20,v20:=Tryz.zeroValue20,t37:=Tryz.underlying157,a37:=Tryz.isAgg157,z37:=Tryz.sizeOf157,v37:=Tryz.zeroValue157,t46:=Tryz.underlying132,a46:=Tryz.isAgg132,z46:=Tryz.sizeOf132,v46:=Tryz.zeroValue132,t51:=Tryz.underlying84,a51:=Tryz.isAgg84,z51:=Tryz.sizeOf84,v51:=Tryz.zeroValue84,t53:=Tryz.underlying43,a53:=Tryz.isAgg43,z53:=Tryz.sizeOf43,v53:=Tryz.zeroValue43,t171:=Tryz.underlying488,a171:=Tryz.isAgg488,z171:=Tryz.sizeOf488,v171:=Tryz.zeroValue488,t173:=Tryz.underlying490,a173:=Tryz.isAgg490,z173:=Tryz.sizeOf490,v173:=Tryz.zeroValue490,t212:=Tryz.underlying498,a212:=Tryz.isAgg498,z212:=Tryz.sizeOf498,v212:=Tryz.zeroValue498,t213:=Tryz.underlying499,a213:=Tryz.isAgg499,z213:=Tryz.sizeOf499,t232:=Tryz.underlying530,a232:=Tryz.isAgg530,z232:=Tryz.sizeOf530,v232:=Tryz.zeroValue530,t233:=Tryz.underlying531,a233:=Tryz.isAgg531,z233:=Tryz.sizeOf531,v233:=Tryz.zeroValue531,g17:=by kernel_rfl,g18:=by kernel_rfl,g19:=by kernel_rfl,i0:=by kernel_rfl,i2:=by kernel_rfl,i3:=by kernel_rfl,i4:=by kernel_rfl,i5:=by kernel_rfl,i9:=by kernel_rfl,i20:=by kernel_rfl,i37:=by kernel_rfl,i46:=by kernel_rfl,i51:=by kernel_rfl,i53:=by kernel_rfl,i171:=by kernel_rfl,i173:=by kernel_rfl,i212:=by kernel_rfl,i232:=by kernel_rfl,i233:=by kernel_rfl,m17:=by kernel_rfl,m18:=by kernel_rfl,m19:=by kernel_rfl }
open Go.RowKit Go.Sort Go.Lib in
theorem Tryz.strconv_Itoa(n:Int)(h0 : -9223372036854775808≤n)(h1:n≤9223372036854775807)(w:World)(htab:Lib.TabIs Tryz.prog w "internal/strconv.uint64pow10" .u64 Lib.pow10Tab) :
  Calls Tryz.prog 279 #[.int .i64 n] w fun e w'=>e = .returned (.string ⟨(Lib.itoa n).toArray⟩)∧∃ k os,w'=grow (w.drewN k) os:=Any.strconv_Itoa Tryz.laysM171 n h0 h1 w htab
def Tryz.laysM316_ren:Go.Shelf.Ren:=⟨fun|316=>167|n=>n,fun|9=>9|3=>3|4=>4|37=>157|0=>0|127=>280|5=>5|n=>n,fun|n=>n⟩
theorem Tryz.laysM316:Go.Proofs.LaysM.n316 Tryz.prog Tryz.laysM316_ren:={ mixed:=by kernel_rfl,f316:=Tryz.func167.trans (congrArg some (by kernel_rfl)),t0:=Tryz.underlying0,a0:=Tryz.isAgg0,z0:=Tryz.sizeOf0,v0:=Tryz.zeroValue0,t3:=Tryz.underlying3,a3:=Tryz.isAgg3,z3:=Tryz.sizeOf3,v3:=Tryz.zeroValue3,t4:=Tryz.underlying4,a4:=Tryz.isAgg4,z4:=Tryz.sizeOf4,v4:=Tryz.zeroValue4,t9:=Tryz.underlying9,a9:=Tryz.isAgg9,z9:=Tryz.sizeOf9,v9:=Tryz.zeroValue9,t37:=Tryz.underlying157,a37:=Tryz.isAgg157,z37:=Tryz.sizeOf157,v37:=Tryz.zeroValue157,t127:=Tryz.underlying280,a127:=Tryz.isAgg280,z127:=Tryz.sizeOf280,v127:=Tryz.zeroValue280,t5:=Tryz.underlying5,a5:=Tryz.isAgg5,z5:=Tryz.sizeOf5,v5:=Tryz.zeroValue5,i0:=by kernel_rfl,i3:=by kernel_rfl,i4:=by kernel_rfl,i5:=by kernel_rfl,i9:=by kernel_rfl,i37:=by kernel_rfl,i127:=by kernel_rfl }
open Go.RowKit in
theorem Tryz.stringslite_Clone(s:ByteArray)(w:World)(QBU:s.size≤281474976710656) :
  Calls Tryz.prog 167 #[.string s] w fun e w'=>e = .returned (.string s)∧Below w.heap.size w w':=Any.stringslite_Clone Tryz.laysM316 s w QBU
def Tryz.laysC172_ren:Go.Shelf.Ren:=⟨fun|172=>201|244=>239|245=>240|247=>274|279=>275|280=>276|281=>277|282=>278|287=>306|316=>167|171=>279|205=>307|321=>324|322=>325|243=>308|246=>326|283=>337|284=>338|285=>339|286=>340|129=>109|317=>346|318=>347|319=>348|320=>349|337=>359|338=>360|n=>n,fun|9=>9|3=>3|75=>239|76=>240|4=>4|5=>5|167=>415|37=>157|0=>0|85=>416|2=>2|168=>418|53=>43|175=>445|46=>132|210=>448|127=>280|145=>466|143=>464|21=>21|171=>488|173=>490|212=>498|51=>84|20=>20|213=>499|232=>530|233=>531|80=>151|n=>n,fun|15=>4|16=>5|17=>6|18=>7|19=>8|n=>n⟩
theorem Tryz.laysC172:Go.Proofs.LaysC.n172 Tryz.prog Tryz.laysC172_ren:={ mixed:=by kernel_rfl,f129:=Tryz.func109.trans (congrArg some (by kernel_rfl)),f171:=Tryz.func279.trans (congrArg some (by kernel_rfl)),f172:=Tryz.func201.trans (congrArg some (by kernel_rfl)),f205:=Tryz.func307.trans (congrArg some (by kernel_rfl)),f243:=Tryz.func308.trans (congrArg some (by kernel_rfl)),f244:=Tryz.func239.trans (congrArg some (by kernel_rfl)),f245:=Tryz.func240.trans (congrArg some (by kernel_rfl)),f246:=Tryz.func326.trans (congrArg some (by kernel_rfl)),f247:=Tryz.func274.trans (congrArg some (by kernel_rfl)),f279:=Tryz.func275.trans (congrArg some (by kernel_rfl)),f280:=Tryz.func276.trans (congrArg some (by kernel_rfl)),f281:=Tryz.func277.trans (congrArg some (by kernel_rfl)),f282:=Tryz.func278.trans (congrArg some (by kernel_rfl)),f283:=Tryz.func337.trans (congrArg some (by kernel_rfl)),f284:=Tryz.func338.trans (congrArg some (by kernel_rfl)),f285:=Tryz.func339.trans (congrArg some (by kernel_rfl)),f286:=Tryz.func340.trans (congrArg some (by kernel_rfl)),f287:=Tryz.func306.trans (congrArg some (by kernel_rfl)),f316:=Tryz.func167.trans (congrArg some (by kernel_rfl)),f317:=Tryz.func346.trans (congrArg some (by kernel_rfl)),f318:=Tryz.func347.trans (congrArg some (by kernel_rfl)),f319:=Tryz.func348.trans (congrArg some (by kernel_rfl)),f320:=Tryz.func349.trans (congrArg some (by kernel_rfl)),f321:=Tryz.func324.trans (congrArg some (by kernel_rfl)),f322:=Tryz.func325.trans (congrArg some (by kernel_rfl)),f337:=Tryz.func359.trans (congrArg some (by kernel_rfl)),f338:=Tryz.func360.trans (congrArg some (by kernel_rfl)),t0:=Tryz.underlying0,a0:=Tryz.isAgg0,z0:=Tryz.sizeOf0,v0:=Tryz.zeroValue0,t2:=Tryz.underlying2,a2:=Tryz.isAgg2,z2:=Tryz.sizeOf2,v2:=Tryz.zeroValue2,t3:=Tryz.underlying3,a3:=Tryz.isAgg3,z3:=Tryz.sizeOf3,v3:=Tryz.zeroValue3,t4:=Tryz.underlying4,a4:=Tryz.isAgg4,z4:=Tryz.sizeOf4,v4:=Tryz.zeroValue4,t5:=Tryz.underlying5,a5:=Tryz.isAgg5,z5:=Tryz.sizeOf5,v5:=Tryz.zeroValue5,t9:=Tryz.underlying9,a9:=Tryz.isAgg9,z9:=Tryz.sizeOf9,v9:=Tryz.zeroValue9,t20:=Tryz.underlying20,a20:=Tryz.isAgg20,z20:=Tryz.sizeOf20,v20:=Tryz.zeroValue20,t21:=Tryz.underlying21,a21:=Tryz.isAgg21,z21:=Tryz.sizeOf21,v21:=Tryz.zeroValue21,t37:=Tryz.underlying157,a37:=Tryz.isAgg157,z37:=Tryz.sizeOf157,v37:=Tryz.zeroValue157,t46:=Tryz.underlying132,a46:=Tryz.isAgg132,z46:=Tryz.sizeOf132,v46:=Tryz.zeroValue132,t51:=Tryz.underlying84,a51:=Tryz.isAgg84,z51:=Tryz.sizeOf84,v51:=Tryz.zeroValue84,t53:=Tryz.underlying43,a53:=Tryz.isAgg43,z53:=Tryz.sizeOf43,v53:=Tryz.zeroValue43,t75:=Tryz.underlying239,a75:=Tryz.isAgg239,z75:=Tryz.sizeOf239,v75:=Tryz.zeroValue239,t76:=Tryz.underlying240,a76:=Tryz.isAgg240,z76:=Tryz.sizeOf240,v76:=Tryz.zeroValue240,t85:=Tryz.underlying416,a85:=Tryz.isAgg416,z85:=Tryz.sizeOf416,v85:=Tryz.zeroValue416,t127:=Tryz.underlying280,a127:=Tryz.isAgg280,z127:=Tryz.sizeOf280,v127:=Tryz.zeroValue280,t143:=Tryz.underlying464,a143:=Tryz.isAgg464,z143:=Tryz.sizeOf464,v143:=Tryz.zeroValue464,t145:=Tryz.underlying466,a145:=Tryz.isAgg466,z145:=Tryz.sizeOf466,v145:=Tryz.zeroValue466,t167:=Tryz.underlying415,a167:=Tryz.isAgg415,z167:=Tryz.sizeOf415,v167:=Tryz.zeroValue415,t168:=Tryz.underlying418,a168:=Tryz.isAgg418,z168:=Tryz.sizeOf418,v168:=Tryz.zeroValue418,t171:=Tryz.underlying488,a171:=Tryz.isAgg488,z171:=Tryz.sizeOf488,v171:=Tryz.zeroValue488,t173:=Tryz.underlying490,a173:=Tryz.isAgg490,z173:=Tryz.sizeOf490,v173:=Tryz.zeroValue490,t175:=Tryz.underlying445,a175:=Tryz.isAgg445,z175:=Tryz.sizeOf445,v175:=Tryz.zeroValue445,t210:=Tryz.underlying448,a210:=Tryz.isAgg448,z210:=Tryz.sizeOf448,v210:=Tryz.zeroValue448,t212:=Tryz.underlying498,a212:=Tryz.isAgg498,z212:=Tryz.sizeOf498,v212:=Tryz.zeroValue498,t213:=Tryz.underlying499,a213:=Tryz.isAgg499,z213:=Tryz.sizeOf499,t232:=Tryz.underlying530,a232:=Tryz.isAgg530,z232:=Tryz.sizeOf530,v232:=Tryz.zeroValue530,t233:=Tryz.underlying531,a233:=Tryz.isAgg531,z233:=Tryz.sizeOf531,v233:=Tryz.zeroValue531,g15:=by kernel_rfl,g16:=by kernel_rfl,g17:=by kernel_rfl,g18:=by kernel_rfl,g19:=by kernel_rfl,t80:=Tryz.underlying151,a80:=Tryz.isAgg151,z80:=Tryz.sizeOf151,v80:=Tryz.zeroValue151,i0:=by kernel_rfl,i2:=by kernel_rfl,i3:=by kernel_rfl,i4:=by kernel_rfl,i5:=by kernel_rfl,i9:=by kernel_rfl,i20:=by kernel_rfl,i21:=by kernel_rfl,i37:=by kernel_rfl,i46:=by kernel_rfl,i51:=by kernel_rfl,i53:=by kernel_rfl,i75:=by kernel_rfl,i76:=by kernel_rfl,i80:=by kernel_rfl,i85:=by kernel_rfl,i127:=by kernel_rfl,i143:=by kernel_rfl,i145:=by kernel_rfl,i167:=by kernel_rfl,i168:=by kernel_rfl,i171:=by kernel_rfl,i173:=by kernel_rfl,i175:=by kernel_rfl,i210:=by kernel_rfl,i212:=by kernel_rfl,i232:=by kernel_rfl,i233:=by kernel_rfl,m15:=by kernel_rfl,m16:=by kernel_rfl,m17:=by kernel_rfl,m18:=by kernel_rfl,m19:=by kernel_rfl,c0:=by kernel_rfl,c2:=by kernel_rfl,c3:=by kernel_rfl,c4:=by kernel_rfl,c5:=by kernel_rfl,c9:=by kernel_rfl,c20:=by kernel_rfl,c21:=by kernel_rfl,c37:=by kernel_rfl,c46:=by kernel_rfl,c51:=by kernel_rfl,c53:=by kernel_rfl,c75:=by kernel_rfl,c76:=by kernel_rfl,c80:=by kernel_rfl,c85:=by kernel_rfl,c127:=by kernel_rfl,c143:=by kernel_rfl,c145:=by kernel_rfl,c167:=by kernel_rfl,c168:=by kernel_rfl,c171:=by kernel_rfl,c173:=by kernel_rfl,c175:=by kernel_rfl,c210:=by kernel_rfl,c212:=by kernel_rfl,c213:=by kernel_rfl,c232:=by kernel_rfl,c233:=by kernel_rfl }
open Go.RowKit in
theorem Tryz.strconv_Atoi_ok(s:ByteArray)(hmax:s.size≤9223372036854775806)(v:Int)(h:Lib.atoiAll s.data.toList = .ok v)(w:World) :
  Calls Tryz.prog 201 #[.string s] w fun e w'=>e = .returned (.tuple #[.int .i64 v,.nilIface])∧(w'=w∨∃ t,w'=Lib.bytesWorld w 5 t):=Any.strconv_Atoi_ok Tryz.laysC172 s hmax v h w
open Go.RowKit in
theorem Tryz.strconv_Atoi_range(s:ByteArray)(QBU:s.size≤281474976710656)(h:Lib.atoiAll s.data.toList = .range)(ev:Value)(w:World)(hv:w.cell? ⟨5,0,none⟩=some ev)(hev:ev = .nilIface∨∃ te pe,ev = .iface te pe) :
  Calls Tryz.prog 201 #[.string s] w fun e w'=>∃ N,e = .returned (.tuple #[.int .i64 (Lib.atoiSat s.data.toList),.iface 418 (.pointer (some ⟨N,0,none⟩))])∧w.heap.size≤N∧w'.heap[N]?=some (.cells #[.string ⟨#[65,116,111,105]⟩,.string s,ev] 448 (0,0))∧Below w.heap.size w w':=Any.strconv_Atoi_range Tryz.laysC172 s QBU h ev w hv hev
def Tryz.lays145_ren:Go.Shelf.Ren:=⟨fun|145=>246|220=>285|219=>315|217=>189|225=>305|224=>304|267=>332|266=>223|314=>341|n=>n,fun|9=>9|4=>4|59=>380|3=>3|5=>5|46=>132|146=>492|51=>84|n=>n,fun|1=>1|n=>n⟩
theorem Tryz.lays145:Go.Proofs.Lays.n145 Tryz.prog Tryz.lays145_ren:={ mixed:=by kernel_rfl,f145:=Tryz.func246.trans (congrArg some (by kernel_rfl)),f217:=Tryz.func189.trans (congrArg some (by kernel_rfl)),f219:=Tryz.func315.trans (congrArg some (by kernel_rfl)),f220:=Tryz.func285.trans (congrArg some (by kernel_rfl)),f224:=Tryz.func304.trans (congrArg some (by kernel_rfl)),f225:=Tryz.func305.trans (congrArg some (by kernel_rfl)),f266:=Tryz.func223.trans (congrArg some (by kernel_rfl)),f267:=Tryz.func332.trans (congrArg some (by kernel_rfl)),f314:=Tryz.func341.trans (congrArg some (by kernel_rfl)),t3:=Tryz.underlying3,a3:=Tryz.isAgg3,z3:=Tryz.sizeOf3,v3:=Tryz.zeroValue3,t4:=Tryz.underlying4,a4:=Tryz.isAgg4,z4:=Tryz.sizeOf4,v4:=Tryz.zeroValue4,t5:=Tryz.underlying5,a5:=Tryz.isAgg5,z5:=Tryz.sizeOf5,v5:=Tryz.zeroValue5,t9:=Tryz.underlying9,a9:=Tryz.isAgg9,z9:=Tryz.sizeOf9,v9:=Tryz.zeroValue9,t46:=Tryz.underlying132,a46:=Tryz.isAgg132,z46:=Tryz.sizeOf132,v46:=Tryz.zeroValue132,t51:=Tryz.underlying84,a51:=Tryz.isAgg84,z51:=Tryz.sizeOf84,v51:=Tryz.zeroValue84,t59:=Tryz.underlying380,a59:=Tryz.isAgg380,z59:=Tryz.sizeOf380,v59:=Tryz.zeroValue380,t146:=Tryz.underlying492,a146:=Tryz.isAgg492,z146:=Tryz.sizeOf492,v146:=Tryz.zeroValue492,g1:=by kernel_rfl }
open Go.RowKit Go.Lib in
theorem Tryz.strings_Cut(s sep:ByteArray)(m:Int)(w:World)(hs:s.size<4294967281)(hm:w.cell? ⟨1,0,none⟩=some (.int .i64 m)) :
  Calls Tryz.prog 246 #[.string s,.string sep] w fun e w'=>e = .returned (.tuple #[.string ⟨(Lib.cut s.data.toList sep.data.toList).1.toArray⟩,.string ⟨(Lib.cut s.data.toList sep.data.toList).2.1.toArray⟩,.bool (Lib.cut s.data.toList sep.data.toList).2.2])∧∃ n,w'=w.drewN n:=Any.strings_Cut Tryz.lays145 s sep m w hs hm
def Tryz.laysM145_ren:Go.Shelf.Ren:=⟨fun|145=>246|220=>285|219=>315|217=>189|225=>305|224=>304|267=>332|266=>223|314=>341|n=>n,fun|9=>9|4=>4|59=>380|3=>3|5=>5|46=>132|146=>492|51=>84|n=>n,fun|1=>1|n=>n⟩
theorem Tryz.laysM145:Go.Proofs.LaysM.n145 Tryz.prog Tryz.laysM145_ren:={ mixed:=by kernel_rfl,f145:=Tryz.func246.trans (congrArg some (by kernel_rfl)),f217:=Tryz.func189.trans (congrArg some (by kernel_rfl)),f219:=Tryz.func315.trans (congrArg some (by kernel_rfl)),f220:=Tryz.func285.trans (congrArg some (by kernel_rfl)),f224:=Tryz.func304.trans (congrArg some (by kernel_rfl)),f225:=Tryz.func305.trans (congrArg some (by kernel_rfl)),f266:=Tryz.func223.trans (congrArg some (by kernel_rfl)),f267:=Tryz.func332.trans (congrArg some (by kernel_rfl)),f314:=Tryz.func341.trans (congrArg some (by kernel_rfl)),t3:=Tryz.underlying3,a3:=Tryz.isAgg3,z3:=Tryz.sizeOf3,v3:=Tryz.zeroValue3,t4:=Tryz.underlying4,a4:=Tryz.isAgg4,z4:=Tryz.sizeOf4,v4:=Tryz.zeroValue4,t5:=Tryz.underlying5,a5:=Tryz.isAgg5,z5:=Tryz.sizeOf5,v5:=Tryz.zeroValue5,t9:=Tryz.underlying9,a9:=Tryz.isAgg9,z9:=Tryz.sizeOf9,v9:=Tryz.zeroValue9,t46:=Tryz.underlying132,a46:=Tryz.isAgg132,z46:=Tryz.sizeOf132,v46:=Tryz.zeroValue132,t51:=Tryz.underlying84,a51:=Tryz.isAgg84,z51:=Tryz.sizeOf84,v51:=Tryz.zeroValue84,t59:=Tryz.underlying380,a59:=Tryz.isAgg380,z59:=Tryz.sizeOf380,v59:=Tryz.zeroValue380,t146:=Tryz.underlying492,a146:=Tryz.isAgg492,z146:=Tryz.sizeOf492,v146:=Tryz.zeroValue492,g1:=by kernel_rfl,i3:=by kernel_rfl,i4:=by kernel_rfl,i5:=by kernel_rfl,i9:=by kernel_rfl,i46:=by kernel_rfl,i51:=by kernel_rfl,i59:=by kernel_rfl,i146:=by kernel_rfl,m1:=by kernel_rfl,s1_3:=fun w h=>Go.Proofs.cell_of_shapedOpen_int (zero:=#[.int .i64 0]) (t:=3) h (of_decide_eq_true (by kernel_rfl)) (by kernel_rfl) rfl (by kernel_rfl) (by kernel_rfl) Tryz.underlying3 }
def Tryz.laysGw15_ren:Go.Shelf.Ren:=⟨fun|15=>83|20=>136|n=>n,fun|9=>9|23=>180|3=>3|4=>4|0=>0|21=>21|n=>n,fun|n=>n⟩
theorem Tryz.laysGw15:Go.Proofs.LaysGw.n15 Tryz.prog Tryz.laysGw15_ren:={ mixed:=by kernel_rfl,f15:=Tryz.func83.trans (congrArg some (by kernel_rfl)),f20:=Tryz.func136.trans (congrArg some (by kernel_rfl)),t0:=Tryz.underlying0,a0:=Tryz.isAgg0,z0:=Tryz.sizeOf0,v0:=Tryz.zeroValue0,i0:=by kernel_rfl,t3:=Tryz.underlying3,a3:=Tryz.isAgg3,z3:=Tryz.sizeOf3,v3:=Tryz.zeroValue3,i3:=by kernel_rfl,t4:=Tryz.underlying4,a4:=Tryz.isAgg4,z4:=Tryz.sizeOf4,v4:=Tryz.zeroValue4,i4:=by kernel_rfl,t9:=Tryz.underlying9,a9:=Tryz.isAgg9,z9:=Tryz.sizeOf9,v9:=Tryz.zeroValue9,i9:=by kernel_rfl,t21:=Tryz.underlying21,a21:=Tryz.isAgg21,z21:=Tryz.sizeOf21,v21:=Tryz.zeroValue21,i21:=by kernel_rfl,t23:=Tryz.underlying180,a23:=Tryz.isAgg180,z23:=Tryz.sizeOf180,v23:=Tryz.zeroValue180,i23:=by kernel_rfl }
def Tryz.lays99_ren:Go.Shelf.Ren:=⟨fun|99=>82|206=>135|n=>n,fun|9=>9|4=>4|3=>3|n=>n,fun|n=>n⟩
theorem Tryz.lays99:Go.Proofs.Lays.n99 Tryz.prog Tryz.lays99_ren:={ mixed:=by kernel_rfl,f99:=Tryz.func82.trans (congrArg some (by kernel_rfl)),f206:=Tryz.func135.trans (congrArg some (by kernel_rfl)),t3:=Tryz.underlying3,a3:=Tryz.isAgg3,z3:=Tryz.sizeOf3,v3:=Tryz.zeroValue3,t4:=Tryz.underlying4,a4:=Tryz.isAgg4,z4:=Tryz.sizeOf4,v4:=Tryz.zeroValue4,t9:=Tryz.underlying9,a9:=Tryz.isAgg9,z9:=Tryz.sizeOf9,v9:=Tryz.zeroValue9 }
open Go.RowKit Go.Lib in
theorem Tryz.strings_HasPrefix(s p:ByteArray)(w:World) :
  Calls Tryz.prog 82 #[.string s,.string p] w fun e w'=>e = .returned (.bool (Lib.hasPrefix s.data.toList p.data.toList))∧w'=w:=Any.strings_HasPrefix Tryz.lays99 s p w
def Tryz.lays146_ren:Go.Shelf.Ren:=⟨fun|146=>334|221=>342|268=>350|138=>351|143=>352|195=>361|197=>226|218=>362|219=>315|260=>268|217=>189|225=>305|224=>304|267=>332|266=>223|314=>341|n=>n,fun|9=>9|31=>171|3=>3|4=>4|0=>0|105=>360|21=>21|5=>5|46=>132|119=>441|139=>444|138=>443|146=>492|51=>84|n=>n,fun|1=>1|3=>2|4=>3|n=>n⟩
theorem Tryz.lays146:Go.Proofs.Lays.n146 Tryz.prog Tryz.lays146_ren:={ mixed:=by kernel_rfl,f138:=Tryz.func351.trans (congrArg some (by kernel_rfl)),f143:=Tryz.func352.trans (congrArg some (by kernel_rfl)),f146:=Tryz.func334.trans (congrArg some (by kernel_rfl)),f195:=Tryz.func361.trans (congrArg some (by kernel_rfl)),f197:=Tryz.func226.trans (congrArg some (by kernel_rfl)),f217:=Tryz.func189.trans (congrArg some (by kernel_rfl)),f218:=Tryz.func362.trans (congrArg some (by kernel_rfl)),f219:=Tryz.func315.trans (congrArg some (by kernel_rfl)),f221:=Tryz.func342.trans (congrArg some (by kernel_rfl)),f224:=Tryz.func304.trans (congrArg some (by kernel_rfl)),f225:=Tryz.func305.trans (congrArg some (by kernel_rfl)),f260:=Tryz.func268.trans (congrArg some (by kernel_rfl)),f266:=Tryz.func223.trans (congrArg some (by kernel_rfl)),f267:=Tryz.func332.trans (congrArg some (by kernel_rfl)),f268:=Tryz.func350.trans (congrArg some (by kernel_rfl)),f314:=Tryz.func341.trans (congrArg some (by kernel_rfl)),t0:=Tryz.underlying0,a0:=Tryz.isAgg0,z0:=Tryz.sizeOf0,v0:=Tryz.zeroValue0,t3:=Tryz.underlying3,a3:=Tryz.isAgg3,z3:=Tryz.sizeOf3,v3:=Tryz.zeroValue3,t4:=Tryz.underlying4,a4:=Tryz.isAgg4,z4:=Tryz.sizeOf4,v4:=Tryz.zeroValue4,t5:=Tryz.underlying5,a5:=Tryz.isAgg5,z5:=Tryz.sizeOf5,v5:=Tryz.zeroValue5,t9:=Tryz.underlying9,a9:=Tryz.isAgg9,z9:=Tryz.sizeOf9,v9:=Tryz.zeroValue9,t21:=Tryz.underlying21,a21:=Tryz.isAgg21,z21:=Tryz.sizeOf21,v21:=Tryz.zeroValue21,t31:=Tryz.underlying171,a31:=Tryz.isAgg171,z31:=Tryz.sizeOf171,v31:=Tryz.zeroValue171,t46:=Tryz.underlying132,a46:=Tryz.isAgg132,z46:=Tryz.sizeOf132,v46:=Tryz.zeroValue132,t51:=Tryz.underlying84,a51:=Tryz.isAgg84,z51:=Tryz.sizeOf84,v51:=Tryz.zeroValue84,t105:=Tryz.underlying360,a105:=Tryz.isAgg360,z105:=Tryz.sizeOf360,v105:=Tryz.zeroValue360,t119:=Tryz.underlying441,a119:=Tryz.isAgg441,z119:=Tryz.sizeOf441,t138:=Tryz.underlying443,a138:=Tryz.isAgg443,z138:=Tryz.sizeOf443,v138:=Tryz.zeroValue443,t139:=Tryz.underlying444,a139:=Tryz.isAgg444,z139:=Tryz.sizeOf444,v139:=Tryz.zeroValue444,t146:=Tryz.underlying492,a146:=Tryz.isAgg492,z146:=Tryz.sizeOf492,v146:=Tryz.zeroValue492,g1:=by kernel_rfl,g3:=by kernel_rfl,g4:=by kernel_rfl }
open Go.RowKit Go.Lib in
theorem Tryz.strings_Split(s sep:ByteArray)(m:Int)(w:World)(hs:s.size<4294967281)(hm:w.cell? ⟨1,0,none⟩=some (.int .i64 m))(h1:1≤sep.size) :
  Calls Tryz.prog 334 #[.string s,.string sep] w fun e w'=>
   e = .returned (.slice (some ⟨w.heap.size,0,none⟩) (Lib.countB s sep+1) (Lib.countB s sep+1))∧w'=w.alloc (.cells ((Lib.splitB sep 0 (Lib.countB s sep) s).map Value.string).toArray 9):=Any.strings_Split Tryz.lays146 (by kernel_rfl) s sep m w hs hm h1
def Tryz.lays230_ren:Go.Shelf.Ren:=⟨fun|230=>310|197=>226|118=>328|165=>128|166=>129|168=>225|270=>329|167=>330|169=>130|260=>268|240=>175|241=>176|242=>267|276=>207|277=>208|278=>301|n=>n,fun|107=>451|9=>9|72=>236|0=>0|4=>4|3=>3|21=>21|105=>360|76=>240|5=>5|75=>239|70=>234|20=>20|37=>157|127=>280|119=>441|46=>132|139=>444|138=>443|164=>321|51=>84|80=>151|n=>n,fun|3=>2|4=>3|n=>n⟩
theorem Tryz.lays230:Go.Proofs.Lays.n230 Tryz.prog Tryz.lays230_ren:={ mixed:=by kernel_rfl,f118:=Tryz.func328.trans (congrArg some (by kernel_rfl)),f165:=Tryz.func128.trans (congrArg some (by kernel_rfl)),f166:=Tryz.func129.trans (congrArg some (by kernel_rfl)),f167:=Tryz.func330.trans (congrArg some (by kernel_rfl)),f168:=Tryz.func225.trans (congrArg some (by kernel_rfl)),f169:=Tryz.func130.trans (congrArg some (by kernel_rfl)),f197:=Tryz.func226.trans (congrArg some (by kernel_rfl)),f230:=Tryz.func310.trans (congrArg some (by kernel_rfl)),f240:=Tryz.func175.trans (congrArg some (by kernel_rfl)),f241:=Tryz.func176.trans (congrArg some (by kernel_rfl)),f242:=Tryz.func267.trans (congrArg some (by kernel_rfl)),f260:=Tryz.func268.trans (congrArg some (by kernel_rfl)),f270:=Tryz.func329.trans (congrArg some (by kernel_rfl)),f276:=Tryz.func207.trans (congrArg some (by kernel_rfl)),f277:=Tryz.func208.trans (congrArg some (by kernel_rfl)),f278:=Tryz.func301.trans (congrArg some (by kernel_rfl)),t0:=Tryz.underlying0,a0:=Tryz.isAgg0,z0:=Tryz.sizeOf0,v0:=Tryz.zeroValue0,t3:=Tryz.underlying3,a3:=Tryz.isAgg3,z3:=Tryz.sizeOf3,v3:=Tryz.zeroValue3,t4:=Tryz.underlying4,a4:=Tryz.isAgg4,z4:=Tryz.sizeOf4,v4:=Tryz.zeroValue4,t5:=Tryz.underlying5,a5:=Tryz.isAgg5,z5:=Tryz.sizeOf5,v5:=Tryz.zeroValue5,t9:=Tryz.underlying9,a9:=Tryz.isAgg9,z9:=Tryz.sizeOf9,v9:=Tryz.zeroValue9,t20:=Tryz.underlying20,a20:=Tryz.isAgg20,z20:=Tryz.sizeOf20,v20:=Tryz.zeroValue20,t21:=Tryz.underlying21,a21:=Tryz.isAgg21,z21:=Tryz.sizeOf21,v21:=Tryz.zeroValue21,t37:=Tryz.underlying157,a37:=Tryz.isAgg157,z37:=Tryz.sizeOf157,v37:=Tryz.zeroValue157,t46:=Tryz.underlying132,a46:=Tryz.isAgg132,z46:=Tryz.sizeOf132,v46:=Tryz.zeroValue132,t51:=Tryz.underlying84,a51:=Tryz.isAgg84,z51:=Tryz.sizeOf84,v51:=Tryz.zeroValue84,t70:=Tryz.underlying234,a70:=Tryz.isAgg234,z70:=Tryz.sizeOf234,v70:=Tryz.zeroValue234,t72:=Tryz.underlying236,a72:=Tryz.isAgg236,z72:=Tryz.sizeOf236,v72:=Tryz.zeroValue236,t75:=Tryz.underlying239,a75:=Tryz.isAgg239,z75:=Tryz.sizeOf239,v75:=Tryz.zeroValue239,t76:=Tryz.underlying240,a76:=Tryz.isAgg240,z76:=Tryz.sizeOf240,v76:=Tryz.zeroValue240,t105:=Tryz.underlying360,a105:=Tryz.isAgg360,z105:=Tryz.sizeOf360,v105:=Tryz.zeroValue360,t107:=Tryz.underlying451,a107:=Tryz.isAgg451,z107:=Tryz.sizeOf451,v107:=Tryz.zeroValue451,t119:=Tryz.underlying441,a119:=Tryz.isAgg441,z119:=Tryz.sizeOf441,t127:=Tryz.underlying280,a127:=Tryz.isAgg280,z127:=Tryz.sizeOf280,v127:=Tryz.zeroValue280,t138:=Tryz.underlying443,a138:=Tryz.isAgg443,z138:=Tryz.sizeOf443,v138:=Tryz.zeroValue443,t139:=Tryz.underlying444,a139:=Tryz.isAgg444,z139:=Tryz.sizeOf444,v139:=Tryz.zeroValue444,t164:=Tryz.underlying321,a164:=Tryz.isAgg321,z164:=Tryz.sizeOf321,v164:=Tryz.zeroValue321,g3:=by kernel_rfl,g4:=by kernel_rfl }
theorem Tryz.Builder_Extra_230:Builder.Extra Tryz.prog Tryz.lays230_ren:={ sizeBuilder:=by kernel_rfl,liesBuilder:=by kernel_rfl,t5:=Tryz.underlying5,a5:=Tryz.isAgg5,z5:=Tryz.sizeOf5,v5:=Tryz.zeroValue5,infoByte:=by kernel_rfl,cellsByte:=by kernel_rfl,sizeByte:=by kernel_rfl,neB5:=by decide }
open Go.RowKit Go.Lib in
theorem Tryz.strings_IndexFunc_grows(g:Nat)(lb:Array Value)(eg:∀ args w,(callFunc g args).run Tryz.prog w = .ok (.enter g args) w)(p:Nat→Bool)(s:ByteArray)(w:World)(hp:PredGrows Tryz.prog g lb p w) :
  Calls Tryz.prog 83 #[.string s,.func (.func g) #[] lb] w fun e w'=>e = .returned (.int .i64 (Lib.idxFunc p true s))∧Below w.heap.size w w':=Any.strings_IndexFunc_grows Tryz.laysGw15 g lb eg p s w hp
open Go.RowKit Go.Lib in
theorem Tryz.strings_Map_grows(g:Nat)(lb:Array Value)(eg:∀ args w,(callFunc g args).run Tryz.prog w = .ok (.enter g args) w)(f:Int→Int)(s:ByteArray)(w:World)(hs:s.size<35184372088832)(hf:MapGrows Tryz.prog g lb f w)(hnn:∀ x:Nat,x≤1114111→-2147483648≤f x∧f x≤2147483647)(hT:Lib.Utf8Tabs 2 3 w) :
  Calls Tryz.prog 310 #[.func (.func g) #[] lb,.string s] w fun e w'=>e = .returned (.string ⟨(Lib.mapD f s.data.toList).toArray⟩)∧Below w.heap.size w w':=Any.strings_Map_grows Tryz.lays230 Tryz.Builder_Extra_230 g lb eg f s w hs hf hnn hT
end Go.Proofs
namespace Go.Proofs.YtilaebjndadkhaaGreatDoor
section
open Go.RowKit
theorem Qdi(x:Nat)(w:World):Calls Tryz.prog 313 #[.int .i32 (x:Int)] w fun e w'=>e = .returned (.bool (Qes x))∧w'=w:=by
 by_cases h1:x<48
 ·have H:Hid (Qes x=false):=hid (by unfold Qes;rw [decide_eq_false (by omega)];rfl)
  go_enter Tryz.func313,Tryz.ntmps313;go_wp2_with fail;go_ret;exact ⟨QaE H.out.symm,rfl⟩
 ·by_cases h2:57<x
  ·have H:Hid (Qes x=false):=hid (by unfold Qes;rw [decide_eq_false (show ¬x≤57 by omega),Bool.and_false])
   have t1:decide ((x:Int)≤57)=false:=by simp;omega
   go_enter Tryz.func313,Tryz.ntmps313;go_wp2_with fail;go_ret;exact ⟨QaE H.out.symm,rfl⟩
  ·have H:Hid (Qes x=true):=hid (by unfold Qes;rw [decide_eq_true (show x≤57 by omega),decide_eq_true (show 48≤x by omega)];rfl)
   have t1:decide ((x:Int)≤57)=true:=by simp;omega
   go_enter Tryz.func313,Tryz.ntmps313;go_wp2_with fail;go_ret;exact ⟨QaE H.out.symm,rfl⟩
theorem Qmc(x:Nat)(w:World):Calls Tryz.prog 317 #[.int .i32 (x:Int)] w fun e w'=>e = .returned (.bool (QaV x))∧w'=w:=by
 by_cases h1:x<97
 ·have hl:QiM x=false:=by unfold QiM;rw [decide_eq_false (by omega)];rfl
  cases hd:Qes x with
  |true=>
   have QAO:=fun w=>Qdi x w
   rw [hd] at QAO;have H:Hid (QaV x=true):=hid (by unfold QaV;rw [hl,hd];rfl)
   have QBg:=hid QAO;clear hd QAO hl;go_enter Tryz.func317,Tryz.ntmps317;go_wp2_with (go_at_call 313;refine (QBg.out _).mono ?_;rintro e w' ⟨rfl,rfl⟩);go_ret;exact ⟨QaE H.out.symm,rfl⟩
  |false=>
   have QAO:=fun w=>Qdi x w
   rw [hd] at QAO;have H:Hid (QaV x=decide ((x:Int)=45)):=hid (by
    unfold QaV;rw [hl,hd,Bool.false_or,Bool.false_or,Bool.eq_iff_iff,beq_iff_eq,decide_eq_true_iff];omega)
   have QBg:=hid QAO;clear hd QAO hl
   by_cases h45:x=45
   ·have t:((x:Int)==45)=true:=by rw [beq_iff_eq];omega
    have H2:Hid (QaV x=true):=hid (H.out.trans (decide_eq_true (by omega)))
    clear h45 H;go_enter Tryz.func317,Tryz.ntmps317;go_wp2_with (go_at_call 313;refine (QBg.out _).mono ?_;rintro e w' ⟨rfl,rfl⟩);go_ret;exact ⟨QaE H2.out.symm,rfl⟩
   ·have t:((x:Int)==45)=false:=by rw [beq_eq_false_iff_ne];omega
    go_enter Tryz.func317,Tryz.ntmps317;go_wp2_with (go_at_call 313;refine (QBg.out _).mono ?_;rintro e w' ⟨rfl,rfl⟩);go_ret;exact ⟨QaE (by rw [H.out,decide_eq_false (by omega)]),rfl⟩
 ·by_cases h2:122<x
  ·have hl:QiM x=false:=by unfold QiM;rw [decide_eq_false (show ¬x≤122 by omega),Bool.and_false]
   have hd:Qes x=false:=by unfold Qes;rw [decide_eq_false (show ¬x≤57 by omega),Bool.and_false]
   have H:Hid (QaV x=false):=hid (by unfold QaV;rw [hl,hd,show (x==45)=false by rw [beq_eq_false_iff_ne];omega];rfl)
   have t1:decide ((x:Int)≤122)=false:=by simp;omega
   have t2:((x:Int)==45)=false:=by rw [beq_eq_false_iff_ne];omega
   have QAO:=fun w=>Qdi x w
   rw [hd] at QAO;have QBg:=hid QAO;clear hd QAO hl;go_enter Tryz.func317,Tryz.ntmps317;go_wp2_with (go_at_call 313;refine (QBg.out _).mono ?_;rintro e w' ⟨rfl,rfl⟩);go_ret;exact ⟨QaE H.out.symm,rfl⟩
  ·have hl:QiM x=true:=by unfold QiM;rw [decide_eq_true (show x≤122 by omega),decide_eq_true (show 97≤x by omega)];rfl
   have H:Hid (QaV x=true):=hid (by unfold QaV;rw [hl];rfl)
   have t1:decide ((x:Int)≤122)=true:=by simp;omega
   clear hl;go_enter Tryz.func317,Tryz.ntmps317;go_wp2_with fail;go_ret;exact ⟨QaE H.out.symm,rfl⟩
theorem Qrd(x B:Nat)(w:World)(hc:w.cell? ⟨B,0,none⟩=some (.func (.func 313) #[] #[])) :
  Calls Tryz.prog 331 #[.int .i32 (x:Int),.pointer (some ⟨B,0,none⟩)] w fun e w'=>e = .returned (.bool (!Qes x))∧w'=w:=by
 go_enter Tryz.func331,Tryz.ntmps331;go_wp2_with (go_at_call 313;refine (Qdi _ _).mono ?_;rintro e w' ⟨rfl,rfl⟩);go_ret;exact ⟨rfl,rfl⟩
theorem Qrc(x B:Nat)(w:World)(hc:w.cell? ⟨B,0,none⟩=some (.func (.func 317) #[] #[])) :
  Calls Tryz.prog 331 #[.int .i32 (x:Int),.pointer (some ⟨B,0,none⟩)] w fun e w'=>e = .returned (.bool (!QaV x))∧w'=w:=by
 go_enter Tryz.func331,Tryz.ntmps331;go_wp2_with (go_at_call 317;refine (Qmc _ _).mono ?_;rintro e w' ⟨rfl,rfl⟩);go_ret;exact ⟨rfl,rfl⟩
theorem Qtb(s:ByteArray)(B:Nat)(w:World)(hB:B<w.heap.size)(hc:w.cell? ⟨B,0,none⟩=some (.func (.func 313) #[] #[])) :
  Calls Tryz.prog 83 #[.string s,.func (.func 331) #[] #[.pointer (some ⟨B,0,none⟩)]] w fun e w'=>e = .returned (.int .i64 (Lib.idxFunc (fun x=>!Qes x) true s))∧Below w.heap.size w w':=
 Tryz.strings_IndexFunc_grows 331 #[.pointer (some ⟨B,0,none⟩)] (enters_of Tryz.func331 (by kernel_rfl) rfl) (fun x=>!Qes x) s w
  (fun W x _ hb=>(Qrd x B W ((hb.cell (p:=⟨B,0,none⟩) hB).trans hc)).mono fun e w' ⟨he,hw⟩=>⟨he,hw ▸ Below.refl _ _⟩)
theorem Qta(s:ByteArray)(B:Nat)(w:World)(hB:B<w.heap.size)(hc:w.cell? ⟨B,0,none⟩=some (.func (.func 317) #[] #[])) :
  Calls Tryz.prog 83 #[.string s,.func (.func 331) #[] #[.pointer (some ⟨B,0,none⟩)]] w fun e w'=>e = .returned (.int .i64 (Lib.idxFunc (fun x=>!QaV x) true s))∧Below w.heap.size w w':=
 Tryz.strings_IndexFunc_grows 331 #[.pointer (some ⟨B,0,none⟩)] (enters_of Tryz.func331 (by kernel_rfl) rfl) (fun x=>!QaV x) s w
  (fun W x _ hb=>(Qrc x B W ((hb.cell (p:=⟨B,0,none⟩) hB).trans hc)).mono fun e w' ⟨he,hw⟩=>⟨he,hw ▸ Below.refl _ _⟩)
theorem QmG(s:ByteArray):decide (Lib.idxFunc (fun x=>!Qes x) true s<0)=s.data.toList.all (fun c=>Qes c.toNat):=by
 rw [QkL _ (fun x h=>by rw [Qyi x h];rfl)];simp
theorem QmF(s:ByteArray):decide (Lib.idxFunc (fun x=>!QaV x) true s<0)=s.data.toList.all (fun c=>QaV c.toNat):=by
 rw [QkL _ (fun x h=>by rw [QsG x h];rfl)];simp
theorem QiB(w:World)(v:Value)(t:TypeId):Below w.heap.size w (w.alloc (.cells #[v] t)):=(Below.refl _ _).alloc (Nat.le_refl _) _
theorem Qt4(w:World)(v:Value)(t:TypeId):w.heap.size<(w.alloc (.cells #[v] t)).heap.size:=by simp
theorem Qpj(w:World)(v:Value)(t:TypeId):(w.alloc (.cells #[v] t)).cell? ⟨w.heap.size,0,none⟩=some v:=by
 have h:(w.alloc (.cells #[v] t)).heap[w.heap.size]?=some (.cells #[v] t):=by
  show (w.heap.push _)[w.heap.size]?=_;simp
 unfold World.cell?;rw [h];rfl
theorem Qg3(s:ByteArray)(w:World) :
  Calls Tryz.prog 312 #[.string s,.func (.func 313) #[] #[]] w fun e w'=>e = .returned (.bool (s.data.toList.all (fun c=>Qes c.toNat)))∧Below w.heap.size w w':=by
 have H:=hid (QmG s);obtain ⟨i,hi⟩:∃ i,i=Lib.idxFunc (fun x=>!Qes x) true s:=⟨_,rfl⟩
 have HI:=hid (fun B w hB hc=>hi ▸ Qtb s B w hB hc)
 rw [←hi] at H;clear hi;go_enter Tryz.func312,Tryz.ntmps312;go_wp2_with fail;refine (HI.out _ _ (Qt4 _ _ _) (Qpj _ _ _)).mono ?_;rintro e w1 ⟨rfl,hb⟩;go_wp2_with fail;go_ret;exact ⟨QaE H.out,Qaa (QiB _ _ _) hb⟩
theorem Qg2(s:ByteArray)(w:World) :
  Calls Tryz.prog 312 #[.string s,.func (.func 317) #[] #[]] w fun e w'=>e = .returned (.bool (s.data.toList.all (fun c=>QaV c.toNat)))∧Below w.heap.size w w':=by
 have H:=hid (QmF s);obtain ⟨i,hi⟩:∃ i,i=Lib.idxFunc (fun x=>!QaV x) true s:=⟨_,rfl⟩
 have HI:=hid (fun B w hB hc=>hi ▸ Qta s B w hB hc)
 rw [←hi] at H;clear hi;go_enter Tryz.func312,Tryz.ntmps312;go_wp2_with fail;refine (HI.out _ _ (Qt4 _ _ _) (Qpj _ _ _)).mono ?_;rintro e w1 ⟨rfl,hb⟩;go_wp2_with fail;go_ret;exact ⟨QaE H.out,Qaa (QiB _ _ _) hb⟩
theorem Qii(s:ByteArray)(w:World) :
  Calls Tryz.prog 290 #[.string s] w fun e w'=>e = .returned (.bool (QdO s.data.toList))∧Below w.heap.size w w':=by
 by_cases he:s.size=0
 ·have H:Hid (QdO s.data.toList=false):=hid (by
   unfold QdO;rw [List.length_eq_zero_iff.1 (show s.data.toList.length=0 by rw [Qab];exact he)];rfl)
  have t:s.toList.isEmpty=true:=by
   rw [ByteArray.toList_eq,List.isEmpty_iff];exact List.length_eq_zero_iff.1 (by rw [Qab];exact he)
  go_enter Tryz.func290,Tryz.ntmps290;go_wp2_with fail;go_ret;exact ⟨QaE H.out.symm,Below.refl _ _⟩
 ·have t:s.toList.isEmpty=false:=by
   rw [ByteArray.toList_eq,Bool.eq_false_iff,Ne,List.isEmpty_iff];intro e;exact he (by rw [←Qab,e];rfl)
  by_cases h32:32<s.size
  ·have H:Hid (QdO s.data.toList=false):=hid (by
    unfold QdO;rw [decide_eq_false (by rw [Qab];omega),Bool.and_false,Bool.false_and])
   have t1:decide ((s.size:Int)≤32)=false:=by simp;omega
   go_enter Tryz.func290,Tryz.ntmps290;go_wp2_with fail;go_ret;exact ⟨QaE H.out.symm,Below.refl _ _⟩
  ·have H:Hid (QdO s.data.toList=s.data.toList.all (fun c=>QaV c.toNat)):=hid (by
    unfold QdO;rw [decide_eq_true (by rw [Qab];omega),←ByteArray.toList_eq,t];rfl)
   have t1:decide ((s.size:Int)≤32)=true:=by simp;omega
   have HA:=hid (fun w=>Qg2 s w)
   obtain ⟨b,hb⟩:∃ b,b=s.data.toList.all (fun c=>QaV c.toNat):=⟨_,rfl⟩
   rw [←hb] at H HA;clear hb;cases b
   all_goals
    go_enter Tryz.func290,Tryz.ntmps290;go_wp2_with fail;refine (HA.out _).mono ?_;rintro e w1 ⟨rfl,hb1⟩;go_wp2_with fail;go_ret;exact ⟨QaE H.out.symm,hb1⟩
theorem Qeq(s:ByteArray)(w:World)(hs:s.size≤9223372036854775807) :
  Calls Tryz.prog 291 #[.string s] w fun e w'=>e = .returned (.bool (s.data.toList.all (fun c=>Qaz c.toNat)))∧w'=w:=by
 have hp:=fun w=>QfE s w hs
 obtain ⟨L,hL⟩:∃ L,L=Qeh s:=⟨_,rfl⟩;rw [←hL] at hp;cases hb:s.data.toList.all (fun c=>Qaz c.toNat) with
 |true=>
  obtain ⟨E,hE⟩:∃ E,E=Qa0 s.data.toList:=⟨_,rfl⟩;have h4:E≠4:=by rw [hE];unfold Qa0;rw [if_neg (by rw [hb];decide)];split<;>decide
  rw [←hE] at hp;have HP:=hid hp;have t:((E:Int) != 4)=true:=by rw [bne_iff_ne];omega
  clear hp hE hb hL h4;go_enter Tryz.func291,Tryz.ntmps291;go_wp2_with (go_at_call 181;refine (HP.out _).mono ?_;rintro e w' ⟨rfl,rfl⟩);go_ret;exact ⟨QaE rfl,rfl⟩
 |false=>
  rw [show Qa0 s.data.toList=4 from if_pos hb] at hp;have HP:=hid hp;clear hp hb hL;go_enter Tryz.func291,Tryz.ntmps291;go_wp2_with (go_at_call 181;refine (HP.out _).mono ?_;rintro e w' ⟨rfl,rfl⟩);go_ret;exact ⟨QaE rfl,rfl⟩
end
section
open Go.RowKit
def Qfp(n:Nat)(c:UInt8):Nat:=n*10+(c.toNat-48)
def Qmo(l:List UInt8):Nat:=l.foldl Qfp 0
def Qet(l:List UInt8):Bool:=l.all (fun c=>Qes c.toNat)
def Qqq(l:List UInt8):Bool:=decide (1<l.length)&&l.head? == some 48
def QeY(l:List UInt8):Bool:=l.isEmpty || !Qet l||Qqq l
def QcE(l:List UInt8):Nat:=if QeY l=true then 4 else if 9007199254740991<Qmo l then 11 else 0
def Qcq(l:List UInt8):Nat:=if QcE l=0 then Qmo l else 0
theorem QkY(n:Nat)(h:Qes n=true):48≤n∧n≤57:=by
 unfold Qes at h;simp only [Bool.and_eq_true,decide_eq_true_eq] at h;exact h
theorem QtI(n:Nat)(h:48≤n)(h2:n≤57):Qes n=true:=by
 unfold Qes;rw [decide_eq_true h,decide_eq_true h2];rfl
theorem Qx6(l:List UInt8):∀ acc,acc≤l.foldl Qfp acc:=by
 induction l with
 |nil=>intro acc;exact Nat.le_refl _
 |cons c t ih=>intro acc;refine Nat.le_trans ?_ (ih (Qfp acc c));unfold Qfp;omega
theorem QtL(l:List UInt8)(c:UInt8):Qmo (l++[c])=Qmo l*10+(c.toNat-48):=by
 unfold Qmo;rw [List.foldl_append];rfl
theorem Qsj(l:List UInt8):∀ acc,acc<18446744073709551616→Qet l=true→Go.Lib.parseUint10 acc l=if l.foldl Qfp acc<18446744073709551616 then .ok (l.foldl Qfp acc) else .range:=by
 induction l with
 |nil=>intro acc h _;show Go.Lib.NumEnd.ok acc=if acc<18446744073709551616 then Go.Lib.NumEnd.ok acc else _;rw [if_pos h]
 |cons c t ih=>
  intro acc h hd;have hc:Qes c.toNat=true∧Qet t=true:=by unfold Qet at hd;rw [List.all_cons,Bool.and_eq_true] at hd;exact hd
  have hb:=QkY _ hc.1;have hg:=Qx6 t (Qfp acc c);show (if 48≤c.toNat∧c.toNat≤57 then _ else _)=_
  rw [if_pos hb];have e:(c :: t).foldl Qfp acc=t.foldl Qfp (Qfp acc c):=rfl;rw [e];have es:Qfp acc c=acc*10+(c.toNat-48):=rfl
  by_cases h1:1844674407370955162≤acc
  ·rw [if_pos h1,if_neg (by omega)]
  ·rw [if_neg h1]
   by_cases h2:18446744073709551616≤acc*10+(c.toNat-48)
   ·rw [if_pos h2,if_neg (by omega)]
   ·rw [if_neg h2]
    exact ih (Qfp acc c) (by omega) hc.2
theorem Qwp(l:List UInt8)(h0:l≠[])(hd:Qet l=true):Go.Lib.atoiAll l=if Qmo l<9223372036854775808 then .ok (Qmo l:Int) else .range:=by
 cases l with
 |nil=>exact absurd rfl h0
 |cons c t=>
  have hc:Qes c.toNat=true:=by unfold Qet at hd;rw [List.all_cons,Bool.and_eq_true] at hd;exact hd.1
  have hb:=QkY _ hc;have hp:=Qsj (c :: t) 0 (by decide) hd
  change Go.Lib.parseUint10 0 (c :: t)=if Qmo (c :: t)<_ then .ok (Qmo (c :: t)) else _ at hp
  unfold Go.Lib.atoiAll;simp only [];rw [if_neg (show ¬(c.toNat=43∨c.toNat=45) by omega)]
  unfold Go.Lib.parseMag;rw [if_neg (by simp),hp]
  by_cases h1:Qmo (c :: t)<18446744073709551616
  ·rw [if_pos h1]
   by_cases h2:Qmo (c :: t)<9223372036854775808
   ·simp only []
    rw [if_pos h2,if_neg (by omega),if_neg (by omega),if_neg (by omega)]
   ·simp only []
    rw [if_neg h2,if_pos (by omega)]
  ·rw [if_neg h1,if_neg (by omega)]
theorem Qeu(k:Nat)(h:k<10):(UInt8.ofNat (48+k)).toNat=48+k:=by
 rw [UInt8.toNat_ofNat'];omega
theorem Qev(n:Nat):Go.Lib.decDigits n≠[]:=by
 rw [Go.Lib.decDigits];split<;>simp
theorem QcQ(n:Nat):Qet (Go.Lib.decDigits n)=true:=by
 induction n using Nat.strongRecOn with
 |ind n ih=>
  rw [Go.Lib.decDigits];split
  ·rename_i h
   unfold Qet;rw [List.all_cons,Qeu n h,QtI _ (by omega) (by omega)];rfl
  ·have:=ih (n/10) (by omega)
   unfold Qet at this ⊢;rw [List.all_append,this,List.all_cons,Qeu (n%10) (by omega),QtI _ (by omega) (by omega)];rfl
theorem Qe0(n:Nat):Qmo (Go.Lib.decDigits n)=n:=by
 induction n using Nat.strongRecOn with
 |ind n ih=>
  rw [Go.Lib.decDigits];split
  ·rename_i h
   show Qfp 0 _=n;unfold Qfp;rw [Qeu n h];omega
  ·rw [QtL,ih (n/10) (by omega),Qeu (n%10) (by omega)];omega
theorem Qi4(n:Nat)(h:0<n):∀ c,(Go.Lib.decDigits n).head?=some c→c≠48:=by
 induction n using Nat.strongRecOn with
 |ind n ih=>
  intro c;rw [Go.Lib.decDigits];split
  ·rename_i h10
   intro e hc;simp only [List.head?_cons,Option.some.injEq] at e;have:=Qeu n h10;rw [e,hc] at this;have:(48:UInt8).toNat=48:=rfl;omega
  ·intro e
   have hn:=Qev (n/10);refine ih (n/10) (by omega) (by omega) c ?_
   rw [←e];cases hd:Go.Lib.decDigits (n/10) with
   |nil=>exact absurd hd hn
   |cons a t=>rfl
theorem Qqa(n:Nat):QeY (Go.Lib.decDigits n)=false:=by
 unfold QeY;rw [QcQ];have h1:(Go.Lib.decDigits n).isEmpty=false:=by
  rw [Bool.eq_false_iff,Ne,List.isEmpty_iff];exact Qev n
 rw [h1];unfold Qqq
 by_cases h0:n<10
 ·rw [Go.Lib.decDigits,dif_pos h0];rfl
 ·have:((Go.Lib.decDigits n).head? == some 48)=false:=by
   rw [beq_eq_false_iff_ne];intro e;exact Qi4 n (by omega) 48 e rfl
  rw [this,Bool.and_false];rfl
end
section
theorem QkS:Tryz.prog.globalNamed "internal/strconv.uint64pow10" = some 6:=by kernel_rfl
end
section
open Go.RowKit
structure EnvF(w:World):Prop where
 m:∃ m,w.cell? ⟨1,0,none⟩=some (.int .i64 m)
 mlt:1<w.heap.size
 tabs:Lib.Utf8Tabs 2 3 w
 pow:Go.Lib.TabIs Tryz.prog w "internal/strconv.uint64pow10" .u64 Go.Lib.pow10Tab
 big:6<w.heap.size
 rng:∃ tp p,w.cell? ⟨5,0,none⟩=some (.iface tp p)
 rlt:5<w.heap.size
theorem EnvF.below{w w':World}(h:EnvF w)(hb:Below w.heap.size w w'):EnvF w':=
 ⟨let ⟨m,hm⟩:=h.m;⟨m,(hb.cell (p:=⟨1,0,none⟩) h.mlt).trans hm⟩,Nat.lt_of_lt_of_le h.mlt hb.size,Utf8Tabs_below h.tabs hb,var?_below hb QkS h.big h.pow,Nat.lt_of_lt_of_le h.big hb.size,
  let ⟨t,p,hp⟩:=h.rng;⟨t,p,(hb.cell (p:=⟨5,0,none⟩) h.rlt).trans hp⟩,Nat.lt_of_lt_of_le h.rlt hb.size⟩
structure EnvW(w:World):Prop where
 m:∃ m,w.cell? ⟨1,0,none⟩=some (.int .i64 m)
 mlt:1<w.heap.size
 tabs:Lib.Utf8Tabs 2 3 w
 pow:Go.Lib.TabIs Tryz.prog w "internal/strconv.uint64pow10" .u64 Go.Lib.pow10Tab
 big:6<w.heap.size
theorem EnvW.below{w w':World}(h:EnvW w)(hb:Below w.heap.size w w'):EnvW w':=
 ⟨let ⟨m,hm⟩:=h.m;⟨m,(hb.cell (p:=⟨1,0,none⟩) h.mlt).trans hm⟩,Nat.lt_of_lt_of_le h.mlt hb.size,Utf8Tabs_below h.tabs hb,var?_below hb QkS h.big h.pow,Nat.lt_of_lt_of_le h.big hb.size⟩
theorem EnvF.weak{w:World}(h:EnvF w):EnvW w:=⟨h.m,h.mlt,h.tabs,h.pow,h.big⟩
end
section
open Go.RowKit
theorem Qzo(n:Int)(h0 : -9223372036854775808≤n)(h1:n≤9223372036854775807)(w:World)(hE:EnvF w) :
  Calls Tryz.prog 279 #[.int .i64 n] w fun e w'=>e = .returned (.string (bs (Go.Lib.itoa n)))∧Below w.heap.size w w':=
 (Tryz.strconv_Itoa n h0 h1 w hE.pow).mono fun _ _ ⟨he,k,os,hw⟩=>⟨he,hw ▸ ⟨rfl,rfl,rfl,by
  show w.heap.size≤(w.heap++os).size;simp,fun j hj=>by
  show (w.heap++os)[j]?=w.heap[j]?;rw [Array.getElem?_append_left hj]⟩⟩
theorem QtY(s:ByteArray)(hs:s.size≤1000000)(v:Int)(h:Go.Lib.atoiAll s.data.toList = .ok v)(w:World) :
  Calls Tryz.prog 201 #[.string s] w fun e w'=>e = .returned (.tuple #[.int .i64 v,.nilIface])∧Below w.heap.size w w':=
 (Tryz.strconv_Atoi_ok s (by omega) v h w).mono fun _ _ ⟨he,hw⟩=>⟨he,by
  rcases hw with rfl|⟨t,rfl⟩
  ·exact Below.refl _ _
  ·exact Go.Lib.bytesWorld_below _ _ _⟩
def QzC(w:World)(e:Ending)(w':World):Prop:=∃ n t a,e = .returned (.tuple #[.int .i64 n,.iface t (.pointer (some a))])∧Below w.heap.size w w'
theorem Qmx(s:ByteArray)(hs:s.size≤1000000)(h:Go.Lib.atoiAll s.data.toList = .range)(w:World)(hE:EnvF w) :
  Calls Tryz.prog 201 #[.string s] w (QzC w):=by
 obtain ⟨tp,p,hv⟩:=hE.rng;exact (Tryz.strconv_Atoi_range s (by omega) h _ w hv (.inr ⟨tp,p,rfl⟩)).mono fun _ _ ⟨N,he,_,_,hb⟩=>⟨_,_,_,he,hb⟩
def Qfk(n:Int):List UInt8:=if n<0 then [] else Go.Lib.decDigits n.toNat
theorem QcO(n:Int)(h0 : -9223372036854775808≤n)(h1:n≤9223372036854775807)(w:World)(hE:EnvF w) :
  Calls Tryz.prog 243 #[.int .i64 n] w fun e w'=>e = .returned (.string (bs (Qfk n)))∧Below w.heap.size w w':=by
 by_cases hn:n<0
 ·have H:Hid (Qfk n = []):=hid (if_pos hn)
  clear hE;go_enter Tryz.func243,Tryz.ntmps243;go_wp2_with fail;go_ret;exact ⟨by rw [H.out];rfl,Below.refl _ _⟩
 ·have H:Hid (Qfk n=Go.Lib.itoa n):=hid (by unfold Qfk Go.Lib.itoa;rw [if_neg hn,if_neg hn])
  have HI:=hid (Qzo n h0 h1 w hE);clear hE;go_enter Tryz.func243,Tryz.ntmps243;go_wp2_with fail;refine HI.out.mono ?_;rintro e w1 ⟨rfl,hb⟩;go_wp2_with fail;go_ret;exact ⟨by rw [H.out];rfl,hb⟩
theorem Qkv(l:List UInt8)(h:QeY l=true):QcE l=4∧Qcq l=0:=by
 have h1:QcE l=4:=if_pos h;exact ⟨h1,by unfold Qcq;rw [h1];rfl⟩
theorem QsC(l:List UInt8)(h:QeY l=false)(h2:9007199254740991<Qmo l):QcE l=11∧Qcq l=0:=by
 have h1:QcE l=11:=by unfold QcE;rw [h,if_neg (by decide),if_pos h2]
 exact ⟨h1,by unfold Qcq;rw [h1];rfl⟩
theorem Qxx(l:List UInt8)(h:QeY l=false)(h2:¬9007199254740991<Qmo l):QcE l=0∧Qcq l=Qmo l:=by
 have h1:QcE l=0:=by unfold QcE;rw [h,if_neg (by decide),if_neg h2]
 exact ⟨h1,by unfold Qcq;rw [h1];rfl⟩
theorem QeD{a a' b b':Int}(h:a=a')(h2:b=b'):Ending.returned (.tuple #[.int .i64 a,.int .i64 b]) = .returned (.tuple #[.int .i64 a',.int .i64 b']):=by rw [h,h2]
theorem Qqp(s:ByteArray)(h:1<s.size)(h2:s[0]=48):Qqq s.data.toList=true:=by
 unfold Qqq;rw [Qab,decide_eq_true h,List.head?_eq_getElem?,List.getElem?_eq_getElem (by rw [Qab];omega)]
 show ((some s[0])==some 48)=true;rw [h2];rfl
theorem QsX(s:ByteArray)(h:¬∃ h:1<s.size,s[0]=48):Qqq s.data.toList=false:=by
 unfold Qqq
 by_cases h1:1<s.size
 ·rw [Qab,decide_eq_true h1,List.head?_eq_getElem?,List.getElem?_eq_getElem (by rw [Qab];omega)]
  show (true&&(some s[0])==some 48)=false;rw [Bool.true_and,beq_eq_false_iff_ne];intro e;exact h ⟨h1,Option.some.inj e⟩
 ·rw [Qab,decide_eq_false h1];rfl
theorem QfM(s:ByteArray)(w:World)(hs:s.size≤1000000)(hE:EnvF w) :
  Calls Tryz.prog 282 #[.string s] w fun e w'=>e = .returned (.tuple #[.int .i64 (Qcq s.data.toList),.int .i64 (QcE s.data.toList)])∧Below w.heap.size w w':=by
 have HE:=hid hE;clear hE;obtain ⟨l,hl⟩:∃ l,l=s.data.toList:=⟨_,rfl⟩;have hsl:l.length=s.size:=by rw [hl];exact Qab s
 have HA:=hid (fun w=>Qg3 s w)
 have QAD:=fun h h2=>Qqp s h h2
 have QAC:=fun h=>QsX s h
 have hok:=fun v (h:Go.Lib.atoiAll s.data.toList = .ok v) w=>QtY s hs v h w
 have hrg:=fun (h:Go.Lib.atoiAll s.data.toList = .range) w hE=>Qmx s hs h w hE
 rw [←hl] at HA QAD QAC hok hrg ⊢
 by_cases h0:s.size=0
 ·have H:=hid (Qkv l (by rw [List.length_eq_zero_iff.1 (show l.length=0 by omega)];rfl))
  have t:s.toList.isEmpty=true:=by
   rw [ByteArray.toList_eq,List.isEmpty_iff];exact List.length_eq_zero_iff.1 (by rw [Qab];exact h0)
  clear hl hsl QAD QAC hok hrg h0;go_enter Tryz.func282,Tryz.ntmps282;go_wp2_with fail;go_ret2;exact ⟨QeD (by rw [H.out.2];rfl) (by rw [H.out.1];rfl),Below.refl _ _⟩
 ·have t:s.toList.isEmpty=false:=by
   rw [ByteArray.toList_eq,Bool.eq_false_iff,Ne,List.isEmpty_iff];intro e;exact h0 (by rw [←Qab,e];rfl)
  have he:l.isEmpty=false:=by rw [hl,←ByteArray.toList_eq];exact t
  have hne:l≠[]:=by intro e;rw [e] at he;exact absurd he (by decide)
  have QAU:0<s.size:=by omega
  clear h0 hl;cases hd:l.all (fun c=>Qes c.toNat) with
  |false=>
   have H:=hid (Qkv l (by unfold QeY Qet;rw [hd];simp))
   rw [hd] at HA;clear hsl QAD QAC hok hrg hd he hne;go_enter Tryz.func282,Tryz.ntmps282;go_wp2_with fail;refine (HA.out _).mono ?_;rintro e w1 ⟨rfl,hb⟩;go_wp2_with fail;go_ret2;exact ⟨QeD (by rw [H.out.2];rfl) (by rw [H.out.1];rfl),hb⟩
  |true=>
   rw [hd] at HA;have hda:Qet l=true:=hd
   by_cases h1:∃ h:1<s.size,s[0]=48
   ·obtain ⟨h1,h48⟩:=h1
    have H:=hid (Qkv l (by unfold QeY;rw [QAD h1 h48,Bool.or_true]))
    have t1:((s[0].toNat:Int)==48)=true:=by rw [h48];rfl
    clear hsl QAD QAC hok hrg hd he hne hda h48;go_enter Tryz.func282,Tryz.ntmps282;go_wp2_with fail;refine (HA.out _).mono ?_;rintro e w1 ⟨rfl,hb⟩;go_wp2_with fail;go_ret2;exact ⟨QeD (by rw [H.out.2];rfl) (by rw [H.out.1];rfl),hb⟩
   ·have QAP:QeY l=false:=by unfold QeY;rw [he,hda,QAC h1];rfl
    have hat:=Qwp l hne hda;have hov:=QsC l QAP;have hkk:=Qxx l QAP
    by_cases h2:1<s.size
    case' pos=>
     have t1:((s[0].toNat:Int)==48)=false:=by
      rw [beq_eq_false_iff_ne];intro e;exact h1 ⟨h2,UInt8.toNat_inj.1 (by show _=48;omega)⟩
    case' neg=>
     have t1:decide ((s.size:Int)>1)=false:=decide_eq_false (by omega)
    all_goals
     by_cases QAK:Qmo l<9223372036854775808
     ·rw [if_pos QAK] at hat
      have HK:=hid (fun w=>hok _ hat w)
      obtain ⟨n,hn⟩:∃ n,n=Qmo l:=⟨_,rfl⟩;rw [←hn] at HK hov hkk;clear hsl QAD QAC hok hrg hd he hne hda hat QAK hn h1 QAP
      by_cases hm:9007199254740991<n
      ·have H:=hid (hov hm)
       have t2:decide ((n:Int)>9007199254740991)=true:=decide_eq_true (by omega)
       clear hov hkk hm;go_enter Tryz.func282,Tryz.ntmps282;go_wp2_with fail;refine (HA.out _).mono ?_;rintro e w1 ⟨rfl,hb⟩;go_wp2_with fail;refine (HK.out _).mono ?_;rintro e w2 ⟨rfl,hb2⟩;go_wp2_with fail;go_ret2;exact ⟨QeD (by rw [H.out.2];rfl) (by rw [H.out.1];rfl),Qaa hb hb2⟩
      ·have H:=hid (hkk hm)
       have t2:decide ((n:Int)>9007199254740991)=false:=decide_eq_false (by omega)
       clear hov hkk hm;go_enter Tryz.func282,Tryz.ntmps282;go_wp2_with fail;refine (HA.out _).mono ?_;rintro e w1 ⟨rfl,hb⟩;go_wp2_with fail;refine (HK.out _).mono ?_;rintro e w2 ⟨rfl,hb2⟩;go_wp2_with fail;go_ret2;exact ⟨QeD (by rw [H.out.2]) (by rw [H.out.1];rfl),Qaa hb hb2⟩
     ·rw [if_neg QAK] at hat
      have HK:=hid (hrg hat);have H:=hid (hov (by omega))
      clear hsl QAD QAC hok hrg hd he hne hda hat QAK h1 QAP hov hkk;go_enter Tryz.func282,Tryz.ntmps282;go_wp2_with fail;refine (HA.out _).mono ?_;rintro e w1 ⟨rfl,hb⟩;go_wp2_with fail;refine (HK.out _ (HE.out.below hb)).mono ?_;rintro e w2 ⟨n,t,a,rfl,hb2⟩;go_wp2_with fail;go_ret2;exact ⟨QeD (by rw [H.out.2];rfl) (by rw [H.out.1];rfl),Qaa hb hb2⟩
end
end Go.Proofs.YtilaebjndadkhaaGreatDoor
