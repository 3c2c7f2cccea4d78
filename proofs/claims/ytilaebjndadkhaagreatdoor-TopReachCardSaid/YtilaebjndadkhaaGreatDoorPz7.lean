/- What parts of the program compute: packed for TopReach. Conditions: none. -/
import Derived.Test.YtilaebjndadkhaaGreatDoorPz6
set_option linter.all false
set_option maxRecDepth 100000
set_option maxHeartbeats 8000000
open Go.Lib (hid)
namespace Go.Proofs.YtilaebjndadkhaaGreatDoor
section
open Go.RowKit
theorem QAc(h:Hdr)(n:Nat)(a:h.inn≠1∨h.out≠1):QnY h n=14:=by unfold QnY;rw [if_pos a]
theorem QAb(h:Hdr)(n:Nat)(a:h.inn=1)(b:h.out=1)(c:n<h.rf+h.rl∨n<h.mf+h.ml∨n<h.lf+h.ll∨n<h.df+h.dl):QnY h n=8:=by
 unfold QnY;rw [if_neg (by rintro (e|e)<;>exact e (by assumption)),if_pos c]
theorem QAa(h:Hdr)(n:Nat)(a:h.inn=1)(b:h.out=1)(c:¬(n<h.rf+h.rl∨n<h.mf+h.ml∨n<h.lf+h.ll∨n<h.df+h.dl)):QnY h n=if 16384<h.rf+h.rl then 8 else 0:=by
 unfold QnY;rw [if_neg (by rintro (e|e)<;>exact e (by assumption)),if_neg c]
theorem Qni(h:Hdr)(ok:Qd6 h=true)(n:Nat)(hn:n<9223372036854775808)(w:World):Calls Tryz.prog 87 #[.agg #[.int .u64 (h.rf:Nat),.int .u64 (h.rl:Nat),.int .u64 (h.mf:Nat),.int .u64 (h.ml:Nat),.int .u64 (h.lf:Nat),.int .u64 (h.ll:Nat),.int .u64 (h.df:Nat),.int .u64 (h.dl:Nat),.int .u64 (h.ad:Nat),.int .u64 (h.en:Nat),.int .u64 (h.co:Nat),.bool h.cl,.int .u8 (h.inn:Nat),.int .u8 (h.out:Nat),.int .u8 (h.kd:Nat),.int .i64 h.z0,.int .i64 h.z1,.int .i64 h.x0,.int .i64 h.y0,.int .i64 h.x1,.int .i64 h.y1,.int .i64 h.zo,.int .i64 h.lo,.int .i64 h.la],.int .i64 n] w fun e w'=>e = .returned (.int .i64 (QnY h n:Nat))∧Below w.heap.size w w':=by
 have HB0:=hid (Qf1 w h 78);have HX0:=hid (QkP w h 78);have hso:=Qkc h ok;unfold Qdr at hso;obtain ⟨⟨p0,q0,r0⟩,⟨p1,q1,r1⟩,⟨p2,q2,r2⟩,p3,q3,r3⟩:=hso;have HV1:=hid (QAc h n);have HV2:=hid (QAb h n);have HV3:=hid (QAa h n);generalize QnY h n=V at HV1 HV2 HV3 ⊢;have hw:IntKind.u64.wrap (n:Int)=(n:Int):=by rw [IntKind.wrap_u64];omega
 have HC0:=hid (fun W=>Qb4 h.rf h.rl W (by omega) (by omega))
 have HC1:=hid (fun W=>Qb4 h.mf h.ml W (by omega) (by omega))
 have HC2:=hid (fun W=>Qb4 h.lf h.ll W (by omega) (by omega))
 have HC3:=hid (fun W=>Qb4 h.df h.dl W (by omega) (by omega))
 clear p0 q0 r0 p1 q1 r1 p2 q2 r2 p3 q3 r3;generalize h.rf+h.rl=M0 at HC0 HV2 HV3;generalize h.mf+h.ml=M1 at HC1 HV2 HV3;generalize h.lf+h.ll=M2 at HC2 HV2 HV3;generalize h.df+h.dl=M3 at HC3 HV2 HV3;go_enter Tryz.func87,Tryz.ntmps87
 iterate 8 go_step
 generalize w.alloc (.cells #[.int .u64 (h.rf:Nat),.int .u64 (h.rl:Nat),.int .u64 (h.mf:Nat),.int .u64 (h.ml:Nat),.int .u64 (h.lf:Nat),.int .u64 (h.ll:Nat),.int .u64 (h.df:Nat),.int .u64 (h.dl:Nat),.int .u64 (h.ad:Nat),.int .u64 (h.en:Nat),.int .u64 (h.co:Nat),.bool h.cl,.int .u8 (h.inn:Nat),.int .u8 (h.out:Nat),.int .u8 (h.kd:Nat),.int .i64 h.z0,.int .i64 h.z1,.int .i64 h.x0,.int .i64 h.y0,.int .i64 h.x1,.int .i64 h.y1,.int .i64 h.zo,.int .i64 h.lo,.int .i64 h.la] 78)=W0 at HB0 HX0 ⊢;generalize w.heap.size=b0 at HX0 ⊢;have c0:W0.cell? ⟨b0,0,none⟩=some (.int .u64 (h.rf:Nat)):=Qax HX0.out 0 _ rfl;have c1:W0.cell? ⟨b0,1,none⟩=some (.int .u64 (h.rl:Nat)):=Qax HX0.out 1 _ rfl;have c2:W0.cell? ⟨b0,2,none⟩=some (.int .u64 (h.mf:Nat)):=Qax HX0.out 2 _ rfl;have c3:W0.cell? ⟨b0,3,none⟩=some (.int .u64 (h.ml:Nat)):=Qax HX0.out 3 _ rfl;have c4:W0.cell? ⟨b0,4,none⟩=some (.int .u64 (h.lf:Nat)):=Qax HX0.out 4 _ rfl;have c5:W0.cell? ⟨b0,5,none⟩=some (.int .u64 (h.ll:Nat)):=Qax HX0.out 5 _ rfl;have c6:W0.cell? ⟨b0,6,none⟩=some (.int .u64 (h.df:Nat)):=Qax HX0.out 6 _ rfl;have c7:W0.cell? ⟨b0,7,none⟩=some (.int .u64 (h.dl:Nat)):=Qax HX0.out 7 _ rfl;have c12:W0.cell? ⟨b0,12,none⟩=some (.int .u8 (h.inn:Nat)):=Qax HX0.out 12 _ rfl;have c13:W0.cell? ⟨b0,13,none⟩=some (.int .u8 (h.out:Nat)):=Qax HX0.out 13 _ rfl
 by_cases g0:h.inn=1
 case neg=>
  as_aux_lemma=>
   have HV:Hid (V=14):=hid (HV1.out (.inl g0));have u_inn1:((h.inn:Int) != 1)=true:=by rw [bne_iff_ne];omega
   have u_inn2:(h.inn != 1)=true:=by rw [bne_iff_ne];omega
   have u_inn3:((h.inn:Int)==1)=false:=by rw [beq_eq_false_iff_ne];omega
   have u_inn4:(h.inn==1)=false:=by rw [beq_eq_false_iff_ne];omega
   clear g0 HV1 HV2 HV3 HC0 HC1 HC2 HC3;go_wp2_with fail;go_ret;exact ⟨by rw [HV.out]<;>rfl,HB0.out⟩
 have u_inn1:((h.inn:Int) != 1)=false:=by rw [bne_eq_false_iff_eq];omega
 have u_inn2:(h.inn != 1)=false:=by rw [bne_eq_false_iff_eq];omega
 have u_inn3:((h.inn:Int)==1)=true:=by rw [beq_iff_eq];omega
 have u_inn4:(h.inn==1)=true:=by rw [beq_iff_eq];omega
 by_cases g1:h.out=1
 case neg=>
  as_aux_lemma=>
   have HV:Hid (V=14):=hid (HV1.out (.inr g1));have u_out1:((h.out:Int) != 1)=true:=by rw [bne_iff_ne];omega
   have u_out2:(h.out != 1)=true:=by rw [bne_iff_ne];omega
   have u_out3:((h.out:Int)==1)=false:=by rw [beq_eq_false_iff_ne];omega
   have u_out4:(h.out==1)=false:=by rw [beq_eq_false_iff_ne];omega
   clear g0 g1 HV1 HV2 HV3 HC0 HC1 HC2 HC3;go_wp2_with fail;go_ret;exact ⟨by rw [HV.out]<;>rfl,HB0.out⟩
 have u_out1:((h.out:Int) != 1)=false:=by rw [bne_eq_false_iff_eq];omega
 have u_out2:(h.out != 1)=false:=by rw [bne_eq_false_iff_eq];omega
 have u_out3:((h.out:Int)==1)=true:=by rw [beq_iff_eq];omega
 have u_out4:(h.out==1)=true:=by rw [beq_iff_eq];omega
 have HV2:=hid (HV2.out g0 g1);have HV3:=hid (HV3.out g0 g1);clear HV1 g0 g1;have i0:=Qo1 h;have i1:=Qo0 h;have i2:=QoZ h;have i3:=QoY h;go_wp2_with fail;clear c0 c1 c2 c3 c4 c5 c6 c7 c12 c13 u_inn1 u_inn2 u_inn3 u_inn4 u_out1 u_out2 u_out3 u_out4;go_loopw [24] (fun i wr=>∃ k:Nat,k≤4∧i = .int .i64 k∧Hid (1≤k→¬n<M0)∧Hid (2≤k→¬n<M1)∧Hid (3≤k→¬n<M2)∧Hid (4≤k→¬n<M3)∧Hid (Below W0.heap.size W0 wr)) (fun i _=>4-(intOf i).toNat)
 case atStart=>exact ⟨0,by omega,rfl,hid (fun h=>absurd h (by decide)),hid (fun h=>absurd h (by decide)),hid (fun h=>absurd h (by decide)),hid (fun h=>absurd h (by decide)),hid (Below.refl _ _)⟩
 case round=>
  as_aux_lemma=>
   obtain ⟨k,hk,rfl,S0,S1,S2,S3,HBr⟩:=hrel;have hkk:k=0∨k=1∨k=2∨k=3∨k=4:=by omega
   rcases hkk with rfl|rfl|rfl|rfl|rfl
   ·by_cases g:n<M0
    ·as_aux_lemma=>
      have HV:Hid (V=8):=hid (HV2.out (.inl g));have t1:decide ((M0:Int)>(n:Int))=true:=decide_eq_true (by omega)
      have t2:decide ((n:Int)<(M0:Int))=true:=decide_eq_true (by omega)
      have t3:decide (n<M0)=true:=decide_eq_true g;have HBn:=hid (Qaa HBr.out (Qai wr (.int .u64 (h.rf:Nat)) (.int .u64 (h.rl:Nat)) 76));obtain ⟨s0,s1⟩:=QaA wr (.int .u64 (h.rf:Nat)) (.int .u64 (h.rl:Nat)) 76;clear g;go_wp2_with fail;refine (HC0.out _).mono ?_;rintro e w2 ⟨rfl,hb2⟩;have HB2:=hid (Qaa HBn.out hb2);clear hb2;go_wp2_with fail;go_ret;exact ⟨by rw [HV.out]<;>rfl,Qaa HB0.out HB2.out⟩
    ·as_aux_lemma=>
      have HA:=hid g;have t1:decide ((M0:Int)>(n:Int))=false:=decide_eq_false (by omega)
      have t2:decide ((n:Int)<(M0:Int))=false:=decide_eq_false (by omega)
      have t3:decide (n<M0)=false:=decide_eq_false g;have HBn:=hid (Qaa HBr.out (Qai wr (.int .u64 (h.rf:Nat)) (.int .u64 (h.rl:Nat)) 76));obtain ⟨s0,s1⟩:=QaA wr (.int .u64 (h.rf:Nat)) (.int .u64 (h.rl:Nat)) 76;clear g;go_wp2_with fail;refine (HC0.out _).mono ?_;rintro e w2 ⟨rfl,hb2⟩;have HB2:=hid (Qaa HBn.out hb2);clear hb2;go_wp2_with fail;go_roundw
      case rel=>exact ⟨1,by omega,by go_num,hid (fun _=>HA.out),hid (fun h=>absurd h (by decide)),hid (fun h=>absurd h (by decide)),hid (fun h=>absurd h (by decide)),HB2⟩
      case measure=>simp [intOf]
   ·by_cases g:n<M1
    ·as_aux_lemma=>
      have HV:Hid (V=8):=hid (HV2.out (.inr (.inl g)));have t1:decide ((M1:Int)>(n:Int))=true:=decide_eq_true (by omega)
      have t2:decide ((n:Int)<(M1:Int))=true:=decide_eq_true (by omega)
      have t3:decide (n<M1)=true:=decide_eq_true g;have HBn:=hid (Qaa HBr.out (Qai wr (.int .u64 (h.mf:Nat)) (.int .u64 (h.ml:Nat)) 76));obtain ⟨s0,s1⟩:=QaA wr (.int .u64 (h.mf:Nat)) (.int .u64 (h.ml:Nat)) 76;clear g;go_wp2_with fail;refine (HC1.out _).mono ?_;rintro e w2 ⟨rfl,hb2⟩;have HB2:=hid (Qaa HBn.out hb2);clear hb2;go_wp2_with fail;go_ret;exact ⟨by rw [HV.out]<;>rfl,Qaa HB0.out HB2.out⟩
    ·as_aux_lemma=>
      have HA:=hid g;have t1:decide ((M1:Int)>(n:Int))=false:=decide_eq_false (by omega)
      have t2:decide ((n:Int)<(M1:Int))=false:=decide_eq_false (by omega)
      have t3:decide (n<M1)=false:=decide_eq_false g;have HBn:=hid (Qaa HBr.out (Qai wr (.int .u64 (h.mf:Nat)) (.int .u64 (h.ml:Nat)) 76));obtain ⟨s0,s1⟩:=QaA wr (.int .u64 (h.mf:Nat)) (.int .u64 (h.ml:Nat)) 76;clear g;go_wp2_with fail;refine (HC1.out _).mono ?_;rintro e w2 ⟨rfl,hb2⟩;have HB2:=hid (Qaa HBn.out hb2);clear hb2;go_wp2_with fail;go_roundw
      case rel=>exact ⟨2,by omega,by go_num,hid (fun _=>S0.out (by decide)),hid (fun _=>HA.out),hid (fun h=>absurd h (by decide)),hid (fun h=>absurd h (by decide)),HB2⟩
      case measure=>simp [intOf]
   ·by_cases g:n<M2
    ·as_aux_lemma=>
      have HV:Hid (V=8):=hid (HV2.out (.inr (.inr (.inl g))));have t1:decide ((M2:Int)>(n:Int))=true:=decide_eq_true (by omega)
      have t2:decide ((n:Int)<(M2:Int))=true:=decide_eq_true (by omega)
      have t3:decide (n<M2)=true:=decide_eq_true g;have HBn:=hid (Qaa HBr.out (Qai wr (.int .u64 (h.lf:Nat)) (.int .u64 (h.ll:Nat)) 76));obtain ⟨s0,s1⟩:=QaA wr (.int .u64 (h.lf:Nat)) (.int .u64 (h.ll:Nat)) 76;clear g;go_wp2_with fail;refine (HC2.out _).mono ?_;rintro e w2 ⟨rfl,hb2⟩;have HB2:=hid (Qaa HBn.out hb2);clear hb2;go_wp2_with fail;go_ret;exact ⟨by rw [HV.out]<;>rfl,Qaa HB0.out HB2.out⟩
    ·as_aux_lemma=>
      have HA:=hid g;have t1:decide ((M2:Int)>(n:Int))=false:=decide_eq_false (by omega)
      have t2:decide ((n:Int)<(M2:Int))=false:=decide_eq_false (by omega)
      have t3:decide (n<M2)=false:=decide_eq_false g;have HBn:=hid (Qaa HBr.out (Qai wr (.int .u64 (h.lf:Nat)) (.int .u64 (h.ll:Nat)) 76));obtain ⟨s0,s1⟩:=QaA wr (.int .u64 (h.lf:Nat)) (.int .u64 (h.ll:Nat)) 76;clear g;go_wp2_with fail;refine (HC2.out _).mono ?_;rintro e w2 ⟨rfl,hb2⟩;have HB2:=hid (Qaa HBn.out hb2);clear hb2;go_wp2_with fail;go_roundw
      case rel=>exact ⟨3,by omega,by go_num,hid (fun _=>S0.out (by decide)),hid (fun _=>S1.out (by decide)),hid (fun _=>HA.out),hid (fun h=>absurd h (by decide)),HB2⟩
      case measure=>simp [intOf]
   ·by_cases g:n<M3
    ·as_aux_lemma=>
      have HV:Hid (V=8):=hid (HV2.out (.inr (.inr (.inr g))));have t1:decide ((M3:Int)>(n:Int))=true:=decide_eq_true (by omega)
      have t2:decide ((n:Int)<(M3:Int))=true:=decide_eq_true (by omega)
      have t3:decide (n<M3)=true:=decide_eq_true g;have HBn:=hid (Qaa HBr.out (Qai wr (.int .u64 (h.df:Nat)) (.int .u64 (h.dl:Nat)) 76));obtain ⟨s0,s1⟩:=QaA wr (.int .u64 (h.df:Nat)) (.int .u64 (h.dl:Nat)) 76;clear g;go_wp2_with fail;refine (HC3.out _).mono ?_;rintro e w2 ⟨rfl,hb2⟩;have HB2:=hid (Qaa HBn.out hb2);clear hb2;go_wp2_with fail;go_ret;exact ⟨by rw [HV.out]<;>rfl,Qaa HB0.out HB2.out⟩
    ·as_aux_lemma=>
      have HA:=hid g;have t1:decide ((M3:Int)>(n:Int))=false:=decide_eq_false (by omega)
      have t2:decide ((n:Int)<(M3:Int))=false:=decide_eq_false (by omega)
      have t3:decide (n<M3)=false:=decide_eq_false g;have HBn:=hid (Qaa HBr.out (Qai wr (.int .u64 (h.df:Nat)) (.int .u64 (h.dl:Nat)) 76));obtain ⟨s0,s1⟩:=QaA wr (.int .u64 (h.df:Nat)) (.int .u64 (h.dl:Nat)) 76;clear g;go_wp2_with fail;refine (HC3.out _).mono ?_;rintro e w2 ⟨rfl,hb2⟩;have HB2:=hid (Qaa HBn.out hb2);clear hb2;go_wp2_with fail;go_roundw
      case rel=>exact ⟨4,by omega,by go_num,hid (fun _=>S0.out (by decide)),hid (fun _=>S1.out (by decide)),hid (fun _=>S2.out (by decide)),hid (fun _=>HA.out),HB2⟩
      case measure=>simp [intOf]
   ·as_aux_lemma=>
     have hV:=HV3.out (by rintro (e|e|e|e);exact S0.out (by decide) e;exact S1.out (by decide) e;exact S2.out (by decide) e;exact S3.out (by decide) e)
     have HXr:=hid (Qae HX0.out HBr.out);have c0:wr.cell? ⟨b0,0,none⟩=some (.int .u64 (h.rf:Nat)):=Qax HXr.out 0 _ rfl;have c1:wr.cell? ⟨b0,1,none⟩=some (.int .u64 (h.rl:Nat)):=Qax HXr.out 1 _ rfl
     by_cases g:16384<M0
     ·as_aux_lemma=>
       rw [if_pos g] at hV;have HV:=hid hV;have t1:decide ((M0:Int)>16384)=true:=decide_eq_true (by omega)
       have t2:decide (16384<M0)=true:=decide_eq_true g;clear g hV i0 i1 i2 i3;go_wp2_with fail;refine (HC0.out _).mono ?_;rintro e w2 ⟨rfl,hb2⟩;have HB2:=hid (Qaa HBr.out hb2);clear hb2;go_wp2_with fail;go_ret;exact ⟨by rw [HV.out]<;>rfl,Qaa HB0.out HB2.out⟩
     ·as_aux_lemma=>
       rw [if_neg g] at hV;have HV:=hid hV;have t1:decide ((M0:Int)>16384)=false:=decide_eq_false (by omega)
       have t2:decide (16384<M0)=false:=decide_eq_false g;clear g hV i0 i1 i2 i3;go_wp2_with fail;refine (HC0.out _).mono ?_;rintro e w2 ⟨rfl,hb2⟩;have HB2:=hid (Qaa HBr.out hb2);clear hb2;go_wp2_with fail;go_ret;exact ⟨by rw [HV.out]<;>rfl,Qaa HB0.out HB2.out⟩
end
section
open Go.RowKit
theorem Qko(w:World)(x0 x1 x2 x3 x4 x5 x6:Value)(t:TypeId):(w.alloc (.cells #[x0,x1,x2,x3,x4,x5,x6] t)).cell? ⟨w.heap.size,0,none⟩=some x0∧(w.alloc (.cells #[x0,x1,x2,x3,x4,x5,x6] t)).cell? ⟨w.heap.size,1,none⟩=some x1∧(w.alloc (.cells #[x0,x1,x2,x3,x4,x5,x6] t)).cell? ⟨w.heap.size,2,none⟩=some x2∧(w.alloc (.cells #[x0,x1,x2,x3,x4,x5,x6] t)).cell? ⟨w.heap.size,3,none⟩=some x3∧(w.alloc (.cells #[x0,x1,x2,x3,x4,x5,x6] t)).cell? ⟨w.heap.size,4,none⟩=some x4∧(w.alloc (.cells #[x0,x1,x2,x3,x4,x5,x6] t)).cell? ⟨w.heap.size,5,none⟩=some x5∧(w.alloc (.cells #[x0,x1,x2,x3,x4,x5,x6] t)).cell? ⟨w.heap.size,6,none⟩=some x6:=by
 have h:=heap_alloc_new w (.cells #[x0,x1,x2,x3,x4,x5,x6] t);refine ⟨?_,?_,?_,?_,?_,?_,?_⟩<;>(unfold World.cell?;rw [h];rfl)
theorem QgA(w:World)(c:Array Value)(t:TypeId):Below w.heap.size w (w.alloc (.cells c t)):=(Below.refl _ _).alloc (Nat.le_refl _) _
theorem Qxq(l most:Nat)(x:Ent)(h:l<x.2.1+x.2.2.1):Qda l most x=8:=by unfold Qda;rw [if_pos h]
theorem Qxp(l most:Nat)(x:Ent)(h:¬l<x.2.1+x.2.2.1)(h2:most<x.2.2.1):Qda l most x=5:=by unfold Qda;rw [if_neg h,if_pos h2]
theorem Qxo(l most:Nat)(x:Ent)(h:¬l<x.2.1+x.2.2.1)(h2:¬most<x.2.2.1):Qda l most x=0:=by unfold Qda;rw [if_neg h,if_neg h2]
theorem Qjk(id off len run f l most:Nat)(h1:off+len<18446744073709551616)(w:World):Calls Tryz.prog 25 #[.agg #[.int .u64 id,.int .u64 off,.int .u32 len,.int .u32 run,.int .u64 f,.int .u64 l,.int .u32 most]] w fun e w'=>e = .returned (.int .i64 (Qda l most (id,off,len,run):Nat))∧Below w.heap.size w w':=by
 obtain ⟨c0,c1,c2,c3,c4,c5,c6⟩:=Qko w (.int .u64 id) (.int .u64 off) (.int .u32 len) (.int .u32 run) (.int .u64 f) (.int .u64 l) (.int .u32 most) 91;have HB:=hid (QgA w #[.int .u64 id,.int .u64 off,.int .u32 len,.int .u32 run,.int .u64 f,.int .u64 l,.int .u32 most] 91);have hw0:IntKind.u64.wrap (len:Int)=(len:Int):=by rw [IntKind.wrap_u64];omega
 have hw1:IntKind.u64.wrap ((off:Int)+(len:Int))=((off+len:Nat):Int):=by rw [IntKind.wrap_u64];omega
 have HE:=hid (And.intro (Qxq l most (id,off,len,run)) (And.intro (Qxp l most (id,off,len,run)) (Qxo l most (id,off,len,run))));generalize Qda l most (id,off,len,run)=V at HE ⊢;replace HE:Hid ((l<off+len→V=8)∧(¬l<off+len→most<len→V=5)∧(¬l<off+len→¬most<len→V=0)):=HE;generalize off+len=m at HE hw1
 by_cases g1:l<m
 ·have HV:=hid (HE.out.1 g1)
  have t1:decide ((m:Int)>(l:Int))=true:=decide_eq_true (by omega)
  have t2:decide ((l:Int)<(m:Int))=true:=decide_eq_true (by omega)
  have t3:decide (l<m)=true:=decide_eq_true g1;clear g1 HE;go_enter Tryz.func25,Tryz.ntmps25;go_wp2_with fail;go_ret;exact ⟨by rw [HV.out]<;>rfl,HB.out⟩
 have t1:decide ((m:Int)>(l:Int))=false:=decide_eq_false (by omega)
 have t2:decide ((l:Int)<(m:Int))=false:=decide_eq_false (by omega)
 have t3:decide (l<m)=false:=decide_eq_false g1
 by_cases g2:most<len
 ·have HV:=hid (HE.out.2.1 g1 g2)
  have u1:decide ((len:Int)>(most:Int))=true:=decide_eq_true (by omega)
  have u2:decide ((most:Int)<(len:Int))=true:=decide_eq_true (by omega)
  have u3:decide (most<len)=true:=decide_eq_true g2;clear g1 g2 HE;go_enter Tryz.func25,Tryz.ntmps25;go_wp2_with fail;go_ret;exact ⟨by rw [HV.out]<;>rfl,HB.out⟩
 ·have HV:=hid (HE.out.2.2 g1 g2)
  have u1:decide ((len:Int)>(most:Int))=false:=decide_eq_false (by omega)
  have u2:decide ((most:Int)<(len:Int))=false:=decide_eq_false (by omega)
  have u3:decide (most<len)=false:=decide_eq_false g2;clear g1 g2 HE;go_enter Tryz.func25,Tryz.ntmps25;go_wp2_with fail;go_ret;exact ⟨by rw [HV.out]<;>rfl,HB.out⟩
theorem QoO(w:World)(b:Nat)(t:TypeId)(x0 x1:Value)(h:w.heap[b]?=some (.cells #[x0,x1] t (0,0))):(loadVar 93 ⟨b,0,none⟩).run Tryz.prog w = .ok (.agg #[x0,x1]) w:=
 run_loadVar_row w b t 93 #[x0,x1] (0,0) _ h Tryz.underlying93 rfl (by kernel_rfl)
theorem Qoy(id off len run f l most:Nat)(h1:f+off<18446744073709551616)(h2:len<18446744073709551616)(w:World):Calls Tryz.prog 27 #[.agg #[.int .u64 id,.int .u64 off,.int .u32 len,.int .u32 run,.int .u64 f,.int .u64 l,.int .u32 most]] w fun e w'=>e = .returned (.agg #[.int .u64 ((f+off:Nat):Int),.int .u64 len])∧Below w.heap.size w w':=by
 obtain ⟨c0,c1,c2,c3,c4,c5,c6⟩:=Qko w (.int .u64 id) (.int .u64 off) (.int .u32 len) (.int .u32 run) (.int .u64 f) (.int .u64 l) (.int .u32 most) 91;have HB:=hid (QgA w #[.int .u64 id,.int .u64 off,.int .u32 len,.int .u32 run,.int .u64 f,.int .u64 l,.int .u32 most] 91);have hw0:IntKind.u64.wrap (len:Int)=(len:Int):=by rw [IntKind.wrap_u64];omega
 have hw1:IntKind.u64.wrap ((f:Int)+(off:Int))=((f+off:Nat):Int):=by rw [IntKind.wrap_u64];omega
 generalize f+off=m at hw1 ⊢;go_enter Tryz.func27,Tryz.ntmps27;go_wp2_with fail;have hn:=heap_alloc_new (w.alloc (.cells #[.int .u64 id,.int .u64 off,.int .u32 len,.int .u32 run,.int .u64 f,.int .u64 l,.int .u32 most] 91)) (.cells #[.int .u64 m,.int .u64 len] 93);rw [World.size_alloc] at hn;refine Qeb (A:=⟨w.heap.size+1,0,none⟩) rfl (QoO _ _ _ _ _ hn) rfl rfl ?_;exact ⟨rfl,HB.out.alloc HB.out.size _⟩
end
section
open Go.RowKit
def QgP(k:Key):Value:=QeS .u64 .u64 k
def Qcr(n:QcR):Value:=.agg #[.int .i64 n.1,.int .u64 (n.2.1.1:Nat),.int .u64 (n.2.1.2:Nat),.int .u64 (n.2.2.1:Nat),.int .u64 (n.2.2.2:Nat)]
def LruB(w:World)(b most mb:Nat)(old new:Key):Prop:=w.heap[b]?=some (.cells #[.int .i64 (most:Nat),.map (some mb),.int .u64 (old.1:Nat),.int .u64 (old.2:Nat),.int .u64 (new.1:Nat),.int .u64 (new.2:Nat)] 185 (0,0))
def LruAt(w:World)(b most mb:Nat)(ks:List (Key×Int)):Prop:=∃ g old new,LruB w b most mb old new∧MapF QgP Qcr w mb g ks.length∧LinkOk ks g old new
theorem LruAt.keep{w w':World}{b most mb:Nat}{ks:List (Key×Int)}(h:LruAt w b most mb ks)(h1:w'.heap[b]?=w.heap[b]?)(h2:w'.heap[mb]?=w.heap[mb]?):LruAt w' b most mb ks:=by
 obtain ⟨g,old,new,hb,hm,hl⟩:=h;exact ⟨g,old,new,h1.trans hb,hm.keep h2,hl⟩
theorem Qar{w:World}{b:Nat}{x0 x1 x2 x3 x4 x5:Value}{t:TypeId}(k:w.heap[b]?=some (.cells #[x0,x1,x2,x3,x4,x5] t (0,0))) :
  (w.cell? ⟨b,0,none⟩=some x0∧w.cell? ⟨b,1,none⟩=some x1∧w.cell? ⟨b,2,none⟩=some x2∧w.cell? ⟨b,3,none⟩=some x3∧w.cell? ⟨b,4,none⟩=some x4∧w.cell? ⟨b,5,none⟩=some x5)∧w.frozen? ⟨b,0,none⟩=false∧w.frozen? ⟨b,1,none⟩=false∧w.frozen? ⟨b,2,none⟩=false∧w.frozen? ⟨b,3,none⟩=false∧w.frozen? ⟨b,4,none⟩=false∧w.frozen? ⟨b,5,none⟩=false:=by
 refine ⟨⟨?_,?_,?_,?_,?_,?_⟩,?_,?_,?_,?_,?_,?_⟩
 all_goals first
  |(unfold World.cell?;rw [k];rfl)
  |(unfold World.frozen?;rw [k];rfl)
theorem QoL{w:World}{b most mb:Nat}{old new:Key}(h:LruB w b most mb old new):Calls Tryz.prog 148 #[.pointer (some ⟨b,0,none⟩)] w fun e w'=>e = .returned (.int .i64 (most:Nat))∧w'=w:=by
 obtain ⟨⟨c0,-⟩,-⟩:=Qar h;clear h;go_enter Tryz.func148,Tryz.ntmps148;go_wp2_with fail;go_ret;exact ⟨rfl,rfl⟩
theorem QsR{w:World}{b most mb n:Nat}{old new:Key}{g:Key→Option QcR}(h:LruB w b most mb old new)(hm:MapF QgP Qcr w mb g n):Calls Tryz.prog 151 #[.pointer (some ⟨b,0,none⟩)] w fun e w'=>e = .returned (.int .i64 (n:Nat))∧w'=w:=by
 obtain ⟨⟨-,c1,-⟩,-⟩:=Qar h;have hl:=hm.len (P:=Tryz.prog) 3 183 Tryz.underlying183;clear h hm;go_enter Tryz.func151,Tryz.ntmps151;go_wp2_with fail;go_ret;exact ⟨rfl,rfl⟩
theorem QxL(most:Nat)(hm:most≤64)(w:World):Calls Tryz.prog 46 #[.int .i64 most] w fun e w'=>e = .returned (.tuple #[.pointer (some ⟨w.heap.size+1,0,none⟩),.int .i64 0])∧Below w.heap.size w w'∧LruAt w' (w.heap.size+1) most w.heap.size []:=by
 have t1:decide ((most:Int)<0)=false:=decide_eq_false (by omega)
 have t2:decide ((most:Int)>64)=false:=decide_eq_false (by omega)
 have t3:decide (64<most)=false:=decide_eq_false (by omega)
 have HB:=hid ((((Below.refl w.heap.size w).alloc (Nat.le_refl _) (.map #[] 0)).alloc (by simp) (.cells #[.int .i64 (most:Nat),.map (some w.heap.size),.int .u64 0,.int .u64 0,.int .u64 0,.int .u64 0] 185)))
 have hmk:∀ (t:TypeId) (W:World),(Instr.makeMap t none).run Tryz.prog W = .ok (.map (some W.heap.size)) (W.alloc (.map #[] 0)):=fun _ _=>rfl
 go_enter Tryz.func46,Tryz.ntmps46;go_wp2_with fail;go_ret2;have hn:=heap_alloc_new (w.alloc (.map #[] 0)) (.cells #[.int .i64 (most:Nat),.map (some w.heap.size),.int .u64 0,.int .u64 0,.int .u64 0,.int .u64 0] 185);rw [World.size_alloc] at hn;exact ⟨rfl,HB.out,_,(0,0),(0,0),hn,(QoH QgP Qcr w).keep (heap_alloc_old _ _ (by simp)),Qvj _ _⟩
end
section
open Go.RowKit
theorem QlQ(d:Nat)(x y u v:Int)(w:World):(Op.equalIn (d+2) 93 (.agg #[.int .u64 x,.int .u64 y]) (.agg #[.int .u64 u,.int .u64 v])).run Tryz.prog w = .ok (decide (x=u)&&decide (y=v)) w:=by
 have u4:=Tryz.underlying43;have hS:Tryz.prog.underlying 93=some (.struct (Tryz.prog.fieldsOf 93)):=by kernel_rfl
 have hp:Tryz.prog.stoodInHeld 93=false:=by kernel_rfl
 rw [run_equalIn_agg w (d+1) 93 _ _ hS hp];simp only [Program.fieldsOf,Tryz.underlying93];go_simp
 by_cases h1:x=u
 ·by_cases h2:y=v
  ·simp [h1,h2]
  ·simp [h1,h2]
 ·simp [h1]
theorem QlR(d:Nat)(w:World)(em:Bool)(x y:Int):(Instr.checkKey em (d+2) 93 (.agg #[.int .u64 x,.int .u64 y])).run Tryz.prog w = .ok () w:=by
 cases em<;>kernel_rfl
theorem Qs3(w:World)(em:Bool)(x y:Int):(Instr.checkKey em 10000 93 (.agg #[.int .u64 x,.int .u64 y])).run Tryz.prog w = .ok () w:=by
 rw [show (10000:Nat)=9998+2 from rfl];exact QlR 9998 w em x y
theorem QkH:KeyT Tryz.prog 93 QgP:=
 Qlu .u64 .u64 Tryz.underlying93 Qs3 (fun w a c=>by
  have h:=QlQ 9998 (a.1:Int) (a.2:Int) (c.1:Int) (c.2:Int) w;have e:(decide ((a.1:Int)=(c.1:Int))&&decide ((a.2:Int)=(c.2:Int)))=decide (a=c):=by
   rw [Bool.eq_iff_iff,Bool.and_eq_true,decide_eq_true_eq,decide_eq_true_eq,decide_eq_true_eq,Prod.ext_iff];constructor
   ·rintro ⟨h1,h2⟩;exact ⟨by omega,by omega⟩
   ·rintro ⟨h1,h2⟩;exact ⟨by omega,by omega⟩
  rw [e] at h;exact h)
end
section
open Go.RowKit
theorem QsE(w:World):(zeroValue 297).run Tryz.prog w = .ok (.agg #[.int .i64 0,.int .u64 0,.int .u64 0,.int .u64 0,.int .u64 0]) w:=by kernel_rfl
theorem QbK{w W:World}{mb n:Nat}{g:Key→Option QcR}(hm:MapF QgP Qcr w mb g n)(a:Key)(ok:Bool)(hW:W.heap[mb]?=w.heap[mb]?):(Instr.lookup 183 (.map (some mb)) (.agg #[.int .u64 (a.1:Nat),.int .u64 (a.2:Nat)]) ok).run Tryz.prog W = .ok (QsT (.agg #[.int .i64 0,.int .u64 0,.int .u64 0,.int .u64 0,.int .u64 0]) Qcr ok (g a)) W:=
 (hm.keep hW).look QkH Tryz.underlying183 QsE a ok
theorem QnF{w:World}{b most mb n:Nat}{old new:Key}{g:Key→Option QcR}(h:LruB w b most mb old new)(hm:MapF QgP Qcr w mb g n)(a:Key):Calls Tryz.prog 145 #[.pointer (some ⟨b,0,none⟩),.agg #[.int .u64 (a.1:Nat),.int .u64 (a.2:Nat)]] w fun e w'=>e = .returned (.bool (g a).isSome)∧Below w.heap.size w w':=by
 have hb:b<w.heap.size:=(gsi h).1;have hB0:=Qai w (.int .u64 (a.1:Nat)) (.int .u64 (a.2:Nat)) 93;obtain ⟨k0,k1⟩:=QaA w (.int .u64 (a.1:Nat)) (.int .u64 (a.2:Nat)) 93;obtain ⟨⟨-,c1,-⟩,-⟩:=Qar (Qae h hB0);have hmlt:=hm.lt;have HL:=hid (fun (W:World) (hW:W.heap[mb]?=w.heap[mb]?)=>QbK hm a true hW)
 have HM:=hid (hB0.block mb hm.lt);have HK:=hid (heap_alloc_new w (.cells #[.int .u64 (a.1:Nat),.int .u64 (a.2:Nat)] 93));have HO:=hid (Qae h hB0);have HB0:=hid hB0;obtain ⟨x,v0,v1,v2,v3,v4,hx⟩:∃ x:Bool,∃ v0:Int,∃ v1 v2 v3 v4:Nat,QsT (.agg #[.int .i64 0,.int .u64 0,.int .u64 0,.int .u64 0,.int .u64 0]) Qcr true (g a) = .tuple #[.agg #[.int .i64 v0,.int .u64 v1,.int .u64 v2,.int .u64 v3,.int .u64 v4],.bool x]∧(g a).isSome=x:=by
  cases hg:g a with
  |none=>exact ⟨false,0,0,0,0,0,rfl,rfl⟩
  |some nd=>exact ⟨true,nd.1,nd.2.1.1,nd.2.1.2,nd.2.2.1,nd.2.2.2,rfl,rfl⟩
 rw [hx.1] at HL;rw [hx.2];clear hx h hm hB0;go_enter Tryz.func145,Tryz.ntmps145;go_wp2_with fail;generalize w.alloc (.cells #[.int .u64 (a.1:Nat),.int .u64 (a.2:Nat)] 93)=W0 at k0 k1 c1 HM HB0 HK HO ⊢;have l0:=HL.out W0 HM.out;have l1:=HL.out W0.drew HM.out;have hm0:mb<W0.heap.size:=Nat.lt_of_lt_of_le hmlt HB0.out.size;have l2:=HL.out ((W0.alloc (.cells #[.int .i64 0,.int .u64 0,.int .u64 0,.int .u64 0,.int .u64 0] 297)).drew) ((heap_alloc_old W0 (.cells #[.int .i64 0,.int .u64 0,.int .u64 0,.int .u64 0,.int .u64 0] 297) hm0).trans HM.out);have lk:w.heap.size<W0.heap.size:=(gsi HK.out).1;have lo:b<W0.heap.size:=(gsi HO.out).1;obtain ⟨⟨n0,n1⟩,-⟩:=Qam ((heap_alloc_old W0 (.cells #[.int .i64 0,.int .u64 0,.int .u64 0,.int .u64 0,.int .u64 0] 297) lk).trans HK.out);obtain ⟨⟨-,d1,-⟩,-⟩:=Qar ((heap_alloc_old W0 (.cells #[.int .i64 0,.int .u64 0,.int .u64 0,.int .u64 0,.int .u64 0] 297) lo).trans HO.out);clear hm0 hmlt lk lo;go_region
 all_goals
  go_wp2_with fail;go_ret;exact ⟨rfl,(HB0.out.alloc HB0.out.size _).drew⟩
theorem Qqc(v0 v1 v2 v3 v4:Value)(h0:v0 = .int .i64 (match v0 with | .int _ i=>i|_=>0))(w:World):(Instr.field 297 (.agg #[v0,v1,v2,v3,v4]) 0).run Tryz.prog w = .ok v0 w:=by
 rw [h0];kernel_rfl
theorem QoK{w:World}{b most mb n:Nat}{old new:Key}{g:Key→Option QcR}(h:LruB w b most mb old new)(hm:MapF QgP Qcr w mb g n)(a:Key):Calls Tryz.prog 149 #[.pointer (some ⟨b,0,none⟩),.agg #[.int .u64 (a.1:Nat),.int .u64 (a.2:Nat)]] w fun e w'=>e = .returned (.tuple #[.int .i64 (((g a).map (·.1)).getD 0),.bool (g a).isSome])∧Below w.heap.size w w':=by
 have hB0:=Qai w (.int .u64 (a.1:Nat)) (.int .u64 (a.2:Nat)) 93;have HK:=hid (heap_alloc_new w (.cells #[.int .u64 (a.1:Nat),.int .u64 (a.2:Nat)] 93));have HO:=hid (Qae h hB0);have HC:=hid (QnF (Qae h hB0) (hm.keep (hB0.block mb hm.lt)) a);have HL:=hid (fun (W:World) (hW:W.heap[mb]?=w.heap[mb]?)=>QbK hm a false hW)
 have HM:=hid (hB0.block mb hm.lt);have HB0:=hid hB0;have hmlt:=hm.lt;obtain ⟨k0,k1⟩:=QaA w (.int .u64 (a.1:Nat)) (.int .u64 (a.2:Nat)) 93;clear h hm hB0;cases hg:g a with
 |none=>
  rw [hg] at HC;clear HL;go_enter Tryz.func149,Tryz.ntmps149;go_wp2_with fail;refine HC.out.mono ?_;rintro e w1 ⟨rfl,hb1⟩;have HB1:=hid (Qaa HB0.out hb1);clear hb1 k0 k1;simp only [Option.isSome_none];go_wp2_with fail;go_ret2;exact ⟨rfl,HB1.out⟩
 |some nd=>
  rw [hg] at HC HL;go_enter Tryz.func149,Tryz.ntmps149;go_wp2_with fail;refine HC.out.mono ?_;rintro e w1 ⟨rfl,hb1⟩;have HB1:=hid (Qaa HB0.out hb1);have hM1:=(hb1.block mb (Nat.lt_of_lt_of_le hmlt HB0.out.size)).trans HM.out;obtain ⟨⟨p0,p1⟩,-⟩:=Qam (Qae HK.out hb1);obtain ⟨⟨-,c1,-⟩,-⟩:=Qar (Qae HO.out hb1);have l0:(Instr.lookup 183 (.map (some mb)) (.agg #[.int .u64 (a.1:Nat),.int .u64 (a.2:Nat)]) false).run Tryz.prog w1 = .ok (.agg #[.int .i64 nd.1,.int .u64 (nd.2.1.1:Nat),.int .u64 (nd.2.1.2:Nat),.int .u64 (nd.2.2.1:Nat),.int .u64 (nd.2.2.2:Nat)]) w1:=HL.out w1 hM1;have l1:(Instr.lookup 183 (.map (some mb)) (.agg #[.int .u64 (a.1:Nat),.int .u64 (a.2:Nat)]) false).run Tryz.prog w1.drew = .ok (.agg #[.int .i64 nd.1,.int .u64 (nd.2.1.1:Nat),.int .u64 (nd.2.1.2:Nat),.int .u64 (nd.2.2.1:Nat),.int .u64 (nd.2.2.2:Nat)]) w1.drew:=HL.out w1.drew hM1;have hfd:=fun W=>Qqc (.int .i64 nd.1) (.int .u64 (nd.2.1.1:Nat)) (.int .u64 (nd.2.1.2:Nat)) (.int .u64 (nd.2.2.1:Nat)) (.int .u64 (nd.2.2.2:Nat)) rfl W
  clear hb1 k0 k1 hM1 HL;simp only [Option.isSome_some];go_wp2_with fail;go_region
  all_goals
   go_wp2_with fail;go_ret2;exact ⟨rfl,HB1.out.drew⟩
end
section
open Go.RowKit
theorem LruB.ne{w:World}{b most mb n:Nat}{old new:Key}{g:Key→Option QcR}(h:LruB w b most mb old new)(hm:MapF QgP Qcr w mb g n):b≠mb:=by
 intro e;obtain ⟨es,clock,hb⟩:=hm.blk;unfold LruB at h;rw [e,hb] at h;cases h
theorem QoI{w W:World}{mb n:Nat}{g:Key→Option QcR}(hm:MapF QgP Qcr w mb g n)(a:Key)(nd:QcR)(hW:W.heap[mb]?=w.heap[mb]?) :
  ∃ o,(Instr.mapUpdate 183 (.map (some mb)) (.agg #[.int .u64 (a.1:Nat),.int .u64 (a.2:Nat)]) (.agg #[.int .i64 nd.1,.int .u64 (nd.2.1.1:Nat),.int .u64 (nd.2.1.2:Nat),.int .u64 (nd.2.2.1:Nat),.int .u64 (nd.2.2.2:Nat)])).run Tryz.prog W = .ok () (Qaw W mb o)∧MapF QgP Qcr (Qaw W mb o) mb (fun c=>if c=a then some nd else g c) (if (g a).isSome then n else n+1):=
 (hm.keep hW).put QkH Tryz.underlying183 a nd
theorem QhC{w:World}{b:Nat}{x0 x1 x2 x3 x4 x5:Value}{t:TypeId}(k:w.heap[b]?=some (.cells #[x0,x1,x2,x3,x4,x5] t (0,0)))(y4 y5:Value):((w.setCell ⟨b,4,none⟩ y4).setCell ⟨b,5,none⟩ y5).heap[b]?=some (.cells #[x0,x1,x2,x3,y4,y5] t (0,0)):=by
 simp [World.setCell,Array.getElem?_modify,k]
theorem Qli{w:World}{b:Nat}{x0 x1 x2 x3 x4 x5:Value}{t:TypeId}(k:w.heap[b]?=some (.cells #[x0,x1,x2,x3,x4,x5] t (0,0)))(y2 y3:Value):((w.setCell ⟨b,2,none⟩ y2).setCell ⟨b,3,none⟩ y3).heap[b]?=some (.cells #[x0,x1,y2,y3,x4,x5] t (0,0)):=by
 simp [World.setCell,Array.getElem?_modify,k]
theorem Qfn{S:Nat→Prop}{w w':World}{mb:Nat}(o:Obj)(h:Touch S w w')(hs:S mb):Touch S w (Qaw w' mb o):=
 h.trans (S':=fun g=>g=mb) ⟨rfl,rfl,rfl,by rw [Qcs];exact Nat.le_refl _,fun k _ hn=>Qah _ _ _ _ hn⟩ (fun g hg=>by rw [hg];exact .inl hs)
theorem QbI{S:Nat→Prop}{w w':World}(h:Touch S w w'):Touch S w w'.drew:=h.trans (Touch.of_below (S:=S) (Below.refl _ _).drew) (fun g hg=>.inl hg)
theorem QsQ{w:World}{b most mb:Nat}{old new:Key}{g:Key→Option QcR}(h:LruB w b most mb old new)(hm:MapF QgP Qcr w mb g 0)(a:Key)(ha:g a=none)(v:Int):Calls Tryz.prog 147 #[.pointer (some ⟨b,0,none⟩),.agg #[.int .u64 (a.1:Nat),.int .u64 (a.2:Nat)],.int .i64 v] w fun e w'=>e = .returned (.tuple #[])∧LruB w' b most mb a a∧MapF QgP Qcr w' mb (fun c=>if c=a then some (v,new,(0,0)) else g c) 1∧Touch (fun i=>i=b∨i=mb) w w':=by
 have hne:=h.ne hm;have hB0:=Qai w (.int .u64 (a.1:Nat)) (.int .u64 (a.2:Nat)) 93;obtain ⟨k0,k1⟩:=QaA w (.int .u64 (a.1:Nat)) (.int .u64 (a.2:Nat)) 93;have HK:=hid (heap_alloc_new w (.cells #[.int .u64 (a.1:Nat),.int .u64 (a.2:Nat)] 93));have HO:=hid (Qae h hB0);have HM:=hid (hm.keep (hB0.block mb hm.lt));have hl0:=HM.out.len (P:=Tryz.prog) 3 183 Tryz.underlying183;have HT:Hid (Touch (fun i=>i=b∨i=mb) w (w.alloc (.cells #[.int .u64 (a.1:Nat),.int .u64 (a.2:Nat)] 93))):=hid (Touch.of_below hB0)
 have hbk:b≠w.heap.size:=by have:=(gsi h).1;omega
 have hmk:mb≠w.heap.size:=by have:=hm.lt;omega
 obtain ⟨⟨-,c1,c2,c3,c4,c5⟩,-,-,f2,f3,f4,f5⟩:=Qar HO.out;clear h hm hB0;go_enter Tryz.func147,Tryz.ntmps147;go_wp2_with fail;generalize w.alloc (.cells #[.int .u64 (a.1:Nat),.int .u64 (a.2:Nat)] 93)=W0 at HK HO HM HT c1 c2 c3 c4 c5 f2 f3 f4 f5 k0 k1 hl0 ⊢;have O1:=hid (Qli HO.out (.int .u64 (a.1:Nat)) (.int .u64 (a.2:Nat)));have T1:=hid (Qaf (a:=⟨b,3,none⟩) (.int .u64 (a.2:Nat)) (Qaf (a:=⟨b,2,none⟩) (.int .u64 (a.1:Nat)) HT.out (.inl (.inl rfl))) (.inl (.inl rfl)));have K1:=hid ((Below.heap_setCell (W0.setCell ⟨b,2,none⟩ (.int .u64 (a.1:Nat))) ⟨b,3,none⟩ (.int .u64 (a.2:Nat)) _ hbk.symm).trans ((Below.heap_setCell W0 ⟨b,2,none⟩ (.int .u64 (a.1:Nat)) _ hbk.symm).trans HK.out));have M1:=hid (HM.out.keep ((Below.heap_setCell (W0.setCell ⟨b,2,none⟩ (.int .u64 (a.1:Nat))) ⟨b,3,none⟩ (.int .u64 (a.2:Nat)) _ hne.symm).trans (Below.heap_setCell W0 ⟨b,2,none⟩ (.int .u64 (a.1:Nat)) _ hne.symm)));generalize (W0.setCell ⟨b,2,none⟩ (.int .u64 (a.1:Nat))).setCell ⟨b,3,none⟩ (.int .u64 (a.2:Nat))=W1 at O1 T1 K1 M1 ⊢;clear HK HO HM HT c1 c2 c3 c4 c5 f2 f3 f4 f5 k0 k1 hl0;obtain ⟨⟨-,c1,-,-,c4,c5⟩,-⟩:=Qar O1.out;obtain ⟨⟨k0,k1⟩,-⟩:=Qam K1.out;obtain ⟨o,hup,hM2⟩:=QoI M1.out a (v,new,(0,0)) (W:=W1.drew) rfl;have hup:(Instr.mapUpdate 183 (.map (some mb)) (.agg #[.int .u64 (a.1:Nat),.int .u64 (a.2:Nat)]) (.agg #[.int .i64 v,.int .u64 (new.1:Nat),.int .u64 (new.2:Nat),.int .u64 0,.int .u64 0])).run Tryz.prog W1.drew = .ok () (Qaw W1.drew mb o):=hup;rw [ha] at hM2;have M2:=hid hM2;clear hM2;have O2:=hid ((Qah W1.drew mb o b hne).trans O1.out);have K2:=hid ((Qah W1.drew mb o w.heap.size (fun e=>hmk e.symm)).trans K1.out)
 have T2:=hid (Qfn o (QbI T1.out) (.inr rfl));obtain ⟨⟨-,-,-,-,e4,e5⟩,-,-,-,-,f4,f5⟩:=Qar O2.out;obtain ⟨⟨j0,j1⟩,-⟩:=Qam K2.out;go_region
 all_goals
  go_wp2_with fail
  first|go_end0|refine bodyPost_ret (results_none rfl _ _ _) rfl ?_
  exact ⟨rfl,QhC O2.out _ _,M2.out.keep ((Below.heap_setCell _ ⟨b,5,none⟩ _ _ hne.symm).trans (Below.heap_setCell _ ⟨b,4,none⟩ _ _ hne.symm)),Qaf (a:=⟨b,5,none⟩) _ (Qaf (a:=⟨b,4,none⟩) _ T2.out (.inl (.inl rfl))) (.inl (.inl rfl))⟩
end
section
open Go.RowKit
theorem Qal{w:World}{b:Nat}{x0 x1 x2 x3 x4:Value}{t:TypeId}(k:w.heap[b]?=some (.cells #[x0,x1,x2,x3,x4] t (0,0))) :
  (w.cell? ⟨b,0,none⟩=some x0∧w.cell? ⟨b,1,none⟩=some x1∧w.cell? ⟨b,2,none⟩=some x2∧w.cell? ⟨b,3,none⟩=some x3∧w.cell? ⟨b,4,none⟩=some x4)∧w.frozen? ⟨b,0,none⟩=false∧w.frozen? ⟨b,1,none⟩=false∧w.frozen? ⟨b,2,none⟩=false∧w.frozen? ⟨b,3,none⟩=false∧w.frozen? ⟨b,4,none⟩=false:=by
 refine ⟨⟨?_,?_,?_,?_,?_⟩,?_,?_,?_,?_,?_⟩
 all_goals first
  |(unfold World.cell?;rw [k];rfl)
  |(unfold World.frozen?;rw [k];rfl)
theorem Qgu{w:World}{b:Nat}{x0 x1 x2 x3 x4:Value}{t:TypeId}(k:w.heap[b]?=some (.cells #[x0,x1,x2,x3,x4] t (0,0)))(y3 y4:Value):((w.setCell ⟨b,3,none⟩ y3).setCell ⟨b,4,none⟩ y4).heap[b]?=some (.cells #[x0,x1,x2,y3,y4] t (0,0)):=by
 simp [World.setCell,Array.getElem?_modify,k]
theorem Qbu{w:World}{b i j:Nat}{v u:Value}{k:Nat}(h:k≠b):((w.setCell ⟨b,i,none⟩ v).setCell ⟨b,j,none⟩ u).heap[k]?=w.heap[k]?:=
 (Below.heap_setCell (w.setCell ⟨b,i,none⟩ v) ⟨b,j,none⟩ u k h).trans (Below.heap_setCell w ⟨b,i,none⟩ v k h)
theorem QsP{w:World}{b most mb n:Nat}{old new:Key}{g:Key→Option QcR}(h:LruB w b most mb old new)(hm:MapF QgP Qcr w mb g n)(hn:n≠0)(a:Key)(ha:g a=none)(ln:QcR)(hln:g new=some ln)(v:Int):Calls Tryz.prog 147 #[.pointer (some ⟨b,0,none⟩),.agg #[.int .u64 (a.1:Nat),.int .u64 (a.2:Nat)],.int .i64 v] w fun e w'=>e = .returned (.tuple #[])∧LruB w' b most mb old a∧MapF QgP Qcr w' mb (fun c=>if c=a then some (v,new,(0,0)) else if c=new then some (ln.1,ln.2.1,a) else g c) (n+1)∧Touch (fun i=>i=b∨i=mb) w w':=by
 have hne:=h.ne hm;have han:a≠new:=by intro e;rw [e,hln] at ha;cases ha
 have hB0:=Qai w (.int .u64 (a.1:Nat)) (.int .u64 (a.2:Nat)) 93;obtain ⟨k0,k1⟩:=QaA w (.int .u64 (a.1:Nat)) (.int .u64 (a.2:Nat)) 93;have HK:=hid (heap_alloc_new w (.cells #[.int .u64 (a.1:Nat),.int .u64 (a.2:Nat)] 93));have HO:=hid (Qae h hB0);have HM:=hid (hm.keep (hB0.block mb hm.lt));have hl0:=HM.out.len (P:=Tryz.prog) 3 183 Tryz.underlying183;have HT:Hid (Touch (fun i=>i=b∨i=mb) w (w.alloc (.cells #[.int .u64 (a.1:Nat),.int .u64 (a.2:Nat)] 93))):=hid (Touch.of_below hB0)
 have hbk:b≠w.heap.size:=by have:=(gsi h).1;omega
 have hmk:mb≠w.heap.size:=by have:=hm.lt;omega
 have z1:((n:Int)==0)=false:=by rw [beq_eq_false_iff_ne];omega
 have z2:(n==0)=false:=by rw [beq_eq_false_iff_ne];omega
 obtain ⟨⟨-,c1,c2,c3,c4,c5⟩,-⟩:=Qar HO.out;have HNE:=hid (And.intro hn (And.intro ha (And.intro hln han)));clear h hm hB0 hn ha hln han;go_enter Tryz.func147,Tryz.ntmps147;go_wp2_with fail;generalize w.alloc (.cells #[.int .u64 (a.1:Nat),.int .u64 (a.2:Nat)] 93)=W0 at HK HO HM HT c1 c2 c3 c4 c5 k0 k1 hl0 ⊢;have lk:w.heap.size<W0.heap.size:=(gsi HK.out).1;have lo:b<W0.heap.size:=(gsi HO.out).1;have lm:mb<W0.heap.size:=HM.out.lt;have l2:(Instr.lookup 183 (.map (some mb)) (.agg #[.int .u64 (new.1:Nat),.int .u64 (new.2:Nat)]) false).run Tryz.prog ((W0.alloc (.cells #[.int .i64 0,.int .u64 0,.int .u64 0,.int .u64 0,.int .u64 0] 297)).drew) = .ok (.agg #[.int .i64 ln.1,.int .u64 (ln.2.1.1:Nat),.int .u64 (ln.2.1.2:Nat),.int .u64 (ln.2.2.1:Nat),.int .u64 (ln.2.2.2:Nat)]) ((W0.alloc (.cells #[.int .i64 0,.int .u64 0,.int .u64 0,.int .u64 0,.int .u64 0] 297)).drew):=by
  have h:=QbK (W:=(W0.alloc (.cells #[.int .i64 0,.int .u64 0,.int .u64 0,.int .u64 0,.int .u64 0] 297)).drew) HM.out new false (heap_alloc_old W0 (.cells #[.int .i64 0,.int .u64 0,.int .u64 0,.int .u64 0,.int .u64 0] 297) lm);rw [HNE.out.2.2.1] at h;exact h
 have l3:(Instr.lookup 183 (.map (some mb)) (.agg #[.int .u64 (new.1:Nat),.int .u64 (new.2:Nat)]) false).run Tryz.prog W0.drew = .ok (.agg #[.int .i64 ln.1,.int .u64 (ln.2.1.1:Nat),.int .u64 (ln.2.1.2:Nat),.int .u64 (ln.2.2.1:Nat),.int .u64 (ln.2.2.2:Nat)]) W0.drew:=by
  have h:=QbK (W:=W0.drew) HM.out new false rfl;rw [HNE.out.2.2.1] at h;exact h
 obtain ⟨⟨-,d1,-,-,d4,d5⟩,-⟩:=Qar ((heap_alloc_old W0 (.cells #[.int .i64 0,.int .u64 0,.int .u64 0,.int .u64 0,.int .u64 0] 297) lo).trans HO.out);clear hl0 k0 k1 c2 c3;go_region
 all_goals
  clear d1 d4 d5 l2 l3 c1 c4 c5;obtain ⟨W1,hW1⟩:∃ W1,(W0.alloc (.cells #[.int .i64 ln.1,.int .u64 (ln.2.1.1:Nat),.int .u64 (ln.2.1.2:Nat),.int .u64 (ln.2.2.1:Nat),.int .u64 (ln.2.2.2:Nat)] 297)).drew=W1:=⟨_,rfl⟩;rw [hW1];have O1:Hid (LruB W1 b most mb old new):=hid (by rw [←hW1];exact (heap_alloc_old W0 (.cells #[.int .i64 ln.1,.int .u64 (ln.2.1.1:Nat),.int .u64 (ln.2.1.2:Nat),.int .u64 (ln.2.2.1:Nat),.int .u64 (ln.2.2.2:Nat)] 297) lo).trans HO.out)
  have K1:Hid (W1.heap[w.heap.size]?=some (.cells #[.int .u64 (a.1:Nat),.int .u64 (a.2:Nat)] 93 (0,0))):=hid (by rw [←hW1];exact (heap_alloc_old W0 (.cells #[.int .i64 ln.1,.int .u64 (ln.2.1.1:Nat),.int .u64 (ln.2.1.2:Nat),.int .u64 (ln.2.2.1:Nat),.int .u64 (ln.2.2.2:Nat)] 297) lk).trans HK.out)
  have M1:Hid (MapF QgP Qcr W1 mb g n):=hid (by rw [←hW1];exact HM.out.keep (heap_alloc_old W0 (.cells #[.int .i64 ln.1,.int .u64 (ln.2.1.1:Nat),.int .u64 (ln.2.1.2:Nat),.int .u64 (ln.2.2.1:Nat),.int .u64 (ln.2.2.2:Nat)] 297) lm))
  have N1:Hid (W1.heap[W0.heap.size]?=some (.cells #[.int .i64 ln.1,.int .u64 (ln.2.1.1:Nat),.int .u64 (ln.2.1.2:Nat),.int .u64 (ln.2.2.1:Nat),.int .u64 (ln.2.2.2:Nat)] 297 (0,0))):=hid (by rw [←hW1];exact heap_alloc_new W0 (.cells #[.int .i64 ln.1,.int .u64 (ln.2.1.1:Nat),.int .u64 (ln.2.1.2:Nat),.int .u64 (ln.2.2.1:Nat),.int .u64 (ln.2.2.2:Nat)] 297))
  have T1:Hid (Touch (fun i=>i=b∨i=mb) w W1):=hid (by rw [←hW1];exact QbI (HT.out.trans (Touch.of_below (S:=fun i=>i=b∨i=mb) ((Below.refl _ _).alloc (Nat.le_refl _) (.cells #[.int .i64 ln.1,.int .u64 (ln.2.1.1:Nat),.int .u64 (ln.2.1.2:Nat),.int .u64 (ln.2.2.1:Nat),.int .u64 (ln.2.2.2:Nat)] 297))) (fun g hg=>.inl hg)))
  clear hW1;obtain ⟨⟨k0,k1⟩,-⟩:=Qam K1.out;obtain ⟨⟨-,-,-,n3,n4⟩,-,-,-,f3,f4⟩:=Qal N1.out;go_wp2_with fail;have bN:b≠W0.heap.size:=by omega
  have kN:w.heap.size≠W0.heap.size:=by omega
  have mN:mb≠W0.heap.size:=by omega
  obtain ⟨W2,hW2⟩:∃ W2,(W1.setCell ⟨W0.heap.size,3,none⟩ (.int .u64 (a.1:Nat))).setCell ⟨W0.heap.size,4,none⟩ (.int .u64 (a.2:Nat))=W2:=⟨_,rfl⟩;rw [hW2];have O2:Hid (LruB W2 b most mb old new):=hid (by rw [←hW2];exact (Qbu bN).trans O1.out)
  have K2:Hid (W2.heap[w.heap.size]?=some (.cells #[.int .u64 (a.1:Nat),.int .u64 (a.2:Nat)] 93 (0,0))):=hid (by rw [←hW2];exact (Qbu kN).trans K1.out)
  have M2:Hid (MapF QgP Qcr W2 mb g n):=hid (by rw [←hW2];exact M1.out.keep (Qbu mN))
  have N2:Hid (W2.heap[W0.heap.size]?=some (.cells #[.int .i64 ln.1,.int .u64 (ln.2.1.1:Nat),.int .u64 (ln.2.1.2:Nat),.int .u64 (a.1:Nat),.int .u64 (a.2:Nat)] 297 (0,0))):=hid (by rw [←hW2];exact Qgu N1.out _ _)
  have T2:Hid (Touch (fun i=>i=b∨i=mb) w W2):=hid (by rw [←hW2];exact Qaf (a:=⟨W0.heap.size,4,none⟩) _ (Qaf (a:=⟨W0.heap.size,3,none⟩) _ T1.out (.inr (Nat.le_of_lt lk))) (.inr (Nat.le_of_lt lk)))
  clear hW2 O1 K1 M1 N1 T1 k0 k1 n3 n4 f3 f4 bN kN mN HK HO HM HT;obtain ⟨⟨-,c1,-,-,c4,c5⟩,-⟩:=Qar O2.out;obtain ⟨⟨n0,n1,n2,n3,n4⟩,-⟩:=Qal N2.out;obtain ⟨o1,hup,hM3⟩:=QoI M2.out new (ln.1,ln.2.1,a) (W:=W2.drew) rfl;rw [HNE.out.2.2.1] at hM3;have M3:=hid hM3;clear hM3;have O3:=hid ((Qah W2.drew mb o1 b hne).trans O2.out);have K3:=hid ((Qah W2.drew mb o1 w.heap.size (fun e=>hmk e.symm)).trans K2.out)
  have T3:=hid (Qfn o1 (QbI T2.out) (.inr rfl));go_region
  all_goals
   generalize Qaw W2.drew mb o1=W3 at O3 K3 T3 M3 ⊢;clear hup c1 c4 c5 n0 n1 n2 n3 n4 O2 K2 M2 N2 T2;obtain ⟨⟨-,c1,-,-,c4,c5⟩,-⟩:=Qar O3.out;obtain ⟨⟨k0,k1⟩,-⟩:=Qam K3.out;obtain ⟨o2,hup,hM4⟩:=QoI M3.out a (v,new,(0,0)) (W:=W3.drew) rfl;have hup:(Instr.mapUpdate 183 (.map (some mb)) (.agg #[.int .u64 (a.1:Nat),.int .u64 (a.2:Nat)]) (.agg #[.int .i64 v,.int .u64 (new.1:Nat),.int .u64 (new.2:Nat),.int .u64 0,.int .u64 0])).run Tryz.prog W3.drew = .ok () (Qaw W3.drew mb o2):=hup;rw [if_neg HNE.out.2.2.2,HNE.out.2.1] at hM4;have M4:=hid hM4;clear hM4;have O4:=hid ((Qah W3.drew mb o2 b hne).trans O3.out);have K4:=hid ((Qah W3.drew mb o2 w.heap.size (fun e=>hmk e.symm)).trans K3.out)
   have T4:=hid (Qfn o2 (QbI T3.out) (.inr rfl));obtain ⟨⟨-,-,-,-,e4,e5⟩,-,-,-,-,f4,f5⟩:=Qar O4.out;obtain ⟨⟨j0,j1⟩,-⟩:=Qam K4.out;go_wp2_with fail;go_region
   all_goals
    go_wp2_with fail
    first|go_end0|refine bodyPost_ret (results_none rfl _ _ _) rfl ?_
    exact ⟨rfl,QhC O4.out _ _,M4.out.keep (Qbu hne.symm),Qaf (a:=⟨b,5,none⟩) _ (Qaf (a:=⟨b,4,none⟩) _ T4.out (.inl (.inl rfl))) (.inl (.inl rfl))⟩
end
section
open Go.RowKit
theorem QoJ{w:World}{b most mb:Nat}{ks:List (Key×Int)}(h:LruAt w b most mb ks)(a:Key)(v:Int)(ha:a∉ks.map (·.1)):Calls Tryz.prog 147 #[.pointer (some ⟨b,0,none⟩),.agg #[.int .u64 (a.1:Nat),.int .u64 (a.2:Nat)],.int .i64 v] w fun e w'=>e = .returned (.tuple #[])∧LruAt w' b most mb (ks++[(a,v)])∧Touch (fun i=>i=b∨i=mb) w w':=by
 obtain ⟨g,old,new,hb,hm,hl⟩:=h;have hga:=hl.out a ha
 by_cases hk:ks = []
 ·subst hk
  refine (QsQ hb hm a hga v).mono ?_;rintro e w' ⟨he,h1,h2,h3⟩;refine ⟨he,⟨_,a,a,h1,h2,hl.push (old':=a) (v:=v) (z:=(0,0)) ha ?_ ?_ ?_ ?_ ?_⟩,h3⟩
  ·exact if_pos rfl
  ·intro q hq;cases hq
  ·intro c hc _;exact if_neg hc
  ·intro _;rfl
  ·intro hn;exact absurd rfl hn
 ·obtain ⟨p,hp⟩:∃ p,ks.getLast?=some p:=by
   cases hq:ks.getLast? with
   |none=>exact absurd (List.getLast?_eq_none_iff.1 hq) hk
   |some p=>exact ⟨p,rfl⟩
  obtain ⟨ys,hsp⟩:=List.getLast?_eq_some_iff.1 hp;obtain ⟨o,n',hg,-,-⟩:=hl.mid _ p [] hsp;have hnew:=hl.last p hp;rw [←hnew] at hg;have han:a≠new:=by intro e;rw [e,hg] at hga;cases hga
  refine (QsP hb hm (by intro e;exact hk (List.length_eq_zero_iff.1 e)) a hga (p.2,o,n') hg v).mono ?_
  rintro e w' ⟨he,h1,h2,h3⟩;rw [show ks.length+1=(ks++[(a,v)]).length by simp] at h2
  refine ⟨he,⟨_,old,a,h1,h2,hl.push (old':=old) (v:=v) (z:=(0,0)) ha ?_ ?_ ?_ ?_ ?_⟩,h3⟩
  ·exact if_pos rfl
  ·intro q hq x qo qn hgq
   rw [hp] at hq;obtain rfl:=Option.some.inj hq;rw [←hnew] at hgq ⊢;rw [hg] at hgq;have e1:=Option.some.inj hgq;show (if new=a then _ else if new=new then some (p.2,o,a) else g new)=_
   rw [if_neg (fun e=>han e.symm),if_pos rfl]
   cases e1;rfl
  ·intro c hc hq
   show (if c=a then _ else if c=new then _ else g c)=g c
   rw [if_neg hc,if_neg (by rw [hnew];exact hq p hp)]
  ·intro hn;exact absurd hn hk
  ·intro _;rfl
end
section
open Go.RowKit
def ShB(w:World)(b lb rb nx:Nat)(hi mi:Int):Prop:=w.heap[b]?=some (.cells #[.pointer (some ⟨lb,0,none⟩),.map (some rb),.int .i64 (nx:Nat),.int .i64 hi,.int .i64 mi] 123 (0,0))
theorem QrG(most:Nat)(hm:most≤64)(w:World):Calls Tryz.prog 20 #[.int .i64 most] w fun e w'=>∃ b lb mb rb,e = .returned (.tuple #[.pointer (some ⟨b,0,none⟩),.int .i64 0])∧Below w.heap.size w w'∧(w.heap.size≤b∧w.heap.size≤lb∧w.heap.size≤mb∧w.heap.size≤rb)∧ShB w' b lb rb 0 0 0∧LruAt w' lb most mb []∧w'.heap[rb]?=some (.map #[] 0)∧mb≠rb:=by
 have HC:=hid (QxL most hm w);have hmk:∀ (t:TypeId) (W:World),(Instr.makeMap t none).run Tryz.prog W = .ok (.map (some W.heap.size)) (W.alloc (.map #[] 0)):=fun _ _=>rfl
 go_enter Tryz.func20,Tryz.ntmps20;go_wp2_with fail;refine HC.out.mono ?_;rintro e w1 ⟨rfl,hb1,hl1⟩;have HB1:=hid hb1;have HL1:=hid hl1;have hlt:w.heap.size+1<w1.heap.size:=by obtain ⟨g,old,new,h1,-,-⟩:=hl1;exact (gsi h1).1
 clear hb1 hl1;have HN:=hid (heap_alloc_new (w1.alloc (.map #[] 0)) (.cells #[.pointer (some ⟨w.heap.size+1,0,none⟩),.map (some w1.heap.size),.int .i64 0,.int .i64 0,.int .i64 0] 123));have HR:=hid ((heap_alloc_old (w1.alloc (.map #[] 0)) (.cells #[.pointer (some ⟨w.heap.size+1,0,none⟩),.map (some w1.heap.size),.int .i64 0,.int .i64 0,.int .i64 0] 123) (r:=w1.heap.size) (by simp)).trans (heap_alloc_new w1 (.map #[] 0)))
 have hold:∀ i,i<w1.heap.size→((w1.alloc (.map #[] 0)).alloc (.cells #[.pointer (some ⟨w.heap.size+1,0,none⟩),.map (some w1.heap.size),.int .i64 0,.int .i64 0,.int .i64 0] 123)).heap[i]?=w1.heap[i]?:=fun i hi=>(heap_alloc_old _ _ (by simp;omega)).trans (heap_alloc_old _ _ hi)
 have HO:=hid hold;clear hold;go_wp2_with fail;go_ret2;have hn:=HN.out;rw [World.size_alloc] at hn;have hs:=HB1.out.size;exact ⟨w1.heap.size+1,w.heap.size+1,w.heap.size,w1.heap.size,rfl,(HB1.out.alloc HB1.out.size _).alloc (by simp;omega) _,⟨by omega,by omega,by omega,by omega⟩,hn,HL1.out.keep (HO.out _ hlt) (HO.out _ (by omega)),HR.out,by omega⟩
theorem QnE(most:Int)(hm:most<0∨64<most)(w:World):Calls Tryz.prog 46 #[.int .i64 most] w fun e w'=>e = .returned (.tuple #[.pointer none,.int .i64 2])∧w'=w:=by
 rcases hm with hm|hm
 ·have t1:decide (most<0)=true:=decide_eq_true hm
  clear hm;go_enter Tryz.func46,Tryz.ntmps46;go_wp2_with fail;go_ret2;exact ⟨rfl,rfl⟩
 ·have t1:decide (most<0)=false:=decide_eq_false (by omega)
  have t2:decide (most>64)=true:=decide_eq_true hm;clear hm;go_enter Tryz.func46,Tryz.ntmps46;go_wp2_with fail;go_ret2;exact ⟨rfl,rfl⟩
theorem Qj9(most:Int)(hm:most<0∨64<most)(w:World):Calls Tryz.prog 20 #[.int .i64 most] w fun e w'=>e = .returned (.tuple #[.pointer none,.int .i64 2])∧w'=w:=by
 have HC:=hid (QnE most hm w);clear hm;go_enter Tryz.func20,Tryz.ntmps20;go_wp2_with fail;refine HC.out.mono ?_;rintro e w1 ⟨rfl,hw⟩;obtain rfl:=hw.symm;clear hw;go_wp2_with fail;go_ret2;exact ⟨rfl,rfl⟩
end
section
open Go.RowKit
theorem Qf9{w:World}{b lb rb nx most mb:Nat}{hi mi:Int}{ks:List (Key×Int)}(h:ShB w b lb rb nx hi mi)(hl:LruAt w lb most mb ks):Calls Tryz.prog 95 #[.pointer (some ⟨b,0,none⟩)] w fun e w'=>e = .returned (.int .i64 (most:Nat))∧w'=w:=by
 obtain ⟨⟨c0,-⟩,-⟩:=Qal h;obtain ⟨g,old,new,h1,-,-⟩:=hl;have HC:=hid (QoL h1);clear h h1;go_enter Tryz.func95,Tryz.ntmps95;go_wp2_with fail;refine HC.out.mono ?_;rintro e w1 ⟨rfl,hw⟩;obtain rfl:=hw.symm;clear hw;go_wp2_with fail;go_ret;exact ⟨rfl,rfl⟩
theorem QrH{w:World}{b lb rb nx most mb:Nat}{hi mi:Int}{ks:List (Key×Int)}(h:ShB w b lb rb nx hi mi)(hl:LruAt w lb most mb ks):Calls Tryz.prog 97 #[.pointer (some ⟨b,0,none⟩)] w fun e w'=>e = .returned (.int .i64 (ks.length:Nat))∧w'=w:=by
 obtain ⟨⟨c0,-⟩,-⟩:=Qal h;obtain ⟨g,old,new,h1,h2,-⟩:=hl;have HC:=hid (QsR h1 h2);clear h h1 h2;go_enter Tryz.func97,Tryz.ntmps97;go_wp2_with fail;refine HC.out.mono ?_;rintro e w1 ⟨rfl,hw⟩;obtain rfl:=hw.symm;clear hw;go_wp2_with fail;go_ret;exact ⟨rfl,rfl⟩
end
end Go.Proofs.YtilaebjndadkhaaGreatDoor
