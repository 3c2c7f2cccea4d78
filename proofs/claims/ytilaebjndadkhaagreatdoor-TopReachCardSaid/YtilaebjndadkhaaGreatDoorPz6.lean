/- What parts of the program compute: packed for TopReach. Conditions: none. -/
import Derived.Test.YtilaebjndadkhaaGreatDoorPz5
set_option linter.all false
set_option maxRecDepth 100000
set_option maxHeartbeats 8000000
open Go.Lib (hid)
namespace Go.Proofs.YtilaebjndadkhaaGreatDoor
section
open Go.RowKit
theorem QaA(w:World)(x y:Value)(t:TypeId):(w.alloc (.cells #[x,y] t)).cell? ⟨w.heap.size,0,none⟩=some x∧(w.alloc (.cells #[x,y] t)).cell? ⟨w.heap.size,1,none⟩=some y:=(Qam (heap_alloc_new w (.cells #[x,y] t))).1
theorem Qai(w:World)(x y:Value)(t:TypeId):Below w.heap.size w (w.alloc (.cells #[x,y] t)):=(Below.refl _ _).alloc (Nat.le_refl _) _
theorem Qb4(f l:Nat)(w:World)(hf:f<9223372036854775808)(hl:l<9223372036854775808):Calls Tryz.prog 88 #[.agg #[.int .u64 f,.int .u64 l]] w fun e w'=>e = .returned (.int .u64 ((f+l:Nat):Int))∧Below w.heap.size w w':=by
 obtain ⟨c0,c1⟩:=QaA w (.int .u64 f) (.int .u64 l) 76;go_enter Tryz.func88,Tryz.ntmps88;go_wp2_with fail;go_ret;exact ⟨QbE (by omega),Qai w _ _ _⟩
theorem QbA(f l:Nat)(b:Bool)(hb:QmL f l=b)(w:World)(hf:f<18446744073709551616)(hl:l<18446744073709551616):Calls Tryz.prog 171 #[.agg #[.int .u64 f,.int .u64 l]] w fun e w'=>e = .returned (.bool b)∧Below w.heap.size w w':=by
 obtain ⟨c0,c1⟩:=QaA w (.int .u64 f) (.int .u64 l) 76;have HB0:=hid (Qai w (.int .u64 f) (.int .u64 l) 76);have HE:=hid (fun W h1 h2=>Qb4 f l W h1 h2)
 unfold QmL Qdr at hb
 by_cases h1:f≤1099511627776
 ·rw [decide_eq_true h1,Bool.true_and] at hb
  have t1:decide ((f:Int)≤1099511627776)=true:=decide_eq_true (by omega)
  by_cases h2:l≤1099511627776
  ·rw [decide_eq_true h2,Bool.true_and] at hb
   have t2:decide ((l:Int)≤1099511627776)=true:=decide_eq_true (by omega)
   have HE2:=hid (fun W=>HE.out W (by omega) (by omega))
   clear HE h1 h2;generalize f+l=m at HE2 hb
   by_cases h3:m≤1099511627776
   ·rw [decide_eq_true h3] at hb
    subst hb;have t3:decide ((m:Int)≤1099511627776)=true:=decide_eq_true (by omega)
    clear h3;go_enter Tryz.func171,Tryz.ntmps171;go_wp2_with fail;refine (HE2.out _).mono ?_;rintro e w1 ⟨rfl,hb1⟩;have HB1:=hid (Qaa HB0.out hb1);clear hb1;go_wp2_with fail;go_ret;exact ⟨rfl,HB1.out⟩
   ·rw [decide_eq_false h3] at hb
    subst hb;have t3:decide ((m:Int)≤1099511627776)=false:=decide_eq_false (by omega)
    clear h3;go_enter Tryz.func171,Tryz.ntmps171;go_wp2_with fail;refine (HE2.out _).mono ?_;rintro e w1 ⟨rfl,hb1⟩;have HB1:=hid (Qaa HB0.out hb1);clear hb1;go_wp2_with fail;go_ret;exact ⟨rfl,HB1.out⟩
  ·rw [decide_eq_false h2,Bool.false_and] at hb
   subst hb;have t2:decide ((l:Int)≤1099511627776)=false:=decide_eq_false (by omega)
   clear h1 h2 HE;go_enter Tryz.func171,Tryz.ntmps171;go_wp2_with fail;go_ret;exact ⟨rfl,HB0.out⟩
 ·rw [decide_eq_false h1,Bool.false_and] at hb
  subst hb;have t1:decide ((f:Int)≤1099511627776)=false:=decide_eq_false (by omega)
  clear h1 HE;go_enter Tryz.func171,Tryz.ntmps171;go_wp2_with fail;go_ret;exact ⟨rfl,HB0.out⟩
theorem QdU(lo hi x y z:Int)(b:Bool)(hb:(inB lo hi x&&(inB lo hi y&&inB lo hi z))=b)(B:Nat)(w:World)(k:w.heap[B]?=some (.cells #[.int .i64 x,.int .i64 y,.int .i64 z] 3 (0,0))) :
  Calls Tryz.prog 172 #[.int .i64 lo,.int .i64 hi,.slice (some ⟨B,0,none⟩) 3 3] w fun e w'=>e = .returned (.bool b)∧w'=w:=by
 obtain ⟨⟨c0,c1,c2⟩,-⟩:=Qbm k;have HX:Hid (b=(inB lo hi x&&(inB lo hi y&&inB lo hi z))):=hid hb.symm;clear k hb;go_enter Tryz.func172,Tryz.ntmps172;go_wp2_with fail;go_loop [11] (fun i=>∃ k:Nat,k≤3∧i = .int .i64 k∧Hid (1≤k→inB lo hi x=true)∧Hid (2≤k→inB lo hi y=true)∧Hid (3≤k→inB lo hi z=true)) (fun i=>3-(intOf i).toNat)
 case atStart=>exact ⟨0,by omega,rfl,hid (fun h=>absurd h (by decide)),hid (fun h=>absurd h (by decide)),hid (fun h=>absurd h (by decide))⟩
 case round=>
  obtain ⟨k,hk,rfl,H0,H1,H2⟩:=hrel;have h:k=0∨k=1∨k=2∨k=3:=by omega
  have key:∀ v:Int,(decide (lo≤v)=true∧decide (v≤hi)=true∧inB lo hi v=true)∨((decide (v<lo)=true∨(decide (v<lo)=false∧decide (hi<v)=true))∧inB lo hi v=false):=by
   intro v;unfold inB
   by_cases h1:lo≤v
   ·by_cases h2:v≤hi
    ·exact .inl ⟨decide_eq_true h1,decide_eq_true h2,by rw [decide_eq_true h1,decide_eq_true h2];rfl⟩
    ·exact .inr ⟨.inr ⟨decide_eq_false (by omega),decide_eq_true (by omega)⟩,by rw [decide_eq_false h2,Bool.and_false]⟩
   ·exact .inr ⟨.inl (decide_eq_true (by omega)),by rw [decide_eq_false h1];rfl⟩
  rcases h with rfl|rfl|rfl|rfl
  ·rcases key x with ⟨a1,a2,a3⟩|⟨a1|⟨a1,a2⟩,a3⟩
   ·have u1:decide (x<lo)=false:=decide_eq_false (by have:=of_decide_eq_true a1;omega)
    have u2:decide (hi<x)=false:=decide_eq_false (by have:=of_decide_eq_true a2;omega)
    have HA:=hid a3;clear a1 a2 a3 key;go_wp2_with fail;go_round
    case rel=>exact ⟨1,by omega,by go_num,hid (fun _=>HA.out),hid (fun h=>absurd h (by decide)),hid (fun h=>absurd h (by decide))⟩
    case measure=>simp [intOf]
   ·have HB:Hid (b=false):=hid (by rw [HX.out,a3];rfl)
    clear a3 key;go_wp2_with fail;go_ret;exact ⟨by rw [HB.out]<;>rfl,rfl⟩
   ·have HB:Hid (b=false):=hid (by rw [HX.out,a3];rfl)
    clear a3 key;go_wp2_with fail;go_ret;exact ⟨by rw [HB.out]<;>rfl,rfl⟩
  ·rcases key y with ⟨a1,a2,a3⟩|⟨a1|⟨a1,a2⟩,a3⟩
   ·have u1:decide (y<lo)=false:=decide_eq_false (by have:=of_decide_eq_true a1;omega)
    have u2:decide (hi<y)=false:=decide_eq_false (by have:=of_decide_eq_true a2;omega)
    have HA:=hid a3;clear a1 a2 a3 key;go_wp2_with fail;go_round
    case rel=>exact ⟨2,by omega,by go_num,hid (fun _=>H0.out (by decide)),hid (fun _=>HA.out),hid (fun h=>absurd h (by decide))⟩
    case measure=>simp [intOf]
   ·have HB:Hid (b=false):=hid (by rw [HX.out,H0.out (by decide),a3];rfl)
    clear a3 key;go_wp2_with fail;go_ret;exact ⟨by rw [HB.out]<;>rfl,rfl⟩
   ·have HB:Hid (b=false):=hid (by rw [HX.out,H0.out (by decide),a3];rfl)
    clear a3 key;go_wp2_with fail;go_ret;exact ⟨by rw [HB.out]<;>rfl,rfl⟩
  ·rcases key z with ⟨a1,a2,a3⟩|⟨a1|⟨a1,a2⟩,a3⟩
   ·have u1:decide (z<lo)=false:=decide_eq_false (by have:=of_decide_eq_true a1;omega)
    have u2:decide (hi<z)=false:=decide_eq_false (by have:=of_decide_eq_true a2;omega)
    have HA:=hid a3;clear a1 a2 a3 key;go_wp2_with fail;go_round
    case rel=>exact ⟨3,by omega,by go_num,hid (fun _=>H0.out (by decide)),hid (fun _=>H1.out (by decide)),hid (fun _=>HA.out)⟩
    case measure=>simp [intOf]
   ·have HB:Hid (b=false):=hid (by rw [HX.out,H0.out (by decide),H1.out (by decide),a3];rfl)
    clear a3 key;go_wp2_with fail;go_ret;exact ⟨by rw [HB.out]<;>rfl,rfl⟩
   ·have HB:Hid (b=false):=hid (by rw [HX.out,H0.out (by decide),H1.out (by decide),a3];rfl)
    clear a3 key;go_wp2_with fail;go_ret;exact ⟨by rw [HB.out]<;>rfl,rfl⟩
  ·have HB:Hid (b=true):=hid (by rw [HX.out,H0.out (by decide),H1.out (by decide),H2.out (by decide)];rfl)
   clear key;go_wp2_with fail;go_ret;exact ⟨by rw [HB.out]<;>rfl,rfl⟩
end
section
open Go.RowKit
def QbF(h:Hdr):Array Value:=#[.int .u64 (h.rf:Nat),.int .u64 (h.rl:Nat),.int .u64 (h.mf:Nat),.int .u64 (h.ml:Nat),.int .u64 (h.lf:Nat),.int .u64 (h.ll:Nat),.int .u64 (h.df:Nat),.int .u64 (h.dl:Nat),.int .u64 (h.ad:Nat),.int .u64 (h.en:Nat),.int .u64 (h.co:Nat),.bool h.cl,.int .u8 (h.inn:Nat),.int .u8 (h.out:Nat),.int .u8 (h.kd:Nat),.int .i64 h.z0,.int .i64 h.z1,.int .i64 h.x0,.int .i64 h.y0,.int .i64 h.x1,.int .i64 h.y1,.int .i64 h.zo,.int .i64 h.lo,.int .i64 h.la]
structure HdrOk(h:Hdr):Prop where
 rf:h.rf<18446744073709551616
 rl:h.rl<18446744073709551616
 mf:h.mf<18446744073709551616
 ml:h.ml<18446744073709551616
 lf:h.lf<18446744073709551616
 ll:h.ll<18446744073709551616
 df:h.df<18446744073709551616
 dl:h.dl<18446744073709551616
 ad:h.ad<18446744073709551616
 en:h.en<18446744073709551616
 co:h.co<18446744073709551616
 inn:h.inn<256
 out:h.out<256
 kd:h.kd<256
 z0 : -9223372036854775808≤h.z0∧h.z0≤9223372036854775807
 z1 : -9223372036854775808≤h.z1∧h.z1≤9223372036854775807
 x0 : -9223372036854775808≤h.x0∧h.x0≤9223372036854775807
 y0 : -9223372036854775808≤h.y0∧h.y0≤9223372036854775807
 x1 : -9223372036854775808≤h.x1∧h.x1≤9223372036854775807
 y1 : -9223372036854775808≤h.y1∧h.y1≤9223372036854775807
 zo : -9223372036854775808≤h.zo∧h.zo≤9223372036854775807
 lo : -9223372036854775808≤h.lo∧h.lo≤9223372036854775807
 la : -9223372036854775808≤h.la∧h.la≤9223372036854775807
theorem Qax{w:World}{b:Nat}{h:Hdr}{T:TypeId}(k:w.heap[b]?=some (.cells (QbF h) T (0,0)))(i:Nat)(v:Value)(hv:(QbF h)[i]?=some v):w.cell? ⟨b,i,none⟩=some v:=by
 unfold World.cell?;rw [k];exact hv
theorem Qf1(w:World)(h:Hdr)(T:TypeId):Below w.heap.size w (w.alloc (.cells #[.int .u64 (h.rf:Nat),.int .u64 (h.rl:Nat),.int .u64 (h.mf:Nat),.int .u64 (h.ml:Nat),.int .u64 (h.lf:Nat),.int .u64 (h.ll:Nat),.int .u64 (h.df:Nat),.int .u64 (h.dl:Nat),.int .u64 (h.ad:Nat),.int .u64 (h.en:Nat),.int .u64 (h.co:Nat),.bool h.cl,.int .u8 (h.inn:Nat),.int .u8 (h.out:Nat),.int .u8 (h.kd:Nat),.int .i64 h.z0,.int .i64 h.z1,.int .i64 h.x0,.int .i64 h.y0,.int .i64 h.x1,.int .i64 h.y1,.int .i64 h.zo,.int .i64 h.lo,.int .i64 h.la] T)):=(Below.refl _ _).alloc (Nat.le_refl _) _
theorem QkP(w:World)(h:Hdr)(T:TypeId):(w.alloc (.cells #[.int .u64 (h.rf:Nat),.int .u64 (h.rl:Nat),.int .u64 (h.mf:Nat),.int .u64 (h.ml:Nat),.int .u64 (h.lf:Nat),.int .u64 (h.ll:Nat),.int .u64 (h.df:Nat),.int .u64 (h.dl:Nat),.int .u64 (h.ad:Nat),.int .u64 (h.en:Nat),.int .u64 (h.co:Nat),.bool h.cl,.int .u8 (h.inn:Nat),.int .u8 (h.out:Nat),.int .u8 (h.kd:Nat),.int .i64 h.z0,.int .i64 h.z1,.int .i64 h.x0,.int .i64 h.y0,.int .i64 h.x1,.int .i64 h.y1,.int .i64 h.zo,.int .i64 h.lo,.int .i64 h.la] T)).heap[w.heap.size]?=some (.cells (QbF h) T (0,0)):=heap_alloc_new w _
theorem QcJ{w:World}{b:Nat}{h:Hdr}{T:TypeId}(k:w.heap[b]?=some (.cells (QbF h) T (0,0))):w.cell? ⟨b,0,none⟩=some (.int .u64 (h.rf:Nat))∧w.cell? ⟨b,1,none⟩=some (.int .u64 (h.rl:Nat))∧w.cell? ⟨b,2,none⟩=some (.int .u64 (h.mf:Nat))∧w.cell? ⟨b,3,none⟩=some (.int .u64 (h.ml:Nat))∧w.cell? ⟨b,4,none⟩=some (.int .u64 (h.lf:Nat))∧w.cell? ⟨b,5,none⟩=some (.int .u64 (h.ll:Nat))∧w.cell? ⟨b,6,none⟩=some (.int .u64 (h.df:Nat))∧w.cell? ⟨b,7,none⟩=some (.int .u64 (h.dl:Nat))∧w.cell? ⟨b,8,none⟩=some (.int .u64 (h.ad:Nat))∧w.cell? ⟨b,9,none⟩=some (.int .u64 (h.en:Nat))∧w.cell? ⟨b,10,none⟩=some (.int .u64 (h.co:Nat))∧w.cell? ⟨b,11,none⟩=some (.bool h.cl)∧w.cell? ⟨b,12,none⟩=some (.int .u8 (h.inn:Nat))∧w.cell? ⟨b,13,none⟩=some (.int .u8 (h.out:Nat))∧w.cell? ⟨b,14,none⟩=some (.int .u8 (h.kd:Nat))∧w.cell? ⟨b,15,none⟩=some (.int .i64 h.z0)∧w.cell? ⟨b,16,none⟩=some (.int .i64 h.z1)∧w.cell? ⟨b,17,none⟩=some (.int .i64 h.x0)∧w.cell? ⟨b,18,none⟩=some (.int .i64 h.y0)∧w.cell? ⟨b,19,none⟩=some (.int .i64 h.x1)∧w.cell? ⟨b,20,none⟩=some (.int .i64 h.y1)∧w.cell? ⟨b,21,none⟩=some (.int .i64 h.zo)∧w.cell? ⟨b,22,none⟩=some (.int .i64 h.lo)∧w.cell? ⟨b,23,none⟩=some (.int .i64 h.la):=by
 refine ⟨?_,?_,?_,?_,?_,?_,?_,?_,?_,?_,?_,?_,?_,?_,?_,?_,?_,?_,?_,?_,?_,?_,?_,?_⟩
 all_goals exact Qax k _ _ rfl
theorem QlJ(w:World)(b:Nat)(t:TypeId)(x0 x1 x2 x3 x4 x5 x6 x7:Value)(h:w.heap[b]?=some (.cells #[x0,x1,x2,x3,x4,x5,x6,x7] t (0,0))):(loadVar 165 ⟨b,0,none⟩).run Tryz.prog w = .ok (.agg #[x0,x1,x2,x3,x4,x5,x6,x7]) w:=
 run_loadVar_row w b t 165 #[x0,x1,x2,x3,x4,x5,x6,x7] (0,0) _ h Tryz.underlying165 rfl (by kernel_rfl)
theorem Qeo(h:Hdr)(w:World):Calls Tryz.prog 125 #[.agg #[.int .u64 (h.rf:Nat),.int .u64 (h.rl:Nat),.int .u64 (h.mf:Nat),.int .u64 (h.ml:Nat),.int .u64 (h.lf:Nat),.int .u64 (h.ll:Nat),.int .u64 (h.df:Nat),.int .u64 (h.dl:Nat),.int .u64 (h.ad:Nat),.int .u64 (h.en:Nat),.int .u64 (h.co:Nat),.bool h.cl,.int .u8 (h.inn:Nat),.int .u8 (h.out:Nat),.int .u8 (h.kd:Nat),.int .i64 h.z0,.int .i64 h.z1,.int .i64 h.x0,.int .i64 h.y0,.int .i64 h.x1,.int .i64 h.y1,.int .i64 h.zo,.int .i64 h.lo,.int .i64 h.la]] w fun e w'=>e = .returned (.agg #[.int .u64 (h.rf:Nat),.int .u64 (h.rl:Nat),.int .u64 (h.mf:Nat),.int .u64 (h.ml:Nat),.int .u64 (h.lf:Nat),.int .u64 (h.ll:Nat),.int .u64 (h.df:Nat),.int .u64 (h.dl:Nat)])∧Below w.heap.size w w':=by
 obtain ⟨c0,c1,c2,c3,c4,c5,c6,c7,c8,c9,c10,c11,c12,c13,c14,c15,c16,c17,c18,c19,c20,c21,c22,c23⟩:=QcJ (QkP w h 78);have HN:=hid (heap_alloc_new (w.alloc (.cells #[.int .u64 (h.rf:Nat),.int .u64 (h.rl:Nat),.int .u64 (h.mf:Nat),.int .u64 (h.ml:Nat),.int .u64 (h.lf:Nat),.int .u64 (h.ll:Nat),.int .u64 (h.df:Nat),.int .u64 (h.dl:Nat),.int .u64 (h.ad:Nat),.int .u64 (h.en:Nat),.int .u64 (h.co:Nat),.bool h.cl,.int .u8 (h.inn:Nat),.int .u8 (h.out:Nat),.int .u8 (h.kd:Nat),.int .i64 h.z0,.int .i64 h.z1,.int .i64 h.x0,.int .i64 h.y0,.int .i64 h.x1,.int .i64 h.y1,.int .i64 h.zo,.int .i64 h.lo,.int .i64 h.la] 78)) (.cells #[.int .u64 (h.rf:Nat),.int .u64 (h.rl:Nat),.int .u64 (h.mf:Nat),.int .u64 (h.ml:Nat),.int .u64 (h.lf:Nat),.int .u64 (h.ll:Nat),.int .u64 (h.df:Nat),.int .u64 (h.dl:Nat)] 165));have HB:=hid (Qf1 w h 78);go_enter Tryz.func125,Tryz.ntmps125;go_wp2_with fail;have hn:=HN.out;rw [World.size_alloc] at hn;refine Qeb (A:=⟨w.heap.size+1,0,none⟩) rfl (QlJ _ _ _ _ _ _ _ _ _ _ _ hn) rfl rfl ?_;exact ⟨rfl,HB.out.alloc HB.out.size _⟩
theorem Qwj(h:Hdr)(hs:Qd6 h=false):QjM h=8:=by unfold QjM;rw [if_pos hs]
theorem Qzm(h:Hdr)(hs:Qd6 h=true):QjM h=if 4<h.inn∨4<h.out∨5<h.kd then 14
 else if (inB 0 26 h.z0&&(inB 0 26 h.z1&&inB 0 26 h.zo))=false∨h.z1<h.z0 then 8
 else if (inB (-1800000000) 1800000000 h.x0&&(inB (-1800000000) 1800000000 h.x1&&inB (-1800000000) 1800000000 h.lo))=false∨h.x1<h.x0 then 8
 else if (inB (-900000000) 900000000 h.y0&&(inB (-900000000) 900000000 h.y1&&inB (-900000000) 900000000 h.la))=false∨h.y1<h.y0 then 8
 else 0:=by
 unfold QjM;rw [if_neg (by rw [hs];decide)]
theorem QkI{p:Prop}[Decidable p]{a b V:Nat}(h:(if p then a else b)=V):(p→V=a)∧(¬p→b=V):=by
 by_cases hp:p
 ·rw [if_pos hp] at h;exact ⟨fun _=>h.symm,fun hn=>absurd hp hn⟩
 ·rw [if_neg hp] at h;exact ⟨fun h1=>absurd h1 hp,fun _=>h⟩
theorem Qo1(h:Hdr):∀ w,(Instr.index 165 (.agg #[.int .u64 (h.rf:Nat),.int .u64 (h.rl:Nat),.int .u64 (h.mf:Nat),.int .u64 (h.ml:Nat),.int .u64 (h.lf:Nat),.int .u64 (h.ll:Nat),.int .u64 (h.df:Nat),.int .u64 (h.dl:Nat)]) (.int .i64 0)).run Tryz.prog w = .ok (.agg #[.int .u64 (h.rf:Nat),.int .u64 (h.rl:Nat)]) w:=fun _=>by kernel_rfl
theorem Qo0(h:Hdr):∀ w,(Instr.index 165 (.agg #[.int .u64 (h.rf:Nat),.int .u64 (h.rl:Nat),.int .u64 (h.mf:Nat),.int .u64 (h.ml:Nat),.int .u64 (h.lf:Nat),.int .u64 (h.ll:Nat),.int .u64 (h.df:Nat),.int .u64 (h.dl:Nat)]) (.int .i64 1)).run Tryz.prog w = .ok (.agg #[.int .u64 (h.mf:Nat),.int .u64 (h.ml:Nat)]) w:=fun _=>by kernel_rfl
theorem QoZ(h:Hdr):∀ w,(Instr.index 165 (.agg #[.int .u64 (h.rf:Nat),.int .u64 (h.rl:Nat),.int .u64 (h.mf:Nat),.int .u64 (h.ml:Nat),.int .u64 (h.lf:Nat),.int .u64 (h.ll:Nat),.int .u64 (h.df:Nat),.int .u64 (h.dl:Nat)]) (.int .i64 2)).run Tryz.prog w = .ok (.agg #[.int .u64 (h.lf:Nat),.int .u64 (h.ll:Nat)]) w:=fun _=>by kernel_rfl
theorem QoY(h:Hdr):∀ w,(Instr.index 165 (.agg #[.int .u64 (h.rf:Nat),.int .u64 (h.rl:Nat),.int .u64 (h.mf:Nat),.int .u64 (h.ml:Nat),.int .u64 (h.lf:Nat),.int .u64 (h.ll:Nat),.int .u64 (h.df:Nat),.int .u64 (h.dl:Nat)]) (.int .i64 3)).run Tryz.prog w = .ok (.agg #[.int .u64 (h.df:Nat),.int .u64 (h.dl:Nat)]) w:=fun _=>by kernel_rfl
theorem QgQ(h:Hdr)(ok:HdrOk h)(w:World):Calls Tryz.prog 124 #[.agg #[.int .u64 (h.rf:Nat),.int .u64 (h.rl:Nat),.int .u64 (h.mf:Nat),.int .u64 (h.ml:Nat),.int .u64 (h.lf:Nat),.int .u64 (h.ll:Nat),.int .u64 (h.df:Nat),.int .u64 (h.dl:Nat),.int .u64 (h.ad:Nat),.int .u64 (h.en:Nat),.int .u64 (h.co:Nat),.bool h.cl,.int .u8 (h.inn:Nat),.int .u8 (h.out:Nat),.int .u8 (h.kd:Nat),.int .i64 h.z0,.int .i64 h.z1,.int .i64 h.x0,.int .i64 h.y0,.int .i64 h.x1,.int .i64 h.y1,.int .i64 h.zo,.int .i64 h.lo,.int .i64 h.la]] w fun e w'=>e = .returned (.int .i64 (QjM h:Nat))∧Below w.heap.size w w':=by
 have HB0:=hid (Qf1 w h 78);have HX0:=hid (QkP w h 78);have HSc:=hid (fun W=>Qeo h W)
 obtain ⟨V,hV⟩:∃ V,QjM h=V:=⟨_,rfl⟩;have hV8:Qd6 h=false→V=8:=fun hs=>by rw [←hV];exact Qwj h hs
 have HV1:=hid (fun hs=>(Qzm h hs).symm.trans hV)
 rw [hV];clear hV;go_enter Tryz.func124,Tryz.ntmps124
 iterate 8 go_step
 generalize w.alloc (.cells #[.int .u64 (h.rf:Nat),.int .u64 (h.rl:Nat),.int .u64 (h.mf:Nat),.int .u64 (h.ml:Nat),.int .u64 (h.lf:Nat),.int .u64 (h.ll:Nat),.int .u64 (h.df:Nat),.int .u64 (h.dl:Nat),.int .u64 (h.ad:Nat),.int .u64 (h.en:Nat),.int .u64 (h.co:Nat),.bool h.cl,.int .u8 (h.inn:Nat),.int .u8 (h.out:Nat),.int .u8 (h.kd:Nat),.int .i64 h.z0,.int .i64 h.z1,.int .i64 h.x0,.int .i64 h.y0,.int .i64 h.x1,.int .i64 h.y1,.int .i64 h.zo,.int .i64 h.lo,.int .i64 h.la] 78)=W0 at HB0 HX0 ⊢;generalize w.heap.size=b0 at HX0 ⊢;go_wp2_with (refine wpList_load_row rfl 78 (.tmp 1) rfl b0 rfl 78 #[.int .u64 (h.rf:Nat),.int .u64 (h.rl:Nat),.int .u64 (h.mf:Nat),.int .u64 (h.ml:Nat),.int .u64 (h.lf:Nat),.int .u64 (h.ll:Nat),.int .u64 (h.df:Nat),.int .u64 (h.dl:Nat),.int .u64 (h.ad:Nat),.int .u64 (h.en:Nat),.int .u64 (h.co:Nat),.bool h.cl,.int .u8 (h.inn:Nat),.int .u8 (h.out:Nat),.int .u8 (h.kd:Nat),.int .i64 h.z0,.int .i64 h.z1,.int .i64 h.x0,.int .i64 h.y0,.int .i64 h.x1,.int .i64 h.y1,.int .i64 h.zo,.int .i64 h.lo,.int .i64 h.la] (0,0) _ HX0.out Tryz.underlying78 rfl (by kernel_rfl) ?_)
 refine (HSc.out _).mono ?_;rintro e w1 ⟨rfl,hb1⟩;have HB1:=hid hb1;clear hb1;have i0:=Qo1 h;have i1:=Qo0 h;have i2:=QoZ h;have i3:=QoY h;go_wp2_with fail;go_loopw [7] (fun i wr=>∃ k:Nat,k≤4∧i = .int .i64 k∧Hid (1≤k→QmL h.rf h.rl=true)∧Hid (2≤k→QmL h.mf h.ml=true)∧Hid (3≤k→QmL h.lf h.ll=true)∧Hid (4≤k→QmL h.df h.dl=true)∧Hid (Below W0.heap.size W0 wr)) (fun i _=>4-(intOf i).toNat)
 case atStart=>exact ⟨0,by omega,rfl,hid (fun h=>absurd h (by decide)),hid (fun h=>absurd h (by decide)),hid (fun h=>absurd h (by decide)),hid (fun h=>absurd h (by decide)),HB1⟩
 case round=>
  clear HB1
  as_aux_lemma=>
   obtain ⟨k,hk,rfl,S0,S1,S2,S3,HBr⟩:=hrel;have hkk:k=0∨k=1∨k=2∨k=3∨k=4:=by omega
   rcases hkk with rfl|rfl|rfl|rfl|rfl
   ·cases hb:QmL h.rf h.rl with
    |true=>
     as_aux_lemma=>
      have HF:=hid (fun W=>QbA h.rf h.rl true hb W ok.rf ok.rl)
      have HA:=hid hb;have HBn:=hid (Qaa HBr.out (Qai wr (.int .u64 (h.rf:Nat)) (.int .u64 (h.rl:Nat)) 76));obtain ⟨s0,s1⟩:=QaA wr (.int .u64 (h.rf:Nat)) (.int .u64 (h.rl:Nat)) 76;clear hb;go_wp2_with fail;refine (HF.out _).mono ?_;rintro e w2 ⟨rfl,hb2⟩;have HB2:=hid (Qaa HBn.out hb2);clear hb2;go_wp2_with fail;go_roundw
      case rel=>exact ⟨1,by omega,by go_num,hid (fun _=>by first|exact HA.out|trivial),hid (fun h=>absurd h (by decide)),hid (fun h=>absurd h (by decide)),hid (fun h=>absurd h (by decide)),HB2⟩
      case measure=>simp [intOf]
    |false=>
     as_aux_lemma=>
      have HF:=hid (fun W=>QbA h.rf h.rl false hb W ok.rf ok.rl)
      have HV:Hid (V=8):=hid (hV8 (by unfold Qd6;rw [hb];simp))
      have HBn:=hid (Qaa HBr.out (Qai wr (.int .u64 (h.rf:Nat)) (.int .u64 (h.rl:Nat)) 76));obtain ⟨s0,s1⟩:=QaA wr (.int .u64 (h.rf:Nat)) (.int .u64 (h.rl:Nat)) 76;clear hb;go_wp2_with fail;refine (HF.out _).mono ?_;rintro e w2 ⟨rfl,hb2⟩;have HB2:=hid (Qaa HBn.out hb2);clear hb2;go_wp2_with fail;go_ret;exact ⟨by rw [HV.out]<;>rfl,Qaa HB0.out HB2.out⟩
   ·cases hb:QmL h.mf h.ml with
    |true=>
     as_aux_lemma=>
      have HF:=hid (fun W=>QbA h.mf h.ml true hb W ok.mf ok.ml)
      have HA:=hid hb;have HBn:=hid (Qaa HBr.out (Qai wr (.int .u64 (h.mf:Nat)) (.int .u64 (h.ml:Nat)) 76));obtain ⟨s0,s1⟩:=QaA wr (.int .u64 (h.mf:Nat)) (.int .u64 (h.ml:Nat)) 76;clear hb;go_wp2_with fail;refine (HF.out _).mono ?_;rintro e w2 ⟨rfl,hb2⟩;have HB2:=hid (Qaa HBn.out hb2);clear hb2;go_wp2_with fail;go_roundw
      case rel=>exact ⟨2,by omega,by go_num,hid (fun _=>S0.out (by decide)),hid (fun _=>by first|exact HA.out|trivial),hid (fun h=>absurd h (by decide)),hid (fun h=>absurd h (by decide)),HB2⟩
      case measure=>simp [intOf]
    |false=>
     as_aux_lemma=>
      have HF:=hid (fun W=>QbA h.mf h.ml false hb W ok.mf ok.ml)
      have HV:Hid (V=8):=hid (hV8 (by unfold Qd6;rw [S0.out (by decide),hb];simp))
      have HBn:=hid (Qaa HBr.out (Qai wr (.int .u64 (h.mf:Nat)) (.int .u64 (h.ml:Nat)) 76));obtain ⟨s0,s1⟩:=QaA wr (.int .u64 (h.mf:Nat)) (.int .u64 (h.ml:Nat)) 76;clear hb;go_wp2_with fail;refine (HF.out _).mono ?_;rintro e w2 ⟨rfl,hb2⟩;have HB2:=hid (Qaa HBn.out hb2);clear hb2;go_wp2_with fail;go_ret;exact ⟨by rw [HV.out]<;>rfl,Qaa HB0.out HB2.out⟩
   ·cases hb:QmL h.lf h.ll with
    |true=>
     as_aux_lemma=>
      have HF:=hid (fun W=>QbA h.lf h.ll true hb W ok.lf ok.ll)
      have HA:=hid hb;have HBn:=hid (Qaa HBr.out (Qai wr (.int .u64 (h.lf:Nat)) (.int .u64 (h.ll:Nat)) 76));obtain ⟨s0,s1⟩:=QaA wr (.int .u64 (h.lf:Nat)) (.int .u64 (h.ll:Nat)) 76;clear hb;go_wp2_with fail;refine (HF.out _).mono ?_;rintro e w2 ⟨rfl,hb2⟩;have HB2:=hid (Qaa HBn.out hb2);clear hb2;go_wp2_with fail;go_roundw
      case rel=>exact ⟨3,by omega,by go_num,hid (fun _=>S0.out (by decide)),hid (fun _=>S1.out (by decide)),hid (fun _=>by first|exact HA.out|trivial),hid (fun h=>absurd h (by decide)),HB2⟩
      case measure=>simp [intOf]
    |false=>
     as_aux_lemma=>
      have HF:=hid (fun W=>QbA h.lf h.ll false hb W ok.lf ok.ll)
      have HV:Hid (V=8):=hid (hV8 (by unfold Qd6;rw [S0.out (by decide),S1.out (by decide),hb];simp))
      have HBn:=hid (Qaa HBr.out (Qai wr (.int .u64 (h.lf:Nat)) (.int .u64 (h.ll:Nat)) 76));obtain ⟨s0,s1⟩:=QaA wr (.int .u64 (h.lf:Nat)) (.int .u64 (h.ll:Nat)) 76;clear hb;go_wp2_with fail;refine (HF.out _).mono ?_;rintro e w2 ⟨rfl,hb2⟩;have HB2:=hid (Qaa HBn.out hb2);clear hb2;go_wp2_with fail;go_ret;exact ⟨by rw [HV.out]<;>rfl,Qaa HB0.out HB2.out⟩
   ·cases hb:QmL h.df h.dl with
    |true=>
     as_aux_lemma=>
      have HF:=hid (fun W=>QbA h.df h.dl true hb W ok.df ok.dl)
      have HA:=hid hb;have HBn:=hid (Qaa HBr.out (Qai wr (.int .u64 (h.df:Nat)) (.int .u64 (h.dl:Nat)) 76));obtain ⟨s0,s1⟩:=QaA wr (.int .u64 (h.df:Nat)) (.int .u64 (h.dl:Nat)) 76;clear hb;go_wp2_with fail;refine (HF.out _).mono ?_;rintro e w2 ⟨rfl,hb2⟩;have HB2:=hid (Qaa HBn.out hb2);clear hb2;go_wp2_with fail;go_roundw
      case rel=>exact ⟨4,by omega,by go_num,hid (fun _=>S0.out (by decide)),hid (fun _=>S1.out (by decide)),hid (fun _=>S2.out (by decide)),hid (fun _=>by first|exact HA.out|trivial),HB2⟩
      case measure=>simp [intOf]
    |false=>
     as_aux_lemma=>
      have HF:=hid (fun W=>QbA h.df h.dl false hb W ok.df ok.dl)
      have HV:Hid (V=8):=hid (hV8 (by unfold Qd6;rw [S0.out (by decide),S1.out (by decide),S2.out (by decide),hb];simp))
      have HBn:=hid (Qaa HBr.out (Qai wr (.int .u64 (h.df:Nat)) (.int .u64 (h.dl:Nat)) 76));obtain ⟨s0,s1⟩:=QaA wr (.int .u64 (h.df:Nat)) (.int .u64 (h.dl:Nat)) 76;clear hb;go_wp2_with fail;refine (HF.out _).mono ?_;rintro e w2 ⟨rfl,hb2⟩;have HB2:=hid (Qaa HBn.out hb2);clear hb2;go_wp2_with fail;go_ret;exact ⟨by rw [HV.out]<;>rfl,Qaa HB0.out HB2.out⟩
   ·as_aux_lemma=>
    have hV1:=HV1.out (by unfold Qd6;rw [S0.out (by decide),S1.out (by decide),S2.out (by decide),S3.out (by decide)];rfl)
    obtain ⟨hVk,hVk_⟩:=QkI hV1;have HXr:=hid (Qae HX0.out HBr.out);have e0:wr.cell? ⟨b0,12,none⟩=some (.int .u8 (h.inn:Nat)):=Qax HXr.out 12 _ rfl;have e1:wr.cell? ⟨b0,13,none⟩=some (.int .u8 (h.out:Nat)):=Qax HXr.out 13 _ rfl;have e2:wr.cell? ⟨b0,14,none⟩=some (.int .u8 (h.kd:Nat)):=Qax HXr.out 14 _ rfl;clear hV8 hV1 i0 i1 i2 i3
    by_cases g0:4<h.inn
    ·have HV:Hid (V=14):=hid (hVk (.inl g0))
     have u1:decide ((h.inn:Int)>4)=true:=decide_eq_true (by omega)
     have u2:decide (4<h.inn)=true:=decide_eq_true g0;clear hVk hVk_ g0;go_wp2_with fail;go_ret;exact ⟨by rw [HV.out]<;>rfl,Qaa HB0.out HBr.out⟩
    have u1:decide ((h.inn:Int)>4)=false:=decide_eq_false (by omega)
    have u2:decide (4<h.inn)=false:=decide_eq_false g0
    by_cases g1:4<h.out
    ·have HV:Hid (V=14):=hid (hVk (.inr (.inl g1)))
     have u3:decide ((h.out:Int)>4)=true:=decide_eq_true (by omega)
     have u4:decide (4<h.out)=true:=decide_eq_true g1;clear hVk hVk_ g0 g1;go_wp2_with fail;go_ret;exact ⟨by rw [HV.out]<;>rfl,Qaa HB0.out HBr.out⟩
    have u3:decide ((h.out:Int)>4)=false:=decide_eq_false (by omega)
    have u4:decide (4<h.out)=false:=decide_eq_false g1
    by_cases g2:5<h.kd
    ·have HV:Hid (V=14):=hid (hVk (.inr (.inr g2)))
     have u5:decide ((h.kd:Int)>5)=true:=decide_eq_true (by omega)
     have u6:decide (5<h.kd)=true:=decide_eq_true g2;clear hVk hVk_ g0 g1 g2;go_wp2_with fail;go_ret;exact ⟨by rw [HV.out]<;>rfl,Qaa HB0.out HBr.out⟩
    have u5:decide ((h.kd:Int)>5)=false:=decide_eq_false (by omega)
    have u6:decide (5<h.kd)=false:=decide_eq_false g2;have hV2:=hVk_ (by rintro (e|e|e);exact g0 e;exact g1 e;exact g2 e)
    clear hVk hVk_ g0 g1 g2;obtain ⟨hV2,hV2_⟩:=QkI hV2;obtain ⟨wv2,hwv⟩:∃ W,W=wr:=⟨_,rfl⟩;rw [←hwv] at HBr HXr e0 e1 e2 ⊢;clear hwv;have HX2:=HXr;have HBv2:=HBr;clear HXr HBr;have q0:wv2.cell? ⟨b0,15,none⟩=some (.int .i64 h.z0):=Qax HX2.out 15 _ rfl;have q1:wv2.cell? ⟨b0,16,none⟩=some (.int .i64 h.z1):=Qax HX2.out 16 _ rfl;have q2:wv2.cell? ⟨b0,21,none⟩=some (.int .i64 h.zo):=Qax HX2.out 21 _ rfl;have HNn2:=hid (heap_alloc_new wv2 (.cells #[.int .i64 h.z0,.int .i64 h.z1,.int .i64 h.zo] 3));have hbn2:=QbR wv2 (.int .i64 h.z0) (.int .i64 h.z1) (.int .i64 h.zo) 3;have QB9:=hid (Qae HX2.out hbn2);have QCe:=hid (Qaa HBv2.out hbn2);have HWi:=hid (QdU (0) 26 h.z0 h.z1 h.zo _ rfl _ _ HNn2.out);clear hbn2;cases hin:(inB (0) 26 h.z0&&(inB (0) 26 h.z1&&inB (0) 26 h.zo)) with
    |false=>
     as_aux_lemma=>
      rw [hin] at HWi;have HV:Hid (V=8):=hid (hV2 (.inl hin));clear hin;go_wp2_with fail;refine HWi.out.mono ?_;rintro e w2 ⟨rfl,hw2⟩;obtain rfl:=hw2.symm;clear hw2;go_wp2_with fail;go_ret;exact ⟨by rw [HV.out]<;>rfl,Qaa HB0.out QCe.out⟩
    |true=>
     rw [hin] at HWi;have r0:(wv2.alloc (.cells #[.int .i64 h.z0,.int .i64 h.z1,.int .i64 h.zo] 3)).cell? ⟨b0,15,none⟩=some (.int .i64 h.z0):=Qax QB9.out 15 _ rfl;have r1:(wv2.alloc (.cells #[.int .i64 h.z0,.int .i64 h.z1,.int .i64 h.zo] 3)).cell? ⟨b0,16,none⟩=some (.int .i64 h.z1):=Qax QB9.out 16 _ rfl
     by_cases hle:h.z1<h.z0
     ·as_aux_lemma=>
       have HV:Hid (V=8):=hid (hV2 (.inr hle));have u1:decide (h.z0>h.z1)=true:=decide_eq_true hle;have u2:decide (h.z1<h.z0)=true:=decide_eq_true hle;clear hin hle;go_wp2_with fail;refine HWi.out.mono ?_;rintro e w2 ⟨rfl,hw2⟩;obtain rfl:=hw2.symm;clear hw2;go_wp2_with fail;go_ret;exact ⟨by rw [HV.out]<;>rfl,Qaa HB0.out QCe.out⟩
     ·as_aux_lemma=>
      have HVn:=hid (hV2_ (by rintro (e|e);exact absurd (hin.symm.trans e) (by decide);exact hle e))
      have u1:decide (h.z0>h.z1)=false:=decide_eq_false hle;have u2:decide (h.z1<h.z0)=false:=decide_eq_false hle;clear hin hle hV2 hV2_;go_wp2_with fail;refine HWi.out.mono ?_;rintro e w2 ⟨rfl,hw2⟩;obtain rfl:=hw2.symm;clear hw2 q0 q1 q2;obtain ⟨hV3,hV3_⟩:=QkI HVn.out;clear HVn;generalize wv2.alloc (.cells #[.int .i64 h.z0,.int .i64 h.z1,.int .i64 h.zo] 3)=wv3 at QB9 QCe r0 r1 ⊢;have HX3:=QB9;have HBv3:=QCe;clear QB9 QCe HNn2 HWi;have q0:wv3.cell? ⟨b0,17,none⟩=some (.int .i64 h.x0):=Qax HX3.out 17 _ rfl;have q1:wv3.cell? ⟨b0,19,none⟩=some (.int .i64 h.x1):=Qax HX3.out 19 _ rfl;have q2:wv3.cell? ⟨b0,22,none⟩=some (.int .i64 h.lo):=Qax HX3.out 22 _ rfl;have HNn3:=hid (heap_alloc_new wv3 (.cells #[.int .i64 h.x0,.int .i64 h.x1,.int .i64 h.lo] 3));have hbn3:=QbR wv3 (.int .i64 h.x0) (.int .i64 h.x1) (.int .i64 h.lo) 3;have QB8:=hid (Qae HX3.out hbn3);have QCd:=hid (Qaa HBv3.out hbn3);have HWi:=hid (QdU (-1800000000) 1800000000 h.x0 h.x1 h.lo _ rfl _ _ HNn3.out);clear hbn3;cases hin:(inB (-1800000000) 1800000000 h.x0&&(inB (-1800000000) 1800000000 h.x1&&inB (-1800000000) 1800000000 h.lo)) with
      |false=>
       as_aux_lemma=>
        rw [hin] at HWi;have HV:Hid (V=8):=hid (hV3 (.inl hin));clear hin;go_wp2_with fail;refine HWi.out.mono ?_;rintro e w2 ⟨rfl,hw2⟩;obtain rfl:=hw2.symm;clear hw2;go_wp2_with fail;go_ret;exact ⟨by rw [HV.out]<;>rfl,Qaa HB0.out QCd.out⟩
      |true=>
       rw [hin] at HWi;have r0:(wv3.alloc (.cells #[.int .i64 h.x0,.int .i64 h.x1,.int .i64 h.lo] 3)).cell? ⟨b0,17,none⟩=some (.int .i64 h.x0):=Qax QB8.out 17 _ rfl;have r1:(wv3.alloc (.cells #[.int .i64 h.x0,.int .i64 h.x1,.int .i64 h.lo] 3)).cell? ⟨b0,19,none⟩=some (.int .i64 h.x1):=Qax QB8.out 19 _ rfl
       by_cases hle:h.x1<h.x0
       ·as_aux_lemma=>
         have HV:Hid (V=8):=hid (hV3 (.inr hle));have u1:decide (h.x0>h.x1)=true:=decide_eq_true hle;have u2:decide (h.x1<h.x0)=true:=decide_eq_true hle;clear hin hle;go_wp2_with fail;refine HWi.out.mono ?_;rintro e w2 ⟨rfl,hw2⟩;obtain rfl:=hw2.symm;clear hw2;go_wp2_with fail;go_ret;exact ⟨by rw [HV.out]<;>rfl,Qaa HB0.out QCd.out⟩
       ·as_aux_lemma=>
        have HVn:=hid (hV3_ (by rintro (e|e);exact absurd (hin.symm.trans e) (by decide);exact hle e))
        have u1:decide (h.x0>h.x1)=false:=decide_eq_false hle;have u2:decide (h.x1<h.x0)=false:=decide_eq_false hle;clear hin hle hV3 hV3_;go_wp2_with fail;refine HWi.out.mono ?_;rintro e w2 ⟨rfl,hw2⟩;obtain rfl:=hw2.symm;clear hw2 q0 q1 q2;obtain ⟨hV4,hV4_⟩:=QkI HVn.out;clear HVn;generalize wv3.alloc (.cells #[.int .i64 h.x0,.int .i64 h.x1,.int .i64 h.lo] 3)=wv4 at QB8 QCd r0 r1 ⊢;have HX4:=QB8;have HBv4:=QCd;clear QB8 QCd HNn3 HWi;have q0:wv4.cell? ⟨b0,18,none⟩=some (.int .i64 h.y0):=Qax HX4.out 18 _ rfl;have q1:wv4.cell? ⟨b0,20,none⟩=some (.int .i64 h.y1):=Qax HX4.out 20 _ rfl;have q2:wv4.cell? ⟨b0,23,none⟩=some (.int .i64 h.la):=Qax HX4.out 23 _ rfl;have HNn4:=hid (heap_alloc_new wv4 (.cells #[.int .i64 h.y0,.int .i64 h.y1,.int .i64 h.la] 3));have hbn4:=QbR wv4 (.int .i64 h.y0) (.int .i64 h.y1) (.int .i64 h.la) 3;have HXn4:=hid (Qae HX4.out hbn4);have HBn4:=hid (Qaa HBv4.out hbn4);have HWi:=hid (QdU (-900000000) 900000000 h.y0 h.y1 h.la _ rfl _ _ HNn4.out);clear hbn4;cases hin:(inB (-900000000) 900000000 h.y0&&(inB (-900000000) 900000000 h.y1&&inB (-900000000) 900000000 h.la)) with
        |false=>
         as_aux_lemma=>
          rw [hin] at HWi;have HV:Hid (V=8):=hid (hV4 (.inl hin));clear hin;go_wp2_with fail;refine HWi.out.mono ?_;rintro e w2 ⟨rfl,hw2⟩;obtain rfl:=hw2.symm;clear hw2;go_wp2_with fail;go_ret;exact ⟨by rw [HV.out]<;>rfl,Qaa HB0.out HBn4.out⟩
        |true=>
         rw [hin] at HWi;have r0:(wv4.alloc (.cells #[.int .i64 h.y0,.int .i64 h.y1,.int .i64 h.la] 3)).cell? ⟨b0,18,none⟩=some (.int .i64 h.y0):=Qax HXn4.out 18 _ rfl;have r1:(wv4.alloc (.cells #[.int .i64 h.y0,.int .i64 h.y1,.int .i64 h.la] 3)).cell? ⟨b0,20,none⟩=some (.int .i64 h.y1):=Qax HXn4.out 20 _ rfl
         by_cases hle:h.y1<h.y0
         ·as_aux_lemma=>
           have HV:Hid (V=8):=hid (hV4 (.inr hle));have u1:decide (h.y0>h.y1)=true:=decide_eq_true hle;have u2:decide (h.y1<h.y0)=true:=decide_eq_true hle;clear hin hle;go_wp2_with fail;refine HWi.out.mono ?_;rintro e w2 ⟨rfl,hw2⟩;obtain rfl:=hw2.symm;clear hw2;go_wp2_with fail;go_ret;exact ⟨by rw [HV.out]<;>rfl,Qaa HB0.out HBn4.out⟩
         ·as_aux_lemma=>
          have HVn:=hid (hV4_ (by rintro (e|e);exact absurd (hin.symm.trans e) (by decide);exact hle e))
          have u1:decide (h.y0>h.y1)=false:=decide_eq_false hle;have u2:decide (h.y1<h.y0)=false:=decide_eq_false hle;clear hin hle hV4 hV4_;go_wp2_with fail;refine HWi.out.mono ?_;rintro e w2 ⟨rfl,hw2⟩;obtain rfl:=hw2.symm;clear hw2 q0 q1 q2;have HV0:Hid (V=0):=hid HVn.out.symm;go_wp2_with fail;go_ret;exact ⟨by rw [HV0.out]<;>rfl,Qaa HB0.out HBn4.out⟩
end
section
open Go.RowKit
theorem Qy6(L:List UInt8)(h:L.length<127):Qfj L=3:=by unfold Qfj;rw [if_pos h]
theorem Qy5(L:List UInt8)(h:¬L.length<127)(h2:L.take 7≠Qel):Qfj L=12:=by unfold Qfj;rw [if_neg h,if_pos h2]
theorem Qy4(L:List UInt8)(h:¬L.length<127)(h2:L.take 7=Qel)(h3:(L.getD 7 0).toNat≠3):Qfj L=13:=by unfold Qfj;rw [if_neg h,if_neg (fun e=>e h2),if_pos h3]
theorem Qy3(L:List UInt8)(h:¬L.length<127)(h2:L.take 7=Qel)(h3:(L.getD 7 0).toNat=3)(h4:1<atN L 96 1):Qfj L=4:=by unfold Qfj;rw [if_neg h,if_neg (fun e=>e h2),if_neg (fun e=>e h3),if_pos h4]
theorem Qy2(L:List UInt8)(h:¬L.length<127)(h2:L.take 7=Qel)(h3:(L.getD 7 0).toNat=3)(h4:¬1<atN L 96 1):Qfj L=QjM (QmO L):=by unfold Qfj;rw [if_neg h,if_neg (fun e=>e h2),if_neg (fun e=>e h3),if_neg h4]
def QxZ(L:List UInt8):Hdr:=if Qfj L=0 then QmO L else Qw0
theorem QxY(L:List UInt8){E:Nat}(h:Qfj L=E)(h0:E≠0):QbF (QxZ L)=#[.int .u64 0,.int .u64 0,.int .u64 0,.int .u64 0,.int .u64 0,.int .u64 0,.int .u64 0,.int .u64 0,.int .u64 0,.int .u64 0,.int .u64 0,.bool false,.int .u8 0,.int .u8 0,.int .u8 0,.int .i64 0,.int .i64 0,.int .i64 0,.int .i64 0,.int .i64 0,.int .i64 0,.int .i64 0,.int .i64 0,.int .i64 0]:=by
 unfold QxZ;rw [h,if_neg h0];rfl
theorem QkQ(L:List UInt8)(h:Qfj L=0):QbF (QxZ L)=QbF (QmO L):=by
 unfold QxZ;rw [h,if_pos rfl]
theorem Qdv(x:Nat)(h:x<4294967296) : -9223372036854775808≤QiL x∧QiL x≤9223372036854775807:=by
 unfold QiL;split<;>omega
theorem Qcy(L:List UInt8)(a:Nat):atN L a 1<256:=Qpl L a 1
theorem QgC(L:List UInt8)(a:Nat):atN L a 4<4294967296:=Qpl L a 4
theorem Qc7(L:List UInt8)(a:Nat):atN L a 8<18446744073709551616:=Qpl L a 8
theorem Qtk(L:List UInt8):HdrOk (QmO L) where
 rf:=Qc7 _ _
 rl:=Qc7 _ _
 mf:=Qc7 _ _
 ml:=Qc7 _ _
 lf:=Qc7 _ _
 ll:=Qc7 _ _
 df:=Qc7 _ _
 dl:=Qc7 _ _
 ad:=Qc7 _ _
 en:=Qc7 _ _
 co:=Qc7 _ _
 inn:=Qcy _ _
 out:=Qcy _ _
 kd:=Qcy _ _
 z0:=by have:=Qcy L 100;show -9223372036854775808≤((atN L 100 1:Nat):Int)∧((atN L 100 1:Nat):Int)≤9223372036854775807;omega
 z1:=by have:=Qcy L 101;show -9223372036854775808≤((atN L 101 1:Nat):Int)∧((atN L 101 1:Nat):Int)≤9223372036854775807;omega
 x0:=Qdv _ (QgC _ _)
 y0:=Qdv _ (QgC _ _)
 x1:=Qdv _ (QgC _ _)
 y1:=Qdv _ (QgC _ _)
 zo:=by have:=Qcy L 118;show -9223372036854775808≤((atN L 118 1:Nat):Int)∧((atN L 118 1:Nat):Int)≤9223372036854775807;omega
 lo:=Qdv _ (QgC _ _)
 la:=Qdv _ (QgC _ _)
theorem QlH(L:List UInt8):List.isPrefixOf Qel L=decide (L.take 7=Qel):=by
 by_cases h:L.take 7=Qel
 ·rw [decide_eq_true h]
  exact List.isPrefixOf_iff_prefix.2 (List.prefix_iff_eq_take.2 h.symm)
 ·rw [decide_eq_false h]
  cases hp:List.isPrefixOf Qel L with
  |false=>rfl
  |true=>exact absurd (List.prefix_iff_eq_take.1 (List.isPrefixOf_iff_prefix.1 hp)).symm h
theorem QbO{w:World}{b:Nat}{cs:Array Value}{T:TypeId}(k:w.heap[b]?=some (.cells cs T (0,0)))(hc:cs.size=24):(loadVar 78 ⟨b,0,none⟩).run Tryz.prog w = .ok (.agg cs) w:=
 run_loadVar_row w b T 78 cs (0,0) _ k Tryz.underlying78 rfl (by rw [hc];kernel_rfl)
theorem Qba{w0 w:World}{B g:Nat}(h:Below B w0 w)(hg:B≤g)(cs:Array Value):Below B w0 (w.setRow g cs):=
 ⟨h.os,h.tape,h.output,by rw [setRow_size];exact h.size,fun k hk=>(setRow_other _ _ _ _ (by omega)).trans (h.block k hk)⟩
theorem Qat{w:World}{b:Nat}{cs:Array Value}{T:TypeId}{fr:Nat×Nat}(k:w.heap[b]?=some (.cells cs T fr))(i:Nat)(v:Value):(w.setCell ⟨b,i,none⟩ v).heap[b]?=some (.cells (cs.set! i v) T fr):=by
 rw [setCell_eq_setRow w b i cs T fr v k];exact setRow_heap w b cs _ T fr k
theorem Qao{w:World}{b:Nat}{cs:Array Value}{T:TypeId}(k:w.heap[b]?=some (.cells cs T (0,0)))(i:Nat)(v:Value)(hv:cs[i]?=some v):w.cell? ⟨b,i,none⟩=some v∧w.frozen? ⟨b,i,none⟩=false:=by
 constructor
 ·unfold World.cell?;rw [k];exact hv
 ·unfold World.frozen?;rw [k];rfl
theorem Qth(w:World)(s:ByteArray)(cs:Array Value):(((w.alloc (.cells cs 78)).alloc (.cells #[.string s,.int .i64 8,.int .i64 0] 255)).alloc (.cells cs 78)).heap[w.heap.size]?=some (.cells cs 78 (0,0))∧
  Qf4 (((w.alloc (.cells cs 78)).alloc (.cells #[.string s,.int .i64 8,.int .i64 0] 255)).alloc (.cells cs 78)) (w.heap.size+1) s 8∧
  (((w.alloc (.cells cs 78)).alloc (.cells #[.string s,.int .i64 8,.int .i64 0] 255)).alloc (.cells cs 78)).heap[w.heap.size+2]?=some (.cells cs 78 (0,0))∧
  Below w.heap.size w (((w.alloc (.cells cs 78)).alloc (.cells #[.string s,.int .i64 8,.int .i64 0] 255)).alloc (.cells cs 78)):=by
 have h1:=heap_alloc_new w (.cells cs 78);have h2:=heap_alloc_new (w.alloc (.cells cs 78)) (.cells #[.string s,.int .i64 8,.int .i64 0] 255);have h3:=heap_alloc_new ((w.alloc (.cells cs 78)).alloc (.cells #[.string s,.int .i64 8,.int .i64 0] 255)) (.cells cs 78);have e1:(w.alloc (.cells cs 78)).heap.size=w.heap.size+1:=by simp
 have e2:((w.alloc (.cells cs 78)).alloc (.cells #[.string s,.int .i64 8,.int .i64 0] 255)).heap.size=w.heap.size+2:=by simp
 rw [e1] at h2;rw [e2] at h3;refine ⟨(heap_alloc_old _ _ (by rw [e2];omega)).trans ((heap_alloc_old _ _ (by rw [e1];omega)).trans h1),(heap_alloc_old _ _ (by rw [e2];omega)).trans h2,h3,?_⟩
 exact (((Below.refl _ _).alloc (Nat.le_refl _) _).alloc (by rw [e1];omega) _).alloc (by rw [e2];omega) _
def DSt(w W:World)(s:ByteArray)(a:Nat)(cs:Array Value):Prop:=(W.heap[w.heap.size]?=some (.cells #[.int .u64 0,.int .u64 0,.int .u64 0,.int .u64 0,.int .u64 0,.int .u64 0,.int .u64 0,.int .u64 0,.int .u64 0,.int .u64 0,.int .u64 0,.bool false,.int .u8 0,.int .u8 0,.int .u8 0,.int .i64 0,.int .i64 0,.int .i64 0,.int .i64 0,.int .i64 0,.int .i64 0,.int .i64 0,.int .i64 0,.int .i64 0] 78 (0,0))∧Qf4 W (w.heap.size+1) s a)∧W.heap[w.heap.size+2]?=some (.cells cs 78 (0,0))∧Below w.heap.size w W
theorem DSt.call{w W:World}{s:ByteArray}{a n:Nat}{cs:Array Value}{v:Value}{e:Ending}{w':World}(d:DSt w W s a cs)(h:Qa6 W (w.heap.size+1) s a n v e w')(m:Nat)(hm:a+n=m):e = .returned v∧DSt w w' s m cs:=by
 obtain ⟨he,hk,ht⟩:=h;subst hm;have l0:=(gsi d.1.1).1;have l2:=(gsi d.2.1).1;refine ⟨he,⟨(ht.block _ l0 (by show ¬_;omega)).trans d.1.1,hk⟩,(ht.block _ l2 (by show ¬_;omega)).trans d.2.1,?_⟩
 exact Below.trans d.2.2 (ht.below (fun g hg=>by rw [hg];omega) (by omega))
theorem DSt.set{w W:World}{s:ByteArray}{a:Nat}{cs:Array Value}(d:DSt w W s a cs)(i:Nat)(v:Value):DSt w (W.setCell ⟨w.heap.size+2,i,none⟩ v) s a (cs.set! i v):=by
 refine ⟨⟨(Below.heap_setCell _ _ _ _ (by show w.heap.size≠w.heap.size+2;omega)).trans d.1.1,?_⟩,Qat d.2.1 i v,d.2.2.setCell (p:=⟨w.heap.size+2,i,none⟩) (by show w.heap.size≤w.heap.size+2;omega) v⟩
 exact (Below.heap_setCell _ _ _ _ (by show w.heap.size+1≠w.heap.size+2;omega)).trans d.1.2
theorem DSt.to{w W:World}{s:ByteArray}{a:Nat}{cs cs':Array Value}(d:DSt w W s a cs)(h:cs=cs'):DSt w W s a cs':=h ▸ d
theorem DSt.cell{w W:World}{s:ByteArray}{a:Nat}{cs:Array Value}(d:DSt w W s a cs)(i:Nat)(v:Value)(hv:cs[i]?=some v):W.cell? ⟨w.heap.size+2,i,none⟩=some v∧W.frozen? ⟨w.heap.size+2,i,none⟩=false:=Qao d.2.1 i v hv
theorem QfI(s:ByteArray)(hs:s.size≤1000000)(w:World):Calls Tryz.prog 86 #[.string s] w fun e w'=>e = .returned (.tuple #[.agg (QbF (QxZ s.data.toList)),.int .i64 (Qfj s.data.toList:Nat)])∧Below w.heap.size w w':=by
 have HX0:=hid (heap_alloc_new w (.cells #[.int .u64 0,.int .u64 0,.int .u64 0,.int .u64 0,.int .u64 0,.int .u64 0,.int .u64 0,.int .u64 0,.int .u64 0,.int .u64 0,.int .u64 0,.bool false,.int .u8 0,.int .u8 0,.int .u8 0,.int .i64 0,.int .i64 0,.int .i64 0,.int .i64 0,.int .i64 0,.int .i64 0,.int .i64 0,.int .i64 0,.int .i64 0] 78));have HB0:=hid (((Below.refl w.heap.size w).alloc (Nat.le_refl _) (.cells #[.int .u64 0,.int .u64 0,.int .u64 0,.int .u64 0,.int .u64 0,.int .u64 0,.int .u64 0,.int .u64 0,.int .u64 0,.int .u64 0,.int .u64 0,.bool false,.int .u8 0,.int .u8 0,.int .u8 0,.int .i64 0,.int .i64 0,.int .i64 0,.int .i64 0,.int .i64 0,.int .i64 0,.int .i64 0,.int .i64 0,.int .i64 0] 78)));have HH:=hid (Qth w s #[.int .u64 0,.int .u64 0,.int .u64 0,.int .u64 0,.int .u64 0,.int .u64 0,.int .u64 0,.int .u64 0,.int .u64 0,.int .u64 0,.int .u64 0,.bool false,.int .u8 0,.int .u8 0,.int .u8 0,.int .i64 0,.int .i64 0,.int .i64 0,.int .i64 0,.int .i64 0,.int .i64 0,.int .i64 0,.int .i64 0,.int .i64 0]);have HP:=hid (fun W=>(Tryz.strings_HasPrefix s ⟨#[80,77,84,105,108,101,115]⟩ W))
 have HE:=hid (And.intro (Qy6 s.data.toList) (And.intro (Qy5 s.data.toList) (And.intro (Qy4 s.data.toList) (And.intro (Qy3 s.data.toList) (Qy2 s.data.toList)))));have HR:=hid (fun E h h0=>QxY s.data.toList (E:=E) h h0)
 have HRy:=hid (QkQ s.data.toList);have hsz:s.data.toList.length=s.size:=Qab s;generalize QbF (QxZ s.data.toList)=R at HR HRy ⊢;generalize Qfj s.data.toList=E at HE HR HRy ⊢
 by_cases g1:s.size<127
 ·as_aux_lemma=>
   have hE:E=3:=HE.out.1 (by omega)
   have hR:=HR.out 3 hE (by decide)
   have HF:=hid (And.intro hE hR);have u1:decide ((s.size:Int)<127)=true:=decide_eq_true (by omega)
   have u2:decide (s.size<127)=true:=decide_eq_true g1;clear hE hR HE HR HRy hsz HH HP;go_enter Tryz.func86,Tryz.ntmps86
   iterate 8 go_step
   generalize w.alloc (.cells #[.int .u64 0,.int .u64 0,.int .u64 0,.int .u64 0,.int .u64 0,.int .u64 0,.int .u64 0,.int .u64 0,.int .u64 0,.int .u64 0,.int .u64 0,.bool false,.int .u8 0,.int .u8 0,.int .u8 0,.int .i64 0,.int .i64 0,.int .i64 0,.int .i64 0,.int .i64 0,.int .i64 0,.int .i64 0,.int .i64 0,.int .i64 0] 78)=V0 at HX0 HB0 ⊢;go_wp2_with (refine wpList_store_row rfl 78 (.tmp 2) (.tmp 12) rfl w.heap.size #[.int .u64 0,.int .u64 0,.int .u64 0,.int .u64 0,.int .u64 0,.int .u64 0,.int .u64 0,.int .u64 0,.int .u64 0,.int .u64 0,.int .u64 0,.bool false,.int .u8 0,.int .u8 0,.int .u8 0,.int .i64 0,.int .i64 0,.int .i64 0,.int .i64 0,.int .i64 0,.int .i64 0,.int .i64 0,.int .i64 0,.int .i64 0] rfl rfl 78 #[.int .u64 0,.int .u64 0,.int .u64 0,.int .u64 0,.int .u64 0,.int .u64 0,.int .u64 0,.int .u64 0,.int .u64 0,.int .u64 0,.int .u64 0,.bool false,.int .u8 0,.int .u8 0,.int .u8 0,.int .i64 0,.int .i64 0,.int .i64 0,.int .i64 0,.int .i64 0,.int .i64 0,.int .i64 0,.int .i64 0,.int .i64 0] HX0.out (by kernel_rfl) rfl (by simp [Value.oneCell']) ?_)
   refine QaD (A:=⟨w.heap.size,0,none⟩) rfl (QbO (setRow_heap _ _ _ _ _ _ HX0.out) rfl) rfl rfl rfl ?_;exact ⟨by rw [HF.out.1,HF.out.2]<;>rfl,Qba HB0.out (Nat.le_refl _) _⟩
 have u1:decide ((s.size:Int)<127)=false:=decide_eq_false (by omega)
 have u2:decide (s.size<127)=false:=decide_eq_false g1;have hm:Lib.hasPrefix s.data.toList ([80,77,84,105,108,101,115]:List UInt8)=decide (s.data.toList.take 7=Qel):=QlH _
 by_cases g2:s.data.toList.take 7=Qel
 case neg=>
  as_aux_lemma=>
   have hE:E=12:=HE.out.2.1 (by omega) g2
   have hR:=HR.out 12 hE (by decide)
   have HF:=hid (And.intro hE hR);have HP2:Hid (∀ W,Calls Tryz.prog 82 #[.string s,.string ⟨#[80,77,84,105,108,101,115]⟩] W fun e w'=>e = .returned (.bool false)∧w'=W):=hid (fun W=>by
    have h:=HP.out W;rw [show Lib.hasPrefix s.data.toList (⟨#[80,77,84,105,108,101,115]⟩:ByteArray).data.toList=false from hm.trans (decide_eq_false g2)] at h;exact h)
   clear hE hR HE HR HRy hsz HH HP g1 g2 hm;go_enter Tryz.func86,Tryz.ntmps86
   iterate 8 go_step
   generalize w.alloc (.cells #[.int .u64 0,.int .u64 0,.int .u64 0,.int .u64 0,.int .u64 0,.int .u64 0,.int .u64 0,.int .u64 0,.int .u64 0,.int .u64 0,.int .u64 0,.bool false,.int .u8 0,.int .u8 0,.int .u8 0,.int .i64 0,.int .i64 0,.int .i64 0,.int .i64 0,.int .i64 0,.int .i64 0,.int .i64 0,.int .i64 0,.int .i64 0] 78)=V0 at HX0 HB0 ⊢;go_wp2_with fail;refine (HP2.out _).mono ?_;rintro e w1 ⟨rfl,hw1⟩;obtain rfl:=hw1.symm;clear hw1;go_wp2_with (refine wpList_store_row rfl 78 (.tmp 2) (.tmp 17) rfl w.heap.size #[.int .u64 0,.int .u64 0,.int .u64 0,.int .u64 0,.int .u64 0,.int .u64 0,.int .u64 0,.int .u64 0,.int .u64 0,.int .u64 0,.int .u64 0,.bool false,.int .u8 0,.int .u8 0,.int .u8 0,.int .i64 0,.int .i64 0,.int .i64 0,.int .i64 0,.int .i64 0,.int .i64 0,.int .i64 0,.int .i64 0,.int .i64 0] rfl rfl 78 #[.int .u64 0,.int .u64 0,.int .u64 0,.int .u64 0,.int .u64 0,.int .u64 0,.int .u64 0,.int .u64 0,.int .u64 0,.int .u64 0,.int .u64 0,.bool false,.int .u8 0,.int .u8 0,.int .u8 0,.int .i64 0,.int .i64 0,.int .i64 0,.int .i64 0,.int .i64 0,.int .i64 0,.int .i64 0,.int .i64 0,.int .i64 0] HX0.out (by kernel_rfl) rfl (by simp [Value.oneCell']) ?_)
   refine QaD (A:=⟨w.heap.size,0,none⟩) rfl (QbO (setRow_heap _ _ _ _ _ _ HX0.out) rfl) rfl rfl rfl ?_;exact ⟨by rw [HF.out.1,HF.out.2]<;>rfl,Qba HB0.out (Nat.le_refl _) _⟩
 have HP2:Hid (∀ W,Calls Tryz.prog 82 #[.string s,.string ⟨#[80,77,84,105,108,101,115]⟩] W fun e w'=>e = .returned (.bool true)∧w'=W):=hid (fun W=>by
  have h:=HP.out W;rw [show Lib.hasPrefix s.data.toList (⟨#[80,77,84,105,108,101,115]⟩:ByteArray).data.toList=true from hm.trans (decide_eq_true g2)] at h;exact h)
 clear HP hm;have h7:7<s.size:=by omega
 have hg7:(s.data.toList.getD 7 0).toNat=s[7].toNat:=by
  rw [List.getD_eq_getElem?_getD,List.getElem?_eq_getElem (by omega)]
  rfl
 obtain ⟨b7,hb7⟩:∃ b7,s[7].toNat=b7:=⟨_,rfl⟩;rw [hb7] at hg7
 by_cases g3:b7=3
 case neg=>
  as_aux_lemma=>
   have hE:E=13:=HE.out.2.2.1 (by omega) g2 (by omega)
   have hR:=HR.out 13 hE (by decide)
   have HF:=hid (And.intro hE hR);have v1:((b7:Int)==3)=false:=by rw [beq_eq_false_iff_ne];omega
   have v2:(b7==3)=false:=by rw [beq_eq_false_iff_ne];omega
   have v3:((b7:Int) != 3)=true:=by rw [bne_iff_ne];omega
   have v4:(b7 != 3)=true:=by rw [bne_iff_ne];omega
   clear hE hR HE HR HRy hsz HH g1 g2 hg7;go_enter Tryz.func86,Tryz.ntmps86
   iterate 8 go_step
   generalize w.alloc (.cells #[.int .u64 0,.int .u64 0,.int .u64 0,.int .u64 0,.int .u64 0,.int .u64 0,.int .u64 0,.int .u64 0,.int .u64 0,.int .u64 0,.int .u64 0,.bool false,.int .u8 0,.int .u8 0,.int .u8 0,.int .i64 0,.int .i64 0,.int .i64 0,.int .i64 0,.int .i64 0,.int .i64 0,.int .i64 0,.int .i64 0,.int .i64 0] 78)=V0 at HX0 HB0 ⊢;go_wp2_with fail;refine (HP2.out _).mono ?_;rintro e w1 ⟨rfl,hw1⟩;obtain rfl:=hw1.symm;clear hw1;go_wp2_with (refine wpList_store_row rfl 78 (.tmp 2) (.tmp 22) rfl w.heap.size #[.int .u64 0,.int .u64 0,.int .u64 0,.int .u64 0,.int .u64 0,.int .u64 0,.int .u64 0,.int .u64 0,.int .u64 0,.int .u64 0,.int .u64 0,.bool false,.int .u8 0,.int .u8 0,.int .u8 0,.int .i64 0,.int .i64 0,.int .i64 0,.int .i64 0,.int .i64 0,.int .i64 0,.int .i64 0,.int .i64 0,.int .i64 0] rfl rfl 78 #[.int .u64 0,.int .u64 0,.int .u64 0,.int .u64 0,.int .u64 0,.int .u64 0,.int .u64 0,.int .u64 0,.int .u64 0,.int .u64 0,.int .u64 0,.bool false,.int .u8 0,.int .u8 0,.int .u8 0,.int .i64 0,.int .i64 0,.int .i64 0,.int .i64 0,.int .i64 0,.int .i64 0,.int .i64 0,.int .i64 0,.int .i64 0] HX0.out (by kernel_rfl) rfl (by simp [Value.oneCell']) ?_)
   refine QaD (A:=⟨w.heap.size,0,none⟩) rfl (QbO (setRow_heap _ _ _ _ _ _ HX0.out) rfl) rfl rfl rfl ?_;exact ⟨by rw [HF.out.1,HF.out.2]<;>rfl,Qba HB0.out (Nat.le_refl _) _⟩
 have v1:((b7:Int)==3)=true:=by rw [beq_iff_eq];omega
 have v2:(b7==3)=true:=by rw [beq_iff_eq];omega
 have v3:((b7:Int) != 3)=false:=by rw [bne_eq_false_iff_eq];omega
 have v4:(b7 != 3)=false:=by rw [bne_eq_false_iff_eq];omega
 have hs127:127≤s.size:=by omega
 have HE4:=hid (HE.out.2.2.2.1 (by omega) g2 (by omega))
 have HE5:=hid (HE.out.2.2.2.2 (by omega) g2 (by omega))
 clear HE hsz g1 g2 hg7;have hok:=Qtk s.data.toList;obtain ⟨H,hH⟩:∃ H,QmO s.data.toList=H:=⟨_,rfl⟩;rw [hH] at HE5 HRy hok;obtain ⟨A0,hA0⟩:∃ A,atN s.data.toList 8 8=A:=⟨_,rfl⟩;obtain ⟨A1,hA1⟩:∃ A,atN s.data.toList 16 8=A:=⟨_,rfl⟩;obtain ⟨A2,hA2⟩:∃ A,atN s.data.toList 24 8=A:=⟨_,rfl⟩;obtain ⟨A3,hA3⟩:∃ A,atN s.data.toList 32 8=A:=⟨_,rfl⟩;obtain ⟨A4,hA4⟩:∃ A,atN s.data.toList 40 8=A:=⟨_,rfl⟩;obtain ⟨A5,hA5⟩:∃ A,atN s.data.toList 48 8=A:=⟨_,rfl⟩;obtain ⟨A6,hA6⟩:∃ A,atN s.data.toList 56 8=A:=⟨_,rfl⟩;obtain ⟨A7,hA7⟩:∃ A,atN s.data.toList 64 8=A:=⟨_,rfl⟩;obtain ⟨A8,hA8⟩:∃ A,atN s.data.toList 72 8=A:=⟨_,rfl⟩;obtain ⟨A9,hA9⟩:∃ A,atN s.data.toList 80 8=A:=⟨_,rfl⟩;obtain ⟨A10,hA10⟩:∃ A,atN s.data.toList 88 8=A:=⟨_,rfl⟩;obtain ⟨A11,QB6⟩:∃ A,atN s.data.toList 96 1=A:=⟨_,rfl⟩;have l11:A11<256:=by rw [←QB6];exact Qcy _ _
 obtain ⟨A12,hA12⟩:∃ A,atN s.data.toList 97 1=A:=⟨_,rfl⟩;have l12:A12<256:=by rw [←hA12];exact Qcy _ _
 obtain ⟨A13,hA13⟩:∃ A,atN s.data.toList 98 1=A:=⟨_,rfl⟩;have l13:A13<256:=by rw [←hA13];exact Qcy _ _
 obtain ⟨A14,hA14⟩:∃ A,atN s.data.toList 99 1=A:=⟨_,rfl⟩;have l14:A14<256:=by rw [←hA14];exact Qcy _ _
 obtain ⟨A15,hA15⟩:∃ A,atN s.data.toList 100 1=A:=⟨_,rfl⟩;have l15:A15<256:=by rw [←hA15];exact Qcy _ _
 obtain ⟨A16,hA16⟩:∃ A,atN s.data.toList 101 1=A:=⟨_,rfl⟩;have l16:A16<256:=by rw [←hA16];exact Qcy _ _
 obtain ⟨A17,hA17⟩:∃ A,atN s.data.toList 102 4=A:=⟨_,rfl⟩;obtain ⟨Z17,hZ17⟩:∃ z,QiL A17=z:=⟨_,rfl⟩;obtain ⟨A18,hA18⟩:∃ A,atN s.data.toList 106 4=A:=⟨_,rfl⟩;obtain ⟨Z18,hZ18⟩:∃ z,QiL A18=z:=⟨_,rfl⟩;obtain ⟨A19,hA19⟩:∃ A,atN s.data.toList 110 4=A:=⟨_,rfl⟩;obtain ⟨Z19,hZ19⟩:∃ z,QiL A19=z:=⟨_,rfl⟩;obtain ⟨A20,hA20⟩:∃ A,atN s.data.toList 114 4=A:=⟨_,rfl⟩;obtain ⟨Z20,hZ20⟩:∃ z,QiL A20=z:=⟨_,rfl⟩;obtain ⟨A21,hA21⟩:∃ A,atN s.data.toList 118 1=A:=⟨_,rfl⟩;have l21:A21<256:=by rw [←hA21];exact Qcy _ _
 obtain ⟨A22,hA22⟩:∃ A,atN s.data.toList 119 4=A:=⟨_,rfl⟩;obtain ⟨Z22,hZ22⟩:∃ z,QiL A22=z:=⟨_,rfl⟩;obtain ⟨A23,hA23⟩:∃ A,atN s.data.toList 123 4=A:=⟨_,rfl⟩;obtain ⟨Z23,hZ23⟩:∃ z,QiL A23=z:=⟨_,rfl⟩;obtain ⟨q,hq⟩:∃ q,decide (A11=1)=q:=⟨_,rfl⟩;have hcs:QbF H=#[.int .u64 (A0:Nat),.int .u64 (A1:Nat),.int .u64 (A2:Nat),.int .u64 (A3:Nat),.int .u64 (A4:Nat),.int .u64 (A5:Nat),.int .u64 (A6:Nat),.int .u64 (A7:Nat),.int .u64 (A8:Nat),.int .u64 (A9:Nat),.int .u64 (A10:Nat),.bool q,.int .u8 (A12:Nat),.int .u8 (A13:Nat),.int .u8 (A14:Nat),.int .i64 (A15:Nat),.int .i64 (A16:Nat),.int .i64 Z17,.int .i64 Z18,.int .i64 Z19,.int .i64 Z20,.int .i64 (A21:Nat),.int .i64 Z22,.int .i64 Z23]:=by
  rw [←hH,←hq];simp only [QbF,QmO,hA0,hA1,hA2,hA3,hA4,hA5,hA6,hA7,hA8,hA9,hA10,QB6,hA12,hA13,hA14,hA15,hA16,hA17,hA18,hA19,hA20,hA21,hA22,hA23,hZ17,hZ18,hZ19,hZ20,hZ22,hZ23]
 rw [QB6] at HE4 HE5;have x12:IntKind.u8.wrap (A12:Int)=(A12:Int):=by simp [IntKind.wrap,IntKind.bits,IntKind.signed];omega
 have x13:IntKind.u8.wrap (A13:Int)=(A13:Int):=by simp [IntKind.wrap,IntKind.bits,IntKind.signed];omega
 have x14:IntKind.u8.wrap (A14:Int)=(A14:Int):=by simp [IntKind.wrap,IntKind.bits,IntKind.signed];omega
 have x15:IntKind.i64.wrap (A15:Int)=(A15:Int):=by rw [IntKind.wrap_i64];omega
 have x16:IntKind.i64.wrap (A16:Int)=(A16:Int):=by rw [IntKind.wrap_i64];omega
 have x21:IntKind.i64.wrap (A21:Int)=(A21:Int):=by rw [IntKind.wrap_i64];omega
 have y1:((A11:Int)==1)=q:=by rw [←hq,Bool.eq_iff_iff,beq_iff_eq,decide_eq_true_eq];omega
 have y2:(A11==1)=q:=by rw [←hq,Bool.eq_iff_iff,beq_iff_eq,decide_eq_true_eq]
 have HC0:Hid (∀ b W,Qf4 W b s 8→Calls Tryz.prog 137 #[.pointer (some ⟨b,0,none⟩)] W (Qa6 W b s 8 16 (.agg #[.int .u64 (A0:Nat),.int .u64 (A1:Nat)]))):=hid (fun b W k=>by rw [←hA0,←hA1];exact QcL b s 8 W k (by omega) hs)
 have HC2:Hid (∀ b W,Qf4 W b s 24→Calls Tryz.prog 137 #[.pointer (some ⟨b,0,none⟩)] W (Qa6 W b s 24 16 (.agg #[.int .u64 (A2:Nat),.int .u64 (A3:Nat)]))):=hid (fun b W k=>by rw [←hA2,←hA3];exact QcL b s 24 W k (by omega) hs)
 have HC4:Hid (∀ b W,Qf4 W b s 40→Calls Tryz.prog 137 #[.pointer (some ⟨b,0,none⟩)] W (Qa6 W b s 40 16 (.agg #[.int .u64 (A4:Nat),.int .u64 (A5:Nat)]))):=hid (fun b W k=>by rw [←hA4,←hA5];exact QcL b s 40 W k (by omega) hs)
 have HC6:Hid (∀ b W,Qf4 W b s 56→Calls Tryz.prog 137 #[.pointer (some ⟨b,0,none⟩)] W (Qa6 W b s 56 16 (.agg #[.int .u64 (A6:Nat),.int .u64 (A7:Nat)]))):=hid (fun b W k=>by rw [←hA6,←hA7];exact QcL b s 56 W k (by omega) hs)
 have HC8:Hid (∀ b W,Qf4 W b s 72→Calls Tryz.prog 138 #[.pointer (some ⟨b,0,none⟩),.int .i64 8] W (Qa6 W b s 72 8 (.int .u64 (A8:Nat)))):=hid (fun b W k=>by rw [←hA8];exact Qbv b s 72 8 W k (by omega) hs (by decide) (by decide))
 have HC9:Hid (∀ b W,Qf4 W b s 80→Calls Tryz.prog 138 #[.pointer (some ⟨b,0,none⟩),.int .i64 8] W (Qa6 W b s 80 8 (.int .u64 (A9:Nat)))):=hid (fun b W k=>by rw [←hA9];exact Qbv b s 80 8 W k (by omega) hs (by decide) (by decide))
 have HC10:Hid (∀ b W,Qf4 W b s 88→Calls Tryz.prog 138 #[.pointer (some ⟨b,0,none⟩),.int .i64 8] W (Qa6 W b s 88 8 (.int .u64 (A10:Nat)))):=hid (fun b W k=>by rw [←hA10];exact Qbv b s 88 8 W k (by omega) hs (by decide) (by decide))
 have HC11:Hid (∀ b W,Qf4 W b s 96→Calls Tryz.prog 138 #[.pointer (some ⟨b,0,none⟩),.int .i64 1] W (Qa6 W b s 96 1 (.int .u64 (A11:Nat)))):=hid (fun b W k=>by rw [←QB6];exact Qbv b s 96 1 W k (by omega) hs (by decide) (by decide))
 have HC12:Hid (∀ b W,Qf4 W b s 97→Calls Tryz.prog 138 #[.pointer (some ⟨b,0,none⟩),.int .i64 1] W (Qa6 W b s 97 1 (.int .u64 (A12:Nat)))):=hid (fun b W k=>by rw [←hA12];exact Qbv b s 97 1 W k (by omega) hs (by decide) (by decide))
 have HC13:Hid (∀ b W,Qf4 W b s 98→Calls Tryz.prog 138 #[.pointer (some ⟨b,0,none⟩),.int .i64 1] W (Qa6 W b s 98 1 (.int .u64 (A13:Nat)))):=hid (fun b W k=>by rw [←hA13];exact Qbv b s 98 1 W k (by omega) hs (by decide) (by decide))
 have HC14:Hid (∀ b W,Qf4 W b s 99→Calls Tryz.prog 138 #[.pointer (some ⟨b,0,none⟩),.int .i64 1] W (Qa6 W b s 99 1 (.int .u64 (A14:Nat)))):=hid (fun b W k=>by rw [←hA14];exact Qbv b s 99 1 W k (by omega) hs (by decide) (by decide))
 have HC15:Hid (∀ b W,Qf4 W b s 100→Calls Tryz.prog 138 #[.pointer (some ⟨b,0,none⟩),.int .i64 1] W (Qa6 W b s 100 1 (.int .u64 (A15:Nat)))):=hid (fun b W k=>by rw [←hA15];exact Qbv b s 100 1 W k (by omega) hs (by decide) (by decide))
 have HC16:Hid (∀ b W,Qf4 W b s 101→Calls Tryz.prog 138 #[.pointer (some ⟨b,0,none⟩),.int .i64 1] W (Qa6 W b s 101 1 (.int .u64 (A16:Nat)))):=hid (fun b W k=>by rw [←hA16];exact Qbv b s 101 1 W k (by omega) hs (by decide) (by decide))
 have HC17:Hid (∀ b W,Qf4 W b s 102→Calls Tryz.prog 139 #[.pointer (some ⟨b,0,none⟩)] W (Qa6 W b s 102 4 (.int .i64 Z17))):=hid (fun b W k=>by rw [←hZ17,←hA17];exact Qca b s 102 W k (by omega) hs)
 have HC18:Hid (∀ b W,Qf4 W b s 106→Calls Tryz.prog 139 #[.pointer (some ⟨b,0,none⟩)] W (Qa6 W b s 106 4 (.int .i64 Z18))):=hid (fun b W k=>by rw [←hZ18,←hA18];exact Qca b s 106 W k (by omega) hs)
 have HC19:Hid (∀ b W,Qf4 W b s 110→Calls Tryz.prog 139 #[.pointer (some ⟨b,0,none⟩)] W (Qa6 W b s 110 4 (.int .i64 Z19))):=hid (fun b W k=>by rw [←hZ19,←hA19];exact Qca b s 110 W k (by omega) hs)
 have HC20:Hid (∀ b W,Qf4 W b s 114→Calls Tryz.prog 139 #[.pointer (some ⟨b,0,none⟩)] W (Qa6 W b s 114 4 (.int .i64 Z20))):=hid (fun b W k=>by rw [←hZ20,←hA20];exact Qca b s 114 W k (by omega) hs)
 have HC21:Hid (∀ b W,Qf4 W b s 118→Calls Tryz.prog 138 #[.pointer (some ⟨b,0,none⟩),.int .i64 1] W (Qa6 W b s 118 1 (.int .u64 (A21:Nat)))):=hid (fun b W k=>by rw [←hA21];exact Qbv b s 118 1 W k (by omega) hs (by decide) (by decide))
 have HC22:Hid (∀ b W,Qf4 W b s 119→Calls Tryz.prog 139 #[.pointer (some ⟨b,0,none⟩)] W (Qa6 W b s 119 4 (.int .i64 Z22))):=hid (fun b W k=>by rw [←hZ22,←hA22];exact Qca b s 119 W k (by omega) hs)
 have HC23:Hid (∀ b W,Qf4 W b s 123→Calls Tryz.prog 139 #[.pointer (some ⟨b,0,none⟩)] W (Qa6 W b s 123 4 (.int .i64 Z23))):=hid (fun b W k=>by rw [←hZ23,←hA23];exact Qca b s 123 W k (by omega) hs)
 have HCk:Hid (∀ W,Calls Tryz.prog 124 #[.agg #[.int .u64 (A0:Nat),.int .u64 (A1:Nat),.int .u64 (A2:Nat),.int .u64 (A3:Nat),.int .u64 (A4:Nat),.int .u64 (A5:Nat),.int .u64 (A6:Nat),.int .u64 (A7:Nat),.int .u64 (A8:Nat),.int .u64 (A9:Nat),.int .u64 (A10:Nat),.bool q,.int .u8 (A12:Nat),.int .u8 (A13:Nat),.int .u8 (A14:Nat),.int .i64 (A15:Nat),.int .i64 (A16:Nat),.int .i64 Z17,.int .i64 Z18,.int .i64 Z19,.int .i64 Z20,.int .i64 (A21:Nat),.int .i64 Z22,.int .i64 Z23]] W fun e w1=>e = .returned (.int .i64 (QjM H:Nat))∧Below W.heap.size W w1):=hid (fun W=>by
  have h1:Calls Tryz.prog 124 #[.agg (QbF H)] W fun e w1=>e = .returned (.int .i64 (QjM H:Nat))∧Below W.heap.size W w1:=QgQ H hok W
  rw [hcs] at h1;exact h1)
 rw [hcs] at HRy;generalize QjM H=C at HCk HE5;clear hok hH hcs hs hA0 hA1 hA2 hA3 hA4 hA5 hA6 hA7 hA8 hA9 hA10 QB6 hA12 hA13 hA14 hA15 hA16 hA17 hA18 hA19 hA20 hA21 hA22 hA23 hq hs127 hZ17 hZ18 hZ19 hZ20 hZ22 hZ23;go_enter Tryz.func86,Tryz.ntmps86;go_wp2_with fail;refine (HP2.out _).mono ?_;rintro e w1 ⟨rfl,hw1⟩;obtain rfl:=hw1.symm;clear hw1 HP2;go_wp2_with fail;have D0:Hid (DSt w _ s 8 #[.int .u64 0,.int .u64 0,.int .u64 0,.int .u64 0,.int .u64 0,.int .u64 0,.int .u64 0,.int .u64 0,.int .u64 0,.int .u64 0,.int .u64 0,.bool false,.int .u8 0,.int .u8 0,.int .u8 0,.int .i64 0,.int .i64 0,.int .i64 0,.int .i64 0,.int .i64 0,.int .i64 0,.int .i64 0,.int .i64 0,.int .i64 0]):=hid ⟨⟨HH.out.1,HH.out.2.1⟩,HH.out.2.2.1,HH.out.2.2.2⟩;generalize ((w.alloc (.cells #[.int .u64 0,.int .u64 0,.int .u64 0,.int .u64 0,.int .u64 0,.int .u64 0,.int .u64 0,.int .u64 0,.int .u64 0,.int .u64 0,.int .u64 0,.bool false,.int .u8 0,.int .u8 0,.int .u8 0,.int .i64 0,.int .i64 0,.int .i64 0,.int .i64 0,.int .i64 0,.int .i64 0,.int .i64 0,.int .i64 0,.int .i64 0] 78)).alloc (.cells #[.string s,.int .i64 8,.int .i64 0] 255)).alloc (.cells #[.int .u64 0,.int .u64 0,.int .u64 0,.int .u64 0,.int .u64 0,.int .u64 0,.int .u64 0,.int .u64 0,.int .u64 0,.int .u64 0,.int .u64 0,.bool false,.int .u8 0,.int .u8 0,.int .u8 0,.int .i64 0,.int .i64 0,.int .i64 0,.int .i64 0,.int .i64 0,.int .i64 0,.int .i64 0,.int .i64 0,.int .i64 0] 78)=V0 at D0 ⊢;clear HH HX0 HB0;refine (HC0.out _ _ D0.out.1.2).mono ?_;intro e w1 hp;obtain ⟨rfl,d⟩:=D0.out.call hp 24 (by decide)
 have D1:=hid d;clear hp d D0 HC0;obtain ⟨V1,hV⟩:∃ V,w1=V:=⟨_,rfl⟩;rw [hV] at D1 ⊢;clear hV w1;go_wp2_with fail;refine (HC2.out _ _ D1.out.1.2).mono ?_;intro e w1 hp;obtain ⟨rfl,d⟩:=D1.out.call hp 40 (by decide)
 have D2:=hid d;clear hp d D1 HC2;obtain ⟨V2,hV⟩:∃ V,w1=V:=⟨_,rfl⟩;rw [hV] at D2 ⊢;clear hV w1;go_wp2_with fail;refine (HC4.out _ _ D2.out.1.2).mono ?_;intro e w1 hp;obtain ⟨rfl,d⟩:=D2.out.call hp 56 (by decide)
 have D3:=hid d;clear hp d D2 HC4;obtain ⟨V3,hV⟩:∃ V,w1=V:=⟨_,rfl⟩;rw [hV] at D3 ⊢;clear hV w1;go_wp2_with fail;refine (HC6.out _ _ D3.out.1.2).mono ?_;intro e w1 hp;obtain ⟨rfl,d⟩:=D3.out.call hp 72 (by decide)
 have D4:=hid d;clear hp d D3 HC6;obtain ⟨V4,hV⟩:∃ V,w1=V:=⟨_,rfl⟩;rw [hV] at D4 ⊢;clear hV w1;obtain ⟨c0,f0⟩:=D4.out.cell 0 (.int .u64 0) rfl;obtain ⟨c1,f1⟩:=D4.out.cell 1 (.int .u64 0) rfl;obtain ⟨c2,f2⟩:=D4.out.cell 2 (.int .u64 0) rfl;obtain ⟨c3,f3⟩:=D4.out.cell 3 (.int .u64 0) rfl;obtain ⟨c4,f4⟩:=D4.out.cell 4 (.int .u64 0) rfl;obtain ⟨c5,f5⟩:=D4.out.cell 5 (.int .u64 0) rfl;obtain ⟨c6,f6⟩:=D4.out.cell 6 (.int .u64 0) rfl;obtain ⟨c7,f7⟩:=D4.out.cell 7 (.int .u64 0) rfl;go_wp2_with fail;have D5:Hid (DSt w ((((((((V4.setCell ⟨w.heap.size+2,0,none⟩ (.int .u64 (A0:Nat))).setCell ⟨w.heap.size+2,1,none⟩ (.int .u64 (A1:Nat))).setCell ⟨w.heap.size+2,2,none⟩ (.int .u64 (A2:Nat))).setCell ⟨w.heap.size+2,3,none⟩ (.int .u64 (A3:Nat))).setCell ⟨w.heap.size+2,4,none⟩ (.int .u64 (A4:Nat))).setCell ⟨w.heap.size+2,5,none⟩ (.int .u64 (A5:Nat))).setCell ⟨w.heap.size+2,6,none⟩ (.int .u64 (A6:Nat))).setCell ⟨w.heap.size+2,7,none⟩ (.int .u64 (A7:Nat))) s 72 #[.int .u64 (A0:Nat),.int .u64 (A1:Nat),.int .u64 (A2:Nat),.int .u64 (A3:Nat),.int .u64 (A4:Nat),.int .u64 (A5:Nat),.int .u64 (A6:Nat),.int .u64 (A7:Nat),.int .u64 0,.int .u64 0,.int .u64 0,.bool false,.int .u8 0,.int .u8 0,.int .u8 0,.int .i64 0,.int .i64 0,.int .i64 0,.int .i64 0,.int .i64 0,.int .i64 0,.int .i64 0,.int .i64 0,.int .i64 0]):=hid (((((((((D4.out.set 0 (.int .u64 (A0:Nat))).set 1 (.int .u64 (A1:Nat))).set 2 (.int .u64 (A2:Nat))).set 3 (.int .u64 (A3:Nat))).set 4 (.int .u64 (A4:Nat))).set 5 (.int .u64 (A5:Nat))).set 6 (.int .u64 (A6:Nat))).set 7 (.int .u64 (A7:Nat))).to rfl);generalize ((((((((V4.setCell ⟨w.heap.size+2,0,none⟩ (.int .u64 (A0:Nat))).setCell ⟨w.heap.size+2,1,none⟩ (.int .u64 (A1:Nat))).setCell ⟨w.heap.size+2,2,none⟩ (.int .u64 (A2:Nat))).setCell ⟨w.heap.size+2,3,none⟩ (.int .u64 (A3:Nat))).setCell ⟨w.heap.size+2,4,none⟩ (.int .u64 (A4:Nat))).setCell ⟨w.heap.size+2,5,none⟩ (.int .u64 (A5:Nat))).setCell ⟨w.heap.size+2,6,none⟩ (.int .u64 (A6:Nat))).setCell ⟨w.heap.size+2,7,none⟩ (.int .u64 (A7:Nat)))=V5 at D5 ⊢;clear D4 c0 f0 c1 f1 c2 f2 c3 f3 c4 f4 c5 f5 c6 f6 c7 f7;refine (HC8.out _ _ D5.out.1.2).mono ?_;intro e w1 hp;obtain ⟨rfl,d⟩:=D5.out.call hp 80 (by decide)
 have D6:=hid d;clear hp d D5 HC8;obtain ⟨V6,hV⟩:∃ V,w1=V:=⟨_,rfl⟩;rw [hV] at D6 ⊢;clear hV w1;go_wp2_with fail;refine (HC9.out _ _ D6.out.1.2).mono ?_;intro e w1 hp;obtain ⟨rfl,d⟩:=D6.out.call hp 88 (by decide)
 have D7:=hid d;clear hp d D6 HC9;obtain ⟨V7,hV⟩:∃ V,w1=V:=⟨_,rfl⟩;rw [hV] at D7 ⊢;clear hV w1;go_wp2_with fail;refine (HC10.out _ _ D7.out.1.2).mono ?_;intro e w1 hp;obtain ⟨rfl,d⟩:=D7.out.call hp 96 (by decide)
 have D8:=hid d;clear hp d D7 HC10;obtain ⟨V8,hV⟩:∃ V,w1=V:=⟨_,rfl⟩;rw [hV] at D8 ⊢;clear hV w1;obtain ⟨c8,f8⟩:=D8.out.cell 8 (.int .u64 0) rfl;obtain ⟨c9,f9⟩:=D8.out.cell 9 (.int .u64 0) rfl;obtain ⟨c10,f10⟩:=D8.out.cell 10 (.int .u64 0) rfl;go_wp2_with fail;have D9:Hid (DSt w (((V8.setCell ⟨w.heap.size+2,8,none⟩ (.int .u64 (A8:Nat))).setCell ⟨w.heap.size+2,9,none⟩ (.int .u64 (A9:Nat))).setCell ⟨w.heap.size+2,10,none⟩ (.int .u64 (A10:Nat))) s 96 #[.int .u64 (A0:Nat),.int .u64 (A1:Nat),.int .u64 (A2:Nat),.int .u64 (A3:Nat),.int .u64 (A4:Nat),.int .u64 (A5:Nat),.int .u64 (A6:Nat),.int .u64 (A7:Nat),.int .u64 (A8:Nat),.int .u64 (A9:Nat),.int .u64 (A10:Nat),.bool false,.int .u8 0,.int .u8 0,.int .u8 0,.int .i64 0,.int .i64 0,.int .i64 0,.int .i64 0,.int .i64 0,.int .i64 0,.int .i64 0,.int .i64 0,.int .i64 0]):=hid ((((D8.out.set 8 (.int .u64 (A8:Nat))).set 9 (.int .u64 (A9:Nat))).set 10 (.int .u64 (A10:Nat))).to rfl);generalize (((V8.setCell ⟨w.heap.size+2,8,none⟩ (.int .u64 (A8:Nat))).setCell ⟨w.heap.size+2,9,none⟩ (.int .u64 (A9:Nat))).setCell ⟨w.heap.size+2,10,none⟩ (.int .u64 (A10:Nat)))=V9 at D9 ⊢;clear D8 c8 f8 c9 f9 c10 f10;refine (HC11.out _ _ D9.out.1.2).mono ?_;intro e w1 hp;obtain ⟨rfl,d⟩:=D9.out.call hp 97 (by decide)
 have D10:=hid d;clear hp d D9 HC11;obtain ⟨V10,hV⟩:∃ V,w1=V:=⟨_,rfl⟩;rw [hV] at D10 ⊢;clear hV w1
 by_cases g4:1<A11
 case pos=>
  as_aux_lemma=>
   have hE:=HE4.out g4;have hR:=HR.out 4 hE (by decide)
   have HF:=hid (And.intro hE hR);have r1:decide ((A11:Int)>1)=true:=decide_eq_true (by omega)
   have r2:decide (1<A11)=true:=decide_eq_true g4;clear hE hR HR HRy HE4 HE5 g4 HCk HC12 HC13 HC14 HC15 HC16 HC17 HC18 HC19 HC20 HC21 HC22 HC23;go_wp2_with (refine wpList_store_row rfl 78 (.tmp 2) (.tmp 52) rfl w.heap.size #[.int .u64 0,.int .u64 0,.int .u64 0,.int .u64 0,.int .u64 0,.int .u64 0,.int .u64 0,.int .u64 0,.int .u64 0,.int .u64 0,.int .u64 0,.bool false,.int .u8 0,.int .u8 0,.int .u8 0,.int .i64 0,.int .i64 0,.int .i64 0,.int .i64 0,.int .i64 0,.int .i64 0,.int .i64 0,.int .i64 0,.int .i64 0] rfl rfl 78 #[.int .u64 0,.int .u64 0,.int .u64 0,.int .u64 0,.int .u64 0,.int .u64 0,.int .u64 0,.int .u64 0,.int .u64 0,.int .u64 0,.int .u64 0,.bool false,.int .u8 0,.int .u8 0,.int .u8 0,.int .i64 0,.int .i64 0,.int .i64 0,.int .i64 0,.int .i64 0,.int .i64 0,.int .i64 0,.int .i64 0,.int .i64 0] D10.out.1.1 (by kernel_rfl) rfl (by simp [Value.oneCell']) ?_)
   refine QaD (A:=⟨w.heap.size,0,none⟩) rfl (QbO (setRow_heap _ _ _ _ _ _ D10.out.1.1) rfl) rfl rfl rfl ?_;exact ⟨by rw [HF.out.1,HF.out.2]<;>rfl,Qba D10.out.2.2 (Nat.le_refl _) _⟩
 have r1:decide ((A11:Int)>1)=false:=decide_eq_false (by omega)
 have r2:decide (1<A11)=false:=decide_eq_false g4;have HE6:=hid (HE5.out g4);clear HE4 HE5 g4;obtain ⟨c11,f11⟩:=D10.out.cell 11 (.bool false) rfl;go_wp2_with fail;have D11:Hid (DSt w (V10.setCell ⟨w.heap.size+2,11,none⟩ (.bool q)) s 97 #[.int .u64 (A0:Nat),.int .u64 (A1:Nat),.int .u64 (A2:Nat),.int .u64 (A3:Nat),.int .u64 (A4:Nat),.int .u64 (A5:Nat),.int .u64 (A6:Nat),.int .u64 (A7:Nat),.int .u64 (A8:Nat),.int .u64 (A9:Nat),.int .u64 (A10:Nat),.bool q,.int .u8 0,.int .u8 0,.int .u8 0,.int .i64 0,.int .i64 0,.int .i64 0,.int .i64 0,.int .i64 0,.int .i64 0,.int .i64 0,.int .i64 0,.int .i64 0]):=hid ((D10.out.set 11 (.bool q)).to rfl);generalize (V10.setCell ⟨w.heap.size+2,11,none⟩ (.bool q))=V11 at D11 ⊢;clear D10 c11 f11;refine (HC12.out _ _ D11.out.1.2).mono ?_;intro e w1 hp;obtain ⟨rfl,d⟩:=D11.out.call hp 98 (by decide)
 have D12:=hid d;clear hp d D11 HC12;obtain ⟨V12,hV⟩:∃ V,w1=V:=⟨_,rfl⟩;rw [hV] at D12 ⊢;clear hV w1;go_wp2_with fail;refine (HC13.out _ _ D12.out.1.2).mono ?_;intro e w1 hp;obtain ⟨rfl,d⟩:=D12.out.call hp 99 (by decide)
 have D13:=hid d;clear hp d D12 HC13;obtain ⟨V13,hV⟩:∃ V,w1=V:=⟨_,rfl⟩;rw [hV] at D13 ⊢;clear hV w1;go_wp2_with fail;refine (HC14.out _ _ D13.out.1.2).mono ?_;intro e w1 hp;obtain ⟨rfl,d⟩:=D13.out.call hp 100 (by decide)
 have D14:=hid d;clear hp d D13 HC14;obtain ⟨V14,hV⟩:∃ V,w1=V:=⟨_,rfl⟩;rw [hV] at D14 ⊢;clear hV w1;obtain ⟨c12,f12⟩:=D14.out.cell 12 (.int .u8 0) rfl;obtain ⟨c13,f13⟩:=D14.out.cell 13 (.int .u8 0) rfl;obtain ⟨c14,f14⟩:=D14.out.cell 14 (.int .u8 0) rfl;go_wp2_with fail;have D15:Hid (DSt w (((V14.setCell ⟨w.heap.size+2,12,none⟩ (.int .u8 (A12:Nat))).setCell ⟨w.heap.size+2,13,none⟩ (.int .u8 (A13:Nat))).setCell ⟨w.heap.size+2,14,none⟩ (.int .u8 (A14:Nat))) s 100 #[.int .u64 (A0:Nat),.int .u64 (A1:Nat),.int .u64 (A2:Nat),.int .u64 (A3:Nat),.int .u64 (A4:Nat),.int .u64 (A5:Nat),.int .u64 (A6:Nat),.int .u64 (A7:Nat),.int .u64 (A8:Nat),.int .u64 (A9:Nat),.int .u64 (A10:Nat),.bool q,.int .u8 (A12:Nat),.int .u8 (A13:Nat),.int .u8 (A14:Nat),.int .i64 0,.int .i64 0,.int .i64 0,.int .i64 0,.int .i64 0,.int .i64 0,.int .i64 0,.int .i64 0,.int .i64 0]):=hid ((((D14.out.set 12 (.int .u8 (A12:Nat))).set 13 (.int .u8 (A13:Nat))).set 14 (.int .u8 (A14:Nat))).to rfl);generalize (((V14.setCell ⟨w.heap.size+2,12,none⟩ (.int .u8 (A12:Nat))).setCell ⟨w.heap.size+2,13,none⟩ (.int .u8 (A13:Nat))).setCell ⟨w.heap.size+2,14,none⟩ (.int .u8 (A14:Nat)))=V15 at D15 ⊢;clear D14 c12 f12 c13 f13 c14 f14;refine (HC15.out _ _ D15.out.1.2).mono ?_;intro e w1 hp;obtain ⟨rfl,d⟩:=D15.out.call hp 101 (by decide)
 have D16:=hid d;clear hp d D15 HC15;obtain ⟨V16,hV⟩:∃ V,w1=V:=⟨_,rfl⟩;rw [hV] at D16 ⊢;clear hV w1;go_wp2_with fail;refine (HC16.out _ _ D16.out.1.2).mono ?_;intro e w1 hp;obtain ⟨rfl,d⟩:=D16.out.call hp 102 (by decide)
 have D17:=hid d;clear hp d D16 HC16;obtain ⟨V17,hV⟩:∃ V,w1=V:=⟨_,rfl⟩;rw [hV] at D17 ⊢;clear hV w1;obtain ⟨c15,f15⟩:=D17.out.cell 15 (.int .i64 0) rfl;obtain ⟨c16,f16⟩:=D17.out.cell 16 (.int .i64 0) rfl;go_wp2_with fail;have D18:Hid (DSt w ((V17.setCell ⟨w.heap.size+2,15,none⟩ (.int .i64 (A15:Nat))).setCell ⟨w.heap.size+2,16,none⟩ (.int .i64 (A16:Nat))) s 102 #[.int .u64 (A0:Nat),.int .u64 (A1:Nat),.int .u64 (A2:Nat),.int .u64 (A3:Nat),.int .u64 (A4:Nat),.int .u64 (A5:Nat),.int .u64 (A6:Nat),.int .u64 (A7:Nat),.int .u64 (A8:Nat),.int .u64 (A9:Nat),.int .u64 (A10:Nat),.bool q,.int .u8 (A12:Nat),.int .u8 (A13:Nat),.int .u8 (A14:Nat),.int .i64 (A15:Nat),.int .i64 (A16:Nat),.int .i64 0,.int .i64 0,.int .i64 0,.int .i64 0,.int .i64 0,.int .i64 0,.int .i64 0]):=hid (((D17.out.set 15 (.int .i64 (A15:Nat))).set 16 (.int .i64 (A16:Nat))).to rfl);generalize ((V17.setCell ⟨w.heap.size+2,15,none⟩ (.int .i64 (A15:Nat))).setCell ⟨w.heap.size+2,16,none⟩ (.int .i64 (A16:Nat)))=V18 at D18 ⊢;clear D17 c15 f15 c16 f16;refine (HC17.out _ _ D18.out.1.2).mono ?_;intro e w1 hp;obtain ⟨rfl,d⟩:=D18.out.call hp 106 (by decide)
 have D19:=hid d;clear hp d D18 HC17;obtain ⟨V19,hV⟩:∃ V,w1=V:=⟨_,rfl⟩;rw [hV] at D19 ⊢;clear hV w1;go_wp2_with fail;refine (HC18.out _ _ D19.out.1.2).mono ?_;intro e w1 hp;obtain ⟨rfl,d⟩:=D19.out.call hp 110 (by decide)
 have D20:=hid d;clear hp d D19 HC18;obtain ⟨V20,hV⟩:∃ V,w1=V:=⟨_,rfl⟩;rw [hV] at D20 ⊢;clear hV w1;go_wp2_with fail;refine (HC19.out _ _ D20.out.1.2).mono ?_;intro e w1 hp;obtain ⟨rfl,d⟩:=D20.out.call hp 114 (by decide)
 have D21:=hid d;clear hp d D20 HC19;obtain ⟨V21,hV⟩:∃ V,w1=V:=⟨_,rfl⟩;rw [hV] at D21 ⊢;clear hV w1;go_wp2_with fail;refine (HC20.out _ _ D21.out.1.2).mono ?_;intro e w1 hp;obtain ⟨rfl,d⟩:=D21.out.call hp 118 (by decide)
 have D22:=hid d;clear hp d D21 HC20;obtain ⟨V22,hV⟩:∃ V,w1=V:=⟨_,rfl⟩;rw [hV] at D22 ⊢;clear hV w1;obtain ⟨c17,f17⟩:=D22.out.cell 17 (.int .i64 0) rfl;obtain ⟨c18,f18⟩:=D22.out.cell 18 (.int .i64 0) rfl;obtain ⟨c19,f19⟩:=D22.out.cell 19 (.int .i64 0) rfl;obtain ⟨c20,f20⟩:=D22.out.cell 20 (.int .i64 0) rfl;go_wp2_with fail;have D23:Hid (DSt w ((((V22.setCell ⟨w.heap.size+2,17,none⟩ (.int .i64 Z17)).setCell ⟨w.heap.size+2,18,none⟩ (.int .i64 Z18)).setCell ⟨w.heap.size+2,19,none⟩ (.int .i64 Z19)).setCell ⟨w.heap.size+2,20,none⟩ (.int .i64 Z20)) s 118 #[.int .u64 (A0:Nat),.int .u64 (A1:Nat),.int .u64 (A2:Nat),.int .u64 (A3:Nat),.int .u64 (A4:Nat),.int .u64 (A5:Nat),.int .u64 (A6:Nat),.int .u64 (A7:Nat),.int .u64 (A8:Nat),.int .u64 (A9:Nat),.int .u64 (A10:Nat),.bool q,.int .u8 (A12:Nat),.int .u8 (A13:Nat),.int .u8 (A14:Nat),.int .i64 (A15:Nat),.int .i64 (A16:Nat),.int .i64 Z17,.int .i64 Z18,.int .i64 Z19,.int .i64 Z20,.int .i64 0,.int .i64 0,.int .i64 0]):=hid (((((D22.out.set 17 (.int .i64 Z17)).set 18 (.int .i64 Z18)).set 19 (.int .i64 Z19)).set 20 (.int .i64 Z20)).to rfl);generalize ((((V22.setCell ⟨w.heap.size+2,17,none⟩ (.int .i64 Z17)).setCell ⟨w.heap.size+2,18,none⟩ (.int .i64 Z18)).setCell ⟨w.heap.size+2,19,none⟩ (.int .i64 Z19)).setCell ⟨w.heap.size+2,20,none⟩ (.int .i64 Z20))=V23 at D23 ⊢;clear D22 c17 f17 c18 f18 c19 f19 c20 f20;refine (HC21.out _ _ D23.out.1.2).mono ?_;intro e w1 hp;obtain ⟨rfl,d⟩:=D23.out.call hp 119 (by decide)
 have D24:=hid d;clear hp d D23 HC21;obtain ⟨V24,hV⟩:∃ V,w1=V:=⟨_,rfl⟩;rw [hV] at D24 ⊢;clear hV w1;go_wp2_with fail;refine (HC22.out _ _ D24.out.1.2).mono ?_;intro e w1 hp;obtain ⟨rfl,d⟩:=D24.out.call hp 123 (by decide)
 have D25:=hid d;clear hp d D24 HC22;obtain ⟨V25,hV⟩:∃ V,w1=V:=⟨_,rfl⟩;rw [hV] at D25 ⊢;clear hV w1;go_wp2_with fail;refine (HC23.out _ _ D25.out.1.2).mono ?_;intro e w1 hp;obtain ⟨rfl,d⟩:=D25.out.call hp 127 (by decide)
 have D26:=hid d;clear hp d D25 HC23;obtain ⟨V26,hV⟩:∃ V,w1=V:=⟨_,rfl⟩;rw [hV] at D26 ⊢;clear hV w1;obtain ⟨c21,f21⟩:=D26.out.cell 21 (.int .i64 0) rfl;obtain ⟨c22,f22⟩:=D26.out.cell 22 (.int .i64 0) rfl;obtain ⟨c23,f23⟩:=D26.out.cell 23 (.int .i64 0) rfl;have e1:Hid (DSt w (((V26.setCell ⟨w.heap.size+2,21,none⟩ (.int .i64 (A21:Nat))).setCell ⟨w.heap.size+2,22,none⟩ (.int .i64 Z22)).setCell ⟨w.heap.size+2,23,none⟩ (.int .i64 Z23)) s 127 #[.int .u64 (A0:Nat),.int .u64 (A1:Nat),.int .u64 (A2:Nat),.int .u64 (A3:Nat),.int .u64 (A4:Nat),.int .u64 (A5:Nat),.int .u64 (A6:Nat),.int .u64 (A7:Nat),.int .u64 (A8:Nat),.int .u64 (A9:Nat),.int .u64 (A10:Nat),.bool q,.int .u8 (A12:Nat),.int .u8 (A13:Nat),.int .u8 (A14:Nat),.int .i64 (A15:Nat),.int .i64 (A16:Nat),.int .i64 Z17,.int .i64 Z18,.int .i64 Z19,.int .i64 Z20,.int .i64 (A21:Nat),.int .i64 Z22,.int .i64 Z23]):=hid ((((D26.out.set 21 (.int .i64 (A21:Nat))).set 22 (.int .i64 Z22)).set 23 (.int .i64 Z23)).to rfl);go_wp2_with (refine wpList_load_row rfl 78 (.tmp 5) rfl (w.heap.size+2) rfl 78 #[.int .u64 (A0:Nat),.int .u64 (A1:Nat),.int .u64 (A2:Nat),.int .u64 (A3:Nat),.int .u64 (A4:Nat),.int .u64 (A5:Nat),.int .u64 (A6:Nat),.int .u64 (A7:Nat),.int .u64 (A8:Nat),.int .u64 (A9:Nat),.int .u64 (A10:Nat),.bool q,.int .u8 (A12:Nat),.int .u8 (A13:Nat),.int .u8 (A14:Nat),.int .i64 (A15:Nat),.int .i64 (A16:Nat),.int .i64 Z17,.int .i64 Z18,.int .i64 Z19,.int .i64 Z20,.int .i64 (A21:Nat),.int .i64 Z22,.int .i64 Z23] (0,0) _ e1.out.2.1 Tryz.underlying78 rfl (by kernel_rfl) ?_)
 generalize (((V26.setCell ⟨w.heap.size+2,21,none⟩ (.int .i64 (A21:Nat))).setCell ⟨w.heap.size+2,22,none⟩ (.int .i64 Z22)).setCell ⟨w.heap.size+2,23,none⟩ (.int .i64 Z23))=V27 at e1 ⊢;clear D26 c21 f21 c22 f22 c23 f23;refine (HCk.out _).mono ?_;rintro e w5 ⟨rfl,hb⟩;have b0:=(gsi e1.out.1.1).1;have X0:=hid ((hb.block _ b0).trans e1.out.1.1);have X1:=hid ((hb.block _ (gsi e1.out.2.1).1).trans e1.out.2.1);have X2:=hid (Qaa e1.out.2.2 hb);clear hb b0 e1 HCk
 by_cases g5:C=0
 ·have hE:=HE6.out
  rw [g5] at hE;have HF:=hid (And.intro hE (HRy.out hE));subst g5;clear HR HRy HE6 hE;go_wp2_with (first|(refine wpList_load_row rfl 78 (.tmp 5) rfl (w.heap.size+2) rfl 78 #[.int .u64 (A0:Nat),.int .u64 (A1:Nat),.int .u64 (A2:Nat),.int .u64 (A3:Nat),.int .u64 (A4:Nat),.int .u64 (A5:Nat),.int .u64 (A6:Nat),.int .u64 (A7:Nat),.int .u64 (A8:Nat),.int .u64 (A9:Nat),.int .u64 (A10:Nat),.bool q,.int .u8 (A12:Nat),.int .u8 (A13:Nat),.int .u8 (A14:Nat),.int .i64 (A15:Nat),.int .i64 (A16:Nat),.int .i64 Z17,.int .i64 Z18,.int .i64 Z19,.int .i64 Z20,.int .i64 (A21:Nat),.int .i64 Z22,.int .i64 Z23] (0,0) _ X1.out Tryz.underlying78 rfl (by kernel_rfl) ?_)|(refine wpList_store_row rfl 78 (.tmp 2) (.tmp 104) rfl w.heap.size #[.int .u64 (A0:Nat),.int .u64 (A1:Nat),.int .u64 (A2:Nat),.int .u64 (A3:Nat),.int .u64 (A4:Nat),.int .u64 (A5:Nat),.int .u64 (A6:Nat),.int .u64 (A7:Nat),.int .u64 (A8:Nat),.int .u64 (A9:Nat),.int .u64 (A10:Nat),.bool q,.int .u8 (A12:Nat),.int .u8 (A13:Nat),.int .u8 (A14:Nat),.int .i64 (A15:Nat),.int .i64 (A16:Nat),.int .i64 Z17,.int .i64 Z18,.int .i64 Z19,.int .i64 Z20,.int .i64 (A21:Nat),.int .i64 Z22,.int .i64 Z23] rfl rfl 78 #[.int .u64 0,.int .u64 0,.int .u64 0,.int .u64 0,.int .u64 0,.int .u64 0,.int .u64 0,.int .u64 0,.int .u64 0,.int .u64 0,.int .u64 0,.bool false,.int .u8 0,.int .u8 0,.int .u8 0,.int .i64 0,.int .i64 0,.int .i64 0,.int .i64 0,.int .i64 0,.int .i64 0,.int .i64 0,.int .i64 0,.int .i64 0] X0.out (by kernel_rfl) rfl (by simp [Value.oneCell']) ?_))
  refine QaD (A:=⟨w.heap.size,0,none⟩) rfl (QbO (setRow_heap _ _ _ _ _ _ X0.out) rfl) rfl rfl rfl ?_;exact ⟨by rw [HF.out.1,HF.out.2]<;>rfl,Qba X2.out (Nat.le_refl _) _⟩
 ·have hE:=HE6.out
  have HF:=hid (And.intro hE (HR.out C hE g5));have z1:((C:Int)==0)=false:=by rw [beq_eq_false_iff_ne];omega
  have z2:(C==0)=false:=by rw [beq_eq_false_iff_ne];omega
  have z3:((C:Int) != 0)=true:=by rw [bne_iff_ne];omega
  have z4:(C != 0)=true:=by rw [bne_iff_ne];omega
  clear HR HRy HE6 hE;go_wp2_with (refine wpList_store_row rfl 78 (.tmp 2) (.tmp 102) rfl w.heap.size #[.int .u64 0,.int .u64 0,.int .u64 0,.int .u64 0,.int .u64 0,.int .u64 0,.int .u64 0,.int .u64 0,.int .u64 0,.int .u64 0,.int .u64 0,.bool false,.int .u8 0,.int .u8 0,.int .u8 0,.int .i64 0,.int .i64 0,.int .i64 0,.int .i64 0,.int .i64 0,.int .i64 0,.int .i64 0,.int .i64 0,.int .i64 0] rfl rfl 78 #[.int .u64 0,.int .u64 0,.int .u64 0,.int .u64 0,.int .u64 0,.int .u64 0,.int .u64 0,.int .u64 0,.int .u64 0,.int .u64 0,.int .u64 0,.bool false,.int .u8 0,.int .u8 0,.int .u8 0,.int .i64 0,.int .i64 0,.int .i64 0,.int .i64 0,.int .i64 0,.int .i64 0,.int .i64 0,.int .i64 0,.int .i64 0] X0.out (by kernel_rfl) rfl (by simp [Value.oneCell']) ?_)
  refine QaD (A:=⟨w.heap.size,0,none⟩) rfl (QbO (setRow_heap _ _ _ _ _ _ X0.out) rfl) rfl rfl rfl ?_;exact ⟨by rw [HF.out.1,HF.out.2]<;>rfl,Qba X2.out (Nat.le_refl _) _⟩
end
end Go.Proofs.YtilaebjndadkhaaGreatDoor
