/- What parts of the program compute: packed for TopReach. Conditions: none. -/
import Derived.Test.YtilaebjndadkhaaGreatDoorPz12
set_option linter.all false
set_option maxRecDepth 100000
set_option maxHeartbeats 8000000
open Go.Lib (hid)
namespace Go.Proofs.YtilaebjndadkhaaGreatDoor
section
open Go.RowKit
theorem Qj1(L:List Ent)(i:Nat)(hi:i<L.length)(e:Ent):(L.set i e).take (i+1)=L.take i++[e]:=by
 rw [List.take_succ_eq_append_getElem (by rw [List.length_set];exact hi),List.getElem_set_self,List.take_set_of_le (Nat.le_refl _)]
theorem QkW(L:List Ent)(i:Nat)(e:Ent):(L.set i e).drop (i+1)=L.drop (i+1):=List.drop_set_of_lt (Nat.lt_succ_self _)
theorem Qio(s:ByteArray)(w:World)(hs:s.size≤1000000) :
  Calls Tryz.prog 78 #[.string s] w (Qon (Qc4 s.data.toList) w):=by
 have hsl:s.data.toList.length=s.size:=Qab s;obtain ⟨R,hR⟩:∃ R,Qc4 s.data.toList=R:=⟨_,rfl⟩;rw [hR];unfold Qc4 at hR;rw [hsl] at hR
 by_cases h1:65536<s.size
 ·rw [if_pos h1] at hR
  have HR:=hid hR;have t1:decide (65536<s.size)=true:=decide_eq_true h1;have t1':decide ((s.size:Int)>65536)=true:=decide_eq_true (by omega)
  clear hR h1;go_enter Tryz.func78,Tryz.ntmps78;go_wp2_with fail;go_ret3;exact Qb8 0 5 HR.out.symm (by decide) (Below.refl _ _)
 have t1:decide (65536<s.size)=false:=decide_eq_false h1;have t1':decide ((s.size:Int)>65536)=false:=decide_eq_false (by omega)
 rw [if_neg h1] at hR;have HG:=hid (fun W=>Qja s 0 W (Nat.zero_le _) hs)
 by_cases h2:vE s.data.toList≠0
 ·rw [if_pos h2] at hR
  obtain ⟨E,hE⟩:∃ E,vE s.data.toList=E:=⟨_,rfl⟩;rw [hE] at hR h2;have hV:QwT s 0 = .tuple #[.int .u64 0,.agg #[.string s,.int .i64 0,.int .i64 (E:Nat)]]:=QjU s 0 E hE h2;rw [hV] at HG;have HR:=hid hR;have t2:((E:Int) != 0)=true:=by rw [bne_iff_ne];omega
  clear hR h1 hE hV;go_enter Tryz.func78,Tryz.ntmps78;go_wp2_with fail;refine (HG.out _).mono ?_;rintro e w1 ⟨rfl,hb1⟩;have H1:=hid (Qaa hb1 (QbR w1 (.string s) (.int .i64 0) (.int .i64 (E:Nat)) 246));obtain ⟨⟨c0,c1,c2⟩,-⟩:=Qbm (heap_alloc_new w1 (.cells #[.string s,.int .i64 0,.int .i64 (E:Nat)] 246));clear hb1;go_wp2_with fail;go_quiet (fail);go_wp2_with fail;go_ret3;exact Qb8 0 E HR.out.symm h2 (Qaa H1.out (Qd0 _ _))
 have h2':vE s.data.toList=0:=Classical.not_not.1 h2;rw [if_neg h2] at hR;obtain ⟨n,hn⟩:∃ n,vX s.data.toList=n:=⟨_,rfl⟩;have hnb:n<18446744073709551616:=by rw [←hn];exact Qw1 _ h2'
 obtain ⟨m,hm⟩:∃ m,vN s.data.toList=m:=⟨_,rfl⟩;have hmb:m≤s.size:=by rw [←hm,←hsl];exact QyM _ h2'
 have hV:QwT s 0 = .tuple #[.int .u64 (n:Nat),.agg #[.string s,.int .i64 ((0+m:Nat):Int),.int .i64 0]]:=QmU s 0 n m h2' hn hm;rw [Nat.zero_add] at hV;rw [hV] at HG;rw [hn,hm] at hR;clear h2 h2' hn hm hV
 by_cases h3:4096<n
 ·rw [if_pos h3] at hR
  have HR:=hid hR;have t3:decide (4096<n)=true:=decide_eq_true h3;have t3':decide ((n:Int)>4096)=true:=decide_eq_true (by omega)
  clear hR h1 h3;go_enter Tryz.func78,Tryz.ntmps78;go_wp2_with fail;refine (HG.out _).mono ?_;rintro e w1 ⟨rfl,hb1⟩;have H1:=hid (Qaa hb1 (QbR w1 (.string s) (.int .i64 m) (.int .i64 0) 246));obtain ⟨⟨c0,c1,c2⟩,-⟩:=Qbm (heap_alloc_new w1 (.cells #[.string s,.int .i64 m,.int .i64 0] 246));clear hb1;go_wp2_with fail;go_ret3;exact Qb8 0 21 HR.out.symm (by decide) H1.out
 have t3:decide (4096<n)=false:=decide_eq_false h3;have t3':decide ((n:Int)>4096)=false:=decide_eq_false (by omega)
 rw [if_neg h3] at hR;have HR:=hid hR;have hmk:=QsL n (by omega)
 clear hR h1;go_enter Tryz.func78,Tryz.ntmps78;go_wp2_with fail;refine (HG.out _).mono ?_;rintro e w1 ⟨rfl,hb1⟩;have H1:=hid (Qaa hb1 (QbR w1 (.string s) (.int .i64 m) (.int .i64 0) 246));have hn6:=heap_alloc_new w1 (.cells #[.string s,.int .i64 m,.int .i64 0] 246);obtain ⟨⟨c0,c1,c2⟩,-⟩:=Qbm hn6;have HD:Hid (DW w ((w1.alloc (.cells #[.string s,.int .i64 m,.int .i64 0] 246)).alloc (.cells (Qay (List.replicate n QaZ)).toArray 86)) s w1.heap.size (w1.heap.size+1) m (List.replicate n QaZ)):=hid (by
  have hb2:Below (w1.alloc (.cells #[.string s,.int .i64 m,.int .i64 0] 246)).heap.size (w1.alloc (.cells #[.string s,.int .i64 m,.int .i64 0] 246)) ((w1.alloc (.cells #[.string s,.int .i64 m,.int .i64 0] 246)).alloc (.cells (Qay (List.replicate n QaZ)).toArray 86)):=(Below.refl _ _).alloc (Nat.le_refl _) _;have hA:=heap_alloc_new (w1.alloc (.cells #[.string s,.int .i64 m,.int .i64 0] 246)) (.cells (Qay (List.replicate n QaZ)).toArray 86);rw [World.size_alloc] at hA;exact ⟨Qaa H1.out hb2,Qae hn6 hb2,hA,hb1.size,Nat.le_trans hb1.size (Nat.le_succ _)⟩)
 clear hb1 hn6;go_wp2_with fail;generalize (w1.alloc (.cells #[.string s,.int .i64 m,.int .i64 0] 246)).alloc (.cells (Qay (List.replicate n QaZ)).toArray 86)=W at HD ⊢;have h6A:w1.heap.size<w1.heap.size+1:=Nat.lt_succ_self _;generalize w1.heap.size+1=bA at HD h6A ⊢;generalize w1.heap.size=b6 at HD h6A ⊢;clear c0 c1 c2 hmk HG;have HLn:Hid ((List.replicate n QaZ).length=n):=hid List.length_replicate;have HLo:Hid (∀ e∈List.replicate n QaZ,Qbl e):=hid (fun e he=>by rw [List.eq_of_mem_replicate he];exact QjR)
 generalize List.replicate n QaZ=L0 at HD HR HLn HLo;go_loopw [35] (fun c wr=>∃ (k a:Nat) (L:List Ent),k≤4∧c = .int .i64 k∧a≤s.size∧Hid (L.length=n)∧Hid (∀ e∈L,Qbl e)∧Hid (QdY (4-k) k L (s.data.toList.drop a)=R)∧Hid (DW w wr s b6 bA a L)) (fun c _=>4-(intOf c).toNat)
 case atStart=>exact ⟨0,m,L0,by omega,rfl,hmb,HLn,HLo,HR,HD⟩
 case round=>
  clear HD HR HLn HLo;obtain ⟨k,a,L,hk,rfl,ha,HLn,HLo,HR,HD⟩:=hrel
  by_cases hlt:k<4
  ·have tk:decide ((k:Int)<4)=true:=decide_eq_true (by omega)
   have HRi:Hid (Qnz (3-k) k 0 QaZ [] L (s.data.toList.drop a)=R):=hid (by rw [←HR.out,show 4-k=(3-k)+1 by omega,Qwb])
   have HDi:=hid (HD.out.step (QaJ wr (.int .u64 0) (.int .u64 0) (.int .u32 0) (.int .u32 0) 86));have H9:=hid (heap_alloc_new wr (.cells #[.int .u64 0,.int .u64 0,.int .u32 0,.int .u32 0] 86));have h9A:bA<wr.heap.size:=(gsi HD.out.sA).1;have h96:b6<wr.heap.size:=(gsi HD.out.s6).1;have h9w:w.heap.size≤wr.heap.size:=HD.out.b.size;clear HR HD;go_wp2_with fail;generalize wr.alloc (.cells #[.int .u64 0,.int .u64 0,.int .u32 0,.int .u32 0] 86)=Wi at HDi H9 ⊢;generalize wr.heap.size=b9 at H9 h9A h96 h9w ⊢;go_loopw [40] (fun i wi=>∃ (j a' x0 x1 x2 x3:Nat) (L':List Ent),j≤n∧i = .int .i64 j∧a'≤s.size∧Hid (L'.length=n)∧Hid (∀ e∈L',Qbl e)∧Hid (Qbl (x0,x1,x2,x3))∧Hid (Qnz (3-k) k j (x0,x1,x2,x3) (L'.take j) (L'.drop j) (s.data.toList.drop a')=R)∧Hid (DW w wi s b6 bA a' L')∧Hid (wi.heap[b9]?=some (.cells #[.int .u64 x0,.int .u64 x1,.int .u32 x2,.int .u32 x3] 86 (0,0)))) (fun i _=>n-(intOf i).toNat)
   case atStart=>exact ⟨0,a,0,0,0,0,L,by omega,rfl,ha,HLn,HLo,hid QjR,HRi,HDi,H9⟩
   case round=>
    clear HRi HDi H9 HLn HLo;obtain ⟨j,a',x0,x1,x2,x3,L',hj,rfl,ha',HLn,HLo,HXo,HR,HD,H9⟩:=hrel
    by_cases hjn:j<n
    ·have tj:decide (j<n)=true:=decide_eq_true hjn
     have HGj:=hid (fun W=>Qja s a' W ha' hs)
     have hjl:j<L'.length:=by rw [HLn.out];exact hjn
     have hdr:L'.drop j=L'[j] :: L'.drop (j+1):=List.drop_eq_getElem_cons hjl;have hRj:=HR.out;rw [hdr] at hRj;have hgd:L'.getD j QaZ=L'[j]:=Qb7 hjl;obtain ⟨E,hE⟩:∃ E,vE (s.data.toList.drop a')=E:=⟨_,rfl⟩;have HS6:=hid (Qbm HD.out.s6);obtain ⟨⟨c0,c1,c2⟩,q0,q1,q2⟩:=HS6.out
     by_cases hE0:E=0
     ·have hE':vE (s.data.toList.drop a')=0:=hE.trans hE0
      obtain ⟨X,hX⟩:∃ X,vX (s.data.toList.drop a')=X:=⟨_,rfl⟩;obtain ⟨M,hM⟩:∃ M,vN (s.data.toList.drop a')=M:=⟨_,rfl⟩;have hXb:X<18446744073709551616:=by rw [←hX];exact Qw1 _ hE'
      have hMb:a'+M≤s.size:=by
       have:=QyM _ hE';rw [hM,List.length_drop,hsl] at this;omega
      rw [QmU s a' X M hE' hX hM] at HGj;obtain ⟨a2,ha2⟩:∃ a2,a'+M=a2:=⟨_,rfl⟩;rw [ha2] at HGj hMb;have hdd:(s.data.toList.drop a').drop M=s.data.toList.drop a2:=by rw [List.drop_drop,ha2]
      obtain ⟨Q,hQ⟩:∃ Q,Qd5 k j (x0,x1,x2,x3) L'[j] X=Q:=⟨_,rfl⟩;have HQo:Hid (Q.1=0→Qbl Q.2):=hid (fun h=>by
       rw [←hQ] at h ⊢;exact QrI k j _ _ X HXo.out (HLo.out _ (List.getElem_mem hjl)) hXb h)
      have HR1:Hid (Q.1≠0→R=(Q.1,[])):=hid (fun h=>by
       rw [←hRj,Quz _ _ _ _ _ _ _ _ hE' (by rw [hX,hQ];exact h),hX,hQ])
      have HR2:Hid (Q.1=0→Qnz (3-k) k (j+1) Q.2 (L'.take j++[Q.2]) (L'.drop (j+1)) (s.data.toList.drop a2)=R):=hid (fun h=>by
       rw [←hRj,Qvb _ _ _ _ _ _ _ _ hE' (by rw [hX,hQ];exact h),hX,hM,hQ,hdd])
      have HSet:=hid (fun W (hW:W.heap[bA]?=some (.cells (Qay L').toArray 86 (0,0)))=>(by
       have h:=Qv7 k j x0 x1 x2 x3 X hlt W bA L' j 86 hjl hW HXo.out hXb;unfold Qfh at h;rw [hgd,hQ] at h;exact h:Calls Tryz.prog 133 #[.int .i64 k,.int .i64 j,.agg #[.int .u64 x0,.int .u64 x1,.int .u32 x2,.int .u32 x3],.pointer (some ⟨bA,j*4,none⟩),.int .u64 X] W fun e w'=>∃ L2,e = .returned (.int .i64 (Q.1:Nat))∧w'.heap[bA]?=some (.cells (Qay L2).toArray 86 (0,0))∧L2.length=L'.length∧(Q.1=0→L2=L'.set j Q.2)∧Touch (fun g=>g=bA) W w'))
      have HJ:=hid hjl;clear hRj hdr hgd hE hE0 hE' hX hM ha2 hdd hQ HR hjl;go_wp2_with fail;refine (HGj.out _).mono ?_;rintro e w3 ⟨rfl,hb3⟩;have QBE:=Qaa hb3 (QbR w3 (.string s) (.int .i64 a2) (.int .i64 0) 246);have HD3:=hid (HD.out.step QBE);have H93:=hid (Qae H9.out QBE);have H12:=hid (heap_alloc_new w3 (.cells #[.string s,.int .i64 a2,.int .i64 0] 246));have h12A:bA<w3.heap.size:=Nat.lt_of_lt_of_le (gsi HD.out.sA).1 hb3.size;have h129:b9<w3.heap.size:=Nat.lt_of_lt_of_le (gsi H9.out).1 hb3.size;have h126:b6<w3.heap.size:=Nat.lt_of_lt_of_le (gsi HD.out.s6).1 hb3.size;have h12w:w.heap.size≤w3.heap.size:=Nat.le_trans HD.out.b.size hb3.size;clear hb3 QBE HD H9 c0 c1 c2 q0 q1 q2;obtain ⟨⟨u0,u1,u2⟩,-⟩:=Qbm H12.out;obtain ⟨⟨g0,g1,g2,g3⟩,-⟩:=QaF H93.out;go_wp2_with fail;generalize w3.alloc (.cells #[.string s,.int .i64 a2,.int .i64 0] 246)=W3 at HD3 H93 H12 u0 u1 u2 g0 g1 g2 g3 ⊢;generalize w3.heap.size=b12 at H12 h12A h129 h126 h12w u0 u1 u2 ⊢;have HSd:Hid (W3.drew.cell? ⟨b9,0,none⟩=some (.int .u64 x0)∧W3.drew.cell? ⟨b9,1,none⟩=some (.int .u64 x1)∧W3.drew.cell? ⟨b9,2,none⟩=some (.int .u32 x2)∧W3.drew.cell? ⟨b9,3,none⟩=some (.int .u32 x3)):=hid ⟨g0,g1,g2,g3⟩;have HDd:Hid (DW w W3.drew s b6 bA a' L'):=hid (HD3.out.step (Below.refl _ _).drew);have H9d:Hid (W3.drew.heap[b9]?=some (.cells #[.int .u64 x0,.int .u64 x1,.int .u32 x2,.int .u32 x3] 86 (0,0))):=hid H93.out;have H12d:Hid (W3.drew.heap[b12]?=some (.cells #[.string s,.int .i64 a2,.int .i64 0] 246 (0,0))):=hid H12.out;go_region_held3 (fun w'=>w'.cell? ⟨b9,0,none⟩=some (.int .u64 x0)∧w'.cell? ⟨b9,1,none⟩=some (.int .u64 x1)∧w'.cell? ⟨b9,2,none⟩=some (.int .u32 x2)∧w'.cell? ⟨b9,3,none⟩=some (.int .u32 x3)) (first|with_reducible exact HSd.out|with_reducible exact HS4.out)
       (first
        |(go_at_call 133;refine (HSet.out _ HDd.out.sA).mono ?_;rintro e w4 ⟨L2,rfl,hk4,hl4,h04,ht4⟩;have HD4:=hid (HDd.out.touch ht4 hk4);have H94:=hid ((ht4.block b9 (gsi H9d.out).1 (by show b9≠bA;omega)).trans H9d.out);have H124:=hid ((ht4.block b12 (gsi H12d.out).1 (by show b12≠bA;omega)).trans H12d.out);have HS4:=hid (QaF H94.out).1;have HL4:=hid (And.intro hl4 h04);clear hk4 hl4 h04 ht4))
      all_goals
       clear HSd HDd H9d H12d HD3 H93 H12 g0 g1 g2 g3 u0 u1 u2 HSet HGj;obtain ⟨E,hE⟩:∃ E,Q.1=E:=⟨_,rfl⟩;have HE:=hid hE;rw [hE]
       by_cases hE0:E=0
       ·have hQ2:=HL4.out.2 (hE.trans hE0)
        have HRn:=hid (HR2.out (hE.trans hE0));have hEo:=HQo.out (hE.trans hE0);have HN4:=hid (HL4.out.1.trans HLn.out);obtain ⟨Q1,y0,y1,y2,y3⟩:=Q;have HEo:Hid (Qbl (y0,y1,y2,y3)):=hid hEo;have HR3:Hid (Qnz (3-k) k (j+1) (y0,y1,y2,y3) (L2.take (j+1)) (L2.drop (j+1)) (s.data.toList.drop a2)=R):=hid (by
         have h:=HRn.out;rw [hQ2,Qj1 L' j HJ.out,QkW];exact h)
        have HLo2:Hid (∀ e∈L2,Qbl e):=hid (fun e he=>by
         rw [hQ2] at he;rcases List.mem_or_eq_of_mem_set he with h|h
         ·exact HLo.out e h
         ·rw [h];exact HEo.out)
        have hjl2:j<L2.length:=by rw [HN4.out];exact hjn
        have hge:L2[j]=(y0,y1,y2,y3):=by
         simp only [hQ2,List.getElem_set_self]
        have QAB:=QgH HD4.out.sA j hjl2;rw [hge] at QAB;obtain ⟨⟨c0,c1,c2,c3⟩,-⟩:=QAB;obtain ⟨⟨u0,u1,u2⟩,-⟩:=Qbm H124.out;obtain ⟨⟨g0,g1,g2,g3⟩,p0,p1,p2,p3⟩:=QaF H94.out;obtain ⟨⟨v0,v1,v2⟩,q0,q1,q2⟩:=Qbm HD4.out.s6;have n69:b6≠b9:=by omega
        have n9A:bA≠b9:=by omega
        subst hE0;clear hE HE HR1 HR2 HRn hQ2 hEo hge hjl2 HQo HL4;go_wp2_with fail;go_region
        all_goals
         have HDn:=hid (((HD4.out.other b9 h9w n69 n9A (.int .u64 y0) (.int .u64 y1) (.int .u32 y2) (.int .u32 y3)).scan a2).step (Below.refl _ _).drew);have H9n:=hid (Qae ((QhG ((((w4.setCell ⟨b9,0,none⟩ (.int .u64 y0)).setCell ⟨b9,1,none⟩ (.int .u64 y1)).setCell ⟨b9,2,none⟩ (.int .u32 y2)).setCell ⟨b9,3,none⟩ (.int .u32 y3)) b6 b9 (fun e=>n69 e.symm) (.string s) (.int .i64 a2) (.int .i64 0)).trans (QdB H94.out (.int .u64 y0) (.int .u64 y1) (.int .u32 y2) (.int .u32 y3))) (Below.refl _ _).drew)
         generalize (((((((w4.setCell ⟨b9,0,none⟩ (.int .u64 y0)).setCell ⟨b9,1,none⟩ (.int .u64 y1)).setCell ⟨b9,2,none⟩ (.int .u32 y2)).setCell ⟨b9,3,none⟩ (.int .u32 y3)).setCell ⟨b6,0,none⟩ (.string s)).setCell ⟨b6,1,none⟩ (.int .i64 a2)).setCell ⟨b6,2,none⟩ (.int .i64 0)).drew=Wn at HDn H9n ⊢;clear HD4 H94 H124 HS4 c0 c1 c2 c3 u0 u1 u2 g0 g1 g2 g3 p0 p1 p2 p3 v0 v1 v2 q0 q1 q2;go_wp2_with fail;go_roundw
         case rel=>
          refine ⟨j+1,a2,y0,y1,y2,y3,L2,by omega,by go_num,hMb,HN4,HLo2,HEo,HR3,?_,?_⟩
          ·exact HDn
          ·exact H9n
         case measure=>simp [intOf];omega
       ·have HRb:=hid (HR1.out (fun h=>hE0 (hE.symm.trans h)))
        have tE:((E:Int) != 0)=true:=by rw [bne_iff_ne];omega
        have HE0:=hid hE0;obtain ⟨⟨c0,c1,c2⟩,-⟩:=Qbm HD4.out.s6;clear hE hE0;go_wp2_with fail;go_quiet (fail);go_wp2_with fail;go_ret3;exact Qb8 _ E (by rw [HRb.out,HE.out]) HE0.out (Qaa HD4.out.b (Qd0 _ _))
     ·have hEn:vE (s.data.toList.drop a')≠0:=fun h=>hE0 (hE.symm.trans h)
      rw [QjU s a' E hE hE0] at HGj;have HRb:Hid (R=(E,[])):=hid (by rw [←hRj,QxG _ _ _ _ _ _ _ _ hEn,hE])
      have tE:((E:Int) != 0)=true:=by rw [bne_iff_ne];omega
      have HE0:=hid hE0;clear hRj hdr hgd hE hE0 hEn HR;go_wp2_with fail;refine (HGj.out _).mono ?_;rintro e w3 ⟨rfl,hb3⟩;have QBE:=Qaa hb3 (QbR w3 (.string s) (.int .i64 a') (.int .i64 (E:Nat)) 246);have HD3:=hid (HD.out.step QBE);obtain ⟨⟨u0,u1,u2⟩,-⟩:=Qbm (heap_alloc_new w3 (.cells #[.string s,.int .i64 a',.int .i64 (E:Nat)] 246));clear hb3 QBE c0 c1 c2 q0 q1 q2;obtain ⟨⟨c0,c1,c2⟩,-⟩:=Qbm HD3.out.s6;go_wp2_with fail;go_quiet (fail);go_wp2_with fail;go_ret3;exact Qb8 _ E HRb.out HE0.out (Qaa HD3.out.b (Qd0 _ _))
    ·obtain rfl:j=n:=by omega
     have HRn:Hid (QdY (4-(k+1)) (k+1) L' (s.data.toList.drop a')=R):=hid (by
      have h:=HR.out;rw [List.drop_of_length_le (by rw [HLn.out];exact Nat.le_refl _),List.take_of_length_le (by rw [HLn.out];exact Nat.le_refl _),QxE] at h
      rw [←h,show 4-(k+1)=3-k by omega])
     go_wp2_with fail;go_roundw
     case rel=>exact ⟨k+1,a',L',by omega,by go_num,ha',HLn,HLo,HRn,HD⟩
     case measure=>simp [intOf];omega
  ·obtain rfl:k=4:=by omega
   have hRc:=HR.out;rw [Nat.sub_self] at hRc;unfold QdY at hRc;have hdl:(s.data.toList.drop a).length=s.size-a:=by rw [List.length_drop,hsl]
   obtain ⟨⟨c0,c1,c2⟩,-⟩:=Qbm HD.out.s6
   by_cases hta:a<s.size
   ·have hne:s.data.toList.drop a≠[]:=fun e=>by rw [e] at hdl;simp at hdl;omega
    rw [if_pos hne] at hRc;have HRc:=hid hRc;have ta:decide (a<s.size)=true:=decide_eq_true hta;clear hRc hdl hne HR;go_wp2_with fail;go_quiet (fail);go_wp2_with fail;go_ret3;exact Qb8 _ 4 HRc.out.symm (by decide) (Qaa HD.out.b (Qd0 _ _))
   ·have he:s.data.toList.drop a = []:=List.length_eq_zero_iff.1 (by omega)
    rw [if_neg (fun h=>h he)] at hRc
    have ta:decide (a<s.size)=false:=decide_eq_false hta;have QAz:=hid (fun W (hW:Below wr.heap.size wr W)=>Qc3 (.slice (some ⟨bA,0,none⟩) L.length L.length) L W (QlY (Qae HD.out.sA hW) (by rw [HLn.out];omega)) HLo.out (by rw [HLn.out];omega))
    by_cases hrw:QeC L=0
    ·rw [if_neg (fun h=>h hrw)] at hRc
     rw [hrw,HLn.out] at QAz;have HRc:=hid hRc;clear hRc hdl he HR hrw;go_wp2_with fail;refine (QAz.out _ (Below.refl _ _)).mono ?_;rintro e w3 ⟨rfl,hb3⟩;have HD3:=hid (HD.out.step hb3);clear hb3;go_wp2_with fail;go_ret3;have hok:=QqT (R:=R) (w:=w) (w':=w3) (L:=L) (s.size:Int) bA HRc.out.symm HD3.out.b (by rw [HLn.out];omega) HD3.out.lA HD3.out.sA
     rw [HLn.out] at hok;exact hok
    ·rw [if_pos hrw] at hRc
     obtain ⟨E,hE⟩:∃ E,QeC L=E:=⟨_,rfl⟩;rw [hE] at hRc hrw QAz;rw [HLn.out] at QAz;have HRc:=hid hRc;have HE0:=hid hrw;have tE:((E:Int) != 0)=true:=by rw [bne_iff_ne];omega
     clear hRc hdl he HR hrw hE;go_wp2_with fail;refine (QAz.out _ (Below.refl _ _)).mono ?_;rintro e w3 ⟨rfl,hb3⟩;have HD3:=hid (HD.out.step hb3);clear hb3;go_wp2_with fail;go_ret3;exact Qb8 _ E HRc.out.symm HE0.out HD3.out.b
end
section
open Go.RowKit
structure OneArc(s:ByteArray)(h:Hdr)(i n:Nat)(t p0 p1 p2:ByteArray):Prop where
 hs:s.size≤1000000
 hD:QmO s.data.toList=h
 hE:Qfj s.data.toList=0
 hin:∀ k,k<4→(Qos h k).1+(Qos h k).2≤s.size
 e0:s.extract h.rf (h.rf+h.rl)=p0
 e1:s.extract h.mf (h.mf+h.ml)=p1
 e2:s.extract h.lf (h.lf+h.ll)=p2
 e3:s.extract h.df (h.df+h.dl)=t
 hroot:Qc4 p0.data.toList=(0,[(i,0,n,1)])
 hp:p0.size≤1000000
theorem OneEnt.low{e0 e1 e2 e3 B0 B1:Nat}{u:Value}{W:World}(h:OneEnt e0 e1 e2 e3 B1 u W)(hB:B0≤B1):OneEnt e0 e1 e2 e3 B0 u W:=by
 obtain ⟨g,cp,rfl,ho⟩:=h;exact ⟨g,cp,rfl,Qbd ho hB⟩
theorem QiX(s:ByteArray)(h:Hdr)(i n:Nat)(t p0 p1 p2:ByteArray)(w:World)(a:OneArc s h i n t p0 p1 p2)(hc:QcF (i,0,n,1)=0)(hok:Qbl (i,0,n,1)) :
  Calls Tryz.prog 40 #[.string s] w fun e w'=>∃ u,e = .returned (.tuple #[u,.string t,.int .i64 0])∧OneEnt i 0 n 1 w.heap.size u w'∧Below w.heap.size w w':=by
 obtain ⟨p3,hp3⟩:∃ p3,t=p3:=⟨_,rfl⟩;have HCut:Hid (∀ W,Calls Tryz.prog 77 #[.string s] W fun e w'=>e = .returned (.tuple #[.agg #[.int .u64 (h.rf:Nat),.int .u64 (h.rl:Nat),.int .u64 (h.mf:Nat),.int .u64 (h.ml:Nat),.int .u64 (h.lf:Nat),.int .u64 (h.ll:Nat),.int .u64 (h.df:Nat),.int .u64 (h.dl:Nat),.int .u64 (h.ad:Nat),.int .u64 (h.en:Nat),.int .u64 (h.co:Nat),.bool h.cl,.int .u8 (h.inn:Nat),.int .u8 (h.out:Nat),.int .u8 (h.kd:Nat),.int .i64 h.z0,.int .i64 h.z1,.int .i64 h.x0,.int .i64 h.y0,.int .i64 h.x1,.int .i64 h.y1,.int .i64 h.zo,.int .i64 h.lo,.int .i64 h.la],.agg #[.string p0,.string p1,.string p2,.string p3],.int .i64 0])∧Below W.heap.size W w'):=hid (fun W=>by
  have q:=Qqr s h W a.hs a.hD a.hE a.hin;have e:QbV s h 4=#[.string p0,.string p1,.string p2,.string p3]:=by rw [←a.e0,←a.e1,←a.e2,←hp3,←a.e3];rfl
  rw [e] at q;exact q)
 have QBC:=hid (fun W=>Qio p0 W a.hp)
 rw [a.hroot] at QBC;have HJo:=hid (fun (v:Value) (p:ByteArray) W (hE:EntB W v [(i,0,n,1)])=>Qh8 i 0 n 1 v p W hE hc hok (by omega))
 rw [hp3];clear hc hok a hp3;go_enter Tryz.func40,Tryz.ntmps40;go_wp2_with fail;refine (HCut.out _).mono ?_;rintro e w1 ⟨rfl,hb1⟩;have HB1:=hid hb1;obtain ⟨V5,hV5⟩:∃ V5,w1.alloc (.cells #[.int .u64 0,.int .u64 0,.int .u64 0,.int .u64 0,.int .u64 0,.int .u64 0,.int .u64 0,.int .u64 0,.int .u64 0,.int .u64 0,.int .u64 0,.bool false,.int .u8 0,.int .u8 0,.int .u8 0,.int .i64 0,.int .i64 0,.int .i64 0,.int .i64 0,.int .i64 0,.int .i64 0,.int .i64 0,.int .i64 0,.int .i64 0] 78)=V5:=⟨_,rfl⟩;obtain ⟨B5,hB5⟩:∃ B5,w1.heap.size=B5:=⟨_,rfl⟩;obtain ⟨V6,hV6⟩:∃ V6,V5.alloc (.cells #[.string ⟨#[]⟩,.string ⟨#[]⟩,.string ⟨#[]⟩,.string ⟨#[]⟩] 111)=V6:=⟨_,rfl⟩;obtain ⟨B6,hB6⟩:∃ B6,V5.heap.size=B6:=⟨_,rfl⟩;have hb6:Below w1.heap.size w1 V6:=by rw [←hV6,←hV5];exact ((Below.refl _ _).alloc (Nat.le_refl _) _).alloc (by simp) _
 have l56:B5<B6:=by rw [←hB6,←hV5,World.size_alloc,hB5];omega
 have k5:V6.heap[B5]?=some (.cells #[.int .u64 0,.int .u64 0,.int .u64 0,.int .u64 0,.int .u64 0,.int .u64 0,.int .u64 0,.int .u64 0,.int .u64 0,.int .u64 0,.int .u64 0,.bool false,.int .u8 0,.int .u8 0,.int .u8 0,.int .i64 0,.int .i64 0,.int .i64 0,.int .i64 0,.int .i64 0,.int .i64 0,.int .i64 0,.int .i64 0,.int .i64 0] 78 (0,0)):=by
  rw [←hV6,←hB5];refine (Below.heap_alloc _ _ _ (by rw [hB6,hB5];exact l56)).trans ?_
  rw [←hV5];exact heap_alloc_new w1 _
 have k6:V6.heap[B6]?=some (.cells #[.string ⟨#[]⟩,.string ⟨#[]⟩,.string ⟨#[]⟩,.string ⟨#[]⟩] 111 (0,0)):=by rw [←hV6,←hB6];exact heap_alloc_new V5 _
 obtain ⟨V7,hV7⟩:∃ V7,V6.setRow B5 #[.int .u64 (h.rf:Nat),.int .u64 (h.rl:Nat),.int .u64 (h.mf:Nat),.int .u64 (h.ml:Nat),.int .u64 (h.lf:Nat),.int .u64 (h.ll:Nat),.int .u64 (h.df:Nat),.int .u64 (h.dl:Nat),.int .u64 (h.ad:Nat),.int .u64 (h.en:Nat),.int .u64 (h.co:Nat),.bool h.cl,.int .u8 (h.inn:Nat),.int .u8 (h.out:Nat),.int .u8 (h.kd:Nat),.int .i64 h.z0,.int .i64 h.z1,.int .i64 h.x0,.int .i64 h.y0,.int .i64 h.x1,.int .i64 h.y1,.int .i64 h.zo,.int .i64 h.lo,.int .i64 h.la]=V7:=⟨_,rfl⟩;have k67:V7.heap[B6]?=some (.cells #[.string ⟨#[]⟩,.string ⟨#[]⟩,.string ⟨#[]⟩,.string ⟨#[]⟩] 111 (0,0)):=by rw [←hV7];exact (setRow_other _ _ _ _ (by omega)).trans k6
 obtain ⟨V8,hV8⟩:∃ V8,V7.setRow B6 #[.string p0,.string p1,.string p2,.string p3]=V8:=⟨_,rfl⟩;have k68:V8.heap[B6]?=some (.cells #[.string p0,.string p1,.string p2,.string p3] 111 (0,0)):=by rw [←hV8];exact setRow_heap _ _ _ _ _ _ k67
 have hb8:Below w1.heap.size w1 V8:=by rw [←hV8,←hV7];exact Qba (Qba hb6 (by omega) _) (by omega) _
 have HZ:=hid (And.intro k5 k6);have HNE:Hid (B6≠B5):=hid (by omega)
 have H8:=hid (And.intro (Qaa hb1 hb8) k68);obtain ⟨⟨d0,d1,d2,d3⟩,-⟩:=QaF k68;clear hb1 hb6 l56 k5 k6 k67 k68 hb8;go_wp2_with (first
  |(refine wpList_store_row rfl 78 (.tmp 5) (.tmp 14) rfl B5 #[.int .u64 (h.rf:Nat),.int .u64 (h.rl:Nat),.int .u64 (h.mf:Nat),.int .u64 (h.ml:Nat),.int .u64 (h.lf:Nat),.int .u64 (h.ll:Nat),.int .u64 (h.df:Nat),.int .u64 (h.dl:Nat),.int .u64 (h.ad:Nat),.int .u64 (h.en:Nat),.int .u64 (h.co:Nat),.bool h.cl,.int .u8 (h.inn:Nat),.int .u8 (h.out:Nat),.int .u8 (h.kd:Nat),.int .i64 h.z0,.int .i64 h.z1,.int .i64 h.x0,.int .i64 h.y0,.int .i64 h.x1,.int .i64 h.y1,.int .i64 h.zo,.int .i64 h.lo,.int .i64 h.la] rfl rfl 78 #[.int .u64 0,.int .u64 0,.int .u64 0,.int .u64 0,.int .u64 0,.int .u64 0,.int .u64 0,.int .u64 0,.int .u64 0,.int .u64 0,.int .u64 0,.bool false,.int .u8 0,.int .u8 0,.int .u8 0,.int .i64 0,.int .i64 0,.int .i64 0,.int .i64 0,.int .i64 0,.int .i64 0,.int .i64 0,.int .i64 0,.int .i64 0] HZ.out.1 (by kernel_rfl) rfl (by simp [Value.oneCell']) ?_)
  |(refine wpList_store_row rfl 111 (.tmp 6) (.tmp 15) rfl B6 #[.string p0,.string p1,.string p2,.string p3] rfl rfl 111 #[.string ⟨#[]⟩,.string ⟨#[]⟩,.string ⟨#[]⟩,.string ⟨#[]⟩] (by first|exact (setRow_other _ _ _ _ HNE.out).trans HZ.out.2|(rw [←hV7];exact (setRow_other _ _ _ _ HNE.out).trans HZ.out.2)) (by kernel_rfl) rfl (by simp [Value.oneCell']) ?_))
 refine (QBC.out _).mono ?_;rintro e w2 ⟨a2,v2,rfl,hb2,-,hv2⟩;obtain ⟨g2,rfl,ho2⟩:=hv2 rfl;have hE2:=EntB.of_own (l:=[(i,0,n,1)]) ho2 (by simp)
 have k2:=(hb2.block _ (gsi H8.out.2).1).trans H8.out.2;have H2:=hid (And.intro (Qaa H8.out.1 hb2) (And.intro k2 hE2));obtain ⟨⟨b0,b1,b2,b3⟩,-⟩:=QaF k2;clear hb2 hv2 ho2 hE2 k2 d0 d1 d2 d3 hV5 hV6 hV7 hV8 hB5 hB6;go_wp2_with fail;refine (HJo.out _ _ _ H2.out.2.2).mono ?_;rintro e w3 ⟨u,rfl,QAA,hb3⟩;have k3:=(hb3.block _ (gsi H2.out.2.1).1).trans H2.out.2.1;have H3:=hid (And.intro (H2.out.1.trans (hb3.mono H2.out.1.size)) QAA);obtain ⟨⟨c0,c1,c2,c3⟩,-⟩:=QaF k3;have HLo:Hid (w.heap.size≤w2.heap.size):=hid H2.out.1.size;clear hb3 QAA k3 b0 b1 b2 b3;go_wp2_with fail;go_quiet (fail);go_wp2_with fail;go_ret3;have hq:Below w3.heap.size w3 (w3.drewN nq):=⟨rfl,rfl,rfl,Nat.le_refl _,fun _ _=>rfl⟩
 exact ⟨u,rfl,(H3.out.2.low HLo.out).below hq,H3.out.1.trans (hq.mono H3.out.1.size)⟩
theorem QiY(s:ByteArray)(h:Hdr)(i n:Nat)(t p0 p1 p2:ByteArray)(w:World)(a:OneArc s h i n t p0 p1 p2)(hc:QcF (i,0,n,1)=0)(hi:i<6004799503160661)(hn:t.size=n)(h0:0<n)(h1:n≤65536) :
  Calls Tryz.prog 16 #[.string s] w (QiI i t w):=by
 have hok:Qbl (i,0,n,1):=⟨show i<_ by omega,show 0<18446744073709551616 by omega,show n<_ by omega,show 1<4294967296 by omega⟩
 have HR:=hid (fun W=>QiX s h i n t p0 p1 p2 W a hc hok)
 have HBk:=hid (fun (v:Value) W (hE:EntB W v [(i,0,n,1)])=>Qi0 i n t hn v W hi h0 h1 hE hc)
 obtain ⟨W0,hW0⟩:∃ W0,w.alloc (.cells #[.slice none 0 0] 50)=W0:=⟨_,rfl⟩;have hb0:Below w.heap.size w W0:=by rw [←hW0];exact (Below.refl _ _).alloc (Nat.le_refl _) _
 have k0:W0.heap[w.heap.size]?=some (.cells #[.slice none 0 0] 50 (0,0)):=by rw [←hW0];exact heap_alloc_new w _
 have H0:=hid (And.intro hb0 k0);clear a hc hok hi hn h0 h1 hb0 k0;go_enter Tryz.func16,Tryz.ntmps16;go_wp2_with fail;refine (HR.out _).mono ?_;rintro e w1 ⟨u,rfl,QAA,hb1⟩;have H1:=hid (And.intro (Qaa H0.out.1 hb1) (And.intro ((hb1.block _ (gsi H0.out.2).1).trans H0.out.2) QAA.entB));clear QAA hb1;go_wp2_with fail;refine (HBk.out _ _ H1.out.2.2).mono ?_;rintro e w2 ⟨g,c,rfl,ho,hb2⟩;have k2:=(hb2.block _ (gsi H1.out.2.1).1).trans H1.out.2.1;have hlt:=(gsi H1.out.2.1).1;have H2:=hid (And.intro (Qaa H1.out.1 hb2) (And.intro (QeE k2 (.slice (some ⟨g,0,none⟩) 1 c)) (And.intro ho hlt)));obtain ⟨r0,rf⟩:=Qb5 k2;clear k2 ho hb2 hlt;go_wp2_with fail;refine QaD (A:=⟨w.heap.size,0,none⟩) rfl (Qgm _ _ _ _ H2.out.2.1) rfl rfl rfl ?_;refine ⟨g,c,rfl,Qbd (Qad H2.out.2.2.1 (fun k hk=>Below.heap_setCell _ _ _ _ ?_)) H1.out.1.size,H2.out.1.setCell (p:=⟨w.heap.size,0,none⟩) (Nat.le_refl _) _⟩
 have:=(H2.out.2.2.1.lt k hk).1;have:=H2.out.2.2.2;show k≠w.heap.size;omega
end
section
open Go.RowKit
def Qps(w0 w:World)(b lb mb rb most nx:Nat)(Z:List (Key×Nat×List Ent))(a:Key)(R:Nat×List Ent)(e:Ending)(w':World):Prop:=
 ∃ v Z' nx',e = .returned (.tuple #[v,.int .i64 (R.1:Nat)])∧(R.1≠0→v = .slice none 0 0∧Z'=Z)∧(R.1=0→w'.ownsRow w.heap.size 86 4 v R.2.length (Qay R.2))∧ShZ w0 w' b lb mb rb most nx' Z'∧nx'≤nx+1∧nx≤nx'∧(∀ z∈Z',z∈Z∨(z.1=a∧z.2.2=R.2∧R.1=0))∧Touch (ShS b lb mb rb) w w'
section
variable {w0 w:World} {b lb mb rb most nx:Nat} {Z:List (Key×Nat×List Ent)}
theorem ShZ.next(h:ShZ w0 w b lb mb rb most nx Z):ShZ w0 (w.setCell ⟨b,2,none⟩ (.int .i64 ((nx+1:Nat):Int))) b lb mb rb most (nx+1) Z:=by
 obtain ⟨a1,a2,a3,-,-,a6⟩:=h.apart;have hk:∀ j,j≠b→(w.setCell ⟨b,2,none⟩ (.int .i64 ((nx+1:Nat):Int))).heap[j]?=w.heap[j]?:=fun j hj=>Below.heap_setCell _ _ _ _ hj
 refine ⟨?_,h.lru.keep (hk _ a1.symm) (hk _ a2.symm),?_,h.nm,fun z hz=>Nat.le_succ_of_le (h.nx z hz),h.small,h.len,h.mst,h.ne,h.lo⟩
 ·obtain ⟨p,q,hb⟩:=h.blk
  exact ⟨p,q,QqI hb _⟩
 ·obtain ⟨gr,n,k,kk⟩:=h.map
  exact ⟨gr,n,k.keep (hk _ a3.symm),fun z hz=>let ⟨v,hv,ho⟩:=kk z hz;⟨v,hv,Qad ho (fun g hg=>let ⟨C,hC⟩:=QbJ ho g hg;hk g (a6 g C hC).1)⟩⟩
theorem Qfm{S:Nat→Prop}{w w1 w2:World}{e:TypeId}{k n:Nat}{v:Value}{xs:List Value}(h:w1.ownsRow w.heap.size e k v n xs)(ht:Touch S w1 w2)(hS:∀ i,S i→i<w.heap.size):w2.ownsRow w.heap.size e k v n xs:=
 QoB h ht (fun g hg hs=>by have h1:=hS g hs;have h2:=(h.lt g hg).1;omega)
structure KeepMid(w0 w w':World)(b lb mb rb most nx:Nat)(Z:List (Key×Nat×List Ent))(l:List Ent):Prop where
 blk:∃ hi mi,ShB w' b lb rb (nx+1) hi mi
 lru:LruAt w' lb most mb (Z.map fun z=>(z.1,(z.2.1:Int)))
 map:∃ g n v,MapF (QbZ .i64) (fun v:Value=>v) w' rb g n∧g (nx+1)=some v∧w'.ownsRow w0.heap.size 86 4 v l.length (Qay l)∧∀ z∈Z,∃ v,g z.2.1=some v∧w'.ownsRow w0.heap.size 86 4 v z.2.2.length (Qay z.2.2)
 t:Touch (ShS b lb mb rb) w w'
theorem Qvr{W6 wa:World}{gr:Nat→Option Value}{n n2:Nat}{Z2:List (Key×Nat×List Ent)}{l:List Ent}{v:Value}{hi mi:Int}(hm:MapF (QbZ .i64) (fun v:Value=>v) W6 rb gr n)(hb:ShB W6 b lb rb (nx+1) hi mi)(hl:LruAt W6 lb most mb (Z2.map fun z=>(z.1,(z.2.1:Int))))
  (hr:∀ z∈Z2,∃ v,gr z.2.1=some v∧W6.ownsRow w0.heap.size 86 4 v z.2.2.length (Qay z.2.2)) (hA:b≠lb∧b≠mb∧b≠rb∧lb≠mb∧lb≠rb∧(∀ (i:Nat) (C:Array Value),W6.heap[i]?=some (.cells C 86 (0,0))→i≠b∧i≠lb∧i≠mb∧i≠rb)) (hmr:mb≠rb) (hnx:∀ z∈Z2,z.2.1≤nx) (hlo:w0.heap.size≤rb)
  (ho:wa.ownsRow w0.heap.size 86 4 v l.length (Qay l)) (hB:Below W6.heap.size W6 wa) (ob:Obj) (hu:MapF (QbZ .i64) (fun v:Value=>v) (Qaw wa rb ob) rb (fun c=>if c=nx+1 then some v else gr c) n2):KeepMid w0 W6 (Qaw wa rb ob) b lb mb rb most nx Z2 l:=by
 obtain ⟨a1,a2,a3,-,a5,a6⟩:=hA;have hlt:=hl.lt;have hk:∀ j,j<W6.heap.size→j≠rb→(Qaw wa rb ob).heap[j]?=W6.heap[j]?:=fun j hj hne=>(Qah wa rb ob j hne).trans (hB.block j hj)
 refine ⟨⟨hi,mi,(hk b (gsi hb).1 a3).trans hb⟩,hl.keep (hk lb hlt.1 a5) (hk mb hlt.2 hmr),⟨_,_,v,hu,if_pos rfl,Qad ho (fun g hg=>?_),fun z hz=>?_⟩,?_⟩
 ·obtain ⟨C,hC⟩:=QbJ ho g hg
  refine Qah wa rb ob g (fun e=>?_)
  subst e;obtain ⟨es,ck,hmm⟩:=hm.blk;rw [hB.block _ hm.lt,hmm] at hC;cases hC
 ·obtain ⟨u,hu1,hu2⟩:=hr z hz
  refine ⟨u,?_,Qad hu2 (fun g hg=>?_)⟩
  ·show (if z.2.1=nx+1 then some v else gr z.2.1)=some u
   rw [if_neg (by have:=hnx z hz;omega)];exact hu1
  ·obtain ⟨C,hC⟩:=QbJ hu2 g hg
   exact hk g (hu2.lt g hg).2 (a6 g C hC).2.2.2
 ·exact (Touch.of_below hB).trans (S':=fun i=>i=rb) ⟨rfl,rfl,rfl,by rw [Qcs];exact Nat.le_refl _,fun i _ hi=>Qah wa rb ob i hi⟩ (fun i hi=>.inl (.inr (.inr hi)))
theorem Qjf(h:ShZ w0 w b lb mb rb most nx Z)(hw0:w0.heap.size≤w.heap.size)(a:Key)(ha:a∉Z.map (·.1))(s:ByteArray)(hs:s.size≤1000000)(hnx:nx≤1000000):Calls Tryz.prog 52 #[.pointer (some ⟨b,0,none⟩),.agg #[.int .u64 (a.1:Nat),.int .u64 (a.2:Nat)],.string s] w (Qps w0 w b lb mb rb most nx Z a (Qc4 s.data.toList)):=by
 have HDc:=hid (fun W=>Qio s W hs)
 have hRok:=Qn8 s.data.toList;obtain ⟨R,hR⟩:∃ R,Qc4 s.data.toList=R:=⟨_,rfl⟩;rw [hR] at HDc hRok ⊢;obtain ⟨E,l⟩:=R;have HRok:=hid hRok;have hB0:=Qai w (.int .u64 (a.1:Nat)) (.int .u64 (a.2:Nat)) 93;have HK:=hid (heap_alloc_new w (.cells #[.int .u64 (a.1:Nat),.int .u64 (a.2:Nat)] 93));have H0:=hid (h.below hB0);have HLT:=hid (And.intro h.lts (And.intro hw0 hnx));have HSS:Hid (∀ i,ShS b lb mb rb i→i<w.heap.size):=hid (fun i hi=>by
  have:=h.lts;rcases hi with e|(e|e)|e<;>omega)
 have HB0:=hid hB0;have HA:=hid ha;obtain ⟨k0,k1⟩:=QaA w (.int .u64 (a.1:Nat)) (.int .u64 (a.2:Nat)) 93;clear h hB0 hR hRok hw0 ha hs hnx
 by_cases hE:E≠0
 ·have t1:((E:Int) != 0)=true:=by rw [bne_iff_ne];omega
  have HE:=hid hE;clear hE;go_enter Tryz.func52,Tryz.ntmps52;go_wp2_with fail;refine (HDc.out _).mono ?_;rintro e w1 ⟨at1,v,rfl,hb1,QAP,-⟩;obtain rfl:=QAP HE.out;have HB1:=hid hb1;clear hb1 QAP k0 k1;go_wp2_with fail;go_ret2;exact ⟨_,Z,nx,rfl,fun _=>⟨rfl,rfl⟩,fun e=>absurd e HE.out,H0.out.below HB1.out,by omega,Nat.le_refl _,fun z hz=>.inl hz,Touch.of_below (Qaa HB0.out HB1.out)⟩
 obtain rfl:E=0:=Classical.not_not.1 hE;clear hE;obtain ⟨r1,r2,r3⟩:=HRok.out rfl;have HL4:=hid (And.intro r1 r2);clear r1 r2 r3 HRok
 by_cases hm0:most=0
 ·have t1:((most:Int)==0)=true:=by rw [beq_iff_eq];omega
  have t2:(most==0)=true:=by rw [beq_iff_eq];omega
  clear hm0;go_enter Tryz.func52,Tryz.ntmps52;go_wp2_with fail;refine (HDc.out _).mono ?_;rintro e w1 ⟨at1,v,rfl,hb1,-,hok⟩;obtain ⟨g,hv,ho⟩:=hok rfl;subst hv;have HB1:=hid hb1;have HO:=hid ho;have H1:=hid (H0.out.below hb1);obtain ⟨hi,mi,hbk⟩:=H1.out.blk;have HMo:=hid (Qf9 hbk H1.out.lru);clear hb1 hok k0 k1 ho hbk;go_wp2_with fail;refine HMo.out.mono ?_;rintro e w2 ⟨rfl,hw⟩;obtain rfl:=hw.symm;clear hw;go_wp2_with fail;go_ret2;exact ⟨_,Z,nx,rfl,fun e=>absurd rfl e,fun _=>Qbd HO.out HB0.out.size,H1.out,by omega,Nat.le_refl _,fun z hz=>.inl hz,Touch.of_below (Qaa HB0.out HB1.out)⟩
 have t1:((most:Int)==0)=false:=by rw [beq_eq_false_iff_ne];omega
 have t2:(most==0)=false:=by rw [beq_eq_false_iff_ne];omega
 have HM0:=hid hm0;clear hm0;go_enter Tryz.func52,Tryz.ntmps52;go_wp2_with fail;refine (HDc.out _).mono ?_;rintro e w1 ⟨at1,v,rfl,hb1,-,hok⟩;obtain ⟨g,hv,ho⟩:=hok rfl;subst hv;have HB1:=hid hb1;have HO:=hid ho;have H1:=hid (H0.out.below hb1);have HK1:=hid (Qae HK.out hb1);obtain ⟨hi,mi,hbk⟩:=H1.out.blk;have HMo:=hid (Qf9 hbk H1.out.lru);obtain ⟨⟨k0',k1'⟩,-⟩:=Qam HK1.out;clear hb1 hok k0 k1 ho hbk HDc;go_wp2_with fail;refine HMo.out.mono ?_;rintro e w2 ⟨rfl,hw⟩;obtain rfl:=hw.symm;clear hw;go_wp2_with fail;refine (Qkb H1.out a HA.out).mono ?_;rintro e w2 ⟨rfl,hb2⟩;have H2:=hid (H1.out.below hb2);have HB2:=hid (Qaa HB1.out hb2);have HK2:=hid (Qae HK1.out hb2);have HO2:=hid (Qad HO.out (fun g hg=>hb2.block g (HO.out.lt g hg).2))
 obtain ⟨hi2,mi2,hbk⟩:=H2.out.blk;have HMo2:=hid (Qf9 hbk H2.out.lru);have QAF:=QrH hbk H2.out.lru;rw [List.length_map] at QAF;have HLe2:=hid QAF;clear hb2 k0' k1' HMo H1 HK1 HO HB1 hbk QAF;have hzm:=H2.out.len;go_upto_region 9 with fail
 go_cut [33] (fun s33 wx=>s33 = .bool (decide (Z.length=most))∧w2=wx)
 case first=>
  go_wp2_with fail;refine HLe2.out.mono ?_;rintro e w3 ⟨rfl,hw⟩;obtain rfl:=hw.symm;clear hw;go_wp2_with fail;refine HMo2.out.mono ?_;rintro e w3 ⟨rfl,hw⟩;obtain rfl:=hw.symm;clear hw;go_wp2_with fail;go_meet;exact ⟨by congr 1;rw [Bool.eq_iff_iff];simp;omega,rfl⟩
 obtain ⟨rfl,rfl⟩:=hcut;go_upto_if 33 with fail
 go_cut [] (fun wx=>∃ Z2,ShZ w0 wx b lb mb rb most nx Z2∧Z2.length<most∧(∀ z∈Z2,z∈Z)∧a∉Z2.map (·.1)∧Touch (ShS b lb mb rb) w2 wx)
 case first=>
  by_cases hf:Z.length=most
  ·obtain ⟨z0,Z2,hZ⟩:∃ z0 Z2,Z=z0 :: Z2:=by
    cases hZ:Z with
    |nil=>rw [hZ] at hf;exact absurd hf.symm HM0.out
    |cons z0 Z2=>exact ⟨z0,Z2,rfl⟩
   have hdt:decide (Z.length=most)=true:=decide_eq_true hf;rw [hdt];have HKs:=hid (QpK H2.out);have HZ:=hid hZ;have HF:=hid hf;clear hdt hf hZ;go_wp2_with fail;refine HKs.out.mono ?_;rintro e w3 ⟨v3,rfl,h3,hb3⟩;rw [HZ.out] at h3;obtain ⟨b3,o3,c3,hv3,hle3,hlt3,hce3⟩:=h3.at (by simp)
   subst hv3;have y0:w3.cell? ⟨b3,o3,none⟩=some (.int .u64 (z0.1.1:Nat)):=hce3 0 _ rfl;have y1:w3.cell? ⟨b3,o3+1,none⟩=some (.int .u64 (z0.1.2:Nat)):=hce3 1 _ rfl;have H3:=hid (H2.out.below hb3);have HB3:=hid hb3;clear h3 hle3 hlt3 hce3 hb3;go_wp2_with fail;refine (QpL (A:=[]) (z:=z0) (B:=Z2) (by have:=H3.out;rwa [HZ.out] at this)).mono ?_
   rintro e w4 ⟨rfl,h4,ht4⟩;have H4:=hid h4;have HT4:=hid ht4;clear h4 ht4 y0 y1;go_wp2_with fail;go_meet;refine ⟨Z2,H4.out,?_,fun z hz=>by rw [HZ.out];exact List.mem_cons_of_mem _ hz,fun hm=>HA.out ?_,(Touch.of_below (S:=ShS b lb mb rb) HB3.out).trans HT4.out (fun i hi=>.inl hi)⟩
   ·have:=HF.out
    rw [HZ.out,List.length_cons] at this;omega
   ·rw [HZ.out,List.map_cons]
    exact List.mem_cons_of_mem _ hm
  ·have hdf:decide (Z.length=most)=false:=decide_eq_false hf
   rw [hdf];have HF:=hid hf;clear hdf hf;go_wp2_with fail;go_meet;exact ⟨Z,H2.out,by have:=HF.out;omega,fun z hz=>hz,HA.out,Touch.refl _ _⟩
 obtain ⟨Z2,h5,hl5,hs5,ha5,ht5⟩:=hcut;generalize hK:w.heap.size=K at HK HLT HSS HK2;have HKe:=hid hK;clear hK;have H5:=hid h5;have HK5:=hid ((ht5.block K (gsi HK2.out).1 (fun hs=>by have:=HSS.out K hs;omega)).trans HK2.out)
 have HO5:=hid (Qfm (S:=ShS b lb mb rb) (Qbd HO2.out HB0.out.size) ht5 (fun i hi=>by rw [HKe.out];exact HSS.out i hi))
 have HT5:Hid (Touch (ShS b lb mb rb) w wc):=hid ((Touch.of_below (Qaa HB0.out HB2.out)).trans ht5 (fun i hi=>.inl hi))
 have HZ5:=hid (And.intro hl5 (And.intro hs5 ha5));have HNX:=hid h5.nx;have hnxb:nx≤1000000:=HLT.out.2.2;clear h5 hl5 hs5 ha5 ht5 hzm HMo2 HLe2 H2 HK2 HO2 HB2 H0 HB0 HA HK;obtain ⟨hi5,mi5,hb5⟩:=H5.out.blk;obtain ⟨⟨-,-,c2,-,-⟩,-,-,f2,-,-⟩:=Qal hb5;have H6:Hid (ShZ w0 (wc.setCell ⟨b,2,none⟩ (.int .i64 ((nx:Int)+1))) b lb mb rb most (nx+1) Z2):=hid (by
  have:=H5.out.next
  rwa [show ((nx+1:Nat):Int)=(nx:Int)+1 by omega] at this)
 have HT6:=hid (Qaf (a:=⟨b,2,none⟩) (.int .i64 ((nx:Int)+1)) HT5.out (.inl (.inl rfl)));have hbK:K≠b:=by have:=HLT.out.1;omega
 have HK6:=hid ((Below.heap_setCell wc ⟨b,2,none⟩ (.int .i64 ((nx:Int)+1)) K hbK).trans HK5.out);have HO6:=hid (Qfm (S:=ShS b lb mb rb) HO5.out (Qaf (a:=⟨b,2,none⟩) (.int .i64 ((nx:Int)+1)) (Touch.refl (ShS b lb mb rb) wc) (.inl (.inl rfl))) (fun i hi=>by rw [HKe.out];exact HSS.out i hi))
 clear hb5 hbK;go_upto_region 12 with fail
 generalize wc.setCell ⟨b,2,none⟩ (.int .i64 ((nx:Int)+1))=W6 at H6 HT6 HK6 HO6 ⊢;clear c2 f2 H5 HT5 HK5 HO5;obtain ⟨hi6,mi6,hb6⟩:=H6.out.blk;obtain ⟨⟨c0,c1,c2,-,-⟩,-⟩:=Qal hb6;have c2:W6.cell? ⟨b,2,none⟩=some (.int .i64 ((nx:Int)+1)):=c2;have HB6:=hid hb6;obtain ⟨gr,n,hm,hr⟩:=H6.out.map;have HM6:=hid hm;have HR6:=hid hr;have HA6:=hid H6.out.apart;have HD:Hid (Below W6.heap.size W6 W6.drew):=hid (Below.refl _ _).drew;have HC:=hid (Qgy _ _ l W6.drew (Qad HO6.out (fun _ _=>rfl)) (by have:=HL4.out.2;omega))
 have HSD:Hid (W6.drew.cell? ⟨b,1,none⟩=some (.map (some rb))∧W6.drew.cell? ⟨b,2,none⟩=some (.int .i64 ((nx:Int)+1))):=hid ⟨c1,c2⟩;clear hb6 hm hr;go_cut [] (fun wx=>KeepMid w0 W6 wx b lb mb rb most nx Z2 l)
 case first=>
  go_region_held3 (fun w'=>w'.cell? ⟨b,1,none⟩=some (.map (some rb))∧w'.cell? ⟨b,2,none⟩=some (.int .i64 ((nx:Int)+1))) (first|exact HSD.out|exact HSX.out|exact HSM.out)
   (first
    |(go_at_call 66;refine HC.out.mono ?_;rintro e wa ⟨a1,c1',rfl,ho1,hb1⟩;have HBa:Hid (Below W6.heap.size W6 wa):=hid (Qaa HD.out hb1);have HOa:=hid ho1;have HSX:Hid (wa.cell? ⟨b,1,none⟩=some (.map (some rb))∧wa.cell? ⟨b,2,none⟩=some (.int .i64 ((nx:Int)+1))):=hid (by have:=Qal (Qae HB6.out HBa.out);exact ⟨this.1.2.1,this.1.2.2.1⟩);obtain ⟨ob,hup,hmu⟩:=(HM6.out.keep (HBa.out.block rb HM6.out.lt)).put QkJ Tryz.underlying121 (nx+1) (.slice a1 l.length c1');have hup:(Instr.mapUpdate 121 (.map (some rb)) (.int .i64 ((nx:Int)+1)) (.slice a1 l.length c1')).run Tryz.prog wa = .ok () (Qaw wa rb ob):=hup;have HMu:=hid hmu;have HSM:Hid ((Qaw wa rb ob).cell? ⟨b,1,none⟩=some (.map (some rb))∧(Qaw wa rb ob).cell? ⟨b,2,none⟩=some (.int .i64 ((nx:Int)+1))):=hid (by have:=Qal ((Qah wa rb ob b HA6.out.2.2.1).trans (Qae HB6.out HBa.out));exact ⟨this.1.2.1,this.1.2.2.1⟩);clear ho1 hb1 hmu))
  all_goals
   go_wp2_with fail;go_meet;exact Qvr HM6.out HB6.out H6.out.lru HR6.out HA6.out H6.out.ne HNX.out H6.out.lo.2.2.2 (Qbd HOa.out (Nat.le_trans (by rw [HKe.out];exact HLT.out.2.1) HT6.out.size)) HBa.out _ HMu.out
 have HM:=hid hcut;have HK7:=hid ((hcut.t.block K (gsi HK6.out).1 (fun hs=>by have:=HSS.out K hs;omega)).trans HK6.out)
 have HO7:=hid (Qfm (S:=ShS b lb mb rb) HO6.out hcut.t (fun i hi=>by rw [HKe.out];exact HSS.out i hi))
 have HT7:=hid (HT6.out.trans hcut.t (fun i hi=>.inl hi))
 have HLTm:=hid H6.out.len;have HN7:=hid (And.intro H6.out.nm (And.intro H6.out.small (And.intro H6.out.mst (And.intro H6.out.ne H6.out.lo))));clear hcut c0 c1 c2 H6 HT6 HK6 HO6 HB6 HM6 HR6 HC HSD HD;obtain ⟨hi7,mi7,hb7⟩:=HM.out.blk;have HB7:=hid hb7;obtain ⟨⟨c0,-,c2,-,-⟩,-⟩:=Qal hb7;have c2:wc.cell? ⟨b,2,none⟩=some (.int .i64 ((nx:Int)+1)):=c2;obtain ⟨⟨q0,q1⟩,-⟩:=Qam HK7.out;have ha7:a∉(Z2.map fun z=>(z.1,(z.2.1:Int))).map (·.1):=by rw [List.map_map];exact HZ5.out.2.2
 have HC:=hid (QnC (w:=wc.drew) (HM.out.lru.keep rfl rfl) a ((nx:Int)+1) ha7 (by rw [List.length_map];exact HZ5.out.1))
 have HSD:Hid (wc.drew.cell? ⟨b,0,none⟩=some (.pointer (some ⟨lb,0,none⟩))∧wc.drew.cell? ⟨b,2,none⟩=some (.int .i64 ((nx:Int)+1))∧wc.drew.cell? ⟨K,0,none⟩=some (.int .u64 (a.1:Nat))∧wc.drew.cell? ⟨K,1,none⟩=some (.int .u64 (a.2:Nat))):=hid ⟨c0,c2,q0,q1⟩;have HD:Hid (Below wc.heap.size wc wc.drew):=hid (Below.refl _ _).drew;clear hb7 ha7;go_upto_region 13 with fail
 go_region_held3 (fun w'=>w'.cell? ⟨b,0,none⟩=some (.pointer (some ⟨lb,0,none⟩))∧w'.cell? ⟨b,2,none⟩=some (.int .i64 ((nx:Int)+1))∧w'.cell? ⟨K,0,none⟩=some (.int .u64 (a.1:Nat))∧w'.cell? ⟨K,1,none⟩=some (.int .u64 (a.2:Nat))) (first|exact HSD.out|exact HSX.out)
  (first
   |(go_at_call 99;refine HC.out.mono ?_;rintro e wa ⟨rfl,hla,hta⟩;have HLa:=hid hla;have HTa:=hid ((Touch.of_below (S:=fun i=>i=lb∨i=mb) HD.out).trans hta (fun i hi=>.inl hi));have HBa:Hid (ShB wa b lb rb (nx+1) hi7 mi7):=hid ((HTa.out.block b (gsi HB7.out).1 (by rintro (e|e);exact HA6.out.1 e;exact HA6.out.2.1 e)).trans HB7.out);have HSX:Hid (wa.cell? ⟨b,0,none⟩=some (.pointer (some ⟨lb,0,none⟩))∧wa.cell? ⟨b,2,none⟩=some (.int .i64 ((nx:Int)+1))∧wa.cell? ⟨K,0,none⟩=some (.int .u64 (a.1:Nat))∧wa.cell? ⟨K,1,none⟩=some (.int .u64 (a.2:Nat))):=hid (by have:=Qal HBa.out;have hk:=Qam ((HTa.out.block K (gsi HK7.out).1 (by have:=HLT.out.1;rintro (e|e)<;>omega)).trans HK7.out);exact ⟨this.1.1,this.1.2.2.1,hk.1⟩);clear hla hta))
 all_goals
  go_wp2_with fail;go_ret2;obtain ⟨g,n,v,hm,hv,ho,hr⟩:=HM.out.map;have hTT:Touch (ShS b lb mb rb) wc wa:=HTa.out.mono (fun i hi=>.inr (.inl hi))
  have QAq:∀ {k:Nat} {u:Value} {xs:List Value},wc.ownsRow w0.heap.size 86 4 u k xs→wa.ownsRow w0.heap.size 86 4 u k xs:=fun {k u xs} hu=>Qad hu (fun gg hg=>by
   obtain ⟨C,hC⟩:=QbJ hu gg hg;refine HTa.out.block gg (hu.lt gg hg).2 ?_;obtain ⟨g',old,new,hl1,hm1,-⟩:=HM.out.lru;unfold LruB at hl1;rintro (e|e)
   ·rw [e,hl1] at hC;simp only [Option.some.injEq,Obj.cells.injEq] at hC;exact absurd hC.2.1 (by decide)
   ·obtain ⟨es,ck,hmm⟩:=hm1.blk
    rw [e,hmm] at hC;cases hC)
  refine ⟨_,Z2++[(a,nx+1,l)],nx+1,rfl,fun e=>absurd rfl e,fun _=>Qfm (S:=ShS b lb mb rb) HO7.out hTT (fun i hi=>by rw [HKe.out];exact HSS.out i hi),⟨⟨hi7,mi7,HBa.out⟩,?_,⟨g,n,hm.keep (HTa.out.block rb hm.lt ?_),fun z hz=>?_⟩,?_,?_,?_,?_,HN7.out.2.2.1,HN7.out.2.2.2.1,HN7.out.2.2.2.2⟩,Nat.le_refl _,by omega,fun z hz=>?_,HT7.out.trans hTT (fun i hi=>.inl hi)⟩
  ·rw [List.map_append]
   exact HLa.out
  ·rintro (e|e)
   ·exact HA6.out.2.2.2.2.1 e.symm
   ·exact HN7.out.2.2.2.1 e.symm
  ·rcases List.mem_append.1 hz with h1|h1
   ·obtain ⟨u,hu1,hu2⟩:=hr z h1
    exact ⟨u,hu1,QAq hu2⟩
   ·rw [List.mem_singleton.1 h1]
    exact ⟨v,hv,QAq ho⟩
  ·rw [List.map_append,List.nodup_append]
   refine ⟨HN7.out.1,by simp,fun x hx y hy=>?_⟩
   obtain ⟨z,hz,rfl⟩:=List.mem_map.1 hx;have hy':y=nx+1:=by simpa using hy
   have:=HNX.out z hz;omega
  ·intro z hz
   rcases List.mem_append.1 hz with h1|h1
   ·exact Nat.le_succ_of_le (HNX.out z h1)
   ·rw [List.mem_singleton.1 h1];exact Nat.le_refl _
  ·intro z hz
   rcases List.mem_append.1 hz with h1|h1
   ·exact HN7.out.2.1 z h1
   ·rw [List.mem_singleton.1 h1];exact HL4.out.2
  ·rw [List.length_append]
   exact HZ5.out.1
  ·rcases List.mem_append.1 hz with h1|h1
   ·exact .inl (HZ5.out.2.1 z h1)
   ·rw [List.mem_singleton.1 h1];exact .inr ⟨rfl,rfl,rfl⟩
end
end
end Go.Proofs.YtilaebjndadkhaaGreatDoor
