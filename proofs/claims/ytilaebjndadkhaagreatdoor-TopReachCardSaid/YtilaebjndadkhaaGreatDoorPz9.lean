/- What parts of the program compute: packed for TopReach. Conditions: none. -/
import Derived.Test.YtilaebjndadkhaaGreatDoorPz8
set_option linter.all false
set_option maxRecDepth 100000
set_option maxHeartbeats 8000000
open Go.Lib (hid)
namespace Go.Proofs.YtilaebjndadkhaaGreatDoor
section
open Go.RowKit
theorem Qri(w:World):(zeroValue 81).run Tryz.prog w = .ok (.slice none 0 0) w:=by kernel_rfl
theorem QqH{w:World}{b:Nat}{x0 x1 x2 x3 x4:Value}{t:TypeId}(k:w.heap[b]?=some (.cells #[x0,x1,x2,x3,x4] t (0,0)))(y3:Value):(w.setCell ⟨b,3,none⟩ y3).heap[b]?=some (.cells #[x0,x1,x2,y3,x4] t (0,0)):=by
 simp [World.setCell,Array.getElem?_modify,k]
theorem QqG{w:World}{b:Nat}{x0 x1 x2 x3 x4:Value}{t:TypeId}(k:w.heap[b]?=some (.cells #[x0,x1,x2,x3,x4] t (0,0)))(y4:Value):(w.setCell ⟨b,4,none⟩ y4).heap[b]?=some (.cells #[x0,x1,x2,x3,y4] t (0,0)):=by
 simp [World.setCell,Array.getElem?_modify,k]
theorem QqI{w:World}{b:Nat}{x0 x1 x2 x3 x4:Value}{t:TypeId}(k:w.heap[b]?=some (.cells #[x0,x1,x2,x3,x4] t (0,0)))(y2:Value):(w.setCell ⟨b,2,none⟩ y2).heap[b]?=some (.cells #[x0,x1,y2,x3,x4] t (0,0)):=by
 simp [World.setCell,Array.getElem?_modify,k]
theorem Qbd{w:World}{b1 b2:Nat}{e:TypeId}{s n:Nat}{v:Value}{x:List Value}(h:w.ownsRow b1 e s v n x)(hb:b2≤b1):w.ownsRow b2 e s v n x:=by
 refine ⟨h.1,?_⟩;rcases h.2 with h0|⟨b,cap,cur,e1,e2,e3⟩
 ·exact .inl h0
 ·exact .inr ⟨b,cap,cur,e1,Nat.le_trans hb e2,e3⟩
section
variable {w0 w:World} {b lb mb rb most nx:Nat} {Z:List (Key×Nat×List Ent)}
theorem ShZ.count(h:ShZ w0 w b lb mb rb most nx Z)(i:Nat)(x:Int)(hi:i=3∨i=4):ShZ w0 (w.setCell ⟨b,i,none⟩ (.int .i64 x)) b lb mb rb most nx Z:=by
 obtain ⟨a1,a2,a3,-,-,a6⟩:=h.apart;have hk:∀ j,j≠b→(w.setCell ⟨b,i,none⟩ (.int .i64 x)).heap[j]?=w.heap[j]?:=fun j hj=>Below.heap_setCell _ _ _ _ hj
 refine ⟨?_,h.lru.keep (hk _ a1.symm) (hk _ a2.symm),?_,h.nm,h.nx,h.small,h.len,h.mst,h.ne,h.lo⟩
 ·obtain ⟨p,q,hb⟩:=h.blk
  rcases hi with rfl|rfl
  ·exact ⟨x,q,QqH hb _⟩
  ·exact ⟨p,x,QqG hb _⟩
 ·obtain ⟨gr,n,k,kk⟩:=h.map
  exact ⟨gr,n,k.keep (hk _ a3.symm),fun z hz=>let ⟨v,hv,ho⟩:=kk z hz;⟨v,hv,Qad ho (fun g hg=>let ⟨C,hC⟩:=QbJ ho g hg;hk g (a6 g C hC).1)⟩⟩
theorem Qka(h:ShZ w0 w b lb mb rb most nx Z)(a:Key)(ha:a∉Z.map (·.1)):Calls Tryz.prog 51 #[.pointer (some ⟨b,0,none⟩),.agg #[.int .u64 (a.1:Nat),.int .u64 (a.2:Nat)]] w fun e w'=>e = .returned (.tuple #[.slice none 0 0,.bool false])∧ShZ w0 w' b lb mb rb most nx Z∧Touch (ShS b lb mb rb) w w':=by
 have ha':a∉(Z.map fun z=>(z.1,(z.2.1:Int))).map (·.1):=by rw [List.map_map];exact ha
 have hB0:=Qai w (.int .u64 (a.1:Nat)) (.int .u64 (a.2:Nat)) 93;obtain ⟨k0,k1⟩:=QaA w (.int .u64 (a.1:Nat)) (.int .u64 (a.2:Nat)) 93;have HS:=hid (fun (W:World) (hW:Below (w.alloc (.cells #[.int .u64 (a.1:Nat),.int .u64 (a.2:Nat)] 93)).heap.size (w.alloc (.cells #[.int .u64 (a.1:Nat),.int .u64 (a.2:Nat)] 93)) W)=>Qhg (a:=a) (fun W hW=>h.cellL hW) hB0 (heap_alloc_new w (.cells #[.int .u64 (a.1:Nat),.int .u64 (a.2:Nat)] 93)) hW)
 have H0:=hid (h.below hB0);have HA:=hid ha';have HB0:=hid hB0;clear h ha ha' hB0;have c0:=(HS.out _ (Below.refl _ _)).1;go_enter Tryz.func51,Tryz.ntmps51;go_wp2_with fail;generalize w.alloc (.cells #[.int .u64 (a.1:Nat),.int .u64 (a.2:Nat)] 93)=W0 at HS HB0 H0 c0 k0 k1 ⊢;have HD:Hid (Below W0.heap.size W0 W0.drew):=hid (Below.refl _ _).drew;have HP0:=hid (Qqf (w:=W0.drew) (H0.out.below HD.out).lru a HA.out);generalize hK:w.heap.size=K at HS k0 k1 ⊢;clear hK;go_upto_region 3 with fail
 go_cut [6,7] (fun s6 s7 wx=>s6 = .int .i64 0∧s7 = .bool false∧Below W0.heap.size W0 wx)
 case first=>
  go_region_held3 (fun w'=>w'.cell? ⟨b,0,none⟩=some (.pointer (some ⟨lb,0,none⟩))∧w'.cell? ⟨K,0,none⟩=some (.int .u64 (a.1:Nat))∧w'.cell? ⟨K,1,none⟩=some (.int .u64 (a.2:Nat))) (first|exact HS.out _ HD.out|exact HS.out _ HX1.out)
   (first
    |(go_at_call 94;refine HP0.out.mono ?_;rintro e wa ⟨rfl,hba⟩;have HX1:Hid (Below W0.heap.size W0 wa):=hid (Qaa HD.out hba);clear hba))
  all_goals
   go_wp2_with fail;go_meet;exact ⟨rfl,rfl,HX1.out⟩
 obtain ⟨rfl,rfl,hX⟩:=hcut;have H1:=hid (H0.out.below hX);have HT:=hid (Touch.of_below (S:=ShS b lb mb rb) (Qaa HB0.out hX));clear hX HP0 c0 k0 k1 HD HS;obtain ⟨hi,mi,hb1⟩:=H1.out.blk;obtain ⟨⟨-,-,-,-,c4⟩,-,-,-,-,f4⟩:=Qal hb1;clear hb1;go_wp2_with fail;go_ret2;exact ⟨rfl,H1.out.count 4 _ (.inr rfl),Qaf (a:=⟨b,4,none⟩) _ HT.out (.inl (.inl rfl))⟩
def Qwy(w0 w:World)(b lb mb rb most nx:Nat)(Z:List (Key×Nat×List Ent))(l:List Ent)(e:Ending)(w':World):Prop:=
 ∃ a c,e = .returned (.tuple #[.slice a l.length c,.bool true])∧w'.ownsRow w.heap.size 86 4 (.slice a l.length c) l.length (Qay l)∧ShZ w0 w' b lb mb rb most nx Z∧Touch (ShS b lb mb rb) w w'
theorem QpJ{A B:List (Key×Nat×List Ent)}{z:Key×Nat×List Ent}(h:ShZ w0 w b lb mb rb most nx (A++z :: B))(hw0:w0.heap.size≤w.heap.size):Calls Tryz.prog 51 #[.pointer (some ⟨b,0,none⟩),.agg #[.int .u64 (z.1.1:Nat),.int .u64 (z.1.2:Nat)]] w (Qwy w0 w b lb mb rb most nx (A++B++[z]) z.2.2):=by
 obtain ⟨a,na,la⟩:=z;have QA9:∀ (W:World),ShZ w0 W b lb mb rb most nx (A++(a,na,la) :: B)→LruAt W lb most mb (A.map (fun z=>(z.1,(z.2.1:Int)))++(a,(na:Int)) :: B.map (fun z=>(z.1,(z.2.1:Int)))):=fun W k=>by
  have:=k.lru
  rwa [List.map_append,List.map_cons] at this
 have QBP:∀ x,x∈A++B++[(a,na,la)]→x∈A++(a,na,la) :: B:=fun x hx=>by
  rw [List.append_assoc,List.mem_append,List.mem_append,List.mem_singleton] at hx;rw [List.mem_append,List.mem_cons];rcases hx with h1|h1|h1
  ·exact .inl h1
  ·exact .inr (.inr h1)
  ·exact .inr (.inl h1)
 have HPM:=hid QBP;have hB0:=Qai w (.int .u64 (a.1:Nat)) (.int .u64 (a.2:Nat)) 93;obtain ⟨k0,k1⟩:=QaA w (.int .u64 (a.1:Nat)) (.int .u64 (a.2:Nat)) 93;have HS:=hid (fun (W:World) (hW:Below (w.alloc (.cells #[.int .u64 (a.1:Nat),.int .u64 (a.2:Nat)] 93)).heap.size (w.alloc (.cells #[.int .u64 (a.1:Nat),.int .u64 (a.2:Nat)] 93)) W)=>Qhg (a:=a) (fun W hW=>h.cellL hW) hB0 (heap_alloc_new w (.cells #[.int .u64 (a.1:Nat),.int .u64 (a.2:Nat)] 93)) hW)
 have HK:=hid (heap_alloc_new w (.cells #[.int .u64 (a.1:Nat),.int .u64 (a.2:Nat)] 93));have H0:=hid (h.below hB0);have HLT:=hid (And.intro h.lts hw0);have HB0:=hid hB0;have HL:=hid QA9;have hsm:la.length≤4096:=h.small (a,na,la) (by simp)
 clear h hB0 QA9 QBP hw0;have c0:=(HS.out _ (Below.refl _ _)).1;go_enter Tryz.func51,Tryz.ntmps51;go_wp2_with fail;generalize w.alloc (.cells #[.int .u64 (a.1:Nat),.int .u64 (a.2:Nat)] 93)=W0 at HS HB0 HK H0 c0 k0 k1 ⊢;have HD:Hid (Below W0.heap.size W0 W0.drew):=hid (Below.refl _ _).drew;have HP0:=hid (QxM (w:=W0.drew) (HL.out _ (H0.out.below HD.out)));generalize hK:w.heap.size=K at HS HK HLT k0 k1 ⊢;have HKe:=hid hK;clear hK;have HA0:=hid H0.out.apart;go_upto_region 3 with fail
 go_cut [6,7] (fun s6 s7 wx=>s6 = .int .i64 (na:Nat)∧s7 = .bool true∧LruAt wx lb most mb (A.map (fun z=>(z.1,(z.2.1:Int)))++B.map (fun z=>(z.1,(z.2.1:Int)))++[(a,(na:Int))])∧Touch (fun i=>i=lb∨i=mb) W0 wx)
 case first=>
  go_region_held3 (fun w'=>w'.cell? ⟨b,0,none⟩=some (.pointer (some ⟨lb,0,none⟩))∧w'.cell? ⟨K,0,none⟩=some (.int .u64 (a.1:Nat))∧w'.cell? ⟨K,1,none⟩=some (.int .u64 (a.2:Nat))) (first|exact HS.out _ HD.out|exact HSX.out)
   (first
    |(go_at_call 94;refine HP0.out.mono ?_;rintro e wa ⟨rfl,hla,hta⟩;have HLa:=hid hla;have HTa:=hid ((Touch.of_below (S:=fun i=>i=lb∨i=mb) HD.out).trans hta (fun i hi=>.inl hi));have HSX:Hid (wa.cell? ⟨b,0,none⟩=some (.pointer (some ⟨lb,0,none⟩))∧wa.cell? ⟨K,0,none⟩=some (.int .u64 (a.1:Nat))∧wa.cell? ⟨K,1,none⟩=some (.int .u64 (a.2:Nat))):=hid (by obtain ⟨hi,mi,hb⟩:=H0.out.blk;exact ⟨(Qal ((HTa.out.block b (gsi hb).1 (by rintro (e|e);exact HA0.out.1 e;exact HA0.out.2.1 e)).trans hb)).1.1,(Qam ((HTa.out.block K (gsi HK.out).1 (by have:=HLT.out;rintro (e|e)<;>omega)).trans HK.out)).1⟩);clear hla hta))
  all_goals
   go_wp2_with fail;go_meet;exact ⟨rfl,rfl,HLa.out,HTa.out⟩
 obtain ⟨rfl,rfl,hX,hT⟩:=hcut;have H1:Hid (ShZ w0 wc b lb mb rb most nx (A++B++[(a,na,la)])):=hid (by
  obtain ⟨hi,mi,hb⟩:=H0.out.blk;obtain ⟨gr,n,hm,hr⟩:=H0.out.map;have hnb:∀ j,j<W0.heap.size→j≠lb→j≠mb→wc.heap[j]?=W0.heap[j]?:=fun j hj h1 h2=>hT.block j hj (by rintro (e|e);exact h1 e;exact h2 e)
  refine ⟨⟨hi,mi,(hnb b (gsi hb).1 HA0.out.1 HA0.out.2.1).trans hb⟩,?_,⟨gr,n,hm.keep (hnb rb hm.lt (fun e=>HA0.out.2.2.2.2.1 e.symm) (fun e=>H0.out.ne e.symm)),fun z hz=>?_⟩,?_,fun z hz=>H0.out.nx z (HPM.out z hz),fun z hz=>H0.out.small z (HPM.out z hz),?_,H0.out.mst,H0.out.ne,H0.out.lo⟩
  ·rw [List.map_append,List.map_append]
   exact hX
  ·obtain ⟨v,hv,ho⟩:=hr z (HPM.out z hz)
   exact ⟨v,hv,Qad ho (fun g hg=>by
    obtain ⟨C,hC⟩:=QbJ ho g hg;exact hnb g (ho.lt g hg).2 (HA0.out.2.2.2.2.2 g C hC).2.1 (HA0.out.2.2.2.2.2 g C hC).2.2.1)⟩
  ·have hnd:=H0.out.nm
   rw [List.map_append,List.map_cons] at hnd;rw [List.map_append,List.map_append,List.append_assoc];refine (List.Perm.nodup_iff ?_).1 hnd;refine List.Perm.append_left _ ?_;show ((a,na,la).2.1 :: B.map (·.2.1)).Perm (B.map (·.2.1)++[(a,na,la).2.1])
   exact (List.perm_append_singleton _ _).symm
  ·have:=H0.out.len
   simp only [List.length_append,List.length_cons,List.length_nil] at this ⊢;omega)
 have HT:=hid (((Touch.of_below (S:=ShS b lb mb rb) HB0.out).trans hT (fun i hi=>.inl (.inr (.inl hi)))))
 clear hX hT HP0 c0 k0 k1 HD HS HK H0;obtain ⟨hi,mi,hb1⟩:=H1.out.blk;obtain ⟨⟨-,-,-,c3,-⟩,-,-,-,f3,-⟩:=Qal hb1;clear hb1;go_upto_region 8 with fail
 have H2:=hid (H1.out.count 3 (wrap64 (hi+1)) (.inl rfl));have HT2:=hid (Qaf (a:=⟨b,3,none⟩) (.int .i64 (wrap64 (hi+1))) HT.out (.inl (.inl rfl)));generalize wc.setCell ⟨b,3,none⟩ (.int .i64 (wrap64 (hi+1)))=W3 at H2 HT2 ⊢;clear c3 f3 H1 HT;obtain ⟨hi3,mi3,hb3⟩:=H2.out.blk;obtain ⟨⟨-,c1,-,-,-⟩,-⟩:=Qal hb3;obtain ⟨gr,n,hm,hr⟩:=H2.out.map;obtain ⟨v,hv,ho⟩:=hr (a,na,la) (by simp)
 have hlk:=hm.look QkJ Tryz.underlying121 Qri na false;rw [hv] at hlk;have hlk:(Instr.lookup 121 (.map (some rb)) (.int .i64 (na:Nat)) false).run Tryz.prog W3 = .ok v W3:=hlk;have HC:=hid (Qgy v _ la W3 ho (by omega))
 clear hb3 hm hr hv ho;go_wp2_with fail;refine HC.out.mono ?_;rintro e w1 ⟨a1,c1',rfl,h1,h2⟩;have HF:=hid (And.intro h1 h2);clear h1 h2 c1 hlk;go_wp2_with fail;go_ret2;refine ⟨a1,c1',rfl,Qbd HF.out.1 HT2.out.size,H2.out.below HF.out.2,HT2.out.trans (Touch.of_below HF.out.2) (fun i hi=>.inl hi)⟩
end
end
section
open Go.RowKit
theorem QjV:KeyT Tryz.prog 43 (QbZ .u64):=QoF .u64 .u64 Tryz.underlying43
theorem Qfl(w:World):(zeroValue 3).run Tryz.prog w = .ok (.int .i64 0) w:=by kernel_rfl
theorem QlU:(Tryz.prog.info? 54).map (fun i=>(i.zero,i.size,i.bytes))=some (some (.agg #[.int .u64 0,.string ⟨#[]⟩]),2,24):=by kernel_rfl
theorem Qgm(w:World)(b:Nat)(t:TypeId)(x0:Value)(h:w.heap[b]?=some (.cells #[x0] t (0,0))):(loadVar 50 ⟨b,0,none⟩).run Tryz.prog w = .ok (.agg #[x0]) w:=
 run_loadVar_row w b t 50 #[x0] (0,0) _ h Tryz.underlying50 rfl (by kernel_rfl)
theorem Qb5{w:World}{b:Nat}{x0:Value}{t:TypeId}(k:w.heap[b]?=some (.cells #[x0] t (0,0))):w.cell? ⟨b,0,none⟩=some x0∧w.frozen? ⟨b,0,none⟩=false:=by
 refine ⟨?_,?_⟩
 ·unfold World.cell?;rw [k];rfl
 ·unfold World.frozen?;rw [k];rfl
theorem QeE{w:World}{b:Nat}{x0:Value}{t:TypeId}(k:w.heap[b]?=some (.cells #[x0] t (0,0)))(y:Value):(w.setCell ⟨b,0,none⟩ y).heap[b]?=some (.cells #[y] t (0,0)):=by
 simp [World.setCell,Array.getElem?_modify,k]
def QiI(i:Nat)(t:ByteArray)(w:World)(e:Ending)(w':World):Prop:=
 ∃ g c,e = .returned (.tuple #[.agg #[.slice (some ⟨g,0,none⟩) 1 c],.int .i64 0])∧w'.ownsRow w.heap.size 54 2 (.slice (some ⟨g,0,none⟩) 1 c) 1 [.int .u64 (i:Nat),.string t]∧Below w.heap.size w w'
def OfSt(i:Nat)(t:ByteArray)(w W0:World)(u5 u12:Value)(wr:World):Prop:=
 (u5 = .slice none 0 0∧u12 = .int .i64 0∧wr=W0)∨(∃ g c,u5 = .slice (some ⟨g,0,none⟩) 1 c∧u12 = .int .i64 1∧wr.ownsRow (w.heap.size+1) 54 2 (.slice (some ⟨g,0,none⟩) 1 c) 1 [.int .u64 (i:Nat),.string t]∧wr.heap[w.heap.size]?=some (.cells #[.slice none 0 0] 50 (0,0))∧Below w.heap.size w wr)
theorem QgV(i:Nat)(t:ByteArray)(hi:i<6004799503160661)(h0:0<t.size)(h1:t.size≤65536)(b o c:Nat)(w:World)(hb:b<w.heap.size)(c0:w.cell? ⟨b,o,none⟩=some (.int .u64 (i:Nat)))(c1:w.cell? ⟨b,o+1,none⟩=some (.string t)):Calls Tryz.prog 14 #[.slice (some ⟨b,o,none⟩) 1 c] w (QiI i t w):=by
 have HWr:=hid (fun W=>Qrj i t hi h0 h1 W)
 have hmk:∀ (t:TypeId) (W:World),(Instr.makeMap t none).run Tryz.prog W = .ok (.map (some W.heap.size)) (W.alloc (.map #[] 0)):=fun _ _=>rfl
 have HB0:Hid (Below w.heap.size w ((w.alloc (.cells #[.slice none 0 0] 50)).alloc (.map #[] 0))):=hid (((Below.refl _ _).alloc (Nat.le_refl _) _).alloc (by simp) _)
 have HR0:Hid (((w.alloc (.cells #[.slice none 0 0] 50)).alloc (.map #[] 0)).heap[w.heap.size]?=some (.cells #[.slice none 0 0] 50 (0,0))):=hid ((heap_alloc_old _ _ (by simp)).trans (heap_alloc_new w _))
 have HM0:Hid (MapF (QbZ .u64) (QbZ .i64) ((w.alloc (.cells #[.slice none 0 0] 50)).alloc (.map #[] 0)) (w.heap.size+1) (fun _=>none) 0):=hid (by
  have:=QoH (QbZ .u64) (QbZ .i64) (w.alloc (.cells #[.slice none 0 0] 50))
  rwa [World.size_alloc] at this)
 have HC:=hid (And.intro hb (And.intro c0 c1));clear hi h0 h1 hb c0 c1;go_enter Tryz.func14,Tryz.ntmps14;go_wp2_with fail;generalize hW0:(w.alloc (.cells #[.slice none 0 0] 50)).alloc (.map #[] 0)=W0 at HB0 HR0 HM0 ⊢;have HSZ:Hid (W0.heap.size=w.heap.size+2):=hid (by rw [←hW0];simp)
 clear hW0;go_loopw [5,12] (fun u5 u12 wr=>Hid (OfSt i t w W0 u5 u12 wr)) (fun _ u12 _=>1-(intOf u12).toNat)
 case atStart=>exact hid (.inl ⟨rfl,rfl,rfl⟩)
 case round=>
  rcases hrel.out with ⟨rfl,rfl,rfl⟩|⟨g,cc,rfl,rfl,ho,hr,hb⟩
  ·clear hrel
   obtain ⟨hbl,d0,d1⟩:=HC.out;have c0:=(HB0.out.cell (p:=⟨b,o,none⟩) hbl).trans d0;have c1:=(HB0.out.cell (p:=⟨b,o+1,none⟩) hbl).trans d1;have hX:=heap_alloc_new wr (.cells #[.int .u64 (i:Nat),.string t] 54);have hm1:=HM0.out.keep (heap_alloc_old wr (.cells #[.int .u64 (i:Nat),.string t] 54) HM0.out.lt);have hl1:(Instr.lookup 98 (.map (some (w.heap.size+1))) (.int .u64 (i:Nat)) false).run Tryz.prog (wr.alloc (.cells #[.int .u64 (i:Nat),.string t] 54)) = .ok (.int .i64 0) (wr.alloc (.cells #[.int .u64 (i:Nat),.string t] 54)):=hm1.look QjV Tryz.underlying98 Qfl i false;obtain ⟨ob,hup,hm2⟩:=hm1.put QjV Tryz.underlying98 i 1;have hup:(Instr.mapUpdate 98 (.map (some (w.heap.size+1))) (.int .u64 (i:Nat)) (.int .i64 1)).run Tryz.prog (wr.alloc (.cells #[.int .u64 (i:Nat),.string t] 54)) = .ok () (Qaw (wr.alloc (.cells #[.int .u64 (i:Nat),.string t] 54)) (w.heap.size+1) ob):=hup;have hl2:(Instr.lookup 98 (.map (some (w.heap.size+1))) (.int .u64 (i:Nat)) false).run Tryz.prog (Qaw (wr.alloc (.cells #[.int .u64 (i:Nat),.string t] 54)) (w.heap.size+1) ob) = .ok (.int .i64 1) (Qaw (wr.alloc (.cells #[.int .u64 (i:Nat),.string t] 54)) (w.heap.size+1) ob):=by
    have:=hm2.look QjV Tryz.underlying98 Qfl i false;rw [if_pos rfl] at this;exact this
   obtain ⟨⟨x0,x1⟩,-⟩:=Qam hX;have hne:wr.heap.size≠w.heap.size+1:=by have:=HSZ.out;omega
   obtain ⟨⟨y0,y1⟩,-⟩:=Qam ((Qah (wr.alloc (.cells #[.int .u64 (i:Nat),.string t] 54)) (w.heap.size+1) ob wr.heap.size hne).trans hX);have HX:=hid ((Qah (wr.alloc (.cells #[.int .u64 (i:Nat),.string t] 54)) (w.heap.size+1) ob wr.heap.size hne).trans hX);have HR1:Hid ((Qaw (wr.alloc (.cells #[.int .u64 (i:Nat),.string t] 54)) (w.heap.size+1) ob).heap[w.heap.size]?=some (.cells #[.slice none 0 0] 50 (0,0))):=hid ((Qah _ _ _ _ (by omega)).trans ((heap_alloc_old _ _ (by have:=HSZ.out;omega)).trans HR0.out))
   have HB1:Hid (Below w.heap.size w (Qaw (wr.alloc (.cells #[.int .u64 (i:Nat),.string t] 54)) (w.heap.size+1) ob)):=hid ((HB0.out.alloc HB0.out.size _).trans ⟨rfl,rfl,rfl,by rw [Qcs];exact Nat.le_refl _,fun k hk=>Qah _ _ _ _ (by omega)⟩)
   clear hbl d0 d1 hX hm1 hm2 hne;go_upto_region 9 with fail
   generalize Qaw (wr.alloc (.cells #[.int .u64 (i:Nat),.string t] 54)) (w.heap.size+1) ob=W2 at HX HR1 HB1 hl2 y0 y1 ⊢;clear hl1 hl2 hup x0 x1 c0 c1;go_wp2_with fail;refine (HWr.out _).mono ?_;rintro e w3 ⟨rfl,hw⟩;obtain rfl:=hw.symm;clear hw;go_wp2_with (at_builtin;go_loud (refine Qez 48 54 _ 2 24 Tryz.underlying48 QlU rfl (by decide) (by decide) W2 [.int .u64 (i:Nat),.string t] rfl (by simp [Value.oneCell']) (by rfl) _ _ (by rfl) (w.heap.size+1) _ 0 _ (by rfl) (World.ownsRow_nil _ _ _ _) (by rfl) (by omega) (by have:=(gsi HX.out).1;have:=HSZ.out;omega) ?_);intro g' cap w1 QAt hg1 hd1)
   go_roundw
   case rel=>
    refine hid (.inr ⟨g',cap,rfl,rfl,QAt,?_,?_⟩)
    ·exact (hg1.block _ (gsi HR1.out).1 (by intro e;cases e)).trans HR1.out
    ·exact HB1.out.trans ⟨hg1.os,hg1.tape,hg1.output,hg1.size,fun k hk=>hg1.block k (Nat.lt_of_lt_of_le hk HB1.out.size) (by intro e;cases e)⟩
   case measure=>simp [intOf]
  ·have HS1:=hid (And.intro ho (And.intro hr hb))
   have HSo:=hid (fun W=>QuD (.slice (some ⟨g,0,none⟩) 1 cc) (.func (.func 31) #[] #[]) (some ⟨g,0,none⟩) cc rfl W)
   clear hrel ho hr hb;obtain ⟨r0,rf⟩:=Qb5 HS1.out.2.1;go_wp2_with fail;refine (HSo.out _).mono ?_;rintro e w3 ⟨rfl,hw⟩;obtain rfl:=hw.symm;clear hw;have HR2:=hid (QeE HS1.out.2.1 (.slice (some ⟨g,0,none⟩) 1 cc));go_wp2_with fail;refine QaD (A:=⟨w.heap.size,0,none⟩) rfl (Qgm _ _ _ _ HR2.out) rfl rfl rfl ?_;exact ⟨g,cc,rfl,Qbd (Qad HS1.out.1 (fun k hk=>Below.heap_setCell _ _ _ _ (by have:=(HS1.out.1.lt k hk).1;show k≠w.heap.size;omega))) (by omega),HS1.out.2.2.trans ((Below.refl _ _).setCell (p:=⟨w.heap.size,0,none⟩) (Nat.le_refl _) _)⟩
end
section
open Go.RowKit Go.Shelf
attribute [local go_sem] Oper.semAt_some
def Qzy(B0 B1:Nat)(w:World)(pre:List Nat)(W:World):Prop:=W.heap[B1]?=some (.cells #[.int .i64 ((QaX pre).length:Nat)] 3 (0,0))∧Below B0 w W
theorem Qgz{T:TypeId→Prop}{B0 B:Nat}{w W W':World}{row:Option Nat}(hb:Below B0 w W)(hg:W.grownBy W' row)(hr:∀ r,row=some r→QyJ T B W r)(hB:B0≤B)(hw:B0≤w.heap.size):Below B0 w W':=
 hb.trans ⟨hg.os,hg.tape,hg.output,hg.size,fun k hk=>hg.block k (by have:=hb.size;omega) (fun e=>by rcases hr k e.symm with ⟨h,-⟩|⟨h,-⟩<;>omega)⟩
theorem QcV{T:TypeId→Prop}{B:Nat}{W W':World}{row:Option Nat}(hg:W.grownBy W' row)(hr:∀ r,row=some r→QyJ T B W r){k:Nat}{cs:Array Value}{t:TypeId}{m:Nat×Nat}(hk:W.heap[k]?=some (.cells cs t m))(ht:¬T t):W'.heap[k]?=some (.cells cs t m):=by
 refine (hg.block k (gsi hk).1 (fun e=>?_)).trans hk
 rcases hr k e.symm with ⟨-,cs',t',m',h1,h2⟩|⟨-,o,h1,h2⟩
 ·rw [hk] at h1
  injection h1 with h1
  injection h1 with _ h1 _
  subst h1;exact ht h2
 ·rw [hk] at h1
  obtain rfl:=Option.some.inj h1;have:=h2.1;cases this
theorem Qxw(c i:Nat)(ah e:Ent)(he:Qbl e∧QcF e=0):Qnv c i ah e<18446744073709551616:=by
 obtain ⟨⟨h0,h1,h2,h3⟩,hc⟩:=he;have:=QtS hc;unfold Qnv;split
 ·omega
 ·split
  ·omega
  ·split
   ·omega
   ·split<;>omega
theorem Qyn(c:Nat)(l:List Ent)(hok:∀ e∈l,Qbl e∧QcF e=0):∀ (i:Nat) (ah:Ent),∀ x∈Qdp c i ah l,x<18446744073709551616:=by
 induction l with
 |nil=>intro i ah x hx;cases hx
 |cons e r ih=>
  intro i ah x hx;unfold Qdp at hx;rcases List.mem_cons.1 hx with rfl|hx
  ·exact Qxw c i ah e (hok e (.head _))
  ·exact ih (fun e he=>hok e (.tail _ he)) _ _ x hx
theorem QsA(l:List Ent)(hl:l.length≤4096)(hok:∀ e∈l,Qbl e∧QcF e=0):∀ x∈Qej l,x<18446744073709551616:=by
 intro x hx;unfold Qej at hx;rcases List.mem_cons.1 hx with rfl|hx
 ·omega
 ·simp only [List.mem_append] at hx
  rcases hx with ((h|h)|h)|h<;>exact Qyn _ l hok _ _ x h
theorem QoR{l:List Nat}{pre:List Nat}{x:Nat}(h:pre++[x] <+: l):(QaX (pre++[x])).length=(QaX pre).length+(Qe6 x).length∧(QaX (pre++[x])).length≤(QaX l).length∧x∈l∧pre.length<l.length:=by
 obtain ⟨t,rfl⟩:=h;refine ⟨?_,?_,by simp,by simp⟩
 ·rw [Qcd,List.length_append]
  have:QaX [x]=Qe6 x:=by unfold QaX;simp
  rw [this]
 ·rw [Qcd (pre++[x]),List.length_append];omega
theorem Qh3:¬QmH 3:=by unfold QmH;decide
theorem Qmh(l:List Ent)(a:Option Addr)(c:Nat)(w:World)(hE:EntB w (.slice a l.length c) l)(QAB:QeC l=0)(hok:∀ e∈l,Qbl e)(hlen:(QfQ l).length≤1000000) :
  Calls Tryz.prog 65 #[.slice a l.length c] w fun e w'=>e = .returned (.int .i64 ((QfQ l).length:Nat))∧Below w.heap.size w w':=by
 obtain ⟨hl,QBD,QAY⟩:=QhM l QAB;have QAz:=hid (Qc3 _ l w hE.holds hok (by omega))
 rw [QAB] at QAz;have QA7:=hid (fun W=>QgT a l.length c W)
 refine (callsIn_wide (n:=4)).1 ?_;refine callsIn_of_wp_marks Tryz.func65 rfl trivial ?_ rfl;simp only [Tryz.ntmps65,List.size_toArray,List.length_cons,List.length_nil,Nat.reduceAdd,Nat.reduceSub,Array.replicate_succ,Array.replicate_zero,List.push_toArray,List.append_toArray,List.nil_append,List.cons_append];gi_wp2_with (refine ⟨trivial,?_⟩;gi_at_call 62;refine (callsIn_wide.2 QAz.out).mono ?_;rintro e w1 ⟨rfl,hb1⟩);gi_wp2_with (refine ⟨trivial,?_⟩;gi_at_call 68;refine (callsIn_wide.2 (QA7.out _)).mono ?_;rintro e w2 ⟨rfl,rfl⟩);obtain ⟨B1,hB1⟩:∃ B1,w1.heap.size=B1:=⟨_,rfl⟩;obtain ⟨W2,hW2⟩:∃ W2,(w1.alloc (.cells #[.int .i64 0] 3)).alloc (.cells #[.slice a l.length c] 81)=W2:=⟨_,rfl⟩;have hz2:W2.heap.size=B1+2:=by rw [←hW2,←hB1];simp
 have kn:W2.heap[B1]?=some (.cells #[.int .i64 0] 3 (0,0)):=by
  rw [←hW2,←hB1];exact (Below.heap_alloc _ _ _ (by rw [World.size_alloc];omega)).trans (heap_alloc_new w1 _)
 have kb:W2.heap[B1+1]?=some (.cells #[.slice a l.length c] 81 (0,0)):=by
  have:=heap_alloc_new (w1.alloc (.cells #[.int .i64 0] 3)) (.cells #[.slice a l.length c] 81);rw [World.size_alloc,hB1] at this;rw [←hW2];exact this
 have hb2:Below w.heap.size w W2:=by rw [←hW2];exact ((hb1.alloc hb1.size _).alloc (by rw [World.size_alloc];have:=hb1.size;omega) _)
 have hE2:EntB W2 (.slice a l.length c) l:=hE.below hb2;have hz:w.heap.size≤B1:=by rw [←hB1];exact hb1.size
 have QBQ:∀ e∈l,Qbl e∧QcF e=0:=fun e he=>⟨hok e he,QBD e he⟩
 have HLT:=hid (QsA l hl QBQ);have HS:=hid (fun x hx W=>QmT x hx W)
 rw [hW2,hB1];clear hW2 hB1 hb1 QAz QA7 hE;refine QrU rfl (by omega) (gf:=121) (lb:=#[.pointer (some ⟨B1+1,0,none⟩)]) rfl trivial (enters_of Tryz.func121 (by kernel_rfl) rfl) QmH (QfC l (.slice a l.length c) (B1+1) (0,0) W2 hl QBQ QAY hE2 kb) (Below.refl _ _) (fun _=>rfl)
  (Qzy w.heap.size B1 w) (fun s X Y row hs hg hr=>⟨QcV hg hr hs.1 Qh3,Qgz hs.2 hg hr (by omega) (Nat.le_refl _)⟩) ⟨kn,hb2⟩
  (fun x=>{ tmps:=#[.slice a l.length c,undef,.int .i64 0,.pointer (some ⟨B1,0,none⟩),.int .u64 (x:Nat),.slice a l.length c,.int .i64 0,.bool false,.slice a l.length c,.func (.func 121) #[] #[.pointer (some ⟨B1+1,0,none⟩)],.int .u64 (x:Nat),undef,undef,undef,undef,undef],defers:=[] }) ?assign ?QcK ?done
 case assign=>
  intro lp x W K hK;gi_wp2;exact hK
 case QcK=>
  rintro lp pre x W ⟨hc,hb⟩ hG;have hmx:Tryz.prog.follows .mixedOrders=true:=by kernel_rfl
  obtain ⟨g1,g2,g3,g4⟩:=QoR hG;have hx:=HLT.out x g3;have QAF:(QaX (pre++[x])).length≤1000000:=Nat.le_trans g2 hlen;have cc:W.cell? ⟨B1,0,none⟩=some (.int .i64 ((QaX pre).length:Nat)):=(QaY hc 0).trans rfl;have cf:W.frozen? ⟨B1,0,none⟩=false:=by unfold World.frozen?;rw [hc];rfl
  have hwr:IntKind.i64.wrap (((QaX pre).length:Int)+((Qe6 x).length:Int))=((QaX (pre++[x])).length:Int):=by
   rw [IntWalk.i64_in _ (by omega)];omega
  have HF:Hid (KeptT QmH W ((W.setCell ⟨B1,0,none⟩ (.int .i64 (IntKind.i64.wrap (((QaX pre).length:Int)+((Qe6 x).length:Int))))).drew)∧Qzy w.heap.size B1 w (pre++[x]) ((W.setCell ⟨B1,0,none⟩ (.int .i64 (IntKind.i64.wrap (((QaX pre).length:Int)+((Qe6 x).length:Int))))).drew)):=hid (by
   rw [hwr];exact ⟨(KeptT.setCell (a:=⟨B1,0,none⟩) W _ hc Qh3).trans (KeptT.drew _),QeE hc _,((hb.setCell (p:=⟨B1,0,none⟩) hz _)).drew⟩)
  clear hwr g1 g2 g3 g4 hc hb;gi_wp2;gi_region_with_o (refine ⟨trivial,?_⟩;gi_at_call 119;refine (CallsIn.inRound lp (callsIn_wide.2 (HS.out x hx _))).mono ?_;rintro e w' ⟨rfl,rfl⟩)
  all_goals gi_wp2
  all_goals exact HF.out
 case done=>
  rintro D xs W hD rfl ⟨hc,hb⟩ hK;have cc:W.cell? ⟨B1,0,none⟩=some (.int .i64 ((QfQ l).length:Nat)):=(QaY hc 0).trans rfl;gi_wp2;refine ⟨by simp,.inl ⟨_,_,rfl,run_takeDeferred hK,?_⟩⟩
  exact ⟨_,results_tmp rfl _ _ _,rfl,hb.trans (belowK_b (w:=w) (Nat.le_refl _) W D _ _ (by omega) hK rfl rfl)⟩
end
section
open Go.RowKit
theorem Qic:(Tryz.prog.info? 5).map (fun i=>(i.zero,i.size,i.bytes))=some (some (.int .u8 0),1,1):=by kernel_rfl
theorem QzY(y:Nat):bits BinOp.or IntKind.u8 ((y:Int)%256) 128=((y%128+128:Nat):Int):=by
 have h:∀ z:Fin 256,bits BinOp.or IntKind.u8 ((z.val:Nat):Int) 128=((z.val%128+128:Nat):Int):=by decide +kernel
 have h2:=h ⟨y%256,Nat.mod_lt _ (by decide)⟩
 have e1:((y:Int)%256)=((y%256:Nat):Int):=by omega
 rw [e1];refine h2.trans ?_;show ((y%256%128+128:Nat):Int)=_;omega
theorem Qe8{B base:Nat}{w w0 w1:World}{e:TypeId}{k n:Nat}{v:Value}{xs:List Value}(hb:Below B w w0)(hg:w0.grownBy w1 v.ownBlock)(ho:w0.ownsRow base e k v n xs)(hB:B≤base)(hbw:base≤w.heap.size):Below B w w1:=
 hb.trans ⟨hg.os,hg.tape,hg.output,hg.size,fun i hi=>hg.block i (by have:=hb.size;omega) (fun e=>by have:=(ho.lt i e.symm).1;omega)⟩
theorem Qfe(d:List UInt8)(c:Nat)(hc:c<256):QaG (d++[UInt8.ofNat c])=QaG d++[.int .u8 (c:Int)]:=by
 rw [QfX];show _++[Value.int .u8 ((UInt8.ofNat c).toNat:Int)]=_;rw [UInt8.toNat_ofNat',Nat.mod_eq_of_lt hc]
def QzD(B base:Nat)(l:List UInt8)(w:World)(e:Ending)(w':World):Prop:=
 ∃ g c,e = .returned (.slice (some ⟨g,0,none⟩) l.length c)∧w'.ownsRow base 5 1 (.slice (some ⟨g,0,none⟩) l.length c) l.length (QaG l)∧Below B w w'
def LySt(B base x:Nat)(l:List UInt8)(w:World)(u0 u1:Value)(wr:World):Prop:=
 ∃ (k y:Nat) (d:List UInt8) (a:Option Addr) (c:Nat),y<18446744073709551616∧y<128 ^ (k+1)∧k≤9∧d.length+k≤l.length+9∧d++Qcl k y=l++Qe6 x∧u0 = .slice a d.length c∧u1 = .int .u64 (y:Nat)∧wr.ownsRow base 5 1 (.slice a d.length c) d.length (QaG d)∧Below B w wr
theorem Qpv(B base x:Nat)(l:List UInt8)(a:Option Addr)(c:Nat)(w:World)(hx:x<18446744073709551616)(hl:l.length≤1000000)(hB:B≤base)(hbw:base≤w.heap.size)(ho:w.ownsRow base 5 1 (.slice a l.length c) l.length (QaG l)) :
  Calls Tryz.prog 123 #[.slice a l.length c,.int .u64 (x:Nat)] w (QzD B base (l++Qe6 x) w):=by
 have HO:=hid ho;clear ho;go_enter Tryz.func123,Tryz.ntmps123;go_wp2_with fail;go_loopw [0,1] (fun u0 u1 wr=>Hid (LySt B base x l w u0 u1 wr)) (fun _ u1 _=>(intOf u1).toNat)
 case atStart=>exact hid ⟨9,x,l,a,c,hx,by omega,Nat.le_refl _,by omega,rfl,rfl,rfl,HO.out,Below.refl _ _⟩
 case round=>
  obtain ⟨k,y,d,a,c,hy,hyk,hk,hdk,he,rfl,rfl,ho,hb⟩:=hrel.out;clear hrel
  by_cases hc:127<y
  ·have t1:decide ((127:Int)<(y:Int))=true:=decide_eq_true (by omega)
   have HO1:=hid ho;have HB1:=hid hb;have HE:=hid he;clear ho hb he;have hor:=QzY y;go_wp2_with (at_builtin;go_loud (refine Qez 157 5 (.int .u8 0) 1 1 Tryz.underlying157 Qic rfl (by decide) (by decide) wr [.int .u8 ((y:Int)%128+128)] rfl (by simp [Value.oneCell']) (by rfl) _ _ (by rfl) base _ d.length (QaG d) (by rfl) HO1.out (by rfl) (by omega) (by have:=HB1.out.size;omega) ?_);intro g' cap w1 QAt hg1 hd1)
   obtain ⟨k',rfl⟩:∃ k',k=k'+1:=by
    cases k with
    |zero=>omega
    |succ k'=>exact ⟨k',rfl⟩
   have hy2:y/128<128 ^ (k'+1):=by
    rw [Nat.div_lt_iff_lt_mul (by decide),←Nat.pow_succ];exact hyk
   refine ⟨hid ⟨k',y/128,d++[UInt8.ofNat (y%128+128)],_,cap,by omega,hy2,by omega,by rw [List.length_append,List.length_singleton];omega,?_,by rw [List.length_append,List.length_singleton],rfl,?_,Qe8 HB1.out hg1 HO1.out hB hbw⟩,?_⟩
   ·have h2:=HE.out
    unfold Qcl at h2;rw [if_neg (by omega)] at h2
    rw [List.append_assoc];exact h2
   ·rw [List.length_append,List.length_singleton,Qfe _ _ (by omega)]
    exact QAt
   ·show ((y:Int)/128).toNat<(y:Int).toNat
    omega
  ·have t1:decide ((127:Int)<(y:Int))=false:=decide_eq_false (by omega)
   have HO1:=hid ho;have HB1:=hid hb;have HE:=hid he;clear ho hb he;have hy8:(y:Int)%256=(y:Int):=by omega
   go_wp2_with (at_builtin;go_loud (refine Qez 157 5 (.int .u8 0) 1 1 Tryz.underlying157 Qic rfl (by decide) (by decide) wr [.int .u8 (y:Int)] rfl (by simp [Value.oneCell']) (by rfl) _ _ (by rfl) base _ d.length (QaG d) (by rfl) HO1.out (by rfl) (by omega) (by have:=HB1.out.size;omega) ?_);intro g' cap w1 QAt hg1 hd1)
   go_ret;have e1:Qcl k y = [UInt8.ofNat y]:=by
    cases k with
    |zero=>rfl
    |succ k=>unfold Qcl;rw [if_pos (by omega)]
   have e2:=HE.out;rw [e1] at e2;refine ⟨g',cap,?_,?_,Qe8 HB1.out hg1 HO1.out hB hbw⟩
   ·rw [←e2,List.length_append,List.length_singleton];rfl
   ·rw [←e2,List.length_append,List.length_singleton,Qfe _ _ (by omega)]
    exact QAt
theorem Qqs(l:List Nat)(k x:Nat)(h:l[k]?=some x):QaX (l.take (k+1))=QaX (l.take k)++Qe6 x:=by
 obtain ⟨hk,rfl⟩:=List.getElem?_eq_some_iff.1 h;rw [List.take_succ_eq_append_getElem hk,Qcd];unfold QaX;simp
def AlSt(l:List Nat)(w:World)(u3 u8:Value)(wr:World):Prop:=
 ∃ (k:Nat) (a:Option Addr) (c:Nat),k≤l.length∧u8 = .int .i64 (k:Nat)∧u3 = .slice a (QaX (l.take k)).length c∧wr.ownsRow w.heap.size 5 1 (.slice a (QaX (l.take k)).length c) (QaX (l.take k)).length (QaG (QaX (l.take k)))∧Below w.heap.size w wr
theorem QsZ(l:List Nat)(hl:∀ x∈l,x<18446744073709551616):(QaX l).length≤10*l.length:=by
 induction l with
 |nil=>exact Nat.le_refl _
 |cons x t ih=>
  have h1:=(Qox x (hl x (.head _))).2;have h2:=ih (fun y hy=>hl y (.tail _ hy))
  unfold QaX at h2 ⊢;rw [List.flatMap_cons,List.length_append,List.length_cons];omega
theorem Qpx(b c:Nat)(l:List Nat)(w:World)(hl:l.length≤50000)(h64:∀ x∈l,x<18446744073709551616)(hb:b<w.heap.size)(hc:∀ j (hj:j<l.length),w.cell? ⟨b,j,none⟩=some (.int .u64 (l[j]:Nat))) :
  Calls Tryz.prog 69 #[.slice (some ⟨b,0,none⟩) l.length c] w fun e w'=>∃ a c',e = .returned (.slice a (QaX l).length c')∧w'.ownsRow w.heap.size 5 1 (.slice a (QaX l).length c') (QaX l).length (QaG (QaX l))∧Below w.heap.size w w':=by
 have HC:=hid hc;have HH:=hid h64;clear hc h64;go_enter Tryz.func69,Tryz.ntmps69;go_wp2_with fail;go_loopw [3,8] (fun u3 u8 wr=>Hid (AlSt l w u3 u8 wr)) (fun _ u8 _=>l.length-(intOf u8).toNat)
 case atStart=>exact hid ⟨0,none,0,Nat.zero_le _,rfl,rfl,World.ownsRow_nil _ _ _ _,Below.refl _ _⟩
 case round=>
  obtain ⟨k,a,c0,hk,rfl,rfl,ho,hbr⟩:=hrel.out;clear hrel
  by_cases hlt:k<l.length
  ·have t1:decide ((k:Int)<(l.length:Int))=true:=decide_eq_true (by omega)
   have hx:=HH.out l[k] (List.getElem_mem hlt);have cx:=(hbr.cell (p:=⟨b,k,none⟩) hb).trans (HC.out k hlt);have hsn:=Qqs l k l[k] (List.getElem?_eq_getElem hlt);have hlen:=QsZ (l.take k) (fun x hx=>HH.out x (List.mem_of_mem_take hx))
   rw [List.length_take] at hlen;have HL:=hid (Qpv w.heap.size w.heap.size l[k] (QaX (l.take k)) a c0 wr hx (by omega) (Nat.le_refl _) hbr.size ho)
   rw [←hsn] at HL;have HB:=hid hbr;obtain ⟨d,hd⟩:∃ d,QaX (l.take k)=d:=⟨_,rfl⟩;rw [hd] at HL ⊢;generalize l[k]=x at *;clear ho hbr hsn hlen hd hx;go_wp2_with fail;refine HL.out.mono ?_;rintro e w1 ⟨g,c1,rfl,ho1,hb1⟩;have HO1:=hid ho1;have HB1:=hid (HB.out.trans hb1);clear ho1 hb1;go_wp2_with fail;go_roundw
   case rel=>exact hid ⟨k+1,_,c1,hlt,by go_num,rfl,HO1.out,HB1.out⟩
   case measure=>simp [intOf];omega
  ·have t1:decide ((k:Int)<(l.length:Int))=false:=decide_eq_false (by omega)
   obtain rfl:k=l.length:=by omega
   rw [List.take_length] at ho ⊢;have HO:=hid ho;clear ho;go_wp2_with fail;go_ret;exact ⟨a,c0,rfl,HO.out,hbr⟩
end
section
namespace FnvPlain
def add(s b:Nat):Nat:=(s ^^^ b)*1099511628211%18446744073709551616
def sum(l:List UInt8):Nat:=l.foldl (fun s c=>add s c.toNat) 14695981039346656037
theorem Qzw(s b:Nat):add s b<18446744073709551616:=Nat.mod_lt _ (by decide)
theorem foldl_lt(l:List UInt8):∀ s,s<18446744073709551616→l.foldl (fun s c=>add s c.toNat) s<18446744073709551616:=by
 induction l with
 |nil=>intro s h;exact h
 |cons a t ih=>intro s _;exact ih _ (Qzw _ _)
theorem sum_lt(l:List UInt8):sum l<18446744073709551616:=foldl_lt l _ (by decide)
theorem xor_lt(s b:Nat)(hs:s<18446744073709551616)(hb:b<18446744073709551616):s ^^^ b<18446744073709551616:=Nat.xor_lt_two_pow (n:=64) hs hb
end FnvPlain
end
section
namespace PoolPlain
def off(l:List (List UInt8))(k:Nat):Nat:=(l.take k).flatten.length
theorem Qu5(l:List (List UInt8))(k:Nat)(hk:k<l.length):off l (k+1)=off l k+l[k].length:=by
 unfold off;rw [List.take_succ_eq_append_getElem hk,List.flatten_append,List.length_append,List.flatten_cons,List.flatten_nil,List.append_nil]
theorem Qxv(l:List (List UInt8))(k:Nat)(hk:l.length≤k):off l k=l.flatten.length:=by unfold off;rw [List.take_of_length_le hk]
theorem QyW(l:List (List UInt8))(k:Nat):off l k≤l.flatten.length:=by
 have h:l.flatten=(l.take k).flatten++(l.drop k).flatten:=by rw [←List.flatten_append,List.take_append_drop]
 rw [h,List.length_append];unfold off;omega
theorem Qsx(l:List (List UInt8))(k:Nat)(hk:k<l.length):off l k+l[k].length≤l.flatten.length:=by
 rw [←Qu5 l k hk];exact QyW l _
theorem Qjo(l m:List (List UInt8))(k:Nat)(hk:k≤l.length):off (l++m) k=off l k:=by
 unfold off;rw [List.take_append_of_le_length hk]
theorem QyR(l:List (List UInt8))(k:Nat)(hk:k<l.length):(l.flatten.drop (off l k)).take l[k].length=l[k]:=by
 have h:l.flatten=(l.take k).flatten++(l[k]++(l.drop (k+1)).flatten):=by
  conv=>lhs;rw [←List.take_append_drop k l,List.flatten_append,List.drop_eq_getElem_cons hk,List.flatten_cons]
 rw [h];unfold off;rw [List.drop_left,List.take_left]
theorem Qx8(l:List (List UInt8))(m:Nat)(h:∀ s∈l,s.length≤m):l.flatten.length≤l.length*m:=by
 induction l with
 |nil=>simp
 |cons x t ih=>
  have h1:=h x (List.mem_cons_self ..);have h2:=ih (fun s hs=>h s (List.mem_cons_of_mem _ hs))
  rw [List.flatten_cons,List.length_append,List.length_cons,Nat.add_mul];omega
def fnd(l:List (List UInt8))(s:List UInt8):Nat×Nat×Bool:=match l.findIdx? (fun x=>x==s) with
 |some k=>(off l k,s.length,true)
 |none=>(0,0,false)
theorem Qtr(l:List (List UInt8))(s:List UInt8)(k:Nat)(hk:k<l.length)(he:l[k]=s)(hf:∀ j (hj:j<k),l[j]'(Nat.lt_trans hj hk)≠s):fnd l s=(off l k,s.length,true):=by
 have h:l.findIdx? (fun x=>x==s)=some k:=by
  rw [List.findIdx?_eq_some_iff_getElem];exact ⟨hk,by simpa using he,fun j hj=>by simpa using hf j hj⟩
 unfold fnd;rw [h]
theorem Qhk(l:List (List UInt8))(s:List UInt8)(h:s∉l):fnd l s=(0,0,false):=by
 have h:l.findIdx? (fun x=>x==s)=none:=by
  rw [List.findIdx?_eq_none_iff];intro x hx;have:x≠s:=fun e=>h (e ▸ hx)
  simpa using this
 unfold fnd;rw [h]
theorem QvY(l:List (List UInt8))(s:List UInt8)(h:s∈l):∃ k,∃ hk:k<l.length,l[k]=s∧∀ j (hj:j<k),l[j]'(Nat.lt_trans hj hk)≠s:=by
 cases e:l.findIdx? (fun x=>x==s) with
 |none=>
  rw [List.findIdx?_eq_none_iff] at e;have:=e s h;simp at this
 |some k=>
  rw [List.findIdx?_eq_some_iff_getElem] at e;obtain ⟨hk,h1,h2⟩:=e;exact ⟨k,hk,by simpa using h1,fun j hj=>by simpa using h2 j hj⟩
def grp(l:List (List UInt8))(x:Nat):List Nat:=(List.range l.length).filter (fun k=>FnvPlain.sum (l.getD k [])==x)
theorem QvM(l:List (List UInt8))(s:List UInt8)(x:Nat):grp (l++[s]) x=grp l x++(if FnvPlain.sum s=x then [l.length] else []):=by
 unfold grp;rw [List.length_append,List.length_singleton,List.range_succ,List.filter_append]
 congr 1
 ·refine List.filter_congr (fun k hk=>?_)
  have hk:=List.mem_range.1 hk;rw [List.getD_eq_getElem?_getD,List.getD_eq_getElem?_getD,List.getElem?_append_left hk]
 ·by_cases h:FnvPlain.sum s=x
  ·rw [if_pos h];simp [h]
  ·rw [if_neg h];simp [h]
theorem Qx2(l:List (List UInt8))(x k:Nat)(h:k∈grp l x):∃ hk:k<l.length,FnvPlain.sum l[k]=x:=by
 unfold grp at h;obtain ⟨h1,h2⟩:=List.mem_filter.1 h;have hk:=List.mem_range.1 h1;refine ⟨hk,?_⟩;rw [List.getD_eq_getElem?_getD,List.getElem?_eq_getElem hk] at h2;simpa using h2
theorem QxH(l:List (List UInt8))(k:Nat)(hk:k<l.length):k∈grp l (FnvPlain.sum l[k]):=by
 unfold grp;refine List.mem_filter.2 ⟨List.mem_range.2 hk,?_⟩;rw [List.getD_eq_getElem?_getD,List.getElem?_eq_getElem hk];simp
theorem Qjz(l:List (List UInt8))(x:Nat):(grp l x).length≤l.length:=by
 unfold grp;exact Nat.le_trans (List.length_filter_le _ _) (by simp)
def OkL(l:List (List UInt8)):Prop:=l.length≤2048∧(∀ s∈l,s≠[]∧s.length≤65536)∧l.Nodup
theorem Qxu:OkL []:=⟨by simp,by simp,List.nodup_nil⟩
theorem Qku(l:List (List UInt8))(h:OkL l):l.flatten.length≤134217728:=by
 have h1:=Qx8 l 65536 (fun s hs=>(h.2.1 s hs).2)
 have:=h.1;omega
theorem QsD{l:List (List UInt8)}(h:l.Nodup)(i j:Nat)(hi:i<l.length)(hj:j<l.length)(e:l[i]=l[j]):i=j:=by
 unfold List.Nodup at h;rw [List.pairwise_iff_getElem] at h;rcases Nat.lt_trichotomy i j with c|c|c
 ·exact absurd e (h i j hi hj c)
 ·exact c
 ·exact absurd e.symm (h j i hj hi c)
theorem Qze(l:List (List UInt8))(h:l.Nodup)(k:Nat)(hk:k<l.length):fnd l l[k]=(off l k,l[k].length,true):=
 Qtr l _ k hk rfl (fun j hj e=>by have:=QsD h j k _ hk e;omega)
def Qoi(l:List (List UInt8))(s:List UInt8):Bool:=decide (s≠[]∧s.length≤65536∧s∉l∧l.length<2048)
def Qzx(l:List (List UInt8))(s:List UInt8):List (List UInt8):=if Qoi l s then l++[s] else l
def QyI(l:List (List UInt8))(s:List UInt8):Nat×Nat:=if Qoi l s then (l.flatten.length,s.length) else ((fnd l s).1,(fnd l s).2.1)
def QwS(l:List (List UInt8))(s:List UInt8):Nat:=if s = [] then 2 else if 65536<s.length then 5 else if s∈l then 0 else if 2048≤l.length then 7 else 0
theorem Qu4(l:List (List UInt8))(s:List UInt8)(h:OkL l)(h1:s≠[])(h2:s.length≤65536)(h3:s∉l)(h4:l.length<2048):OkL (l++[s]):=by
 refine ⟨by simp;omega,fun x hx=>?_,?_⟩
 ·rcases List.mem_append.1 hx with hx|hx
  ·exact h.2.1 x hx
  ·rw [List.mem_singleton.1 hx];exact ⟨h1,h2⟩
 ·rw [List.nodup_append]
  exact ⟨h.2.2,by simp,fun a ha b hb e=>h3 (by rw [List.mem_singleton.1 hb] at e;exact e ▸ ha)⟩
theorem Qub(l:List (List UInt8))(s:List UInt8)(h1:s≠[])(h2:s.length≤65536)(h3:s∉l)(h4:l.length<2048):Qoi l s=true∧Qzx l s=l++[s]∧QyI l s=(l.flatten.length,s.length)∧QwS l s=0:=by
 have h:Qoi l s=true:=decide_eq_true ⟨h1,h2,h3,h4⟩;refine ⟨h,?_,?_,?_⟩
 ·unfold Qzx;rw [if_pos h]
 ·unfold QyI;rw [if_pos h]
 ·unfold QwS;rw [if_neg h1,if_neg (by omega),if_neg h3,if_neg (by omega)]
theorem Qyy(l:List (List UInt8))(s:List UInt8)(h:¬(s≠[]∧s.length≤65536∧s∉l∧l.length<2048)):Qoi l s=false∧Qzx l s=l∧QyI l s=((fnd l s).1,(fnd l s).2.1):=by
 have h:Qoi l s=false:=decide_eq_false h;refine ⟨h,?_,?_⟩
 ·unfold Qzx;rw [h];rfl
 ·unfold QyI;rw [h];rfl
theorem not_mem_nil(l:List (List UInt8))(h:OkL l) : []∉l:=fun hm=>(h.2.1 _ hm).1 rfl
theorem QlC(l:List (List UInt8))(h:OkL l)(s:List UInt8)(hs:65536<s.length):s∉l:=fun hm=>by have:=(h.2.1 _ hm).2;omega
def getK(l:List (List UInt8))(o n:Nat):Option Nat:=(List.range l.length).find? (fun k=>off l k==o&&(l.getD k []).length==n)
def QbC(l:List (List UInt8))(o n:Nat):List UInt8:=match getK l o n with|some k=>l.getD k []|none=>[]
end PoolPlain
end
section
open Go.RowKit
theorem QzR(s b:Nat)(h0:s<18446744073709551616)(h1:b<256):bits BinOp.xor IntKind.u64 (s:Int) (b:Int)=((s ^^^ b:Nat):Int):=by
 have hx:=FnvPlain.xor_lt s b h0 (by omega)
 have e1:(BitVec.ofInt IntKind.u64.bits (s:Int) ^^^ BitVec.ofInt IntKind.u64.bits (b:Int)).toNat=s ^^^ b:=by
  show (BitVec.ofInt 64 (s:Int) ^^^ BitVec.ofInt 64 (b:Int)).toNat=s ^^^ b;rw [BitVec.ofInt_natCast,BitVec.ofInt_natCast,BitVec.toNat_xor,BitVec.toNat_ofNat,BitVec.toNat_ofNat,Nat.mod_eq_of_lt (by omega),Nat.mod_eq_of_lt (by omega)]
 show IntKind.u64.wrap (((BitVec.ofInt IntKind.u64.bits (s:Int) ^^^ BitVec.ofInt IntKind.u64.bits (b:Int)).toNat:Nat):Int)=_;rw [e1];exact IntWalk.u64_in _ (by omega)
theorem QzZ(x:Nat):IntKind.u64.wrap ((x:Int)*1099511628211)=((x*1099511628211%18446744073709551616:Nat):Int):=by
 rw [IntKind.wrap_u64];omega
theorem Qx7(s b:Nat)(w:World)(h0:s<18446744073709551616)(h1:b<256) :
  Calls Tryz.prog 202 #[.int .u64 s,.int .u8 b] w fun e w'=>e = .returned (.int .u64 (FnvPlain.add s b:Nat))∧w'=w:=by
 have hx:=QzR s b h0 h1;have Hx:=hid hx;clear hx;go_enter Tryz.func202,Tryz.ntmps202;go_wp2;go_ret;refine ⟨QbE ?_,rfl⟩;rw [Hx.out];exact QzZ _
theorem QqD(l:List UInt8)(k:Nat)(c:UInt8)(s0:Nat)(h:l[k]?=some c) :
  (l.take (k+1)).foldl (fun s c=>FnvPlain.add s c.toNat) s0=FnvPlain.add ((l.take k).foldl (fun s c=>FnvPlain.add s c.toNat) s0) c.toNat:=by
 obtain ⟨hk,rfl⟩:=List.getElem?_eq_some_iff.1 h;rw [List.take_succ_eq_append_getElem hk,List.foldl_append,List.foldl_cons,List.foldl_nil]
def QqF(s0:Nat)(l:List UInt8):Nat:=l.foldl (fun s c=>FnvPlain.add s c.toNat) s0
theorem QvU(s0:Nat)(l:List UInt8)(h:s0<18446744073709551616):QqF s0 l<18446744073709551616:=FnvPlain.foldl_lt l s0 h
theorem QqE(s:ByteArray)(k:Nat)(hk:k<s.size)(s0:Nat):QqF s0 (s.data.toList.take (k+1))=FnvPlain.add (QqF s0 (s.data.toList.take k)) s[k].toNat:=
 QqD s.data.toList k s[k] s0 (by rw [List.getElem?_eq_getElem (by simpa using hk)];rfl)
theorem QvV(s:ByteArray)(w:World)(hs:s.size≤9223372036854775807) :
  Calls Tryz.prog 203 #[.agg #[.int .u64 14695981039346656037,.func (.func 202) #[] #[]],.string s] w fun e w'=>e = .returned (.int .u64 (FnvPlain.sum s.data.toList:Nat))∧Below w.heap.size w w':=by
 go_enter Tryz.func203,Tryz.ntmps203;go_wp2;go_loopw [8] (fun i w1=>∃ k:Nat,k≤s.size∧i = .int .i64 k∧w1.cell? ⟨w.heap.size,0,none⟩=some (.int .u64 (QqF 14695981039346656037 (s.data.toList.take k):Nat))∧w1.cell? ⟨w.heap.size,1,none⟩=some (.func (.func 202) #[] #[])∧w1.frozen? ⟨w.heap.size,0,none⟩=false∧w.heap.size<w1.heap.size∧Below w.heap.size w w1) (fun i _=>s.size-(intOf i).toNat)
 case atStart=>exact ⟨0,Nat.zero_le _,rfl,by simp [QqF],by simp,by simp,by rw [World.size_alloc];omega,(Below.refl _ _).alloc (Nat.le_refl _) _⟩
 case round=>
  obtain ⟨k,hk,rfl,hc0,hc1,hf,hz,hb⟩:=hrel
  by_cases hlt:k<s.size
  ·have hS:=QvU 14695981039346656037 (s.data.toList.take k) (by decide)
   have hn:=QqE s k hlt 14695981039346656037;generalize QqF 14695981039346656037 (s.data.toList.take k)=S at *;have Hn:=hid hn;clear hn;go_wp2;go_still_tail 9,(by kernel_rfl)
   still_call (Qx7 S s[k].toNat _ hS (by exact s[k].toNat_lt))
   repeat still_step
   refine wpStill_nil ?_;change wpList _ _ _ _ _ wr.drew;go_wp2;go_roundw
   case rel=>
    refine ⟨k+1,by omega,by go_num,?_,?_,?_,?_,?_⟩
    ·rw [Hn.out];exact World.cell?_setCell_same (w:=wr) _ _ hc0
    ·show (wr.setCell _ _).cell? _=_;rw [World.cell?_setCell_other _ _ _ _ (by simp)];exact hc1
    ·show (wr.setCell _ _).frozen? _=_;rw [World.frozen?_setCell];exact hf
    ·rw [World.size_drew,World.size_setCell];exact hz
    ·exact (hb.setCell (Nat.le_refl _) _).drew
   case measure=>simp [intOf];omega
  ·go_wp2
   go_ret;refine ⟨QbE ?_,hb⟩;rw [List.take_of_length_le (by simp;omega)];rfl
theorem Qtq(s:ByteArray)(w:World)(hs:s.size≤9223372036854775807) :
  Calls Tryz.prog 165 #[.string s] w fun e w'=>e = .returned (.int .u64 (FnvPlain.sum s.data.toList:Nat))∧Below w.heap.size w w':=by
 go_enter Tryz.func165,Tryz.ntmps165;go_wp2_with (go_at_call 203;refine (QvV _ _ hs).mono ?_;rintro e w' ⟨rfl,hb⟩);go_ret;exact ⟨rfl,by assumption⟩
end
section
open Go.RowKit Go.Maps PoolPlain
theorem Qc1{H:Type}{P:Program}{k:TypeId}{w w':World}{base:Nat}{e:TypeId}{q:IntKind}{b n:Nat}{D:DataW H}{S:Nat→Prop}(h:w.ownsGroups P k base e q b n D)(hs:w.Shuns b (fun g=>¬S g))(hb:S b)
  (hk:∀ g,S g→g<w.heap.size→w'.heap[g]?=w.heap[g]?):w'.ownsGroups P k base e q b n D∧w'.Shuns b (fun g=>¬S g):=by
 obtain ⟨es,clock,hbk,F,hsz,rfl,hbb,hlen,hap⟩:=h;have hblt:b<w.heap.size:=(gsi hbk).1;have hSx:∀ x∈es.toList,∀ g,x.val.ownBlock=some g→S g:=fun x hx g hg=>Classical.not_not.1 (hs es clock hbk x hx g hg)
 have hst0:∀ x∈es.toList,∀ zs,w.ownsInts base e q x.val zs→w'.ownsInts base e q x.val zs:=fun x hx zs ho=>⟨Qad ho.1 (fun g hg=>hk g (hSx x hx g hg) (ho.1.lt g hg).2),ho.2⟩
 have hst:∀ x∈es.toList,∀ z,rowElem (H:=H) w base e q x.val=some z→rowElem w' base e q x.val=some z:=fun x hx z hz=>by
  obtain ⟨zs,ho,rfl⟩:=rowElem_inv hz;exact rowElem_mk (hst0 x hx zs ho)
 obtain ⟨F1,hmap,_⟩:=F.stay hst;have hb':w'.heap[b]?=some (.map es clock):=(hk b hb hblt).trans hbk;refine ⟨⟨es,clock,hb',F1,hsz,by rw [hmap],hbb,fun x hx zs ho=>?_,hap⟩,fun es2 c2 h2=>?_⟩
 ·obtain ⟨y,hy⟩:=F.reads x hx
  obtain ⟨z,hz,_⟩:=Go.WideElems.rd_val hy;obtain ⟨zs0,ho0,_⟩:=rowElem_inv hz;rw [ho.unique (hst0 x hx zs0 ho0)];exact hlen x hx zs0 ho0
 ·obtain ⟨rfl,rfl⟩:es=es2∧clock=c2:=by rw [hb'] at h2;simpa using h2
  exact hs es clock hbk
def Qkn(l:List (List UInt8))(k:Nat):List Value:=[.int .u64 (off l k:Nat),.int .u32 ((l.getD k []).length:Nat)]
def Qd4(l:List (List UInt8)):List Value:=(List.range l.length).flatMap (Qkn l)
theorem Qnp(l:List (List UInt8))(s:List UInt8):Qd4 (l++[s])=Qd4 l++[.int .u64 (l.flatten.length:Nat),.int .u32 (s.length:Nat)]:=by
 unfold Qd4;rw [List.length_append,List.length_singleton,List.range_succ,List.flatMap_append]
 congr 1
 ·rw [List.flatMap_def,List.flatMap_def]
  congr 1
  refine List.map_congr_left (fun k hk=>?_)
  have hk:=List.mem_range.1 hk;unfold Qkn;rw [Qjo l [s] k (by omega),List.getD_eq_getElem?_getD,List.getD_eq_getElem?_getD,List.getElem?_append_left hk]
 ·unfold Qkn
  rw [List.flatMap_cons,List.flatMap_nil,Qjo l [s] _ (Nat.le_refl _),Qxv l _ (Nat.le_refl _)];simp [List.getD_eq_getElem?_getD]
theorem QpZ(l:List (List UInt8))(k:Nat)(hk:k<l.length):(Qd4 l)[k*2]?=some (.int .u64 (off l k:Nat))∧(Qd4 l)[k*2+1]?=some (.int .u32 (l[k].length:Nat))∧(Qd4 l).length=l.length*2:=by
 have gen:∀ n,∀ j,j<n→((List.range n).flatMap (Qkn l))[j*2]?=some (.int .u64 (off l j:Nat))∧((List.range n).flatMap (Qkn l))[j*2+1]?=some (.int .u32 ((l.getD j []).length:Nat)):=by
  intro n
  induction n with
  |zero=>intro j hj;omega
  |succ n ih=>
   intro j hj;have hlen:((List.range n).flatMap (Qkn l)).length=n*2:=by
    clear ih hj
    induction n with
    |zero=>rfl
    |succ n ih=>rw [List.range_succ,List.flatMap_append,List.length_append,ih];simp [Qkn];omega
   rw [List.range_succ,List.flatMap_append]
   by_cases h:j<n
   ·rw [List.getElem?_append_left (by omega),List.getElem?_append_left (by omega)]
    exact ih j h
   ·obtain rfl:j=n:=by omega
    rw [List.getElem?_append_right (by omega),List.getElem?_append_right (by omega),hlen]
    rw [show j*2-j*2=0 by omega,show j*2+1-j*2=1 by omega]
    exact ⟨rfl,rfl⟩
 have h:=gen l.length k hk;refine ⟨h.1,?_,?_⟩
 ·have h2:=h.2
  rw [List.getD_eq_getElem?_getD,List.getElem?_eq_getElem hk] at h2;exact h2
 ·have:∀ n,((List.range n).flatMap (Qkn l)).length=n*2:=by
   intro n
   induction n with
   |zero=>rfl
   |succ n ih=>rw [List.range_succ,List.flatMap_append,List.length_append,ih];simp [Qkn];omega
  exact this _
def QiO(l:List (List UInt8))(x:Nat):List Int:=(grp l x).map fun (k:Nat)=>(k:Int)
def QzH(zs:List Int):DataW Unit:=if zs = [] then .nil else .slice (Go.ChangeShapes.lits .i64 zs) []
def Qpt(D:DataW Unit)(l:List (List UInt8)):Prop:=∀ x:Nat,x<18446744073709551616→D.atKey (.int .u64 (x:Int)) .nil=QzH (QiO l x)
def MapAt(w:World)(mv:Value)(l:List (List UInt8))(S:Nat→Prop):Prop:=
 (mv = .map none∧l = [])∨∃ b D,mv = .map (some b)∧S b∧w.ownsGroups Tryz.prog 43 (b+1) 3 .i64 b l.length D∧w.Shuns b (fun g=>¬S g)∧Qpt D l
def PoolAt(w:World)(p:Nat)(l:List (List UInt8))(S:Nat→Prop):Prop:=
 OkL l∧(∀ g,S g→g<w.heap.size)∧S p∧∃ tv pv mv,w.heap[p]?=some (.cells #[tv,pv,mv] 217 (0,0))∧
  w.ownsRow 0 5 1 tv l.flatten.length (QaG l.flatten)∧(∀ g,tv.ownBlock=some g→S g)∧
  w.ownsRow 0 148 2 pv l.length (Qd4 l)∧(∀ g,pv.ownBlock=some g→S g)∧MapAt w mv l S
theorem MapAt.keep{w w':World}{mv:Value}{l:List (List UInt8)}{S:Nat→Prop}(h:MapAt w mv l S)(hk:∀ g,S g→w'.heap[g]?=w.heap[g]?):MapAt w' mv l S:=by
 rcases h with h|⟨b,D,h1,h2,h3,h4,h5⟩
 ·exact .inl h
 ·obtain ⟨g1,g2⟩:=Qc1 h3 h4 h2 (fun g hg _=>hk g hg)
  exact .inr ⟨b,D,h1,h2,g1,g2,h5⟩
theorem PoolAt.keep{w w':World}{p:Nat}{l:List (List UInt8)}{S:Nat→Prop}(h:PoolAt w p l S)(hs:w.heap.size≤w'.heap.size)(hk:∀ g,S g→w'.heap[g]?=w.heap[g]?):PoolAt w' p l S:=by
 obtain ⟨h0,h1,h2,tv,pv,mv,hb,ht,hts,hp,hps,hm⟩:=h;exact ⟨h0,fun g hg=>Nat.lt_of_lt_of_le (h1 g hg) hs,h2,tv,pv,mv,(hk p h2).trans hb,Qad ht (fun g hg=>hk g (hts g hg)),hts,Qad hp (fun g hg=>hk g (hps g hg)),hps,hm.keep hk⟩
theorem PoolAt.below{w w':World}{p:Nat}{l:List (List UInt8)}{S:Nat→Prop}(h:PoolAt w p l S)(hb:Below w.heap.size w w'):PoolAt w' p l S:=h.keep hb.size (fun g hg=>hb.block g (h.2.1 g hg))
theorem PoolAt.lt{w:World}{p:Nat}{l:List (List UInt8)}{S:Nat→Prop}(h:PoolAt w p l S):p<w.heap.size:=h.2.1 p h.2.2.1
theorem PoolAt.new(w:World):PoolAt (w.alloc (.cells #[.slice none 0 0,.slice none 0 0,.map none] 217)) w.heap.size [] (fun g=>g=w.heap.size):=
 ⟨Qxu,fun g hg=>by rw [World.size_alloc,hg];omega,rfl,_,_,_,Qa4 w _,World.ownsRow_nil _ _ _ _,fun g hg=>(by cases hg),World.ownsRow_nil _ _ _ _,fun g hg=>(by cases hg),.inl ⟨rfl,rfl⟩⟩
theorem QfW{w:World}{b:Nat}{x y z:Value}{t:TypeId}(h:w.heap[b]?=some (.cells #[x,y,z] t (0,0))) :
  w.cell? ⟨b,0,none⟩=some x∧w.cell? ⟨b,1,none⟩=some y∧w.cell? ⟨b,2,none⟩=some z∧w.frozen? ⟨b,0,none⟩=false∧w.frozen? ⟨b,1,none⟩=false∧w.frozen? ⟨b,2,none⟩=false:=by
 refine ⟨?_,?_,?_,?_,?_,?_⟩
 ·unfold World.cell?;rw [h];rfl
 ·unfold World.cell?;rw [h];rfl
 ·unfold World.cell?;rw [h];rfl
 ·unfold World.frozen?;rw [h];rfl
 ·unfold World.frozen?;rw [h];rfl
 ·unfold World.frozen?;rw [h];rfl
end
section
open Go.RowKit Go.Maps PoolPlain
theorem Qrp(a:Nat)(h:a<18446744073709551616):IntKind.u64.wrap (a:Int)=(a:Int):=IntWalk.u64_in _ (by omega)
theorem QAl(w:World)(a b:Value)(t:TypeId):(w.alloc (.cells #[a,b] t)).cell? ⟨w.heap.size,0,none⟩=some a∧(w.alloc (.cells #[a,b] t)).cell? ⟨w.heap.size,1,none⟩=some b:=by
 have h:=Qa4 w (.cells #[a,b] t);exact ⟨by unfold World.cell?;rw [h];rfl,by unfold World.cell?;rw [h];rfl⟩
theorem Qn9(o n:Nat)(w:World)(h:o+n<18446744073709551616) :
  Calls Tryz.prog 204 #[.agg #[.int .u64 o,.int .u32 n]] w fun e w'=>e = .returned (.int .u64 ((o:Int)+(n:Int)))∧Below w.heap.size w w':=by
 have h1:IntKind.u64.wrap ((o:Int)+(n:Int))=(o:Int)+(n:Int):=IntWalk.u64_in _ (by omega)
 have h2:IntKind.u64.wrap (n:Int)=(n:Int):=Qrp n (by omega)
 go_enter Tryz.func204,Tryz.ntmps204;go_wp2_with fail;go_ret;exact ⟨rfl,(Below.refl _ _).alloc (Nat.le_refl _) _⟩
theorem Qq4(l:List UInt8)(j:Nat)(hj:j<l.length):(QaG l)[j]?=some (.int .u8 (l[j].toNat:Int)):=by
 unfold QaG;rw [List.getElem?_map,List.getElem?_eq_getElem hj];rfl
theorem Qj0{w:World}{base:Nat}{tv:Value}{t:List UInt8}(h:w.ownsRow base 5 1 tv t.length (QaG t))(hne:0<t.length) :
  ∃ g cap,tv = .slice (some ⟨g,0,none⟩) t.length cap∧tv.ownBlock=some g∧g<w.heap.size∧t.length≤cap∧cap≤maxLen∧∀ j (hj:j<t.length),w.cell? ⟨g,j,none⟩=some (.int .u8 (t[j].toNat:Int)):=by
 have hc:=fun g hg=>h.cells (g:=g) hg
 rcases h.2 with ⟨rfl,h0⟩|⟨g,cap,cur,rfl,hb,hg,hle,hm,hs,ht⟩
 ·omega
 ·refine ⟨g,cap,rfl,rfl,(gsi hg).1,hle,hm,fun j hj=>?_⟩
  have:=hc g rfl j _ (Qq4 t j hj);have e0:(⟨g,0,none⟩:Addr).add j=⟨g,j,none⟩:=by unfold Addr.add;split<;>simp_all
  rwa [e0] at this
theorem Qf2(g o j:Nat):(⟨g,o,none⟩:Addr).add j=⟨g,o+j,none⟩:=by unfold Addr.add;split<;>simp_all
theorem Qw6(l:List (List UInt8))(k:Nat)(hk:k<l.length)(x:List UInt8)(hx:l[k]=x)(j:Nat)(hj:j<x.length):∃ h:off l k+j<l.flatten.length,l.flatten[off l k+j]=x[j]:=by
 subst hx;have h1:=QyR l k hk;have h2:=Qsx l k hk;refine ⟨by omega,?_⟩
 have:l[k][j]=((l.flatten.drop (off l k)).take l[k].length)[j]'(by rw [h1];exact hj):=by congr 1;exact h1.symm
 rw [this,List.getElem_take,List.getElem_drop]
theorem Qxl(p:Nat)(l:List (List UInt8))(S:Nat→Prop)(w:World)(hP:PoolAt w p l S)(k:Nat)(hk:k<l.length) :
  Calls Tryz.prog 166 #[.pointer (some ⟨p,0,none⟩),.agg #[.int .u64 (off l k:Nat),.int .u32 (l[k].length:Nat)]] w fun e w'=>e = .returned (.string (bs l[k]))∧Below w.heap.size w w':=by
 have hpl:=hP.lt;obtain ⟨hok,hSl,hSp,tv,pv,mv,hb,ht,hts,-,-,-⟩:=hP;have hfl:=Qku l hok;have QBr:=Qsx l k hk;have QAU:0<l[k].length:=List.length_pos_iff.2 (hok.2.1 l[k] (List.getElem_mem _)).1;obtain ⟨g,cap,rfl,-,hgl,hle,hcm,Qao⟩:=Qj0 ht (by omega)
 obtain ⟨c0,-,-,-,-,-⟩:=QfW hb;obtain ⟨x,hx⟩:∃ x,l[k]=x:=⟨_,rfl⟩;have hsub:=fun j hj=>Qw6 l k hk x hx j hj
 rw [hx] at QBr QAU ⊢;have hce:∀ j (hj:j<x.length),w.cell? ⟨g,off l k+j,none⟩=some (.int .u8 (x[j].toNat:Int)):=fun j hj=>by
  obtain ⟨h1,h2⟩:=hsub j hj;rw [Qao _ h1,h2]
 clear hsub Qao hx;generalize off l k=o at *;generalize l.flatten.length=m at *;obtain ⟨b0,b1⟩:=QAl w (.int .u64 (o:Nat)) (.int .u32 (x.length:Nat)) 148;have hB:Below w.heap.size w (w.alloc (.cells #[.int .u64 (o:Nat),.int .u32 (x.length:Nat)] 148)):=(Below.refl _ _).alloc (Nat.le_refl _) _;have hz:w.heap.size<(w.alloc (.cells #[.int .u64 (o:Nat),.int .u32 (x.length:Nat)] 148)).heap.size:=by rw [World.size_alloc];omega
 go_enter Tryz.func166,Tryz.ntmps166;go_wp2_with fail;generalize w.alloc (.cells #[.int .u64 (o:Nat),.int .u32 (x.length:Nat)] 148)=W0 at hB hz b0 b1 ⊢;have k0:∀ p:BelowOf W0,p.world.cell? ⟨w.heap.size,0,none⟩=some (.int .u64 (o:Nat)):=fun p=>QaN p hz b0
 have k1:∀ p:BelowOf W0,p.world.cell? ⟨w.heap.size,1,none⟩=some (.int .u32 (x.length:Nat)):=fun p=>QaN p hz b1
 have k2:∀ q:BelowOf W0,q.world.cell? ⟨p,0,none⟩=some (.slice (some ⟨g,0,none⟩) m cap):=fun q=>QaN q (by show p<_;omega) ((hB.cell (p:=⟨p,0,none⟩) hpl).trans c0)
 have kc:∀ q:BelowOf W0,(convert 157 9 (.slice (some ⟨g,o,none⟩) x.length (cap-o))).run Tryz.prog q.world = .ok (.string (bs x)) q.world:=fun q=>
  run_convert_bytes_back q.world 157 9 5 ⟨g,o,none⟩ _ x Tryz.underlying157 Tryz.underlying5 Tryz.underlying9 (fun j hj=>by
   rw [Qf2];exact QaN q (by show g<_;omega) ((hB.cell (p:=⟨g,o+j,none⟩) hgl).trans (hce j hj)))
 have hB:=hid hB;have g0:(0:Int)≤(o:Int):=by omega
 have g1:(o:Int)≤(o:Int)+(x.length:Int):=by omega
 have g2:(o:Int)+(x.length:Int)≤(cap:Int):=by omega
 clear hce b0 b1 c0 hb ht;refine Qac (by kernel_rfl) (by kernel_rfl) ?_
 repeat (go_big_quiet_step ((go_at_call 204;exact Qav (Qn9 o x.length _ (by omega)))))
 refine wpQuiet_nil ?_;intro W1 hw';have hb1:=QaM hw';clear hw';go_wp2_with fail;go_ret;exact ⟨rfl,Qaa hB.out hb1⟩
theorem QyH:Keyed Tryz.prog 43:=int_keyed Tryz.underlying43
theorem Qg6(w:World):(zeroValue 272).run Tryz.prog w = .ok (.slice none 0 0) w:=by kernel_rfl
theorem Qgo(x:Nat)(h:x<18446744073709551616):keyOf Tryz.prog 43 (.int .u64 (x:Int))=some (.int .u64 (x:Int)):=keyOf_int_mk Tryz.underlying43 (WalkArith.wf_u64 (by omega))
theorem QtG{H:Type}{P:Program}{k:TypeId}{R:Value→Option (DataW H×List MemPlace)}{es:Array MapEntry}{clock:Nat}(F:Go.WideElems.Fit P k R es clock){x y:MapEntry}(hx:x∈es.toList)(hy:y∈es.toList)(he:x.key=y.key):x=y:=by
 have hap:es.toList.Pairwise (fun x y=>x.key≠y.key):=((Go.MapKept.stamped_iff es clock).1 F.stamped).2.2
 rw [List.pairwise_iff_getElem] at hap;obtain ⟨i,hi,rfl⟩:=List.getElem_of_mem hx;obtain ⟨j,hj,rfl⟩:=List.getElem_of_mem hy;rcases Nat.lt_trichotomy i j with c|c|c
 ·exact absurd he (hap i j hi hj c)
 ·subst c;rfl
 ·exact absurd he.symm (hap j i hj hi c)
theorem Qe9{H:Type}{P:Program}{k t E:TypeId}{w:World}{base:Nat}{e:TypeId}{q:IntKind}{b n:Nat}{D:DataW H}{S:Nat→Prop}(K:Keyed P k)(ht:P.underlying t=some (.map k E))(hz:∀ w,(zeroValue E).run P w = .ok (.slice none 0 0) w)
  (h:w.ownsGroups P k base e q b n D) (hs:w.Shuns b (fun g=>¬S g)) (hn:n<maxLen) {key:Value} {kl:Lit} (QBX:keyOf P k key=some kl) :
  ∃ v zs,D.atKey kl .nil=rowDatum q v zs∧w.ownsInts base e q v zs∧zs.length≤n∧w.groupBack P t k base e q b n D key kl v∧(∀ g,v.ownBlock=some g→S g)∧∀ w',w'.heap[b]?=w.heap[b]?→(Instr.lookup t (.map (some b)) key false).run P w' = .ok v w':=by
 obtain ⟨v,zs,QAw,hat,hoi,hzl,QBu⟩:=h.at K ht (hz w) hn QBX;obtain ⟨es,clock,hb,F,-,-,-,-,-⟩:=h;refine ⟨v,zs,hat,hoi,hzl,QBu,?_,?_⟩
 ·rcases fit_look false K ht (hz w) hb F QBX with ⟨hr,-,-⟩|⟨e0,y,hm,-,hr,-,-,-⟩
  ·rw [QAw] at hr
   obtain rfl:v = .slice none 0 0:=by simpa using hr
   intro g hg;cases hg
  ·rw [QAw] at hr
   obtain rfl:v=e0.val:=by simpa using hr
   exact fun g hg=>Classical.not_not.1 (hs es clock hb e0 hm g hg)
 ·intro w' hw'
  rcases fit_look false K ht (hz w) hb F QBX with ⟨hr,hno,-⟩|⟨e0,y,hm,hk0,hr,-,-,-⟩
  ·rcases fit_look false K ht (hz w') (hw'.trans hb) F QBX with ⟨hr',-,-⟩|⟨e1,y,hm,hk1,-,-,-,-⟩
   ·rw [hr'] ;rw [QAw] at hr
    obtain rfl:v = .slice none 0 0:=by simpa using hr
    rfl
   ·exact absurd hk1 (hno e1 hm)
  ·rcases fit_look false K ht (hz w') (hw'.trans hb) F QBX with ⟨-,hno,-⟩|⟨e1,y,hm1,hk1,hr',-,-,-⟩
   ·exact absurd hk0 (hno e0 hm)
   ·obtain rfl:=QtG F hm hm1 (hk0.trans hk1.symm)
    rw [hr'];rw [QAw] at hr;obtain rfl:v=e0.val:=by simpa using hr
    rfl
theorem Qvi{a b:List Int}(h:Go.ChangeShapes.lits (H:=Unit) .i64 a=Go.ChangeShapes.lits .i64 b):a=b:=by
 unfold Go.ChangeShapes.lits at h;exact (List.map_inj_right (fun a b hab=>by cases hab;rfl)).1 h
theorem QrT{w:World}{base:Nat}{e:TypeId}{v:Value}{zs ys:List Int}(ho:w.ownsInts base e .i64 v zs)(h:rowDatum (H:=Unit) .i64 v zs=QzH ys):zs=ys:=by
 unfold QzH at h;rcases ho.datum (H:=Unit) with ⟨h1,h2⟩|h1
 ·rw [h1] at h
  split at h
  ·rename_i hh;rw [h2,hh]
  ·cases h
 ·rw [h1] at h
  split at h
  ·cases h
  ·injection h with h3;exact Qvi h3
def HoldsZ(w:World)(v:Value)(zs:List Int):Prop:=∃ a c,v = .slice a zs.length c∧zs.length≤c∧(zs≠[]→∃ b,a=some ⟨b,0,none⟩∧b<w.heap.size∧∀ j (hj:j<zs.length),w.cell? ⟨b,j,none⟩=some (.int .i64 zs[j]))
theorem HoldsZ.of_own{w:World}{base:Nat}{e:TypeId}{v:Value}{zs:List Int}(h:w.ownsInts base e .i64 v zs):HoldsZ w v zs:=by
 have hc:=fun g hg=>h.1.cells (g:=g) hg
 rcases h.1.2 with ⟨rfl,h0⟩|⟨g,cap,cur,rfl,hb,hg,hle,hm,hs,ht⟩
 ·obtain rfl:=List.eq_nil_of_length_eq_zero h0
  exact ⟨none,0,rfl,Nat.le_refl _,fun h=>absurd rfl h⟩
 ·refine ⟨_,cap,rfl,hle,fun _=>⟨g,rfl,(gsi hg).1,fun j hj=>?_⟩⟩
  have:=hc g rfl j (.int .i64 zs[j]) (by rw [List.getElem?_map,List.getElem?_eq_getElem hj];rfl)
  rwa [Qf2,Nat.zero_add] at this
theorem Qvc{w:World}{mv:Value}{l:List (List UInt8)}{S:Nat→Prop}(h:MapAt w mv l S)(hl:l.length≤2048)(x:Nat)(hx:x<18446744073709551616) :
  ∃ v,HoldsZ w v (QiO l x)∧∀ w',(∀ g,S g→w'.heap[g]?=w.heap[g]?)→(Instr.lookup 215 mv (.int .u64 (x:Int)) false).run Tryz.prog w' = .ok v w':=by
 rcases h with ⟨rfl,rfl⟩|⟨b,D,rfl,hSb,hg,hsh,hD⟩
 ·exact ⟨.slice none 0 0,⟨none,0,rfl,Nat.le_refl _,fun h=>absurd rfl h⟩,fun w' _=>look_nil false QyH Tryz.underlying215 (Qg6 w') (Qgo x hx)⟩
 ·obtain ⟨v,zs,h1,h2,h3,h4,h5,h6⟩:=Qe9 QyH Tryz.underlying215 Qg6 hg hsh (by unfold maxLen;omega) (Qgo x hx)
  rw [hD x hx] at h1;obtain rfl:=QrT h2 h1.symm;exact ⟨v,HoldsZ.of_own h2,fun w' hw'=>h6 w' (hw' b hSb)⟩
theorem Qsg{w:World}{base:Nat}{pv:Value}{l:List (List UInt8)}(h:w.ownsRow base 148 2 pv l.length (Qd4 l))(hne:0<l.length) :
  ∃ g cap,pv = .slice (some ⟨g,0,none⟩) l.length cap∧pv.ownBlock=some g∧g<w.heap.size∧l.length≤cap∧∀ k (hk:k<l.length),w.cell? ⟨g,k*2,none⟩=some (.int .u64 (off l k:Nat))∧w.cell? ⟨g,k*2+1,none⟩=some (.int .u32 (l[k].length:Nat)):=by
 have hc:=fun g hg=>h.cells (g:=g) hg
 rcases h.2 with ⟨rfl,h0⟩|⟨g,cap,cur,rfl,hb,hg,hle,hm,hs,ht⟩
 ·omega
 ·refine ⟨g,cap,rfl,rfl,(gsi hg).1,hle,fun k hk=>?_⟩
  obtain ⟨h1,h2,-⟩:=QpZ l k hk;have k1:=hc g rfl _ _ h1;have k2:=hc g rfl _ _ h2;rw [Qf2,Nat.zero_add] at k1 k2;exact ⟨k1,k2⟩
theorem QbB(w:World)(b:Nat)(t:TypeId)(x y:Value)(h:w.heap[b]?=some (.cells #[x,y] t (0,0))):(loadVar 148 ⟨b,0,none⟩).run Tryz.prog w = .ok (.agg #[x,y]) w:=
 run_loadVar_row w b t 148 #[x,y] (0,0) _ h Tryz.underlying148 rfl (by kernel_rfl)
theorem Qew{w:World}{b:Nat}{x y:Value}{t:TypeId}(h:w.heap[b]?=some (.cells #[x,y] t (0,0))) :
  w.cell? ⟨b,0,none⟩=some x∧w.cell? ⟨b,1,none⟩=some y∧w.frozen? ⟨b,0,none⟩=false∧w.frozen? ⟨b,1,none⟩=false:=by
 refine ⟨?_,?_,?_,?_⟩
 ·unfold World.cell?;rw [h];rfl
 ·unfold World.cell?;rw [h];rfl
 ·unfold World.frozen?;rw [h];rfl
 ·unfold World.frozen?;rw [h];rfl
def QAo(l:List (List UInt8))(s:List UInt8)(w:World)(e:Ending)(w':World):Prop:=
 e = .returned (.tuple #[.agg #[.int .u64 ((fnd l s).1:Nat),.int .u32 ((fnd l s).2.1:Nat)],.bool (fnd l s).2.2])∧Below w.heap.size w w'
end
section
open Go.RowKit Go.Shelf
attribute [local go_sem] Oper.semAt_some
theorem Qh2:¬QmH 43:=by unfold QmH;decide
theorem QgK:¬QmH 23:=by unfold QmH;decide
theorem Qvx:(Tryz.prog.info? 43).map (fun i=>(i.zero,i.size,i.bytes))=some (some (.int .u64 0),1,8):=by kernel_rfl
theorem Qpn{T:TypeId→Prop}{W w1:World}{n₀ B:Nat}{t e:TypeId}{size:Nat}{v v':Value}{k:Nat}{xs:List Value}{tmp:Obj}(hv1:Boxed w1 B t v)(QAB:W.ownsRow n₀ e size v k xs)(QAu:(W.alloc tmp).grownBy w1 v.ownBlock)(ht:¬T t)(he:¬T e):KeptT T W (w1.setCell ⟨B,0,none⟩ v'):=by
 refine (KeptT.alloc W tmp).trans ((KeptT.of_grown QAu (fun r hr=>?_)).trans (KeptT.setCell (a:=⟨B,0,none⟩) w1 v' hv1 ht))
 obtain ⟨cur,hc⟩:=QbJ QAB r hr;exact .inr (.inl ⟨cur,e,(0,0),(Below.heap_alloc W tmp _ (gsi hc).1).trans hc,he⟩)
theorem QoA{T:TypeId→Prop}{B n₀:Nat}{W W':World}{row:Option Nat}{e:TypeId}{size n:Nat}{v:Value}{xs:List Value}(h:W.ownsRow n₀ e size v n xs)(hg:W.grownBy W' row)(hr:∀ r,row=some r→QyJ T B W r)(he:¬T e):W'.ownsRow n₀ e size v n xs:=
 Qad h (fun g hv=>by
  obtain ⟨cur,hc⟩:=QbJ h g hv;rw [QcV hg hr hc he,hc])
theorem Qgc{w:World}{base:Nat}{v:Value}{t:List UInt8}(ht:w.ownsRow base 5 1 v t.length (QaG t)):(convert 157 9 v).run Tryz.prog w = .ok (.string (bs t)) w:=by
 rcases Nat.eq_zero_or_pos t.length with h0|h0
 ·have:t = []:=List.length_eq_zero_iff.1 h0
  subst this;rcases ht.2 with ⟨rfl,-⟩|⟨g,cap,cur,rfl,-⟩
  ·exact run_convert_bytes_nil w 157 5 Tryz.underlying157 Tryz.underlying5 0 0 9 Tryz.underlying9
  ·exact run_convert_bytes_back w 157 9 5 ⟨g,0,none⟩ cap [] Tryz.underlying157 Tryz.underlying5 Tryz.underlying9 (fun j hj=>absurd hj (Nat.not_lt_zero _))
 ·obtain ⟨g,cap,rfl,-,-,-,-,hc⟩:=Qj0 ht h0
  exact run_convert_bytes_back w 157 9 5 ⟨g,0,none⟩ cap t Tryz.underlying157 Tryz.underlying5 Tryz.underlying9 (fun j hj=>by rw [Qf2,Nat.zero_add];exact hc j hj)
def QwD(l:List Nat):List Value:=l.map fun x=>.int .u64 (x:Nat)
def EncI(B0 B1:Nat)(w:World)(pre:List Nat)(W:World):Prop:=∃ v,Boxed W B1 23 v∧W.ownsRow B0 43 1 v pre.length (QwD pre)∧Below B0 w W
theorem Qn3(l:List Ent)(a:Option Addr)(c:Nat)(w:World)(hE:EntB w (.slice a l.length c) l)(QAB:QeC l=0)(hok:∀ e∈l,Qbl e)(hlen:(QfQ l).length≤65536) :
  Calls Tryz.prog 37 #[.slice a l.length c] w fun e w'=>e = .returned (.tuple #[.string (bs (QfQ l)),.int .i64 0])∧Below w.heap.size w w':=by
 obtain ⟨hl,QBD,QAY⟩:=QhM l QAB;have QAz:=hid (Qc3 _ l w hE.holds hok (by omega))
 rw [QAB] at QAz;have HSz:=hid (fun W (h:EntB W (.slice a l.length c) l)=>Qmh l a c W h QAB hok (by omega))
 have QA7:=hid (fun W=>QgT a l.length c W)
 have t1:decide ((65536:Int)<((QfQ l).length:Int))=false:=decide_eq_false (by omega)
 have hEB:=fun W (hb:Below w.heap.size w W)=>hE.below hb
 have HLEN:=hid hlen;have HEB:=hid hEB;obtain ⟨n,hn⟩:∃ n,(QfQ l).length=n:=⟨_,rfl⟩;rw [hn] at HSz t1;clear hlen hE hEB hn;obtain ⟨i0,hi,hz0,hz1,hz2⟩:=info_parts Qvx;refine (callsIn_wide (n:=4)).1 ?_;refine callsIn_of_wp_marks Tryz.func37 rfl trivial ?_ rfl;simp only [Tryz.ntmps37,List.size_toArray,List.length_cons,List.length_nil,Nat.reduceAdd,Nat.reduceSub,Array.replicate_succ,Array.replicate_zero,List.push_toArray,List.append_toArray,List.nil_append,List.cons_append];gi_wp2_with (refine ⟨trivial,?_⟩;gi_at_call 62;refine (callsIn_wide.2 QAz.out).mono ?_;rintro e w1 ⟨rfl,hb1⟩);gi_wp2_with (refine ⟨trivial,?_⟩;gi_at_call 65;refine (callsIn_wide.2 (HSz.out _ (HEB.out _ hb1))).mono ?_;rintro e w2 ⟨rfl,hb2⟩);gi_wp2_with (refine ⟨trivial,?_⟩;gi_at_call 68;refine (callsIn_wide.2 (QA7.out _)).mono ?_;rintro e w3 ⟨rfl,rfl⟩);have QAW:=Qaa hb1 hb2;obtain ⟨B1,hB1⟩:∃ B1,w2.heap.size=B1:=⟨_,rfl⟩;obtain ⟨W2,hW2⟩:∃ W2,(w2.alloc (.cells #[.slice none 0 0] 23)).alloc (.cells #[.slice a l.length c] 81)=W2:=⟨_,rfl⟩;have hzW:W2.heap.size=B1+2:=by rw [←hW2,←hB1];simp
 have kn:Boxed W2 B1 23 (.slice none 0 0):=by
  rw [←hW2,←hB1];exact (Boxed.new w2 _ _).alloc _
 have kb:W2.heap[B1+1]?=some (.cells #[.slice a l.length c] 81 (0,0)):=by
  have:=heap_alloc_new (w2.alloc (.cells #[.slice none 0 0] 23)) (.cells #[.slice a l.length c] 81);rw [World.size_alloc,hB1] at this;rw [←hW2];exact this
 have hz:w.heap.size≤B1:=by rw [←hB1];exact QAW.size
 have hb3:Below w.heap.size w W2:=by rw [←hW2];exact ((QAW.alloc QAW.size _).alloc (by rw [World.size_alloc,hB1];omega) _)
 have hE2:EntB W2 (.slice a l.length c) l:=HEB.out _ hb3;have QBQ:∀ e∈l,Qbl e∧QcF e=0:=fun e he=>⟨hok e he,QBD e he⟩
 have HLT:=hid (QsA l hl QBQ);have hnl:=QlB l;rw [hW2,hB1];clear hW2 hB1 hb1 hb2 QAW QAz QA7 HSz HEB;refine QrU rfl (by omega) (gf:=121) (lb:=#[.pointer (some ⟨B1+1,0,none⟩)]) rfl trivial (enters_of Tryz.func121 (by kernel_rfl) rfl) QmH (QfC l (.slice a l.length c) (B1+1) (0,0) W2 hl QBQ QAY hE2 kb) (Below.refl _ _) (fun _=>rfl)
  (EncI w.heap.size B1 w) (fun s X Y row hs hg hr=>by
   obtain ⟨v,h1,h2,h3⟩:=hs;exact ⟨v,QcV hg hr h1 QgK,QoA h2 hg hr Qh2,Qgz h3 hg hr (by omega) (Nat.le_refl _)⟩) ⟨_,kn,World.ownsRow_nil _ _ _ _,hb3⟩
  (fun x=>{ tmps:=#[.slice a l.length c,undef,.string ⟨#[]⟩,.int .i64 0,.int .i64 0,.pointer (some ⟨B1,0,none⟩),.int .u64 (x:Nat),.slice a l.length c,.int .i64 0,.int .i64 0,.bool false,undef,.slice a l.length c,.int .i64 (n:Nat),.bool false,.slice a l.length c,.func (.func 121) #[] #[.pointer (some ⟨B1+1,0,none⟩)],.int .u64 (x:Nat),undef,undef,undef,undef,undef,undef,undef],defers:=[] }) ?assign ?QcK ?done
 case assign=>
  intro lp x W K hK;gi_wp2;exact hK
 case QcK=>
  rintro lp pre x W ⟨v,hv,QAL,hB⟩ hG;obtain ⟨g1,g2,g3,g4⟩:=QoR hG;have hc:=hv.cell;gi_wp2_with (gi_at_builtin;go_loud (refine wpListIn_append_own _ rfl _ _ 23 rfl w.heap.size 43 i0 (.int .u64 0) 1 8 Tryz.underlying23 hi hz0 hz1 hz2 rfl (by decide) _ _ _ rfl (QAL.alloc _) ⟨W.heap.size,0,none⟩ 1 1 [.int .u64 (x:Nat)] rfl rfl (cell_one_new _ _ _) (by simp [Value.oneCell']) (by unfold maxLen;omega) (by omega) (by have:=hB.size;simp;omega) ?_);intro v' w1 QAI QAu _;obtain ⟨g',cap',rfl⟩:=ownsRow_succ QAI;obtain ⟨hv1,hv2,hr2,hk2,hb2⟩:=hv.appended (by decide) QAL hB.size hz QAI QAu;have hc1:=hv1.cell;have hf1:=hv1.frozen)
  refine ⟨Qpn hv1 QAL QAu QgK Qh2,_,hv2,?_,hB.trans hb2⟩;rw [List.length_append,List.length_singleton];unfold QwD at hr2 ⊢;rw [List.map_append];exact hr2
 case done=>
  rintro D xs W hD rfl ⟨v,hv,QAL,hB⟩ hK;have hc:=hv.cell;have hvn:∃ g cp,v = .slice (some ⟨g,0,none⟩) (Qej l).length cp∧g<W.heap.size∧∀ j (hj:j<(Qej l).length),W.cell? ⟨g,j,none⟩=some (.int .u64 ((Qej l)[j]:Nat)):=by
   have hce:=fun g hg=>QAL.cells (g:=g) hg
   rcases QAL.2 with ⟨-,h0⟩|⟨g,cp,cur,rfl,-,hg,-⟩
   ·omega
   ·refine ⟨g,cp,rfl,(gsi hg).1,fun j hj=>?_⟩
    have:=hce g rfl j (.int .u64 ((Qej l)[j]:Nat)) (by unfold QwD;rw [List.getElem?_map,List.getElem?_eq_getElem hj];rfl)
    have e0:(⟨g,0,none⟩:Addr).add j=⟨g,j,none⟩:=by unfold Addr.add;split<;>simp_all
    rwa [e0] at this
  obtain ⟨g,cp,rfl,hg,hcs⟩:=hvn;have HA:=hid (Qpx g cp (Qej l) W (by omega) HLT.out hg hcs)
  have HBW:=hid (And.intro hB hK);have HD:=hid hD;clear hcs hB hK QAL hv;generalize (Qej l).length=M at hc HA ⊢;gi_wp2_with (refine ⟨trivial,?_⟩;gi_at_call 69;refine (callsIn_wide.2 HA.out).mono ?_;rintro e w4 ⟨a4,c4,rfl,ho4,hb4⟩;have hcv:=Qgc ho4);refine ⟨by simp,.inl ⟨_,_,rfl,run_takeDeferred ((hb4.block D (gsi HBW.out.2).1).trans HBW.out.2),?_⟩⟩
  refine ⟨_,results_tmp2 rfl _ _ _,rfl,?_⟩;exact (Qaa HBW.out.1 hb4).trans (belowK_b (w:=w) (Nat.le_refl _) w4 D _ _ (by have:=HD.out;omega) ((hb4.block D (gsi HBW.out.2).1).trans HBW.out.2) rfl rfl)
end
section
open Go.RowKit
theorem EntB.of_own{w:World}{b0:Nat}{v:Value}{l:List Ent}(h:w.ownsRow b0 86 4 v l.length (Qay l))(hn:l≠[]):EntB w v l:=by
 have hc:=fun g hg=>h.cells (g:=g) hg
 rcases h.2 with ⟨-,h0⟩|⟨g,cap,cur,rfl,-,hg,hle,-⟩
 ·exact absurd (List.length_eq_zero_iff.1 h0) hn
 ·refine ⟨g,cap,cur,(0,0),rfl,hle,hg,fun i x hx=>?_⟩
  have:=hc g rfl i x hx;have e0:(⟨g,0,none⟩:Addr).add i=⟨g,i,none⟩:=by unfold Addr.add;split<;>simp_all
  rw [e0,QaY hg] at this;exact this
theorem QgM(e0 e1 e2 e3:Nat)(w:World)(h:0<e3):Calls Tryz.prog 64 #[.agg #[.int .u64 (e0:Nat),.int .u64 (e1:Nat),.int .u32 (e2:Nat),.int .u32 (e3:Nat)]] w fun e w'=>e = .returned (.bool false)∧Below w.heap.size w w':=by
 obtain ⟨c0,c1,c2,c3⟩:=QcN w (.int .u64 (e0:Nat)) (.int .u64 (e1:Nat)) (.int .u32 (e2:Nat)) (.int .u32 (e3:Nat)) 86;have t1:((e3:Int)==0)=false:=by rw [beq_eq_false_iff_ne];omega
 go_enter Tryz.func64,Tryz.ntmps64;go_wp2_with fail;go_ret;exact ⟨rfl,QaJ w _ _ _ _ _⟩
theorem Qqw(l:List Ent)(v:Value)(w:World)(hE:EntB w v l)(hl:l.length≤1000000)(hr:∀ e∈l,0<e.2.2.2):Calls Tryz.prog 118 #[v,.func (.func 64) #[] #[]] w fun e w'=>e = .returned (.int .i64 (-1))∧Below w.heap.size w w':=by
 have HE:=hid hE;have HR:=hid hr;obtain ⟨b,c,rfl,hlc,-⟩:=hE.at;have eg:∀ args w,(callFunc 64 args).run Tryz.prog w = .ok (.enter 64 args) w:=enters_of Tryz.func64 (by kernel_rfl) rfl
 clear hE hr;go_enter Tryz.func118,Tryz.ntmps118;go_wp2_with fail;go_loopw [8] (fun u8 wr=>Hid (∃ k:Nat,k≤l.length∧u8 = .int .i64 (k:Nat)∧Below w.heap.size w wr)) (fun u8 _=>l.length-(intOf u8).toNat)
 case atStart=>exact hid ⟨0,Nat.zero_le _,rfl,Below.refl _ _⟩
 case round=>
  obtain ⟨k,hk,rfl,hb⟩:=hrel.out;clear hrel
  by_cases hlt:k<l.length
  ·have t1:decide ((k:Int)<(l.length:Int))=true:=decide_eq_true (by omega)
   obtain ⟨b',c',he',-,hx'⟩:=(HE.out.below hb).at;obtain ⟨x0,x1,x2,x3⟩:=hx' k hlt;injection he' with q1 q2 q3
   injection q1 with q1
   injection q1 with q1
   subst q1;have hp:=HR.out _ (List.getElem_mem hlt);have HP:=hid (fun W=>QgM l[k].1 l[k].2.1 l[k].2.2.1 l[k].2.2.2 W hp)
   have HB:=hid hb;generalize l[k]=e at *;obtain ⟨e0,e1,e2,e3⟩:=e;clear hb hx' q2 q3 hp;go_wp2_with fail;refine (HP.out _).mono ?_;rintro e w1 ⟨rfl,hb1⟩;have HB1:=hid (Qaa HB.out hb1);clear hb1 x0 x1 x2 x3;go_wp2_with fail;go_roundw
   case rel=>exact hid ⟨k+1,hlt,by go_num,HB1.out⟩
   case measure=>simp [intOf];omega
  ·have t1:decide ((k:Int)<(l.length:Int))=false:=decide_eq_false (by omega)
   go_wp2_with fail;go_ret;exact ⟨rfl,hb⟩
theorem QkZ(l:List Ent)(a:Option Addr)(c:Nat)(w:World)(hE:EntB w (.slice a l.length c) l)(hl:l.length≤1000000)(hr:∀ e∈l,0<e.2.2.2):Calls Tryz.prog 63 #[.slice a l.length c,.func (.func 64) #[] #[]] w fun e w'=>e = .returned (.bool false)∧Below w.heap.size w w':=by
 have HI:=hid (Qqw l _ w hE hl hr);clear hE hr;go_enter Tryz.func63,Tryz.ntmps63;go_wp2_with fail;refine HI.out.mono ?_;rintro e w1 ⟨rfl,hb1⟩;go_wp2_with fail;go_ret;exact ⟨rfl,hb1⟩
def QmI(l:List Ent)(w:World)(e:Ending)(w':World):Prop:=
 ∃ a c,e = .returned (.tuple #[.slice a l.length c,.string ⟨#[]⟩,.int .i64 0,.int .i64 0])∧w'.ownsRow w.heap.size 86 4 (.slice a l.length c) l.length (Qay l)∧Below w.heap.size w w'
theorem Qm6(l:List Ent)(b0:Nat)(a:Option Addr)(c B:Nat)(w:World)(QAq:w.ownsRow b0 86 4 (.slice a l.length c) l.length (Qay l))(hn:l≠[])(QAB:QeC l=0)(hok:∀ e∈l,Qbl e)(hr:∀ e∈l,0<e.2.2.2)(hB1:1≤B)(hB2:B≤16257)(hlen:(QfQ l).length≤B) :
  Calls Tryz.prog 36 #[.slice a l.length c,.int .i64 (B:Nat)] w (QmI l w):=by
 have hE:=EntB.of_own QAq hn;obtain ⟨hl,-,-⟩:=QhM l QAB;have QAz:=hid (Qc3 _ l w hE.holds hok (by omega))
 rw [QAB] at QAz;have HCon:=hid (fun W (hb:Below w.heap.size w W)=>QkZ l a c W (hE.below hb) (by omega) hr)
 have HSz:=hid (fun W (hb:Below w.heap.size w W)=>Qmh l a c W (hE.below hb) QAB hok (by omega))
 have HCl:=hid (fun W (hb:Below w.heap.size w W)=>Qgy (.slice a l.length c) b0 l W (Qad QAq (fun g hg=>hb.block g (QAq.lt g hg).2)) (by omega))
 have t1:decide ((B:Int)<1)=false:=decide_eq_false (by omega)
 have t2:decide ((16257:Int)<(B:Int))=false:=decide_eq_false (by omega)
 have t3:decide ((QfQ l).length≤B)=true:=decide_eq_true hlen;have hbl:Hid (l.length=l.length):=hid rfl;generalize (QfQ l).length=M at *;clear QAq hE hr hok hlen;go_enter Tryz.func36,Tryz.ntmps36;go_wp2_with fail;go_step3;go_wp2_with fail;refine QAz.out.mono ?_;rintro e w1 ⟨rfl,hb1⟩;go_wp2_with fail;refine (HCon.out _ hb1).mono ?_;rintro e w2 ⟨rfl,hb2⟩;have QAW:=Qaa hb1 hb2;clear hb1 hb2;go_wp2_with fail;refine (HSz.out _ QAW).mono ?_;rintro e w3 ⟨rfl,hb3⟩;have QAV:=Qaa QAW hb3;clear QAW hb3;go_wp2_with fail;refine (HCl.out _ QAV).mono ?_;rintro e w4 ⟨a4,c4,rfl,ho4,hb4⟩;have HF:=hid (And.intro (Qbd ho4 QAV.size) (Qaa QAV hb4));clear ho4 hb4 QAV;go_wp2_with fail
 try rw [Exit.noGoto_ret]
 refine bodyPost_ret (by simp [results];rfl) rfl ?_
 exact ⟨a4,c4,rfl,HF.out.1,HF.out.2⟩
end
section
open Go.RowKit
theorem Qjx:(Tryz.prog.info? 86).map (fun i=>(i.zero,i.size,i.bytes))=some (some (.agg #[.int .u64 0,.int .u64 0,.int .u32 0,.int .u32 0]),4,24):=by kernel_rfl
def OneEnt(e0 e1 e2 e3:Nat)(B0:Nat)(u:Value)(W:World):Prop:=∃ g cp,u = .slice (some ⟨g,0,none⟩) 1 cp∧W.ownsRow B0 86 4 (.slice (some ⟨g,0,none⟩) 1 cp) 1 [.int .u64 (e0:Nat),.int .u64 (e1:Nat),.int .u32 (e2:Nat),.int .u32 (e3:Nat)]
theorem OneEnt.entB{e0 e1 e2 e3 B0:Nat}{u:Value}{W:World}(h:OneEnt e0 e1 e2 e3 B0 u W):EntB W u [(e0,e1,e2,e3)]:=by
 obtain ⟨g,cp,rfl,ho⟩:=h;exact EntB.of_own (l:=[(e0,e1,e2,e3)]) ho (by simp)
theorem OneEnt.below{e0 e1 e2 e3 B0:Nat}{u:Value}{W W':World}(h:OneEnt e0 e1 e2 e3 B0 u W)(hb:Below W.heap.size W W'):OneEnt e0 e1 e2 e3 B0 u W':=by
 obtain ⟨g,cp,rfl,ho⟩:=h;exact ⟨g,cp,rfl,Qad ho (fun k hk=>hb.block k (ho.lt k hk).2)⟩
theorem Qfu(e:Ent)(h:QcF e=0):QeC [e]=0:=by
 unfold QeC;rw [if_neg (by simp)]
 simp [QmM,h]
def JoSt(e0 e1 e2 e3:Nat)(w:World)(k:Nat)(u7:Value)(wr:World):Prop:=Below w.heap.size w wr∧((k=0∧u7 = .slice none 0 0)∨(k=1∧OneEnt e0 e1 e2 e3 w.heap.size u7 wr))
theorem Qh8(e0 e1 e2 e3:Nat)(v:Value)(t:ByteArray)(w:World)(hE:EntB w v [(e0,e1,e2,e3)])(hc:QcF (e0,e1,e2,e3)=0)(hok:Qbl (e0,e1,e2,e3))(h3:0<e3) :
  Calls Tryz.prog 79 #[v,.string t] w fun e w'=>∃ u,e = .returned (.tuple #[u,.int .i64 0])∧OneEnt e0 e1 e2 e3 w.heap.size u w'∧Below w.heap.size w w':=by
 have QA8:∀ e∈[((e0,e1,e2,e3):Ent)],Qbl e:=fun e he=>by rw [List.mem_singleton.1 he];exact hok
 have QAz:=hid (fun (u:Value) W (h:EntB W u [(e0,e1,e2,e3)])=>Qc3 u [(e0,e1,e2,e3)] W h.holds QA8 (by simp))
 rw [Qfu _ hc] at QAz;have HE0:=hid hE;have HP:=hid (fun W=>QgM e0 e1 e2 e3 W h3)
 obtain ⟨b,c,rfl,hlc,-⟩:=hE.at;clear hE QA8 hc hok h3;go_enter Tryz.func79,Tryz.ntmps79;go_wp2_with fail;refine (QAz.out _ _ HE0.out).mono ?_;rintro e w1 ⟨rfl,hb1⟩;have HB1:=hid hb1;clear hb1;go_wp2_with fail;go_loopw [7,20] (fun u7 u20 wr=>Hid (∃ k:Nat,k≤1∧u20 = .int .i64 (k:Nat)∧JoSt e0 e1 e2 e3 w k u7 wr)) (fun _ u20 _=>1-(intOf u20).toNat)
 case atStart=>exact hid ⟨0,by decide,rfl,HB1.out,.inl ⟨rfl,rfl⟩⟩
 case round=>
  obtain ⟨k,hk,rfl,hb,hst⟩:=hrel.out;clear hrel;rcases hst with ⟨rfl,rfl⟩|⟨rfl,QAA⟩
  ·obtain ⟨b',c',he',-,hx'⟩:=(HE0.out.below hb).at
   obtain ⟨x0,x1,x2,x3⟩:=hx' 0 (by simp)
   injection he' with q1 q2 q3
   injection q1 with q1
   injection q1 with q1
   subst q1;have x0:wr.cell? ⟨b,0,none⟩=some (.int .u64 (e0:Nat)):=x0;have x1:wr.cell? ⟨b,1,none⟩=some (.int .u64 (e1:Nat)):=x1;have x2:wr.cell? ⟨b,2,none⟩=some (.int .u32 (e2:Nat)):=x2;have x3:wr.cell? ⟨b,3,none⟩=some (.int .u32 (e3:Nat)):=x3;obtain ⟨Wb,hWb⟩:∃ Wb,wr.alloc (.cells #[.int .u64 (e0:Nat),.int .u64 (e1:Nat),.int .u32 (e2:Nat),.int .u32 (e3:Nat)] 86)=Wb:=⟨_,rfl⟩;obtain ⟨E,hEE⟩:∃ E,wr.heap.size=E:=⟨_,rfl⟩;have kE:Wb.heap[E]?=some (.cells #[.int .u64 (e0:Nat),.int .u64 (e1:Nat),.int .u32 (e2:Nat),.int .u32 (e3:Nat)] 86 (0,0)):=by rw [←hWb,←hEE];exact heap_alloc_new wr _
   have hbB:Below wr.heap.size wr Wb:=by rw [←hWb];exact (Below.refl _ _).alloc (Nat.le_refl _) _
   have HQ:=hid (And.intro (Qaa hb hbB) kE);obtain ⟨⟨y0,y1,y2,y3⟩,-⟩:=QaF kE;clear hb hx' q2 q3 hbB kE;go_wp2_with fail;refine (HP.out _).mono ?_;rintro e w2 ⟨rfl,hb2⟩;have kE2:=(hb2.block _ (gsi HQ.out.2).1).trans HQ.out.2;have hbt:=Qaa HQ.out.1 hb2;obtain ⟨⟨z0,z1,z2,z3⟩,-⟩:=QaF kE2;have HZ:=hid hbt;clear hb2 hbt kE2 y0 y1 y2 y3 x0 x1 x2 x3;go_wp2_with (at_builtin;go_loud (refine Qez 81 86 _ 4 24 Tryz.underlying81 Qjx rfl (by decide) (by decide) w2 [.int .u64 (e0:Nat),.int .u64 (e1:Nat),.int .u32 (e2:Nat),.int .u32 (e3:Nat)] rfl (by simp [Value.oneCell']) (by rfl) _ _ (by rfl) w.heap.size _ 0 _ (by rfl) (World.ownsRow_nil _ _ _ _) (by rfl) (by omega) HZ.out.size ?_);intro g' cap w3 QAt hg1 hd1)
   go_roundw
   case rel=>
    refine hid ⟨1,by decide,by go_num,?_,.inr ⟨rfl,g',cap,rfl,QAt⟩⟩
    exact HZ.out.trans ⟨hg1.os,hg1.tape,hg1.output,hg1.size,fun k hk=>hg1.block k (Nat.lt_of_lt_of_le hk HZ.out.size) (by intro e;cases e)⟩
   case measure=>simp [intOf]
  ·have HF:=hid (And.intro hb QAA)
   obtain ⟨g,cp,rfl,-⟩:=QAA;clear hb;go_wp2_with fail;refine (QAz.out _ _ HF.out.2.entB).mono ?_;rintro e w3 ⟨rfl,hb3⟩;have HR:=hid hb3;clear hb3;go_wp2_with fail;go_ret2;exact ⟨_,rfl,HF.out.2.below HR.out,Qaa HF.out.1 HR.out⟩
end
end Go.Proofs.YtilaebjndadkhaaGreatDoor
