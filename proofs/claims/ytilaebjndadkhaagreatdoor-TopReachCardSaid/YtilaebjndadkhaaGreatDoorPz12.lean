/- What parts of the program compute: packed for TopReach. Conditions: none. -/
import Derived.Test.YtilaebjndadkhaaGreatDoorPz11
set_option linter.all false
set_option maxRecDepth 100000
set_option maxHeartbeats 8000000
open Go.Lib (hid)
namespace Go.Proofs.YtilaebjndadkhaaGreatDoor
section
open Go.RowKit
def QwN(o n:Nat):Value:=.agg #[.int .u64 (o:Nat),.int .u32 (n:Nat)]
def Qp9(o n:Nat)(x:Int):Array MapEntry:=#[{ key:=QwN o n,val:=.int .i64 x,born:=0 }]
theorem Qk1(d:Nat)(w:World)(em:Bool)(x y:Int):(Instr.checkKey em (d+2) 244 (.agg #[.int .u64 x,.int .u32 y])).run Tryz.prog w = .ok () w:=by
 cases em<;>kernel_rfl
theorem QjL(w:World)(em:Bool)(x y:Int):(Instr.checkKey em 10000 244 (.agg #[.int .u64 x,.int .u32 y])).run Tryz.prog w = .ok () w:=by
 rw [show (10000:Nat)=9998+2 from rfl];exact Qk1 9998 w em x y
theorem QqZ(w:World)(key:Value):(Instr.findKey 244 key []).run Tryz.prog w = .ok none w:=by kernel_rfl
theorem QxK(W:World)(M o n:Nat)(h:W.heap[M]?=some (.map #[] 0)):(Instr.mapEntry 242 (.map (some M)) (QwN o n)).run Tryz.prog W = .ok (.tuple #[.int .i64 0,.int .i64 0]) (Qaw W M (.map (Qp9 o n 0) 1)):=by
 have hu:Tryz.prog.underlying 242=some (.map 244 3):=Tryz.underlying242;have hc:=QjL W false (o:Int) (n:Int);have hf:=QqZ W (QwN o n);have hz:=Qfl;unfold QwN at hf ⊢;simp [Instr.mapEntry,run_underlying hu,MapKept.run_getObj_map h,hc,hf,hz,MapKept.run_setObj_map _ h,Result.andThen,Qaw,Qp9,QwN,goInt]
theorem Qyg(W:World)(M o n:Nat)(h:W.heap[M]?=some (.map (Qp9 o n 0) 1))(x:Int):(Instr.entryStore 242 (.map (some M)) (.int .i64 0) (.int .i64 x)).run Tryz.prog W = .ok () (Qaw W M (.map (Qp9 o n x) 1)):=by
 have hm:=MapKept.run_getObj_map (P:=Tryz.prog) h;simp [Instr.entryStore,hm,MapKept.run_setObj_map _ h,Result.andThen,Qaw,Qp9,asInt,asIntOf]
theorem QqX(d:Nat)(x y u v:Int)(w:World):(Op.equalIn (d+2) 244 (.agg #[.int .u64 x,.int .u32 y]) (.agg #[.int .u64 u,.int .u32 v])).run Tryz.prog w = .ok (decide (x=u)&&decide (y=v)) w:=by
 have u4:=Tryz.underlying43;have u5:=Tryz.underlying84;have hS:Tryz.prog.underlying 244=some (.struct (Tryz.prog.fieldsOf 244)):=by kernel_rfl
 have hp:Tryz.prog.stoodInHeld 244=false:=by kernel_rfl
 rw [run_equalIn_agg w (d+1) 244 _ _ hS hp];simp only [Program.fieldsOf,Tryz.underlying244];go_simp
 by_cases h1:x=u
 ·by_cases h2:y=v
  ·simp [h1,h2]
  ·simp [h1,h2]
 ·simp [h1]
theorem Qmw:KeyT Tryz.prog 244 (QeS .u64 .u32):=
 Qlu .u64 .u32 Tryz.underlying244 QjL (fun w a c=>by
  have h:=QqX 9998 (a.1:Int) (a.2:Int) (c.1:Int) (c.2:Int) w;have e:(decide ((a.1:Int)=(c.1:Int))&&decide ((a.2:Int)=(c.2:Int)))=decide (a=c):=by
   rw [Bool.eq_iff_iff,Bool.and_eq_true,decide_eq_true_eq,decide_eq_true_eq,decide_eq_true_eq,Prod.ext_iff];constructor
   ·rintro ⟨h1,h2⟩;exact ⟨by omega,by omega⟩
   ·rintro ⟨h1,h2⟩;exact ⟨by omega,by omega⟩
  rw [e] at h;exact h)
theorem QxJ(W:World)(M o n:Nat)(h:W.heap[M]?=some (.map #[] 0)):(Instr.lookup 242 (.map (some M)) (QwN o n) false).run Tryz.prog W = .ok (.int .i64 0) W:=by
 have hM:MapF (QeS .u64 .u32) (QbZ .i64) W M (fun _=>none) 0:=⟨[],⟨#[],0,h,rfl⟩,List.nodup_nil,rfl,fun _=>rfl⟩
 exact hM.look Qmw Tryz.underlying242 Qfl (o,n) false
theorem QxI(W:World)(M o n:Nat)(c:Nat)(h:W.heap[M]?=some (.map (Qp9 o n 0) c)):(Instr.lookup 242 (.map (some M)) (QwN o n) false).run Tryz.prog W = .ok (.int .i64 0) W:=by
 have hM:MapF (QeS .u64 .u32) (QbZ .i64) W M (QgR [((o,n),0)]) 1:=⟨[((o,n),0)],⟨Qp9 o n 0,c,h,rfl⟩,by simp [Qb0],rfl,fun _=>rfl⟩
 have:=hM.look Qmw Tryz.underlying242 Qfl (o,n) false;have hg:QgR [((o,n),0)] (o,n)=some 0:=by simp [QgR]
 rw [hg] at this;exact this
theorem QsH(W:World)(M:Nat)(x y:Obj)(h:W.heap[M]?=some x):(Qaw W M y).heap[M]?=some y:=by
 have hl:=(gsi h).1;simp [Qaw,hl]
theorem QlF{T:TypeId→Prop}(W:World)(M:Nat)(y:Obj){es:Array MapEntry}{c:Nat}(h:W.heap[M]?=some (.map es c)):KeptC T W (Qaw W M y):=
 ⟨by rw [Qcs];exact Nat.le_refl _,fun k cs t m hk _=>(Qah _ _ _ _ (fun e=>by subst e;rw [h] at hk;cases hk)).trans hk⟩
theorem Qjq{w W:World}{B M:Nat}(h:Below B w W)(y:Obj)(hM:B≤M):Below B w (Qaw W M y):=
 h.trans ⟨rfl,rfl,rfl,by rw [Qcs];exact Nat.le_refl _,fun k hk=>Qah _ _ _ _ (by omega)⟩
def QAp(w W0:World)(M:Nat)(k:Nat)(o n:Nat)(wr:World):Prop:=Below w.heap.size w wr∧KeptC QmH W0 wr∧((k=0∧wr.heap[M]?=some (.map #[] 0))∨(k=1∧wr.heap[M]?=some (.map (Qp9 o n 1) 1)))
theorem Qmp(v:Value)(e0 e1 e2 e3:Nat)(w:World)(hE:EntB w v [(e0,e1,e2,e3)])(hc:QcF (e0,e1,e2,e3)=0)(hok:Qbl (e0,e1,e2,e3))(h3:0<e3) :
  Calls Tryz.prog 75 #[v] w fun e w'=>e = .returned (.int .i64 1)∧Below w.heap.size w w':=by
 have hmk:∀ (t:TypeId) (W:World),(Instr.makeMap t none).run Tryz.prog W = .ok (.map (some W.heap.size)) (W.alloc (.map #[] 0)):=fun _ _=>rfl
 obtain ⟨W0,hW0⟩:∃ W0,w.alloc (.map #[] 0)=W0:=⟨_,rfl⟩;have hb0:Below w.heap.size w W0:=by rw [←hW0];exact (Below.refl _ _).alloc (Nat.le_refl _) _
 have hS0:Hid (QAp w W0 w.heap.size 0 e1 e2 W0):=hid ⟨hb0,KeptC.refl _ _,.inl ⟨rfl,by rw [←hW0];exact heap_alloc_new w _⟩⟩
 have HE0:=hid (hE.kept (KeptC.of_below hb0));obtain ⟨b,c,rfl,hlc,-⟩:=hE.at;clear hE hb0;go_enter Tryz.func75,Tryz.ntmps75;go_wp2_with fail;go_loopw [9] (fun u9 wr=>Hid (∃ k:Nat,k≤1∧u9 = .int .i64 (k:Nat)∧QAp w W0 w.heap.size k e1 e2 wr)) (fun u9 _=>1-(intOf u9).toNat)
 case atStart=>exact hid ⟨0,by decide,rfl,hS0.out⟩
 case round=>
  obtain ⟨k,hk,rfl,hst⟩:=hrel.out;clear hrel;rcases (by omega:k=0∨k=1) with rfl|rfl
  ·obtain ⟨hb,hk0,h1⟩:=hst
   obtain ⟨-,hm⟩:(0=0∧wr.heap[w.heap.size]?=some (.map #[] 0)):=h1.resolve_right (fun h=>by cases h.1)
   obtain ⟨b',c',he',-,hx'⟩:=(HE0.out.kept hk0).at;obtain ⟨x0,x1,x2,x3⟩:=hx' 0 (by simp)
   injection he' with q1 q2 q3
   injection q1 with q1
   injection q1 with q1
   subst q1;have x0:wr.cell? ⟨b,0,none⟩=some (.int .u64 (e0:Nat)):=x0;have x1:wr.cell? ⟨b,1,none⟩=some (.int .u64 (e1:Nat)):=x1;have x2:wr.cell? ⟨b,2,none⟩=some (.int .u32 (e2:Nat)):=x2;have x3:wr.cell? ⟨b,3,none⟩=some (.int .u32 (e3:Nat)):=x3;have HM:=hid (fun W=>Qil e0 e1 e2 e3 true (by rw [hc];rfl) W hok.1 hok.2.1 hok.2.2.1 hok.2.2.2)
   obtain ⟨Wb,hWb⟩:∃ Wb,wr.alloc (.cells #[.int .u64 (e0:Nat),.int .u64 (e1:Nat),.int .u32 (e2:Nat),.int .u32 (e3:Nat)] 86)=Wb:=⟨_,rfl⟩;obtain ⟨E,hEE⟩:∃ E,wr.heap.size=E:=⟨_,rfl⟩;have kE:Wb.heap[E]?=some (.cells #[.int .u64 (e0:Nat),.int .u64 (e1:Nat),.int .u32 (e2:Nat),.int .u32 (e3:Nat)] 86 (0,0)):=by rw [←hWb,←hEE];exact heap_alloc_new wr _
   have hbB:Below wr.heap.size wr Wb:=by rw [←hWb];exact (Below.refl _ _).alloc (Nat.le_refl _) _
   have HQ:=hid (And.intro (Qaa hb hbB) (And.intro (hk0.trans (KeptC.of_below hbB)) (And.intro ((hbB.block _ (gsi hm).1).trans hm) kE)));obtain ⟨⟨y0,y1,y2,y3⟩,-⟩:=QaF kE;have t3:decide ((0:Int)<(e3:Int))=true:=decide_eq_true (by omega)
   clear hb hk0 h1 hm hx' q2 q3 hbB kE;go_wp2_with fail;refine (HM.out _).mono ?_;rintro e w1 ⟨rfl,hb1⟩;obtain ⟨g1,g2,g3,g4⟩:=HQ.out;have hm1:=(hb1.block _ (gsi g3).1).trans g3;have kE1:=(hb1.block _ (gsi g4).1).trans g4;obtain ⟨⟨z0,z1,z2,z3⟩,-⟩:=QaF kE1;have HQ1:=hid (And.intro (Qaa g1 hb1) (And.intro (g2.trans (KeptC.of_below hb1)) (And.intro hm1 kE1)));clear y0 y1 y2 y3 x0 x1 x2 x3 g1 g2 g3 g4 hb1 hm1 kE1;obtain ⟨g1,g2,g3,g4⟩:=HQ1.out;have l0:=QxJ w1.drew w.heap.size e1 e2 g3;have me:=QxK w1.drew w.heap.size e1 e2 g3;have g5:=QsH w1.drew w.heap.size _ (.map (Qp9 e1 e2 0) 1) g3;have l1:=QxI _ w.heap.size e1 e2 1 g5;have es:=Qyg _ w.heap.size e1 e2 g5 1;unfold QwN at l0 me l1;have hF:QAp w W0 w.heap.size 1 e1 e2 (Qaw (Qaw w1.drew w.heap.size (.map (Qp9 e1 e2 0) 1)) w.heap.size (.map (Qp9 e1 e2 1) 1)):=
    ⟨Qjq (Qjq g1.drew _ (Nat.le_refl _)) _ (Nat.le_refl _),((g2.trans (KeptT.drew w1).toKeptC).trans (QlF w1.drew _ _ g3)).trans (QlF _ _ _ g5),.inr ⟨rfl,QsH _ _ _ _ g5⟩⟩
   have HFin:=hid hF;clear g1 g2 g3 g4 g5 hF;go_upto_region 6 with fail
   go_region
   all_goals
    go_wp2_with fail;refine ⟨hid ⟨1,by decide,by go_num,HFin.out⟩,?_⟩
    simp [intOf]
  ·have hm:wr.heap[w.heap.size]?=some (.map (Qp9 e1 e2 1) 1):=by
    rcases hst.2.2 with ⟨h,-⟩|⟨-,h⟩
    ·cases h
    ·exact h
   have HB:=hid hst.1;have hlen:(Builtin.len_ #[242] 3 #[.map (some w.heap.size)]).run Tryz.prog wr = .ok (.int .i64 1) wr:=by
    have hu:Tryz.prog.underlying 242=some (.map 244 3):=Tryz.underlying242;simp [Builtin.len_,Builtin.lenOf,run_underlying hu,MapKept.run_getObj_map hm,Result.andThen,Qp9,goInt]
   clear hst;go_wp2_with fail;go_ret;exact ⟨rfl,HB.out⟩
end
section
open Go.RowKit
theorem set7{B:Nat}{w W:World}{b b6:Nat}{cs cs' C6:Array Value}{T T6:TypeId}(k:W.heap[b]?=some (.cells cs T (0,0)))(k6:W.heap[b6]?=some (.cells C6 T6 (0,0)))(hn:b6≠b)(hb:Below B w W)(hB:B≤b)(v0 v1 v2 v3 v4 v5 v6:Value)(hc:(((((((cs.set! 15 v0).set! 16 v1).set! 21 v2).set! 17 v3).set! 19 v4).set! 18 v5).set! 20 v6)=cs') :
  (((((((W.setCell ⟨b,15,none⟩ v0).setCell ⟨b,16,none⟩ v1).setCell ⟨b,21,none⟩ v2).setCell ⟨b,17,none⟩ v3).setCell ⟨b,19,none⟩ v4).setCell ⟨b,18,none⟩ v5).setCell ⟨b,20,none⟩ v6).heap[b]?=some (.cells cs' T (0,0))∧(((((((W.setCell ⟨b,15,none⟩ v0).setCell ⟨b,16,none⟩ v1).setCell ⟨b,21,none⟩ v2).setCell ⟨b,17,none⟩ v3).setCell ⟨b,19,none⟩ v4).setCell ⟨b,18,none⟩ v5).setCell ⟨b,20,none⟩ v6).heap[b6]?=some (.cells C6 T6 (0,0))∧Below B w (((((((W.setCell ⟨b,15,none⟩ v0).setCell ⟨b,16,none⟩ v1).setCell ⟨b,21,none⟩ v2).setCell ⟨b,17,none⟩ v3).setCell ⟨b,19,none⟩ v4).setCell ⟨b,18,none⟩ v5).setCell ⟨b,20,none⟩ v6):=by
 subst hc;exact ⟨(Qat (Qat (Qat (Qat (Qat (Qat (Qat k 15 v0) 16 v1) 21 v2) 17 v3) 19 v4) 18 v5) 20 v6),((Qak hn 20 v6).trans ((Qak hn 18 v5).trans ((Qak hn 19 v4).trans ((Qak hn 17 v3).trans ((Qak hn 21 v2).trans ((Qak hn 16 v1).trans ((Qak hn 15 v0).trans k6))))))),(Below.setCell (p:=⟨b,20,none⟩) (Below.setCell (p:=⟨b,18,none⟩) (Below.setCell (p:=⟨b,19,none⟩) (Below.setCell (p:=⟨b,17,none⟩) (Below.setCell (p:=⟨b,21,none⟩) (Below.setCell (p:=⟨b,16,none⟩) (Below.setCell (p:=⟨b,15,none⟩) hb hB v0) hB v1) hB v2) hB v3) hB v4) hB v5) hB v6)⟩
def Qxt(z:Nat):Array Value:=#[.int .u64 0,.int .u64 0,.int .u64 0,.int .u64 0,.int .u64 0,.int .u64 0,.int .u64 0,.int .u64 0,.int .u64 1,.int .u64 1,.int .u64 1,.bool true,.int .u8 1,.int .u8 1,.int .u8 0,.int .i64 (z:Nat),.int .i64 (z:Nat),.int .i64 (-1800000000),.int .i64 (-850511287),.int .i64 1800000000,.int .i64 850511287,.int .i64 (z:Nat),.int .i64 0,.int .i64 0]
theorem QiU(g c i:Nat)(v:Value)(e0 e1 e2 e3:Nat)(w:World)(hi:i<6004799503160661)(hg:g<w.heap.size)(hc0:w.cell? ⟨g,0,none⟩=some (.int .u64 (i:Nat)))(hE:EntB w v [(e0,e1,e2,e3)])(hc:QcF (e0,e1,e2,e3)=0)(hok:Qbl (e0,e1,e2,e3))(h3:0<e3) :
  Calls Tryz.prog 39 #[.agg #[.slice (some ⟨g,0,none⟩) 1 c],v,.int .u8 0] w fun e w'=>e = .returned (.agg (Qxt (Qhp i)))∧Below w.heap.size w w':=by
 obtain ⟨W,hW⟩:∃ W,(w.alloc (.cells #[.slice (some ⟨g,0,none⟩) 1 c] 50)).alloc (.cells #[.int .u64 0,.int .u64 0,.int .u64 0,.int .u64 0,.int .u64 0,.int .u64 0,.int .u64 0,.int .u64 0,.int .u64 0,.int .u64 0,.int .u64 0,.bool false,.int .u8 0,.int .u8 0,.int .u8 0,.int .i64 0,.int .i64 0,.int .i64 0,.int .i64 0,.int .i64 0,.int .i64 0,.int .i64 0,.int .i64 0,.int .i64 0] 78)=W:=⟨_,rfl⟩;have hB:Below w.heap.size w W:=by rw [←hW];exact ((Below.refl _ _).alloc (Nat.le_refl _) _).alloc (by simp) _
 have k3:W.heap[w.heap.size]?=some (.cells #[.slice (some ⟨g,0,none⟩) 1 c] 50 (0,0)):=by
  rw [←hW];exact (Below.heap_alloc _ _ _ (by rw [World.size_alloc];omega)).trans (heap_alloc_new w _)
 have k6:W.heap[w.heap.size+1]?=some (.cells #[.int .u64 0,.int .u64 0,.int .u64 0,.int .u64 0,.int .u64 0,.int .u64 0,.int .u64 0,.int .u64 0,.int .u64 0,.int .u64 0,.int .u64 0,.bool false,.int .u8 0,.int .u8 0,.int .u8 0,.int .i64 0,.int .i64 0,.int .i64 0,.int .i64 0,.int .i64 0,.int .i64 0,.int .i64 0,.int .i64 0,.int .i64 0] 78 (0,0)):=by
  have:=heap_alloc_new (w.alloc (.cells #[.slice (some ⟨g,0,none⟩) 1 c] 50)) (.cells #[.int .u64 0,.int .u64 0,.int .u64 0,.int .u64 0,.int .u64 0,.int .u64 0,.int .u64 0,.int .u64 0,.int .u64 0,.int .u64 0,.int .u64 0,.bool false,.int .u8 0,.int .u8 0,.int .u8 0,.int .i64 0,.int .i64 0,.int .i64 0,.int .i64 0,.int .i64 0,.int .i64 0,.int .i64 0,.int .i64 0,.int .i64 0] 78);rw [World.size_alloc] at this;rw [←hW];exact this
 have HLen:=hid (fun W=>QtU (some ⟨g,0,none⟩) 1 c W)
 have HCo:=hid (fun W (h:EntB W v [(e0,e1,e2,e3)])=>Qmp v e0 e1 e2 e3 W h hc hok h3)
 have HZo:=hid (fun W (hb:Below w.heap.size w W)=>Qiy g c i ⟨#[]⟩ hi W (Nat.lt_of_lt_of_le hg hb.size) ((hb.cell (p:=⟨g,0,none⟩) hg).trans hc0))
 have HEB:=hid (fun W (hb:Below w.heap.size w W)=>hE.kept (KeptC.of_below hb))
 obtain ⟨b,cl,rfl,-,-⟩:=hE.at;obtain ⟨z,hz⟩:∃ z,Qhp i=z:=⟨_,rfl⟩;rw [hz] at HZo ⊢;obtain ⟨c3,-⟩:=Qb5 k3;have HK:=hid (And.intro hB (And.intro k3 k6));clear hB k3 k6 hE hc0 hc hok hi hz hg;go_enter Tryz.func39,Tryz.ntmps39;go_wp2_with fail;refine (HLen.out _).mono ?_;rintro e w1 ⟨rfl,hb1⟩;have QBa:=HK.out.1.trans (hb1.mono HK.out.1.size);have HB1:=hid (And.intro QBa hb1);clear hb1 QBa;go_wp2_with fail;refine (HCo.out _ (HEB.out _ HB1.out.1)).mono ?_;rintro e w2 ⟨rfl,hb2⟩;have QAW:=HB1.out.1.trans (hb2.mono HB1.out.1.size);have q3:=(hb2.block _ (by have:=HB1.out.2.size;have:=(gsi HK.out.2.1).1;omega)).trans ((HB1.out.2.block _ (gsi HK.out.2.1).1).trans HK.out.2.1)
 have q6:=(hb2.block _ (by have:=HB1.out.2.size;have:=(gsi HK.out.2.2).1;omega)).trans ((HB1.out.2.block _ (gsi HK.out.2.2).1).trans HK.out.2.2)
 obtain ⟨W6,hW6⟩:∃ W6,w2.alloc (.cells #[.int .u64 0,.int .u64 0,.int .u64 0,.int .u64 0,.int .u64 0,.int .u64 0,.int .u64 0,.int .u64 0,.int .u64 0,.int .u64 0,.int .u64 0,.bool false,.int .u8 0,.int .u8 0,.int .u8 0,.int .i64 0,.int .i64 0,.int .i64 0,.int .i64 0,.int .i64 0,.int .i64 0,.int .i64 0,.int .i64 0,.int .i64 0] 78)=W6:=⟨_,rfl⟩;obtain ⟨b7,hb7⟩:∃ b7,w2.heap.size=b7:=⟨_,rfl⟩;have hb6:Below w2.heap.size w2 W6:=by rw [←hW6];exact (Below.refl _ _).alloc (Nat.le_refl _) _
 have kz:W6.heap[b7]?=some (.cells #[.int .u64 0,.int .u64 0,.int .u64 0,.int .u64 0,.int .u64 0,.int .u64 0,.int .u64 0,.int .u64 0,.int .u64 0,.int .u64 0,.int .u64 0,.bool false,.int .u8 0,.int .u8 0,.int .u8 0,.int .i64 0,.int .i64 0,.int .i64 0,.int .i64 0,.int .i64 0,.int .i64 0,.int .i64 0,.int .i64 0,.int .i64 0] 78 (0,0)):=by rw [←hW6,←hb7];exact heap_alloc_new w2 _
 have HZ6:=hid kz;have l6:w.heap.size+1<b7:=by rw [←hb7];exact (gsi q6).1
 have k7:=setRow_heap W6 b7 #[.int .u64 0,.int .u64 0,.int .u64 0,.int .u64 0,.int .u64 0,.int .u64 0,.int .u64 0,.int .u64 0,.int .u64 0,.int .u64 0,.int .u64 0,.bool false,.int .u8 0,.int .u8 0,.int .u8 0,.int .i64 0,.int .i64 0,.int .i64 0,.int .i64 0,.int .i64 0,.int .i64 0,.int .i64 0,.int .i64 0,.int .i64 0] #[.int .u64 0,.int .u64 0,.int .u64 0,.int .u64 0,.int .u64 0,.int .u64 0,.int .u64 0,.int .u64 0,.int .u64 1,.int .u64 1,.int .u64 1,.bool true,.int .u8 1,.int .u8 1,.int .u8 0,.int .i64 0,.int .i64 0,.int .i64 0,.int .i64 0,.int .i64 0,.int .i64 0,.int .i64 0,.int .i64 0,.int .i64 0] 78 (0,0) kz;have hbB:Below w2.heap.size w2 (W6.setRow b7 #[.int .u64 0,.int .u64 0,.int .u64 0,.int .u64 0,.int .u64 0,.int .u64 0,.int .u64 0,.int .u64 0,.int .u64 1,.int .u64 1,.int .u64 1,.bool true,.int .u8 1,.int .u8 1,.int .u8 0,.int .i64 0,.int .i64 0,.int .i64 0,.int .i64 0,.int .i64 0,.int .i64 0,.int .i64 0,.int .i64 0,.int .i64 0]):=Qba hb6 (by omega) _
 have k37:=(hbB.block _ (gsi q3).1).trans q3;have k67:=(hbB.block _ (gsi q6).1).trans q6;obtain ⟨c37,-⟩:=Qb5 k37;have HK7:=hid (And.intro (QAW.trans (hbB.mono QAW.size)) (And.intro k7 (And.intro k67 l6)));clear QAW q3 q6 hbB k7 l6 k37 k67 c3 hb2 hb6 kz;go_wp2_with (refine wpList_store_row rfl 78 (.tmp 7) (.tmp 18) rfl b7 #[.int .u64 0,.int .u64 0,.int .u64 0,.int .u64 0,.int .u64 0,.int .u64 0,.int .u64 0,.int .u64 0,.int .u64 1,.int .u64 1,.int .u64 1,.bool true,.int .u8 1,.int .u8 1,.int .u8 0,.int .i64 0,.int .i64 0,.int .i64 0,.int .i64 0,.int .i64 0,.int .i64 0,.int .i64 0,.int .i64 0,.int .i64 0] rfl rfl 78 #[.int .u64 0,.int .u64 0,.int .u64 0,.int .u64 0,.int .u64 0,.int .u64 0,.int .u64 0,.int .u64 0,.int .u64 0,.int .u64 0,.int .u64 0,.bool false,.int .u8 0,.int .u8 0,.int .u8 0,.int .i64 0,.int .i64 0,.int .i64 0,.int .i64 0,.int .i64 0,.int .i64 0,.int .i64 0,.int .i64 0,.int .i64 0] HZ6.out (by kernel_rfl) rfl (by simp [Value.oneCell']) ?_)
 refine (HZo.out _ HK7.out.1).mono ?_;rintro e w3 ⟨rfl,hb3⟩;obtain ⟨p1,p2,p3,p4⟩:=HK7.out;have k7:=(hb3.block _ (gsi p2).1).trans p2;have k6:=(hb3.block _ (gsi p3).1).trans p3;have HF:=hid (set7 (cs':=Qxt z) k7 k6 (by omega) (p1.trans (hb3.mono p1.size)) (by omega) (.int .i64 (z:Nat)) (.int .i64 (z:Nat)) (.int .i64 (z:Nat)) (.int .i64 (-1800000000)) (.int .i64 1800000000) (.int .i64 (-850511287)) (.int .i64 850511287) (by kernel_rfl))
 obtain ⟨y15,f15⟩:=Qao k7 15 (.int .i64 0) rfl;obtain ⟨y16,f16⟩:=Qao k7 16 (.int .i64 0) rfl;obtain ⟨y21,f21⟩:=Qao k7 21 (.int .i64 0) rfl;obtain ⟨y17,f17⟩:=Qao k7 17 (.int .i64 0) rfl;obtain ⟨y19,f19⟩:=Qao k7 19 (.int .i64 0) rfl;obtain ⟨y18,f18⟩:=Qao k7 18 (.int .i64 0) rfl;obtain ⟨y20,f20⟩:=Qao k7 20 (.int .i64 0) rfl;clear p1 p2 p3 p4 k7 k6 hb3 c37;go_upto_region 5 with fail
 have QAA:(Qxt z).all (·.oneCell')=true:=by kernel_rfl
 go_wp2_with (first|(refine wpList_load_row rfl 78 (.tmp 7) rfl b7 rfl 78 (Qxt z) (0,0) _ HF.out.1 Tryz.underlying78 rfl (by kernel_rfl) ?_)|(refine wpList_store_row rfl 78 (.tmp 6) (.tmp 34) rfl (w.heap.size+1) (Qxt z) rfl rfl 78 #[.int .u64 0,.int .u64 0,.int .u64 0,.int .u64 0,.int .u64 0,.int .u64 0,.int .u64 0,.int .u64 0,.int .u64 0,.int .u64 0,.int .u64 0,.bool false,.int .u8 0,.int .u8 0,.int .u8 0,.int .i64 0,.int .i64 0,.int .i64 0,.int .i64 0,.int .i64 0,.int .i64 0,.int .i64 0,.int .i64 0,.int .i64 0] HF.out.2.1 (by kernel_rfl) rfl QAA ?_))
 refine Qeb (A:=⟨w.heap.size+1,0,none⟩) rfl (QbO (setRow_heap _ _ _ _ _ _ HF.out.2.1) rfl) rfl rfl ?_;exact ⟨rfl,Qba HF.out.2.2 (by omega) _⟩
end
section
open Go.RowKit Go.Shelf
attribute [local go_sem] Oper.semAt_some
def TCh(t:TypeId):Prop:=t=54∨t=50
def ItG(i:Nat)(t:ByteArray)(pre:List (Nat×ByteArray))(x:Nat×ByteArray):Prop:=pre = []∧x=(i,t)
def ItSt(i:Nat)(t:ByteArray)(J:List (Nat×ByteArray)→World→Prop)(W:World)(k:Nat)(wr:World):Prop:=J (if k=0 then [] else [(i,t)]) wr∧KeptC TCh W wr
theorem QqP(i:Nat)(t:ByteArray)(g c Bl:Nat)(m m2:Nat×Nat)(cs:Array Value)(w:World)(hb:w.heap[Bl]?=some (.cells #[.slice (some ⟨g,0,none⟩) 1 c] 50 m))(hg:w.heap[g]?=some (.cells cs 54 m2))(h0:cs[0]?=some (.int .u64 (i:Nat)))(h1:cs[1]?=some (.string t)) :
  QAn Fence.wide 3 Tryz.prog 113 #[.pointer (some ⟨Bl,0,none⟩)] (fun x:Nat×ByteArray=>#[Value.int .u64 (x.1:Nat),.string x.2]) TCh (ItG i t) (fun xs=>xs = [(i,t)]) w:=fun lp J W hW hJ hY hj0=>by
 have hK0:KeptC TCh w W:=KeptC.of_below hW;have hb0:=hK0.cl Bl _ _ m hb (.inr rfl);have hg0:=hK0.cl g _ _ m2 hg (.inl rfl);have HS0:Hid (ItSt i t J W 0 W):=hid ⟨hj0,KeptC.refl _ _⟩;have HGB:=hid hg0;have HJ:=hid hJ;have HY:=hid hY;have c0:W.cell? ⟨Bl,0,none⟩=some (.slice (some ⟨g,0,none⟩) 1 c):=(QaY hb0 0).trans rfl;have HC:=hid (And.intro h0 h1);clear hb hg hW hK0 hj0 hJ hY hb0 hg0 h0 h1;refine callsIn_of_wp Tryz.func113 rfl trivial ?_ rfl;simp only [Tryz.ntmps113,List.size_toArray,List.length_cons,List.length_nil,Nat.reduceAdd,Nat.reduceSub,Array.replicate_succ,Array.replicate_zero,List.push_toArray,List.append_toArray,List.nil_append,List.cons_append];gi_wp2;gi_loopw [8] (fun u8 wr=>Hid (∃ k:Nat,k≤1∧u8 = .int .i64 (k:Nat)∧ItSt i t J W k wr)) (fun u8 _=>1-(intOf u8).toNat)
 case atStart=>exact hid ⟨0,by decide,rfl,HS0.out⟩
 case round=>
  obtain ⟨k,hk,rfl,hst⟩:=hrel.out;clear hrel c0;rcases (by omega:k=0∨k=1) with rfl|rfl
  ·have kg:=hst.2.cl g _ _ m2 HGB.out (.inl rfl)
   have x0:wr.cell? ⟨g,0,none⟩=some (.int .u64 (i:Nat)):=(QaY kg 0).trans HC.out.1;have x1:wr.cell? ⟨g,1,none⟩=some (.string t):=(QaY kg 1).trans HC.out.2;obtain ⟨Wb,hWb⟩:∃ Wb,wr.alloc (.cells #[.int .u64 (i:Nat),.string t] 54)=Wb:=⟨_,rfl⟩;obtain ⟨E,hEE⟩:∃ E,wr.heap.size=E:=⟨_,rfl⟩;have kE:Wb.heap[E]?=some (.cells #[.int .u64 (i:Nat),.string t] 54 (0,0)):=by rw [←hWb,←hEE];exact heap_alloc_new wr _
   have hjb:=HJ.out.alloc (.cells #[.int .u64 (i:Nat),.string t] 54) hst.1;rw [hWb] at hjb;have hkb:KeptC TCh W Wb:=by rw [←hWb];exact hst.2.trans (KeptT.alloc _ _).toKeptC
   obtain ⟨⟨y0,y1⟩,-⟩:=Qam kE;obtain ⟨fn,tmps,assign,QcK,hy,hR⟩:=HY.out [] (i,t) Wb hjb ⟨rfl,rfl⟩;have HK:=hid hkb;dsimp only at hy;clear hst kg kE hjb hkb;gi_wp2;refine hR.mono ?_;rintro e w3 ⟨rfl,hj3,hk3⟩;have HF:=hid (And.intro hj3 (HK.out.trans hk3));clear hy hR hj3 hk3 y0 y1 x0 x1;gi_wp2;refine ⟨hid ⟨1,by decide,by go_num,HF.out.1,HF.out.2⟩,?_⟩
   simp [intOf]
  ·have HF:=hid hst.1
   clear hst;gi_wp2;go_end0;exact ⟨⟨_,rfl⟩,_,rfl,HF.out⟩
end
section
open Go.RowKit Go.Maps PoolPlain
theorem QtO(s:ByteArray)(w:World)(QBU:s.size≤281474976710656):Calls Tryz.prog 116 #[.string s] w fun e w'=>e = .returned (.string s)∧Below w.heap.size w w':=by
 go_enter Tryz.func116,Tryz.ntmps116;go_wp2_with fail;refine (Tryz.stringslite_Clone s w QBU).mono ?_;rintro e w1 ⟨rfl,hb1⟩;go_wp2_with fail;go_ret;exact ⟨rfl,hb1⟩
theorem Qsb(p:Nat)(l:List (List UInt8))(S:Nat→Prop)(w:World)(hP:PoolAt w p l S) :
  Calls Tryz.prog 61 #[.pointer (some ⟨p,0,none⟩)] w fun e w'=>e = .returned (.string (bs l.flatten))∧Below w.heap.size w w':=by
 have hfl:=Qku l hP.1;obtain ⟨-,-,-,tv,pv,mv,hb,ht,-,-,-,-⟩:=hP;obtain ⟨c0,-,-,-,-,-⟩:=QfW hb;generalize l.flatten=t at *;have hcv:(convert 157 9 tv).run Tryz.prog w = .ok (.string (bs t)) w:=by
  rcases Nat.eq_zero_or_pos t.length with h0|h0
  ·have:t = []:=List.length_eq_zero_iff.1 h0
   subst this;rcases ht.2 with ⟨rfl,-⟩|⟨g,cap,cur,rfl,-⟩
   ·exact run_convert_bytes_nil w 157 5 Tryz.underlying157 Tryz.underlying5 0 0 9 Tryz.underlying9
   ·exact run_convert_bytes_back w 157 9 5 ⟨g,0,none⟩ cap [] Tryz.underlying157 Tryz.underlying5 Tryz.underlying9 (fun j hj=>absurd hj (Nat.not_lt_zero _))
  ·obtain ⟨g,cap,rfl,-,-,-,-,hc⟩:=Qj0 ht h0
   exact run_convert_bytes_back w 157 9 5 ⟨g,0,none⟩ cap t Tryz.underlying157 Tryz.underlying5 Tryz.underlying9 (fun j hj=>by rw [Qf2,Nat.zero_add];exact hc j hj)
 have HC:=hid (QtO (bs t) w (by rw [QaC];omega))
 clear hb ht;go_enter Tryz.func61,Tryz.ntmps61;go_wp2_with fail;refine HC.out.mono ?_;rintro e w1 ⟨rfl,hb1⟩;go_wp2_with fail;go_ret;exact ⟨rfl,hb1⟩
end
section
open Go.RowKit Go.Maps PoolPlain
def Qi8(t:TypeId):Prop:=t=217∨t=5∨t=148∨t=3
def PTag(W:World)(g:Nat):Prop:=(∃ cs t m,W.heap[g]?=some (.cells cs t m)∧Qi8 t)∨∃ es c,W.heap[g]?=some (.map es c)
theorem PTag.own{W:World}{n₀ k n:Nat}{e:TypeId}{v:Value}{xs:List Value}(h:W.ownsRow n₀ e k v n xs)(he:Qi8 e)(g:Nat)(hg:v.ownBlock=some g):PTag W g:=by
 obtain ⟨cur,hc⟩:=QbJ h g hg;exact .inl ⟨cur,e,_,hc,he⟩
theorem PoolAt.tags{w:World}{p:Nat}{l:List (List UInt8)}{S:Nat→Prop}(h:PoolAt w p l S):PoolAt w p l (fun g=>S g∧PTag w g):=by
 obtain ⟨h1,h2,h3,tv,pv,mv,hb,ht,hts,hp,hps,hm⟩:=h;refine ⟨h1,fun g hg=>h2 g hg.1,⟨h3,.inl ⟨_,_,_,hb,.inl rfl⟩⟩,tv,pv,mv,hb,ht,fun g hg=>⟨hts g hg,PTag.own ht (.inr (.inl rfl)) g hg⟩,hp,fun g hg=>⟨hps g hg,PTag.own hp (.inr (.inr (.inl rfl))) g hg⟩,?_⟩
 rcases hm with h|⟨b,D,rfl,hS,ho,hsh,hG⟩
 ·exact .inl h
 ·have ho':=ho
  obtain ⟨es,clock,hbk,F,hsz,hD,hbb,hlen,hap⟩:=ho;refine .inr ⟨b,D,rfl,⟨hS,.inr ⟨_,_,hbk⟩⟩,ho',fun es2 c2 h2 x hx g hg hn=>hn ⟨Classical.not_not.1 (hsh es2 c2 h2 x hx g hg),?_⟩,hG⟩
  obtain ⟨rfl,rfl⟩:es=es2∧clock=c2:=by rw [hbk] at h2;simpa using h2
  obtain ⟨y,hy⟩:=F.reads x hx;obtain ⟨z,hz,_⟩:=Go.WideElems.rd_val hy;obtain ⟨zs0,ho0,_⟩:=rowElem_inv hz;exact PTag.own ho0.1 (.inr (.inr (.inr rfl))) g hg
def PoolT(n0:Nat)(W:World)(p:Nat)(l:List (List UInt8)):Prop:=∃ S,PoolAt W p l S∧(∀ g,S g→PTag W g∧n0≤g)
theorem PoolT.of_at{n0:Nat}{W:World}{p:Nat}{l:List (List UInt8)}{S:Nat→Prop}(h:PoolAt W p l S)(hn:∀ g,S g→n0≤g):PoolT n0 W p l:=
 ⟨_,h.tags,fun g hg=>⟨hg.2,hn g hg.1⟩⟩
theorem PoolT.rows{T:TypeId→Prop}{n0 B:Nat}{W W':World}{row:Option Nat}{p:Nat}{l:List (List UInt8)}(h:PoolT n0 W p l)(hT:∀ t,Qi8 t→¬T t)(hg:W.grownBy W' row)(hr:∀ r,row=some r→QyJ T B W r):PoolT n0 W' p l:=by
 obtain ⟨S,h,ht⟩:=h;have key:∀ g,S g→W'.heap[g]?=W.heap[g]?:=fun g hs=>hg.block g (h.2.1 g hs) (fun e=>by
  rcases hr g e.symm with ⟨-,cs,t,m,h1,h2⟩|⟨-,o,h1,h2⟩
  ·rcases (ht g hs).1 with ⟨cs',t',m',h3,h4⟩|⟨es,c,h3⟩
   ·rw [h1] at h3
    injection h3 with h3
    injection h3 with _ h3 _
    subst h3;exact hT _ h4 h2
   ·rw [h1] at h3;cases h3
  ·rcases (ht g hs).1 with ⟨cs',t',m',h3,h4⟩|⟨es,c,h3⟩
   ·rw [h1] at h3
    obtain rfl:=Option.some.inj h3;have:=h2.1;cases this
   ·rw [h1] at h3
    exact h2.2 _ _ (Option.some.inj h3))
 refine ⟨S,h.keep hg.size key,fun g hs=>⟨?_,(ht g hs).2⟩⟩
 rcases (ht g hs).1 with ⟨cs',t',m',h3,h4⟩|⟨es,c,h3⟩
 ·exact .inl ⟨cs',t',m',(key g hs).trans h3,h4⟩
 ·exact .inr ⟨es,c,(key g hs).trans h3⟩
theorem Qqt{T:TypeId→Prop}{S:Nat→Prop}{W W':World}(h:Touch S W W')(hS:∀ g,S g→PTag W g)(hT:∀ t,Qi8 t→¬T t):KeptT T W W':=by
 refine ⟨⟨h.size,fun k cs t m hk ht=>(h.block k (gsi hk).1 (fun hs=>?_)).trans hk⟩,fun k o hk ho=>(h.block k (gsi hk).1 (fun hs=>?_)).trans hk⟩
 ·rcases hS k hs with ⟨cs',t',m',h3,h4⟩|⟨es,c,h3⟩
  ·rw [hk] at h3
   injection h3 with h3
   injection h3 with _ h3 _
   subst h3;exact hT _ h4 ht
  ·rw [hk] at h3;cases h3
 ·rcases hS k hs with ⟨cs',t',m',h3,h4⟩|⟨es,c,h3⟩
  ·rw [hk] at h3
   obtain rfl:=Option.some.inj h3;have:=ho.1;cases this
  ·rw [hk] at h3
   exact ho.2 _ _ (Option.some.inj h3)
theorem Qiz{S:Nat→Prop}{W W':World}(h:Touch S W W')(hS:∀ g,S g→PTag W g){k:Nat}{cs:Array Value}{t:TypeId}{m:Nat×Nat}(hk:W.heap[k]?=some (.cells cs t m))(ht:¬Qi8 t):W'.heap[k]?=some (.cells cs t m):=
 (h.block k (gsi hk).1 (fun hs=>by
  rcases hS k hs with ⟨cs',t',m',h3,h4⟩|⟨es,c,h3⟩
  ·rw [hk] at h3
   injection h3 with h3
   injection h3 with _ h3 _
   subst h3;exact ht h4
  ·rw [hk] at h3;cases h3)).trans hk
end
section
open Go.RowKit
def Qkw(o:Oper):Bool:=match o.op with
 | .defer _=>false
 |_=>true
theorem QgL{o:Oper}(h:Qkw o=true)(c:Call):o.op≠.defer c:=by
 intro e;unfold Qkw at h;rw [e] at h;cases h
theorem Qsv{F:Fence}{n:Nat}{P:Program}{ops:Array Oper}{Q:Exit→Act→World→Prop}(hno:∀ (i:Nat) (o:Oper),ops[i]?=some o→Qkw o=true)(r:Nat)(l:List Nat) :
  ∀ (a:Act) (w:World),wpOpsIn F n P ops Q l a w→wpOpsIn (F.inRound r) n P ops Q l a w:=by
 induction l with
 |nil=>intro a w h;exact h
 |cons i rest ih=>
  intro a w h;unfold wpOpsIn at h ⊢;cases ho:ops[i]? with
  |none=>
   simp only [ho] at h ⊢;exact ih _ _ h
  |some o=>
   simp only [ho] at h ⊢
   by_cases hw:Region.wanted o (yielded ops a.tmps)=true
   ·rw [if_pos hw] at h ⊢
    obtain ⟨h1,h2⟩:=Oper.wpIn_mono (K':=wpOpsIn (F.inRound r) n P ops Q rest) ih h;rw [Oper.semAt_eq _ _ _ (QgL (hno i o ho))] at h2;refine ⟨h1,?_⟩;rw [Oper.semAt_eq _ _ _ (QgL (hno i o ho))];exact h2
   ·rw [if_neg hw] at h ⊢
    exact ⟨h.1,ih _ _ h.2⟩
theorem Qfx{F:Fence}{n:Nat}{P:Program}{id r:Nat}{Q:Exit→Act→World→Prop}{a:Act}{w:World}{l:List Oper}(hro:F.round=none)(hm:P.follows .mixedOrders=true)(hB:Region.lexB .any l.toArray=true)(hno:l.all Qkw=true)
  (h:wpQuietIn F n P l.toArray (fun w'=>∃ n,w'=w.drewN n) (fun a'=>∀ w',(∃ n,w'=w.drewN n)→Q .normal a' w') l a):(Code.region id l.toArray true).wpIn (F.inRound r) n P Q a w:=by
 refine wpIn_region_draw fun t=>?_
 simp only [Region.schedule,hm,Bool.true_or,if_true];refine Qsv (fun i o hi=>?_) r _ _ _ ?_
 ·rw [List.getElem?_toArray] at hi
  exact List.all_eq_true.1 hno o (List.mem_of_getElem? hi)
 ·refine wpAnyIn_sound _ t _ a _ ?_
  simp only [Region.lexB,Bool.and_eq_true] at hB;refine wpAnyIn_of_quiet (C:=fun w'=>∃ n,w'=w.drewN n) (Q:=fun a'=>∀ w',(∃ n,w'=w.drewN n)→Q .normal a' w') hro (fun _ w' hw' h=>h w' hw') _ _ _ _ ⟨1,rfl⟩ ?_
  have:=wpAnyQIn_lex (F:=F) (n:=n) (C:=fun w'=>∃ n,w'=w.drewN n) (md:=.any) hB.1 l 0 (Array.replicate l.toArray.size false) a (by simp) (by simpa using hB.2) h
  simpa using this
theorem QhO{F:Fence}{n:Nat}{P:Program}{id:Nat}{Q:Exit→Act→World→Prop}{a:Act}{w:World}{l:List Oper}(hro:F.round=none)(hm:P.follows .mixedOrders=true)(hB:Region.lexB .any l.toArray=true)
  (h:wpQuietIn F n P l.toArray (fun w'=>∃ p:BelowOf w,w'=p.world) (fun a'=>∀ w',(∃ p:BelowOf w,w'=p.world)→Q .normal a' w') l a):(Code.region id l.toArray true).wpIn F n P Q a w:=
 wpIn_region_quiet (C:=fun w'=>∃ p:BelowOf w,w'=p.world) hro hm hB ⟨⟨{ w with drawn:=w.drawn+1 },(Below.refl _ w).drew⟩,rfl⟩ (by simpa using h)
end
section
open Go.RowKit Go.Shelf PoolPlain
attribute [local go_sem] Oper.semAt_some
theorem QqY(a:Option Addr)(n c:Nat)(w:World):Calls Tryz.prog 59 #[.agg #[.slice a n c]] w fun e w'=>e = .returned (.func (.func 113) #[] #[.pointer (some ⟨w.heap.size,0,none⟩)])∧w'=w.alloc (.cells #[.slice a n c] 50):=by
 have hmf:∀ (fn:Fn) (first cap:Array Value) (w:World),(Instr.makeFunc fn first cap).run Tryz.prog w = .ok (.func fn first cap) w:=fun _ _ _ _=>rfl
 go_enter Tryz.func59,Tryz.ntmps59;go_wp2_with fail;go_ret;exact ⟨rfl,rfl⟩
theorem QuU(t:TypeId)(h:Qi8 t):¬TCh t:=by
 unfold TCh;rcases h with rfl|rfl|rfl|rfl<;>decide
theorem Qob:¬TCh 81:=by unfold TCh;decide
theorem QwL:¬TCh 86:=by unfold TCh;decide
theorem Qyq:¬TCh 142:=by unfold TCh;decide
theorem Qsh:¬Qi8 81:=by unfold Qi8;decide
theorem Qxm:¬Qi8 142:=by unfold Qi8;decide
def RwI(i:Nat)(t:ByteArray)(n0 P Bp Bo:Nat)(w:World)(pre:List (Nat×ByteArray))(W:World):Prop:=
 W.heap[Bp]?=some (.cells #[.pointer (some ⟨P,0,none⟩)] 142 (0,0))∧Below n0 w W∧
  ((pre = []∧PoolT n0 W P []∧Boxed W Bo 81 (.slice none 0 0))∨(pre = [(i,t)]∧PoolT n0 W P [t.data.toList]∧∃ u,Boxed W Bo 81 u∧OneEnt i 0 t.size 1 n0 u W))
theorem QuK(i:Nat)(t:ByteArray)(n0 P Bp Bo B:Nat)(w:World)(hB:n0≤B)(hw:n0≤w.heap.size):AbT TCh B (RwI i t n0 P Bp Bo w):=by
 rintro s X Y row ⟨h1,h2,h3⟩ hg hr;refine ⟨QcV hg hr h1 Qyq,Qgz h2 hg hr hB hw,?_⟩;rcases h3 with ⟨h3,h4,h5⟩|⟨h3,h4,u,h5,g,cp,rfl,h6⟩
 ·exact .inl ⟨h3,h4.rows QuU hg hr,QcV hg hr h5 Qob⟩
 ·exact .inr ⟨h3,h4.rows QuU hg hr,_,QcV hg hr h5 Qob,g,cp,rfl,QoA h6 hg hr QwL⟩
def RwN(i:Nat)(t:ByteArray)(n0 P Bp Bo:Nat)(w W:World)(E:Nat)(W2:World):Prop:=
 KeptT TCh W W2∧W2.heap[Bp]?=some (.cells #[.pointer (some ⟨P,0,none⟩)] 142 (0,0))∧Boxed W2 Bo 81 (.slice none 0 0)∧(Below n0 w W2∧PoolT n0 W2 P [t.data.toList])∧W2.heap[E]?=some (.cells #[.int .u64 (i:Nat),.int .u64 0,.int .u32 (t.size:Nat),.int .u32 1] 86 (0,0))
theorem RwN.drewN{i:Nat}{t:ByteArray}{n0 P Bp Bo:Nat}{w W:World}{E:Nat}{W2:World}(h:RwN i t n0 P Bp Bo w W E W2)(m:Nat):RwN i t n0 P Bp Bo w W E (W2.drewN m):=by
 obtain ⟨h1,h2,h3,⟨h4,S,h5,h6⟩,h7⟩:=h;have hb:Below W2.heap.size W2 (W2.drewN m):=⟨rfl,rfl,rfl,Nat.le_refl _,fun _ _=>rfl⟩
 exact ⟨h1.trans (KeptT.of_below hb),h2,h3,⟨h4.trans ⟨rfl,rfl,rfl,Nat.le_refl _,fun _ _=>rfl⟩,S,h5.below hb,h6⟩,h7⟩
theorem QuJ(i:Nat)(t:ByteArray)(n0 P Bp Bo:Nat)(w W w1:World)(SP S':Nat→Prop)(hbp:W.heap[Bp]?=some (.cells #[.pointer (some ⟨P,0,none⟩)] 142 (0,0)))(hbw:Below n0 w W)(htg:∀ g,SP g→PTag W g∧n0≤g)(hbo:Boxed W Bo 81 (.slice none 0 0))(hpa:PoolAt w1 P [t.data.toList] S')(hS':∀ g,S' g→SP g∨W.heap.size≤g)(ht:Touch SP W w1)(hw:n0≤w.heap.size) :
  ∃ W2,(w1.alloc (.cells #[.int .u64 0,.int .u32 (t.size:Nat)] 148)).alloc (.cells #[.int .u64 (i:Nat),.int .u64 0,.int .u32 (t.size:Nat),.int .u32 1] 86)=W2∧RwN i t n0 P Bp Bo w W (w1.heap.size+1) W2:=by
 have hb2:Below w1.heap.size w1 ((w1.alloc (.cells #[.int .u64 0,.int .u32 (t.size:Nat)] 148)).alloc (.cells #[.int .u64 (i:Nat),.int .u64 0,.int .u32 (t.size:Nat),.int .u32 1] 86)):=((Below.refl _ _).alloc (Nat.le_refl _) _).alloc (by simp) _
 have tg:=fun g hg=>(htg g hg).1
 have hbp1:=Qiz ht tg hbp Qxm;have hbo1:w1.heap[Bo]?=some (.cells #[.slice none 0 0] 81 (0,0)):=Qiz ht tg hbo Qsh;have hbw1:Below n0 w w1:=hbw.trans ⟨ht.os,ht.tape,ht.output,ht.size,fun k hk=>ht.block k (by have:=hbw.size;omega) (fun hs=>by have:=(htg k hs).2;omega)⟩
 refine ⟨_,rfl,(Qqt ht tg QuU).trans (KeptT.of_below hb2),(hb2.block _ (gsi hbp1).1).trans hbp1,(hb2.block _ (gsi hbo1).1).trans hbo1,⟨hbw1.trans (hb2.mono (by have:=hbw1.size;omega)),PoolT.of_at (hpa.below hb2) (fun g hg=>by
  rcases hS' g hg with h|h
  ·exact (htg g h).2
  ·have:=hbw.size;omega)⟩,?_⟩
 have h:=heap_alloc_new (w1.alloc (.cells #[.int .u64 0,.int .u32 (t.size:Nat)] 148)) (.cells #[.int .u64 (i:Nat),.int .u64 0,.int .u32 (t.size:Nat),.int .u32 1] 86)
 rwa [World.size_alloc] at h
theorem QiZ(i:Nat)(t:ByteArray)(g c B0:Nat)(w:World)(hi:i<6004799503160661)(h0:0<t.size)(h1:t.size≤65536)(hI:OneItem i t B0 (.slice (some ⟨g,0,none⟩) 1 c) w) :
  Calls Tryz.prog 35 #[.agg #[.slice (some ⟨g,0,none⟩) 1 c]] w fun e w'=>∃ u,e = .returned (.tuple #[u,.string t])∧OneEnt i 0 t.size 1 w.heap.size u w'∧Below w.heap.size w w':=by
 have HNew:=hid (fun W=>QuS W)
 have QCc:=hid (fun W=>QqY (some ⟨g,0,none⟩) 1 c W)
 have HIt:=hid hI;refine (callsIn_wide (n:=4)).1 ?_;refine callsIn_of_wp_marks Tryz.func35 rfl trivial ?_ rfl;simp only [Tryz.ntmps35,List.size_toArray,List.length_cons,List.length_nil,Nat.reduceAdd,Nat.reduceSub,Array.replicate_succ,Array.replicate_zero,List.push_toArray,List.append_toArray,List.nil_append,List.cons_append];gi_wp2_with (refine ⟨trivial,?_⟩;gi_at_call 58;refine (callsIn_wide.2 (HNew.out _)).mono ?_;rintro e w1 ⟨rfl,rfl⟩);gi_wp2_with (refine ⟨trivial,?_⟩;gi_at_call 59;refine (callsIn_wide.2 (QCc.out _)).mono ?_;rintro e w2 ⟨rfl,rfl⟩);obtain ⟨V,hV⟩:∃ V,(w.alloc (.cells #[.slice (some ⟨g,0,none⟩) 1 c] 50)).alloc (.cells #[.func (.func 57) #[] #[]] 138)=V:=⟨_,rfl⟩;have hbV:Below w.heap.size w V:=by rw [←hV];exact ((Below.refl _ _).alloc (Nat.le_refl _) _).alloc (by simp) _
 have hzV:V.heap.size=w.heap.size+1+1:=by rw [←hV];simp
 rw [hV,←hzV];obtain ⟨P,hP⟩:∃ P,V.heap.size=P:=⟨_,rfl⟩;obtain ⟨W5,hW5⟩:∃ W5,(((V.alloc (.cells #[.slice none 0 0,.slice none 0 0,.map none] 217)).alloc (.cells #[.pointer (some ⟨P,0,none⟩)] 142)).alloc (.cells #[.slice none 0 0] 81)).alloc (.cells #[.slice (some ⟨g,0,none⟩) 1 c] 50)=W5:=⟨_,rfl⟩;have hbW:Below V.heap.size V W5:=by rw [←hW5];exact ((((Below.refl _ _).alloc (Nat.le_refl _) _).alloc (by simp) _).alloc (by simp;omega) _).alloc (by simp;omega) _
 have hb5:=Qaa hbV hbW;have hz5:W5.heap.size=P+4:=by rw [←hW5];simp;omega
 have kBp:W5.heap[P+1]?=some (.cells #[.pointer (some ⟨P,0,none⟩)] 142 (0,0)):=by
  have h:=heap_alloc_new (V.alloc (.cells #[.slice none 0 0,.slice none 0 0,.map none] 217)) (.cells #[.pointer (some ⟨P,0,none⟩)] 142);rw [World.size_alloc,hP] at h;rw [←hW5];exact (Below.heap_alloc _ _ _ (by simp;omega)).trans ((Below.heap_alloc _ _ _ (by simp;omega)).trans h)
 have kBo:Boxed W5 (P+1+1) 81 (.slice none 0 0):=by
  have h:=heap_alloc_new ((V.alloc (.cells #[.slice none 0 0,.slice none 0 0,.map none] 217)).alloc (.cells #[.pointer (some ⟨P,0,none⟩)] 142)) (.cells #[.slice none 0 0] 81);rw [World.size_alloc,World.size_alloc,hP] at h;rw [←hW5];exact (Below.heap_alloc _ _ _ (by simp;omega)).trans h
 have kBc:W5.heap[P+1+1+1]?=some (.cells #[.slice (some ⟨g,0,none⟩) 1 c] 50 (0,0)):=by
  have h:=heap_alloc_new (((V.alloc (.cells #[.slice none 0 0,.slice none 0 0,.map none] 217)).alloc (.cells #[.pointer (some ⟨P,0,none⟩)] 142)).alloc (.cells #[.slice none 0 0] 81)) (.cells #[.slice (some ⟨g,0,none⟩) 1 c] 50);rw [World.size_alloc,World.size_alloc,World.size_alloc,hP] at h;rw [←hW5];exact h
 have hpt:PoolT w.heap.size W5 P []:=by
  have h:=PoolAt.new V;rw [hP] at h;refine PoolT.of_at (h.below (w':=W5) ?_) (fun g hg=>by omega)
  rw [←hW5];exact (((Below.refl _ _).alloc (Nat.le_refl _) _).alloc (by simp) _).alloc (by simp) _
 rw [hP,hW5];obtain ⟨g1,cp1,q1,ho⟩:=hI.below hb5;injection q1 with q1 q2 q3
 injection q1 with q1
 injection q1 with q1
 subst q1 q3;obtain ⟨cs,hg5,d0,d1⟩:=QhX ho;have hn5:w.heap.size≤P:=by omega
 have HB5:Hid (w.heap.size≤P+1+1):=hid (by omega)
 have HSZ5:Hid (w.heap.size≤W5.heap.size):=hid hb5.size;obtain ⟨i0,hif,hz0,hz1,hz2⟩:=info_parts Qjx;clear hV hbV hzV hP hW5 hbW ho hI HNew QCc HIt;refine QrU rfl (by omega) (gf:=113) (lb:=#[.pointer (some ⟨P+1+1+1,0,none⟩)]) rfl trivial (enters_of Tryz.func113 (by kernel_rfl) rfl) TCh (QqP i t g c (P+1+1+1) (0,0) (0,0) cs W5 kBc hg5 d0 d1) (Below.refl _ _) (fun _=>rfl)
  (RwI i t w.heap.size P (P+1) (P+1+1) w) (QuK i t w.heap.size P (P+1) (P+1+1) W5.heap.size w hb5.size (Nat.le_refl _)) ⟨kBp,hb5,.inl ⟨rfl,hpt,kBo⟩⟩
  (fun x=>{ tmps:=#[.agg #[.slice (some ⟨g,0,none⟩) 1 c],.pointer (some ⟨w.heap.size,0,none⟩),.slice none 0 0,.string ⟨#[]⟩,.pointer (some ⟨w.heap.size+1,0,none⟩),.pointer (some ⟨P+1,0,none⟩),.pointer (some ⟨P+1+1,0,none⟩),.int .u64 (x.1:Nat),.string x.2,undef,undef,undef,undef,undef,.pointer (some ⟨P,0,none⟩),.agg #[.slice (some ⟨g,0,none⟩) 1 c],.func (.func 113) #[] #[.pointer (some ⟨P+1+1+1,0,none⟩)],.int .u64 (x.1:Nat),.string x.2,undef,undef,undef,undef,undef,undef,undef,undef,undef,undef,undef,undef,undef,undef,undef,undef,undef,undef,undef,undef,undef,undef,undef,undef,undef,undef,undef,undef,undef,undef,undef,undef,undef,undef,undef,undef,undef,undef,undef,undef,undef,undef,undef,undef],defers:=[] }) ?assign ?QcK ?done
 case assign=>
  intro lp x W K hK;gi_wp2;exact hK
 case QcK=>
  rintro lp pre x W ⟨hbp,hbw,hst⟩ ⟨rfl,rfl⟩;obtain ⟨-,⟨SP,hpa,htg⟩,hbo⟩:=hst.resolve_right (fun h=>by cases h.1)
  have HAdd:Hid (Calls Tryz.prog 60 #[.pointer (some ⟨P,0,none⟩),.string t] W fun e w'=>e = .returned (.tuple #[.agg #[.int .u64 0,.int .u32 (t.size:Nat)],.bool true,.int .i64 0])∧∃ S',PoolAt w' P [t.data.toList] S'∧(∀ g,S' g→SP g∨W.heap.size≤g)∧Touch SP W w'):=hid (by
   have h:=QuT P [] SP t W (by omega) hpa
   have hl:t.data.toList.length=t.size:=Qab t;obtain ⟨a1,a2,a3,a4⟩:=Qub [] t.data.toList (by intro e;rw [e] at hl;simp at hl;omega) (by omega) (by simp) (by simp)
   unfold QyF at h;rw [a1,a2,a3,a4,hl] at h;exact h)
  have c0:=(Qb5 hbp).1;have HS:=hid (And.intro hbp (And.intro hbw (And.intro htg hbo)));clear hst hpa htg hbo hbp hbw;gi_wp2_with (refine ⟨trivial,?_⟩;gi_at_call 60;refine (CallsIn.inRound lp (callsIn_wide.2 HAdd.out)).mono ?_;rintro e w1 ⟨rfl,S',hpa1,hS',ht1⟩;obtain ⟨W2,hW2,HN⟩:=QuJ i t w.heap.size P (P+1) (P+1+1) w W w1 SP S' HS.out.1 HS.out.2.1 HS.out.2.2.1 HS.out.2.2.2 hpa1 hS' ht1 (Nat.le_refl _);have hc:=HN.2.2.1.cell;obtain ⟨⟨y0,y1,y2,y3⟩,-⟩:=QaF HN.2.2.2.2;have HN2:=hid HN;clear HN hpa1 hS' ht1);have hmx:Tryz.prog.follows .mixedOrders=true:=by kernel_rfl
  refine Qfx (F:=Fence.wide) rfl hmx (by kernel_rfl) (by kernel_rfl) ?_
  repeat (gi_big_quiet_step (fail))
  refine BigFrame.wpQuietIn_skip (fun _ _ _ _=>trivial) rfl ?_
  refine wpQuietIn_step (fun _ _ _ _=>trivial) (fun K hK=>?_)
  go_simp;refine hK _ ?_;clear hK K;refine wpQuietIn_nil ?_;rintro _ ⟨nq,rfl⟩;obtain ⟨W3,hW3⟩:∃ W3,W2.drewN nq=W3:=⟨_,rfl⟩;have HN3:=HN2.out.drewN nq;rw [hW3] at HN3 ⊢;have HR:=hid HN3;have hb3:=HN3.2.2.1;have QBH:=HN3.2.2.2.1.1.size;have hc3:=HN3.2.2.1.cell;have hB3:=HB5.out;obtain ⟨⟨z0,z1,z2,z3⟩,-⟩:=QaF HN3.2.2.2.2;clear hc y0 y1 y2 y3 hW2 HN2 hW3 HN3 HS HAdd c0;gi_wp2_with (gi_at_builtin;go_loud (refine wpListIn_append_own _ rfl _ _ 81 rfl w.heap.size 86 i0 (.agg #[.int .u64 0,.int .u64 0,.int .u32 0,.int .u32 0]) 4 24 Tryz.underlying81 hif hz0 hz1 hz2 rfl (by decide) _ 0 [] rfl (World.ownsRow_nil _ _ _ _) ⟨W3.heap.size,0,none⟩ 1 1 [.int .u64 (i:Nat),.int .u64 0,.int .u32 (t.size:Nat),.int .u32 1] rfl rfl (World.news_of_block (cs:=#[.int .u64 (i:Nat),.int .u64 0,.int .u32 (t.size:Nat),.int .u32 1]) (heap_alloc_new _ _)) (by simp [Value.oneCell']) (by unfold maxLen;omega) (by omega) (by simp;omega) ?_);intro v' w4 QAI QAu _;obtain ⟨g',cap',rfl⟩:=ownsRow_succ QAI;obtain ⟨hv1,hv2,hr2,hk2,hb2⟩:=hb3.appended (by decide) (World.ownsRow_nil W3 w.heap.size 86 4) QBH hB3 QAI QAu;have hc1:=hv1.cell;have hf1:=hv1.frozen)
  have b34:Below W3.heap.size W3 w4:=⟨QAu.os,QAu.tape,QAu.output,Nat.le_trans (by simp) QAu.size,fun k hk=>(QAu.block k (by simp;omega) (by intro e;cases e)).trans (Below.heap_alloc _ _ _ hk)⟩
  refine ⟨HR.out.1.trans (Qpn hv1 (World.ownsRow_nil W3 w.heap.size 86 4) QAu Qob QwL),?_,HR.out.2.2.2.1.1.trans hb2,.inr ⟨rfl,?_,_,hv2,g',cap',rfl,hr2⟩⟩
  ·exact (Below.heap_setCell _ _ _ _ (by show P+1≠P+1+1;omega)).trans ((b34.block _ (gsi HR.out.2.1).1).trans HR.out.2.1)
  ·have p1:PoolT w.heap.size w4 P [t.data.toList]:=HR.out.2.2.2.1.2.rows (T:=TCh) (B:=0) QuU (QeZ b34) (fun r e=>by cases e)
   exact p1.rows (T:=fun t=>t=81) (B:=0) (fun t h e=>Qsh (e ▸ h)) (grownBy_setCell' w4 (P+1+1) _) (fun r e=>by cases e;exact .inl ⟨Nat.zero_le _,_,_,_,hv1,rfl⟩)
 case done=>
  rintro D xs W hD rfl ⟨hbp,hbw,hst⟩ hK;obtain ⟨-,⟨SP,hpa,htg⟩,u,hbo,g',cp',rfl,hro⟩:=hst.resolve_left (fun h=>by cases h.1)
  have HTx:Hid (∀ W',Below W.heap.size W W'→Calls Tryz.prog 61 #[.pointer (some ⟨P,0,none⟩)] W' fun e w'=>e = .returned (.string t)∧Below W'.heap.size W' w'):=hid (fun W' hb=>by
   have h:=Qsb P [t.data.toList] SP W' (hpa.below hb);rw [show [t.data.toList].flatten=t.data.toList by simp,Qcx] at h
   exact h)
  have c0:=(Qb5 hbp).1;have c1:=hbo.cell;have HS:=hid (And.intro hbp (And.intro hbw (And.intro hbo (And.intro hro hK))));have HD:=hid hD;clear hst hpa htg hbo hbp hbw hro hK hD;have hmx:Tryz.prog.follows .mixedOrders=true:=by kernel_rfl
  gi_wp2;have r0:∀ p:BelowOf W,p.world.cell? ⟨P+1,0,none⟩=some (.pointer (some ⟨P,0,none⟩)):=fun p=>QaN p (gsi HS.out.1).1 c0
  have r1:∀ p:BelowOf W,p.world.cell? ⟨P+1+1,0,none⟩=some (.slice (some ⟨g',0,none⟩) 1 cp'):=fun p=>QaN p (gsi HS.out.2.2.1).1 c1
  refine QhO rfl hmx (by kernel_rfl) ?_
  repeat (gi_big_quiet_step (fail))
  refine wpQuietIn_step (fun _ _ _ _=>trivial) (fun K hK=>?_)
  go_simp;apply Exists.intro;refine ⟨fun p=>?_,hK _ ?_⟩
  ·exact callsIn_wide.2 (Qav (HTx.out _ p.below))
  clear hK K
  repeat (gi_big_quiet_step (fail))
  refine wpQuietIn_nil ?_;intro w4 hw';have hb4:=QaM hw';clear hw' r0 r1;gi_wp2;have hKD:w4.heap[D]?=some (.deferred (some [])):=(hb4.block D (gsi HS.out.2.2.2.2).1).trans HS.out.2.2.2.2;refine ⟨by simp,.inl ⟨_,_,rfl,run_takeDeferred hKD,?_⟩⟩
  refine ⟨_,results_tmp2 rfl _ _ _,.slice (some ⟨g',0,none⟩) 1 cp',rfl,⟨g',cp',rfl,?_⟩,?_⟩
  ·have hlow:=HS.out.2.2.2.1
   refine Qad hlow (fun k hk=>?_)
   have hl:=(hlow.lt k hk).2;obtain ⟨cur,hcu⟩:=QbJ hlow k hk;have hkd:k≠D:=fun e=>by rw [e,HS.out.2.2.2.2] at hcu;cases hcu
   exact (World.putObj_heap_other (by omega)).trans (hb4.block k hl)
  ·exact (HS.out.2.1.trans (hb4.mono HS.out.2.1.size)).trans (belowK_b (w:=w) (Nat.le_refl _) w4 D _ _ (by have:=HD.out;have:=HSZ5.out;omega) hKD rfl rfl)
end
section
open Go.RowKit
theorem Qjs(w:World)(A:Addr)(x:Value)(ty:TypeId)(hA:∀ w,(isAgg ty).run Tryz.prog w = .ok false w)(h:w.cell? A=some x):(loadVar ty A).run Tryz.prog w = .ok x w:=by
 simp [go_sem,hA,h]
theorem QoN(w:World)(A:Addr)(x:Value)(h:w.cell? A=some x):(loadVar 9 A).run Tryz.prog w = .ok x w:=Qjs w A x _ (fun _=>by kernel_rfl) h
theorem Qjt(w:World)(A:Addr)(x:Value)(h:w.cell? A=some x):(loadVar 26 A).run Tryz.prog w = .ok x w:=Qjs w A x _ (fun _=>by kernel_rfl) h
theorem Qdx{fn:Func}{tmps:Array Value}{w:World}{A B:Addr}{V E:Value}{p u:Tmp}{ty ty2:TypeId}(QAH:fn.results=#[.cell p ty,.cell u ty2])(h1:(loadVar ty A).run Tryz.prog w = .ok V w)(h2:(loadVar ty2 B).run Tryz.prog w = .ok E w)
  (hp:tmps.getD p undef = .pointer (some A)) (hu:tmps.getD u undef = .pointer (some B)):(results fn tmps).run Tryz.prog w = .ok (.tuple #[V,E]) w:=by
 have hp':tmps[p]?.getD undef = .pointer (some A):=by simpa using hp
 have hu':tmps[u]?.getD undef = .pointer (some B):=by simpa using hu
 simp [results,QAH,hp',hu',asAddr,h1,h2,Result.andThen]
theorem QdG{fn:Func}{R:Ending→World→Prop}{a:Act}{w:World}{A B:Addr}{V E F:Value}{p u v:Tmp}{ty ty2:TypeId}(QAH:fn.results=#[.cell p ty,.cell u ty2,.tmp v])
  (h1:(loadVar ty A).run Tryz.prog w = .ok V w) (h2:(loadVar ty2 B).run Tryz.prog w = .ok E w)
  (hp:a.tmps.getD p undef = .pointer (some A)) (hE:a.tmps.getD u undef = .pointer (some B)) (hF:a.tmps.getD v undef=F) (QAN:a.defers = [])
  (hR:R (.returned (.tuple #[V,E,F])) w):bodyPost Tryz.prog fn R .ret a w:=by
 refine bodyPost_ret_by (v:=.tuple #[V,E,F]) ?_ QAN hR;have hp':a.tmps[p]?.getD undef = .pointer (some A):=by simpa using hp
 have hE':a.tmps[u]?.getD undef = .pointer (some B):=by simpa using hE
 have hF':a.tmps[v]?.getD undef=F:=by simpa using hF
 simp [results,QAH,hp',hE',hF',asAddr,h1,h2,Result.andThen]
end
section
open Go.RowKit
def Qgh(Q:Exit→Act→World→Prop):Exit→Act→World→Prop
 | .normal,a,w=>Q .normal a w
 |_,_,_=>False
theorem QhZ{Q:Exit→Act→World→Prop}{e:Exit}{a:Act}{w:World}(h:Qgh Q e a w):Q e a w:=by
 cases e<;>first|exact h|exact h.elim
theorem Qsa(be b2:Nat)(u:FrameMode)(w:World)(h:w.cell? ⟨be,0,none⟩=some (.int .i64 0)) :
  CallsD Tryz.prog 33 #[.pointer (some ⟨be,0,none⟩),.pointer (some ⟨b2,0,none⟩)] u w fun e u' w'=>u'=u∧(e = .returned (.tuple #[])∧w'=w):=by
 go_enter_d Tryz.func33,Tryz.ntmps33;go_wp2_with fail;go_end0;exact ⟨rfl,rfl⟩
def Qy9(z:Nat):Hdr:=⟨0,0,0,0,0,0,0,0,1,1,1,true,1,1,0,(z:Nat),(z:Nat),-1800000000,-850511287,1800000000,850511287,(z:Nat),0,0⟩
structure PrSt(w:World)(g c:Nat)(B:Nat)(note S:ByteArray)(W:World):Prop where
 c:W.heap[w.heap.size]?=some (.cells #[.slice (some ⟨g,0,none⟩) 1 c] 50 (0,0))
 p:W.heap[w.heap.size+1]?=some (.cells #[.int .i64 (B:Nat),.int .u8 0,.string note] 58 (0,0))
 s:W.heap[w.heap.size+1+1]?=some (.cells #[.string S] 9 (0,0))
 e:W.heap[w.heap.size+1+1+1]?=some (.cells #[.int .i64 0] 26 (0,0))
 b:Below w.heap.size w W
theorem PrSt.below{w:World}{g c B:Nat}{note S:ByteArray}{W W':World}(d:PrSt w g c B note S W)(hb:Below W.heap.size W W'):PrSt w g c B note S W':=by
 obtain ⟨h1,h2,h3,h4,h5⟩:=d;have f:=fun {i:Nat} {o:Obj} (x:W.heap[i]?=some o)=>(hb.block i (gsi x).1).trans x
 exact ⟨f h1,f h2,f h3,f h4,Qaa h5 hb⟩
theorem PrSt.setE{w:World}{g c B:Nat}{note S:ByteArray}{W:World}(d:PrSt w g c B note S W):PrSt w g c B note S (W.setCell ⟨w.heap.size+1+1+1,0,none⟩ (.int .i64 0)):=by
 obtain ⟨h1,h2,h3,h4,h5⟩:=d;exact ⟨(Qak (by omega) 0 _).trans h1,(Qak (by omega) 0 _).trans h2,(Qak (by omega) 0 _).trans h3,QeE h4 _,h5.setCell (p:=⟨w.heap.size+1+1+1,0,none⟩) (by show w.heap.size≤w.heap.size+1+1+1;omega) _⟩
theorem PrSt.setS{w:World}{g c B:Nat}{note S:ByteArray}{W:World}(d:PrSt w g c B note S W)(S':ByteArray):PrSt w g c B note S' (W.setCell ⟨w.heap.size+1+1,0,none⟩ (.string S')):=by
 obtain ⟨h1,h2,h3,h4,h5⟩:=d;exact ⟨(Qak (by omega) 0 _).trans h1,(Qak (by omega) 0 _).trans h2,QeE h3 _,(Qak (by omega) 0 _).trans h4,h5.setCell (p:=⟨w.heap.size+1+1,0,none⟩) (by show w.heap.size≤w.heap.size+1+1;omega) _⟩
theorem PrSt.at{w:World}{g c B:Nat}{note S:ByteArray}{W:World}(d:PrSt w g c B note S W):W.cell? ⟨w.heap.size,0,none⟩=some (.slice (some ⟨g,0,none⟩) 1 c)∧(W.cell? ⟨w.heap.size+1,0,none⟩=some (.int .i64 (B:Nat))∧W.cell? ⟨w.heap.size+1,1,none⟩=some (.int .u8 0)∧W.cell? ⟨w.heap.size+1,2,none⟩=some (.string note))∧(W.cell? ⟨w.heap.size+1+1,0,none⟩=some (.string S)∧W.frozen? ⟨w.heap.size+1+1,0,none⟩=false)∧W.cell? ⟨w.heap.size+1+1+1,0,none⟩=some (.int .i64 0)∧W.frozen? ⟨w.heap.size+1+1+1,0,none⟩=false:=by
 obtain ⟨h1,h2,h3,h4,-⟩:=d;exact ⟨(Qb5 h1).1,⟨QaY h2 0,QaY h2 1,QaY h2 2⟩,Qb5 h3,Qb5 h4⟩
theorem PrSt.new(w:World)(g c B:Nat)(note:ByteArray):PrSt w g c B note ⟨#[]⟩ ((((w.alloc (.cells #[.slice (some ⟨g,0,none⟩) 1 c] 50)).alloc (.cells #[.int .i64 (B:Nat),.int .u8 0,.string note] 58)).alloc (.cells #[.string ⟨#[]⟩] 9)).alloc (.cells #[.int .i64 0] 26)):=by
 have new:=fun (W:World) (o:Obj)=>World.alloc_heap_new W o
 refine ⟨?_,?_,?_,?_,?_⟩
 ·exact (Below.heap_alloc _ _ _ (by simp<;>omega)).trans ((Below.heap_alloc _ _ _ (by simp<;>omega)).trans ((Below.heap_alloc _ _ _ (by simp<;>omega)).trans (new w _)))
 ·have h:=new (w.alloc (.cells #[.slice (some ⟨g,0,none⟩) 1 c] 50)) (.cells #[.int .i64 (B:Nat),.int .u8 0,.string note] 58)
  simp only [World.size_alloc] at h;exact (Below.heap_alloc _ _ _ (by simp<;>omega)).trans ((Below.heap_alloc _ _ _ (by simp<;>omega)).trans h)
 ·have h:=new ((w.alloc (.cells #[.slice (some ⟨g,0,none⟩) 1 c] 50)).alloc (.cells #[.int .i64 (B:Nat),.int .u8 0,.string note] 58)) (.cells #[.string ⟨#[]⟩] 9)
  simp only [World.size_alloc] at h;exact (Below.heap_alloc _ _ _ (by simp<;>omega)).trans h
 ·have h:=new (((w.alloc (.cells #[.slice (some ⟨g,0,none⟩) 1 c] 50)).alloc (.cells #[.int .i64 (B:Nat),.int .u8 0,.string note] 58)).alloc (.cells #[.string ⟨#[]⟩] 9)) (.cells #[.int .i64 0] 26)
  simp only [World.size_alloc] at h;exact h
 ·exact ((((Below.refl _ _).alloc (Nat.le_refl _) _).alloc (by simp<;>omega) _).alloc (by simp<;>omega) _).alloc (by simp<;>omega) _
theorem Qr9(i:Nat)(t note:ByteArray)(g c B B0:Nat)(H:Hdr)(w:World)(hi:i<6004799503160661)(h0:0<t.size)(h1:t.size≤65536)(hB1:512≤B)(hB2:B≤16257)(hn:note.size=2)(hn0:note[0]'(by omega)=123)(hn1:note[1]'(by omega)=125)(hc:QcF (i,0,t.size,1)=0)(hen:(QfQ [(i,0,t.size,1)]).length≤512)
  (hI:OneItem i t B0 (.slice (some ⟨g,0,none⟩) 1 c) w) (hH:H=Qrm (Qy9 (Qhp i)) 127 (QfQ [(i,0,t.size,1)]).length (127+(QfQ [(i,0,t.size,1)]).length) 2 (127+(QfQ [(i,0,t.size,1)]).length+2) 0 (127+(QfQ [(i,0,t.size,1)]).length+2+0) t.size) (ok:HdrOk H) (QBD:QjM H=0) :
  Calls Tryz.prog 15 #[.agg #[.slice (some ⟨g,0,none⟩) 1 c],.agg #[.int .i64 (B:Nat),.int .u8 0,.string note]] w fun e w'=>e = .returned (.tuple #[.string (bs (QiN H++(QfQ [(i,0,t.size,1)]++(note.data.toList++t.data.toList)))),.int .i64 0])∧Below w.heap.size w w':=by
 have QA8:∀ e∈[((i,0,t.size,1):Ent)],Qbl e:=fun e he=>by rw [List.mem_singleton.1 he];exact ⟨show i<_ by omega,show 0<18446744073709551616 by omega,show t.size<_ by omega,show 1<4294967296 by omega⟩
 have hr1:∀ e∈[((i,0,t.size,1):Ent)],0<e.2.2.2:=fun e he=>by rw [List.mem_singleton.1 he];show 0<1;omega
 have hmf:∀ (fn:Fn) (first cap:Array Value) (w:World),(Instr.makeFunc fn first cap).run Tryz.prog w = .ok (.func fn first cap) w:=fun _ _ _ _=>rfl
 have HCk:=hid (fun W=>Qnn B note W hB1 hB2 hn hn0 hn1)
 have HRo:=hid (fun W (hb:Below w.heap.size w W)=>QiZ i t g c B0 W hi h0 h1 (hI.below hb))
 have HSp:Hid (∀ (b0:Nat) (g' cp:Nat) W,W.ownsRow b0 86 4 (.slice (some ⟨g',0,none⟩) 1 cp) 1 [.int .u64 (i:Nat),.int .u64 0,.int .u32 (t.size:Nat),.int .u32 1]→Calls Tryz.prog 36 #[.slice (some ⟨g',0,none⟩) 1 cp,.int .i64 (B:Nat)] W (QmI [(i,0,t.size,1)] W)):=
  hid (fun b0 g' cp W h=>Qm6 [(i,0,t.size,1)] b0 (some ⟨g',0,none⟩) cp B W h (by simp) (Qfu _ hc) QA8 hr1 (by omega) hB2 (by omega))
 obtain ⟨en,hen'⟩:∃ en,QfQ [(i,0,t.size,1)]=en:=⟨_,rfl⟩;have HEn:Hid (∀ (b0:Nat) a cp W,W.ownsRow b0 86 4 (.slice a 1 cp) 1 (Qay [(i,0,t.size,1)])→Calls Tryz.prog 37 #[.slice a 1 cp] W fun e w'=>e = .returned (.tuple #[.string (bs en),.int .i64 0])∧Below W.heap.size W w'):=
  hid (fun b0 a cp W h=>by
   have:=Qn3 [(i,0,t.size,1)] a cp W (EntB.of_own h (by simp)) (Qfu _ hc) QA8 (by omega)
   rw [hen'] at this;exact this)
 have HHd:Hid (∀ (v:Value) W,Below w.heap.size w W→EntB W v [(i,0,t.size,1)]→Calls Tryz.prog 39 #[.agg #[.slice (some ⟨g,0,none⟩) 1 c],v,.int .u8 0] W fun e w'=>e = .returned (.agg (Qxt (Qhp i)))∧Below W.heap.size W w'):=hid (fun v W hb h=>by
  obtain ⟨g1,cp1,q1,ho⟩:=hI;obtain ⟨cs,hg,d0,-⟩:=QhX ho;injection q1 with q1 q2 q3
  injection q1 with q1
  injection q1 with q1
  subst q1;have hlt:=(gsi hg).1;exact QiU g c i v i 0 t.size 1 W hi (Nat.lt_of_lt_of_le hlt hb.size) ((hb.cell (p:=⟨g,0,none⟩) hlt).trans ((QaY hg 0).trans d0)) h hc (QA8 _ (by simp)) (by omega))
 obtain ⟨z,hz⟩:∃ z,Qhp i=z:=⟨_,rfl⟩;rw [hz] at HHd hH;rw [hen'] at hen hH ⊢;have HGl:Hid (∀ W,Calls Tryz.prog 38 #[.agg (Qxt z),.agg #[.string (bs en),.string note,.string ⟨#[]⟩,.string t]] W fun e w'=>e = .returned (.tuple #[.string (bs (QiN H++(en++(note.data.toList++t.data.toList)))),.int .i64 0])∧Below W.heap.size W w'):=
  hid (fun W=>by
   have h:=QnL (Qy9 z) H (bs en) note ⟨#[]⟩ t W (by rw [QaC];have:(⟨#[]⟩:ByteArray).size=0:=rfl;omega) (by rw [QaC,hn];exact hH) ok QBD
   rw [Qaj] at h;exact h)
 obtain ⟨FS,hFS⟩:∃ FS,bs (QiN H++(en++(note.data.toList++t.data.toList)))=FS:=⟨_,rfl⟩;rw [hFS] at HGl ⊢;obtain ⟨W0,hW0⟩:∃ W0,((((w.alloc (.cells #[.slice (some ⟨g,0,none⟩) 1 c] 50)).alloc (.cells #[.int .i64 (B:Nat),.int .u8 0,.string note] 58)).alloc (.cells #[.string ⟨#[]⟩] 9)).alloc (.cells #[.int .i64 0] 26))=W0:=⟨_,rfl⟩;have S0:=PrSt.new w g c B note;rw [hW0] at S0;have H0:=hid S0;obtain ⟨a0,⟨a1,a2,a3⟩,⟨a4,a5⟩,a6,a7⟩:=S0.at;clear S0 hI QA8 hr1 hc hen hH ok QBD hi h0 h1 hB1 hB2 hn0 hn1 hFS hz hen' hn;go_enter_defers Tryz.func15,Tryz.ntmps15;go_wp2_with fail;refine (HCk.out _).mono ?_;rintro e w1 ⟨rfl,hb1⟩;have S1:=H0.out.below hb1;obtain ⟨b0,⟨b1,b2,b3⟩,⟨b4,b5⟩,b6,b7⟩:=S1.at;obtain ⟨W1,hW1⟩:∃ W1,w1.setCell ⟨w.heap.size+1+1+1,0,none⟩ (.int .i64 0)=W1:=⟨_,rfl⟩;have S1':=S1.setE;rw [hW1] at S1';have H1:=hid S1';clear a0 a1 a2 a3 a4 a5 a6 a7 hb1 S1;obtain ⟨a0,⟨a1,a2,a3⟩,⟨a4,a5⟩,a6,a7⟩:=S1'.at;clear S1';go_wp2_with fail;refine (HRo.out _ H1.out.b).mono ?_;rintro e w2 ⟨u,rfl,⟨g2,cp2,rfl,ho2⟩,hb2⟩;have S2:=H1.out.below hb2;have H2:=hid (And.intro S2 ho2);clear b0 b1 b2 b3 b4 b5 b6 b7 a0 a1 a2 a3 a4 a5 a6 a7 hb2 ho2 hW1;obtain ⟨a0,⟨a1,a2,a3⟩,⟨a4,a5⟩,a6,a7⟩:=S2.at;clear S2;go_wp2_with fail;refine (HSp.out _ _ _ _ H2.out.2).mono ?_;rintro e w3 ⟨a3',c3,rfl,ho3,hb3⟩;have S3:=H2.out.1.below hb3;obtain ⟨b0,⟨b1,b2,b3⟩,⟨b4,b5⟩,b6,b7⟩:=S3.at;obtain ⟨W3,hW3⟩:∃ W3,w3.setCell ⟨w.heap.size+1+1+1,0,none⟩ (.int .i64 0)=W3:=⟨_,rfl⟩;have S3':=S3.setE;have hE3:w.heap.size+1+1+1<w2.heap.size:=(gsi H2.out.1.e).1;have ho3':W3.ownsRow w2.heap.size 86 4 (.slice a3' [((i,0,t.size,1):Ent)].length c3) [((i,0,t.size,1):Ent)].length (Qay [(i,0,t.size,1)]):=by
  rw [←hW3];exact Qad ho3 (fun k hk=>Qak (by have:=(ho3.lt k hk).1;omega) 0 _)
 have hE1:w.heap.size+1+1+1<W1.heap.size:=(gsi H1.out.e).1;have hu3:W3.ownsRow W1.heap.size 86 4 (.slice (some ⟨g2,0,none⟩) 1 cp2) 1 [.int .u64 (i:Nat),.int .u64 0,.int .u32 (t.size:Nat),.int .u32 1]:=by
  rw [←hW3];exact Qad H2.out.2 (fun k hk=>(Qak (by have:=(H2.out.2.lt k hk).1;omega) 0 _).trans (hb3.block k (H2.out.2.lt k hk).2))
 rw [hW3] at S3';have H3:=hid (And.intro S3' (And.intro ho3' (And.intro hu3 hE1)));clear a0 a1 a2 a3 a4 a5 a6 a7 hb3 S3 ho3 ho3' hu3 hE3 hE1;obtain ⟨a0,⟨a1,a2,a3⟩,⟨a4,a5⟩,a6,a7⟩:=S3'.at;clear S3';go_wp2_with fail;refine (HEn.out _ _ _ _ H3.out.2.1).mono ?_;rintro e w4 ⟨rfl,hb4⟩;have S4:=H3.out.1.below hb4;obtain ⟨d0,⟨d1,d2,d3⟩,⟨d4,d5⟩,d6,d7⟩:=S4.at;obtain ⟨W4,hW4⟩:∃ W4,w4.setCell ⟨w.heap.size+1+1+1,0,none⟩ (.int .i64 0)=W4:=⟨_,rfl⟩;have S4':=S4.setE;have hu4:W4.ownsRow W1.heap.size 86 4 (.slice (some ⟨g2,0,none⟩) 1 cp2) 1 [.int .u64 (i:Nat),.int .u64 0,.int .u32 (t.size:Nat),.int .u32 1]:=by
  rw [←hW4];have:=H3.out.2.2.2;exact Qad H3.out.2.2.1 (fun k hk=>(Qak (by have:=(H3.out.2.2.1.lt k hk).1;omega) 0 _).trans (hb4.block k (H3.out.2.2.1.lt k hk).2))
 rw [hW4] at S4';have H4:=hid (And.intro S4' (EntB.of_own (l:=[(i,0,t.size,1)]) hu4 (by simp)))
 clear b0 b1 b2 b3 b4 b5 b6 b7 a0 a1 a2 a3 a4 a5 a6 a7 hb4 S4 hu4 hW3;obtain ⟨a0,⟨a1,a2,a3⟩,⟨a4,a5⟩,a6,a7⟩:=S4'.at;clear S4';go_wp2_with fail;refine wp_mono (Q:=Qgh _) ?_ (fun e a' w' h=>QhZ h)
 go_region_with (first
  |(go_at_call 39;refine (HHd.out _ _ (H4.out.1.b.drew) (H4.out.2.below ((Below.refl _ _).drew))).mono ?_;rintro e w5 ⟨rfl,hb5⟩;have S5:=hid ((H4.out.1.below ((Below.refl _ _).drew)).below hb5);obtain ⟨x0,⟨x1,x2,x3⟩,⟨x4,x5⟩,x6,x7⟩:=S5.out.at;clear hb5)
  |(go_at_call 38;refine (HGl.out _).mono ?_;rintro e w6 ⟨rfl,hb6⟩;have S6:=hid (S5.out.below hb6);obtain ⟨v0,⟨v1,v2,v3⟩,⟨v4,v5⟩,v6,v7⟩:=S6.out.at;clear hb6))
 all_goals
  unfold Qgh;go_wp2_with fail;unfold bodyPostD;refine leaves_cons (f:=33) (args:=#[.pointer (some ⟨w.heap.size+1+1+1,0,none⟩),.pointer (some ⟨w.heap.size+1+1,0,none⟩)]) (by simp) (by simp [go_sem]) ?_
  refine (Qsa (w.heap.size+1+1+1) (w.heap.size+1+1) .returning _ (by first|exact ((S6.out.setS FS).setE).at.2.2.2.1|exact ((S6.out.setE).setS FS).at.2.2.2.1)).mono ?_
  rintro e u' w'' ⟨rfl,rfl,rfl⟩
  first
   |exact ⟨_,Qdx rfl (QoN _ _ _ ((S6.out.setS FS).setE).at.2.2.1.1) (Qjt _ _ _ ((S6.out.setS FS).setE).at.2.2.2.1) rfl rfl,rfl,((S6.out.setS FS).setE).b⟩
   |exact ⟨_,Qdx rfl (QoN _ _ _ ((S6.out.setE).setS FS).at.2.2.1.1) (Qjt _ _ _ ((S6.out.setE).setS FS).at.2.2.2.1) rfl rfl,rfl,((S6.out.setE).setS FS).b⟩
end
section
open Go.RowKit
def Qos(h:Hdr):Nat→Nat×Nat
 |0=>(h.rf,h.rl)
 |1=>(h.mf,h.ml)
 |2=>(h.lf,h.ll)
 |_=>(h.df,h.dl)
def QbV(s:ByteArray)(h:Hdr):Nat→Array Value
 |0=>#[.string ⟨#[]⟩,.string ⟨#[]⟩,.string ⟨#[]⟩,.string ⟨#[]⟩]
 |1=>#[.string (s.extract h.rf (h.rf+h.rl)),.string ⟨#[]⟩,.string ⟨#[]⟩,.string ⟨#[]⟩]
 |2=>#[.string (s.extract h.rf (h.rf+h.rl)),.string (s.extract h.mf (h.mf+h.ml)),.string ⟨#[]⟩,.string ⟨#[]⟩]
 |3=>#[.string (s.extract h.rf (h.rf+h.rl)),.string (s.extract h.mf (h.mf+h.ml)),.string (s.extract h.lf (h.lf+h.ll)),.string ⟨#[]⟩]
 |_=>#[.string (s.extract h.rf (h.rf+h.rl)),.string (s.extract h.mf (h.mf+h.ml)),.string (s.extract h.lf (h.lf+h.ll)),.string (s.extract h.df (h.df+h.dl))]
theorem QtM(s:ByteArray)(h:Hdr)(k:Nat)(hk:k<4):(QbV s h k)[k]?=some (.string ⟨#[]⟩)∧(QbV s h k).set! k (.string (s.extract (Qos h k).1 ((Qos h k).1+(Qos h k).2)))=QbV s h (k+1):=by
 match k,hk with
 |0,_=>exact ⟨rfl,rfl⟩
 |1,_=>exact ⟨rfl,rfl⟩
 |2,_=>exact ⟨rfl,rfl⟩
 |3,_=>exact ⟨rfl,rfl⟩
theorem Qym(h:Hdr)(k:Nat)(hk:k<4):∀ w,(Instr.index 165 (.agg #[.int .u64 (h.rf:Nat),.int .u64 (h.rl:Nat),.int .u64 (h.mf:Nat),.int .u64 (h.ml:Nat),.int .u64 (h.lf:Nat),.int .u64 (h.ll:Nat),.int .u64 (h.df:Nat),.int .u64 (h.dl:Nat)]) (.int .i64 (k:Nat))).run Tryz.prog w = .ok (.agg #[.int .u64 ((Qos h k).1:Nat),.int .u64 ((Qos h k).2:Nat)]) w:=by
 match k,hk with
 |0,_=>exact Qo1 h
 |1,_=>exact Qo0 h
 |2,_=>exact QoZ h
 |3,_=>exact QoY h
def CuSt(s:ByteArray)(h:Hdr)(w:World)(B5 B7:Nat)(k:Nat)(wr:World):Prop:=wr.heap[w.heap.size]?=some (.cells #[.int .u64 0,.int .u64 0,.int .u64 0,.int .u64 0,.int .u64 0,.int .u64 0,.int .u64 0,.int .u64 0,.int .u64 0,.int .u64 0,.int .u64 0,.bool false,.int .u8 0,.int .u8 0,.int .u8 0,.int .i64 0,.int .i64 0,.int .i64 0,.int .i64 0,.int .i64 0,.int .i64 0,.int .i64 0,.int .i64 0,.int .i64 0] 78 (0,0))∧wr.heap[w.heap.size+1]?=some (.cells #[.string ⟨#[]⟩,.string ⟨#[]⟩,.string ⟨#[]⟩,.string ⟨#[]⟩] 111 (0,0))∧wr.heap[B5]?=some (.cells (QbF h) 78 (0,0))∧wr.heap[B7]?=some (.cells (QbV s h k) 111 (0,0))∧Below w.heap.size w wr
theorem CuSt.below{s:ByteArray}{h:Hdr}{w:World}{B5 B7 k:Nat}{W W':World}(d:CuSt s h w B5 B7 k W)(hb:Below W.heap.size W W'):CuSt s h w B5 B7 k W':=by
 obtain ⟨h1,h2,h3,h4,h5⟩:=d;have f:=fun {i:Nat} {o:Obj} (x:W.heap[i]?=some o)=>(hb.block i (gsi x).1).trans x
 exact ⟨f h1,f h2,f h3,f h4,Qaa h5 hb⟩
theorem CuSt.step{s:ByteArray}{h:Hdr}{w:World}{B5 B7 k:Nat}{W:World}(d:CuSt s h w B5 B7 k W)(hk:k<4)(n1:w.heap.size+1<B5)(n2:B5<B7):CuSt s h w B5 B7 (k+1) (W.setCell ⟨B7,k,none⟩ (.string (s.extract (Qos h k).1 ((Qos h k).1+(Qos h k).2)))):=by
 obtain ⟨h1,h2,h3,h4,h5⟩:=d;obtain ⟨-,e⟩:=QtM s h k hk;exact ⟨(Qak (by omega) k _).trans h1,(Qak (by omega) k _).trans h2,(Qak (by omega) k _).trans h3,Qee (w:=w) h4 k _ e,h5.setCell (p:=⟨B7,k,none⟩) (by show w.heap.size≤B7;omega) _⟩
theorem QdQ{w:World}{b:Nat}{s:ByteArray}{h:Hdr}(k:w.heap[b]?=some (.cells (QbV s h 4) 111 (0,0))):(loadVar 111 ⟨b,0,none⟩).run Tryz.prog w = .ok (.agg (QbV s h 4)) w:=
 run_loadVar_row w b 111 111 (QbV s h 4) (0,0) _ k Tryz.underlying111 rfl (by kernel_rfl)
theorem QaR{c:Prop}[Decidable c]{a b:Prop}(hc:c)(h:a):if c then a else b:=by rw [if_pos hc];exact h
theorem Qqr(s:ByteArray)(h:Hdr)(w:World)(hs:s.size≤1000000)(hD:QmO s.data.toList=h)(hE:Qfj s.data.toList=0)(hin:∀ k,k<4→(Qos h k).1+(Qos h k).2≤s.size) :
  Calls Tryz.prog 77 #[.string s] w fun e w'=>e = .returned (.tuple #[.agg (QbF h),.agg (QbV s h 4),.int .i64 0])∧Below w.heap.size w w':=by
 have QBC:=hid (fun W=>QfI s hs W)
 rw [hE,QkQ _ hE,hD] at QBC;replace QBC:Hid (∀ W:World,Calls Tryz.prog 86 #[.string s] W fun e w'=>e = .returned (.tuple #[.agg #[.int .u64 (h.rf:Nat),.int .u64 (h.rl:Nat),.int .u64 (h.mf:Nat),.int .u64 (h.ml:Nat),.int .u64 (h.lf:Nat),.int .u64 (h.ll:Nat),.int .u64 (h.df:Nat),.int .u64 (h.dl:Nat),.int .u64 (h.ad:Nat),.int .u64 (h.en:Nat),.int .u64 (h.co:Nat),.bool h.cl,.int .u8 (h.inn:Nat),.int .u8 (h.out:Nat),.int .u8 (h.kd:Nat),.int .i64 h.z0,.int .i64 h.z1,.int .i64 h.x0,.int .i64 h.y0,.int .i64 h.x1,.int .i64 h.y1,.int .i64 h.zo,.int .i64 h.lo,.int .i64 h.la],.int .i64 0])∧Below W.heap.size W w'):=QBC
 obtain ⟨W0,hW0⟩:∃ W0,(w.alloc (.cells #[.int .u64 0,.int .u64 0,.int .u64 0,.int .u64 0,.int .u64 0,.int .u64 0,.int .u64 0,.int .u64 0,.int .u64 0,.int .u64 0,.int .u64 0,.bool false,.int .u8 0,.int .u8 0,.int .u8 0,.int .i64 0,.int .i64 0,.int .i64 0,.int .i64 0,.int .i64 0,.int .i64 0,.int .i64 0,.int .i64 0,.int .i64 0] 78)).alloc (.cells #[.string ⟨#[]⟩,.string ⟨#[]⟩,.string ⟨#[]⟩,.string ⟨#[]⟩] 111)=W0:=⟨_,rfl⟩;have hB0:Below w.heap.size w W0:=by rw [←hW0];exact ((Below.refl _ _).alloc (Nat.le_refl _) _).alloc (by simp) _
 have k2:W0.heap[w.heap.size]?=some (.cells #[.int .u64 0,.int .u64 0,.int .u64 0,.int .u64 0,.int .u64 0,.int .u64 0,.int .u64 0,.int .u64 0,.int .u64 0,.int .u64 0,.int .u64 0,.bool false,.int .u8 0,.int .u8 0,.int .u8 0,.int .i64 0,.int .i64 0,.int .i64 0,.int .i64 0,.int .i64 0,.int .i64 0,.int .i64 0,.int .i64 0,.int .i64 0] 78 (0,0)):=by
  rw [←hW0];exact (Below.heap_alloc _ _ _ (by rw [World.size_alloc];omega)).trans (heap_alloc_new w _)
 have k3:W0.heap[w.heap.size+1]?=some (.cells #[.string ⟨#[]⟩,.string ⟨#[]⟩,.string ⟨#[]⟩,.string ⟨#[]⟩] 111 (0,0)):=by
  have:=heap_alloc_new (w.alloc (.cells #[.int .u64 0,.int .u64 0,.int .u64 0,.int .u64 0,.int .u64 0,.int .u64 0,.int .u64 0,.int .u64 0,.int .u64 0,.int .u64 0,.int .u64 0,.bool false,.int .u8 0,.int .u8 0,.int .u8 0,.int .i64 0,.int .i64 0,.int .i64 0,.int .i64 0,.int .i64 0,.int .i64 0,.int .i64 0,.int .i64 0,.int .i64 0] 78)) (.cells #[.string ⟨#[]⟩,.string ⟨#[]⟩,.string ⟨#[]⟩,.string ⟨#[]⟩] 111);rw [World.size_alloc] at this;rw [←hW0];exact this
 have HK:=hid (And.intro k2 (And.intro k3 hB0));have HIN:=hid hin;clear hD hE k2 k3 hB0 hin;go_enter Tryz.func77,Tryz.ntmps77;go_wp2_with fail;refine (QBC.out _).mono ?_;rintro e w1 ⟨rfl,hb1⟩;obtain ⟨V5,hV5⟩:∃ V5,w1.alloc (.cells #[.int .u64 0,.int .u64 0,.int .u64 0,.int .u64 0,.int .u64 0,.int .u64 0,.int .u64 0,.int .u64 0,.int .u64 0,.int .u64 0,.int .u64 0,.bool false,.int .u8 0,.int .u8 0,.int .u8 0,.int .i64 0,.int .i64 0,.int .i64 0,.int .i64 0,.int .i64 0,.int .i64 0,.int .i64 0,.int .i64 0,.int .i64 0] 78)=V5:=⟨_,rfl⟩;obtain ⟨B5,hB5⟩:∃ B5,w1.heap.size=B5:=⟨_,rfl⟩;have hb5:Below w1.heap.size w1 V5:=by rw [←hV5];exact (Below.refl _ _).alloc (Nat.le_refl _) _
 have kz:V5.heap[B5]?=some (.cells #[.int .u64 0,.int .u64 0,.int .u64 0,.int .u64 0,.int .u64 0,.int .u64 0,.int .u64 0,.int .u64 0,.int .u64 0,.int .u64 0,.int .u64 0,.bool false,.int .u8 0,.int .u8 0,.int .u8 0,.int .i64 0,.int .i64 0,.int .i64 0,.int .i64 0,.int .i64 0,.int .i64 0,.int .i64 0,.int .i64 0,.int .i64 0] 78 (0,0)):=by rw [←hV5,←hB5];exact heap_alloc_new w1 _
 have HZ:=hid kz;obtain ⟨V6,hV6⟩:∃ V6,V5.setRow B5 #[.int .u64 (h.rf:Nat),.int .u64 (h.rl:Nat),.int .u64 (h.mf:Nat),.int .u64 (h.ml:Nat),.int .u64 (h.lf:Nat),.int .u64 (h.ll:Nat),.int .u64 (h.df:Nat),.int .u64 (h.dl:Nat),.int .u64 (h.ad:Nat),.int .u64 (h.en:Nat),.int .u64 (h.co:Nat),.bool h.cl,.int .u8 (h.inn:Nat),.int .u8 (h.out:Nat),.int .u8 (h.kd:Nat),.int .i64 h.z0,.int .i64 h.z1,.int .i64 h.x0,.int .i64 h.y0,.int .i64 h.x1,.int .i64 h.y1,.int .i64 h.zo,.int .i64 h.lo,.int .i64 h.la]=V6:=⟨_,rfl⟩;have k5:V6.heap[B5]?=some (.cells (QbF h) 78 (0,0)):=by rw [←hV6];exact setRow_heap V5 B5 _ _ _ _ kz
 have hb6:Below w1.heap.size w1 V6:=by rw [←hV6];exact Qba hb5 (by omega) _
 obtain ⟨B7,hB7⟩:∃ B7,V6.heap.size=B7:=⟨_,rfl⟩;obtain ⟨V7,hV7⟩:∃ V7,V6.alloc (.cells #[.string ⟨#[]⟩,.string ⟨#[]⟩,.string ⟨#[]⟩,.string ⟨#[]⟩] 111)=V7:=⟨_,rfl⟩;have hb7:Below V6.heap.size V6 V7:=by rw [←hV7];exact (Below.refl _ _).alloc (Nat.le_refl _) _
 have k7:V7.heap[B7]?=some (.cells #[.string ⟨#[]⟩,.string ⟨#[]⟩,.string ⟨#[]⟩,.string ⟨#[]⟩] 111 (0,0)):=by rw [←hV7,←hB7];exact heap_alloc_new V6 _
 have k57:=(hb7.block _ (gsi k5).1).trans k5;have l2:w.heap.size+1<B5:=by rw [←hB5];have:=hb1.size;have:=(gsi HK.out.2.1).1;omega
 have l5:B5<B7:=by rw [←hB7];exact (gsi k5).1
 have hb17:=Qaa (Qaa hb1 hb6) hb7;have HS:Hid (CuSt s h w B5 B7 0 V7):=hid ⟨(hb17.block _ (gsi HK.out.1).1).trans HK.out.1,(hb17.block _ (gsi HK.out.2.1).1).trans HK.out.2.1,k57,k7,Qaa HK.out.2.2 hb17⟩;obtain ⟨c0,c1,c2,c3,c4,c5,c6,c7,-⟩:=QcJ k57;have HL:=hid (And.intro l2 l5);clear hb1 hb5 kz k5 hb6 hb7 k7 k57 l2 l5 hb17;go_wp2_with (refine wpList_store_row rfl 78 (.tmp 5) (.tmp 13) rfl B5 #[.int .u64 (h.rf:Nat),.int .u64 (h.rl:Nat),.int .u64 (h.mf:Nat),.int .u64 (h.ml:Nat),.int .u64 (h.lf:Nat),.int .u64 (h.ll:Nat),.int .u64 (h.df:Nat),.int .u64 (h.dl:Nat),.int .u64 (h.ad:Nat),.int .u64 (h.en:Nat),.int .u64 (h.co:Nat),.bool h.cl,.int .u8 (h.inn:Nat),.int .u8 (h.out:Nat),.int .u8 (h.kd:Nat),.int .i64 h.z0,.int .i64 h.z1,.int .i64 h.x0,.int .i64 h.y0,.int .i64 h.x1,.int .i64 h.y1,.int .i64 h.zo,.int .i64 h.lo,.int .i64 h.la] rfl rfl 78 #[.int .u64 0,.int .u64 0,.int .u64 0,.int .u64 0,.int .u64 0,.int .u64 0,.int .u64 0,.int .u64 0,.int .u64 0,.int .u64 0,.int .u64 0,.bool false,.int .u8 0,.int .u8 0,.int .u8 0,.int .i64 0,.int .i64 0,.int .i64 0,.int .i64 0,.int .i64 0,.int .i64 0,.int .i64 0,.int .i64 0,.int .i64 0] HZ.out (by kernel_rfl) rfl (by simp [Value.oneCell']) ?_)
 clear c0 c1 c2 c3 c4 c5 c6 c7 hV5 hB5 hV6 hB7 hV7;have HSEC:=hid hs;go_loopw [29] (fun u29 wr=>Hid (∃ k:Nat,k≤4∧u29 = .int .i64 (k:Nat)∧CuSt s h w B5 B7 k wr)) (fun u29 _=>4-(intOf u29).toNat)
 case atStart=>exact hid ⟨0,by decide,rfl,HS.out⟩
 case round=>
  obtain ⟨k,hk,rfl,hst⟩:=hrel.out;clear hrel
  by_cases hk4:k<4
  ·have hx:=Qym h k hk4
   have hle:=HIN.out k hk4;have QBz:=hid (fun W (d:CuSt s h w B5 B7 k W)=>d.step hk4 HL.out.1 HL.out.2)
   have QAz:=hid (QtM s h k hk4).1;obtain ⟨f,hf⟩:∃ f,(Qos h k).1=f:=⟨_,rfl⟩;obtain ⟨l,hl⟩:∃ l,(Qos h k).2=l:=⟨_,rfl⟩;rw [hf,hl] at hx hle QBz;obtain ⟨q,hq⟩:∃ q,f+l=q:=⟨_,rfl⟩;have QCb:=hid (fun W=>Qb4 f l W (by omega) (by omega))
   rw [hq] at QCb hle QBz;have ham:f≤q:=by omega
   have hw2:IntKind.u64.wrap (s.size:Int)=(s.size:Int):=by rw [IntKind.wrap_u64];omega
   have t1:decide ((s.size:Int)<(q:Int))=false:=decide_eq_false (by omega)
   have t1':decide (s.size<q)=false:=decide_eq_false (by omega)
   obtain ⟨Wb,hWb⟩:∃ Wb,wr.alloc (.cells #[.int .u64 (f:Nat),.int .u64 (l:Nat)] 76)=Wb:=⟨_,rfl⟩;obtain ⟨E,hEE⟩:∃ E,wr.heap.size=E:=⟨_,rfl⟩;have kE:Wb.heap[E]?=some (.cells #[.int .u64 (f:Nat),.int .u64 (l:Nat)] 76 (0,0)):=by rw [←hWb,←hEE];exact heap_alloc_new wr _
   have hbB:Below wr.heap.size wr Wb:=by rw [←hWb];exact (Below.refl _ _).alloc (Nat.le_refl _) _
   have HQ:=hid (And.intro (hst.below hbB) kE);obtain ⟨⟨y0,y1⟩,-⟩:=Qam kE;have hqs:q≤s.size:=hle;clear hst kE hbB hf hl hq hle;go_wp2_with fail;refine (QCb.out _).mono ?_;rintro e w2 ⟨rfl,hb2⟩;have S2:=HQ.out.1.below hb2;have kE2:=(hb2.block _ (gsi HQ.out.2).1).trans HQ.out.2;have H2:=hid (And.intro S2 kE2);obtain ⟨⟨z0,z1⟩,-⟩:=Qam kE2;obtain ⟨o0,o1⟩:=Qao S2.2.2.2.1 k _ QAz.out;clear S2 kE2 hb2 y0 y1 hWb hEE;go_upto_region 10 with fail
   go_region_with (go_at_call 88;refine (QCb.out _).mono ?_;rintro e w3 ⟨rfl,hb3⟩;have H3:=hid ((H2.out.1.below ((Below.refl _ _).drew)).below hb3);have kE3:=(hb3.block E (gsi H2.out.2).1).trans H2.out.2;obtain ⟨⟨x0,x1⟩,-⟩:=Qam kE3;obtain ⟨p0,p1⟩:=Qao H3.out.2.2.2.1 k _ QAz.out;clear hb3 kE3)
   all_goals
    go_wp2_with fail;refine ⟨hid ⟨k+1,by omega,by go_num,QBz.out _ H3.out⟩,?_⟩
    simp [intOf];omega
  ·obtain rfl:k=4:=by omega
   have HF:Hid (CuSt s h w B5 B7 4 wr.drew):=hid (hst.below ((Below.refl _ _).drew));have HG:((wr.drew.setRow w.heap.size (QbF h)).setRow (w.heap.size+1) (QbV s h 4)).heap[w.heap.size]?=some (.cells (QbF h) 78 (0,0))∧((wr.drew.setRow w.heap.size (QbF h)).setRow (w.heap.size+1) (QbV s h 4)).heap[w.heap.size+1]?=some (.cells (QbV s h 4) 111 (0,0))∧Below w.heap.size w ((wr.drew.setRow w.heap.size (QbF h)).setRow (w.heap.size+1) (QbV s h 4)):=
    ⟨(setRow_other _ _ _ _ (by omega)).trans (setRow_heap _ _ _ _ _ _ HF.out.1),setRow_heap _ _ _ _ _ _ ((setRow_other _ _ _ _ (by omega)).trans HF.out.2.1),Qba (Qba HF.out.2.2.2.2 (Nat.le_refl _) _) (by omega) _⟩
   clear hst;go_upto_region 12 with fail
   refine wp_region_any (by kernel_rfl) ?_
   change wpAny _ _ _ _ _ _ _ (World.drew _);refine wpAny_ready (rs:=[0,1]) (by kernel_rfl) (by simp) ?_
   refine AllReady.cons rfl (fun K hK=>?_) (AllReady.cons rfl (fun K hK=>?_) AllReady.nil)
   ·refine QaR rfl ?_
    refine wp_load_row 78 (.tmp 5) rfl B5 rfl 78 (QbF h) (0,0) _ (HF.out.2.2.1) Tryz.underlying78 rfl (by kernel_rfl) ?_
    refine hK _ _ ?_;clear hK K;refine wpAny_ready (rs:=[1,2]) (by kernel_rfl) (by simp) ?_
    refine AllReady.cons rfl (fun K hK=>?_) (AllReady.cons rfl (fun K hK=>?_) AllReady.nil)
    ·refine QaR rfl ?_
     refine wp_load_row 111 (.tmp 7) rfl B7 rfl 111 (QbV s h 4) (0,0) _ (HF.out.2.2.2.1) Tryz.underlying111 rfl (by kernel_rfl) ?_
     refine hK _ _ ?_;clear hK K;refine wpAny_ready (rs:=[2]) (by kernel_rfl) (by simp) ?_
     refine AllReady.cons rfl (fun K hK=>?_) AllReady.nil
     refine QaR rfl ?_;refine wp_store_row 78 (.tmp 2) (.tmp 50) rfl w.heap.size (QbF h) rfl rfl 78 #[.int .u64 0,.int .u64 0,.int .u64 0,.int .u64 0,.int .u64 0,.int .u64 0,.int .u64 0,.int .u64 0,.int .u64 0,.int .u64 0,.int .u64 0,.bool false,.int .u8 0,.int .u8 0,.int .u8 0,.int .i64 0,.int .i64 0,.int .i64 0,.int .i64 0,.int .i64 0,.int .i64 0,.int .i64 0,.int .i64 0,.int .i64 0] HF.out.1 (by kernel_rfl) rfl (by simp [QbF,Value.oneCell']) ?_
     refine hK _ _ ?_;clear hK K;refine wpAny_ready (rs:=[3]) (by kernel_rfl) (by simp) ?_
     refine AllReady.cons rfl (fun K hK=>?_) AllReady.nil
     refine QaR rfl ?_;refine wp_store_row 111 (.tmp 3) (.tmp 51) rfl (w.heap.size+1) (QbV s h 4) rfl rfl 111 _ ((setRow_other _ _ _ _ (by omega)).trans HF.out.2.1) (by kernel_rfl) rfl (by simp [QbV,Value.oneCell']) ?_
     refine hK _ _ ?_;clear hK K;refine wpAny_ready (rs:=[4]) (by kernel_rfl) (by simp) ?_
     refine AllReady.cons rfl (fun K hK=>?_) AllReady.nil
     refine QaR rfl ?_;go_simp;refine hK _ _ ?_;clear hK K;refine wpAny_done (by kernel_rfl) ?_ _
     go_wp2_with fail;refine QdG (A:=⟨w.heap.size,0,none⟩) (B:=⟨w.heap.size+1,0,none⟩) rfl (QbO HG.1 rfl) (QdQ HG.2.1) rfl rfl rfl rfl ⟨rfl,HG.2.2⟩
    ·refine QaR rfl ?_
     refine wp_store_row 78 (.tmp 2) (.tmp 50) rfl w.heap.size (QbF h) rfl rfl 78 #[.int .u64 0,.int .u64 0,.int .u64 0,.int .u64 0,.int .u64 0,.int .u64 0,.int .u64 0,.int .u64 0,.int .u64 0,.int .u64 0,.int .u64 0,.bool false,.int .u8 0,.int .u8 0,.int .u8 0,.int .i64 0,.int .i64 0,.int .i64 0,.int .i64 0,.int .i64 0,.int .i64 0,.int .i64 0,.int .i64 0,.int .i64 0] HF.out.1 (by kernel_rfl) rfl (by simp [QbF,Value.oneCell']) ?_
     refine hK _ _ ?_;clear hK K;refine wpAny_ready (rs:=[1]) (by kernel_rfl) (by simp) ?_
     refine AllReady.cons rfl (fun K hK=>?_) AllReady.nil
     refine QaR rfl ?_;refine wp_load_row 111 (.tmp 7) rfl B7 rfl 111 (QbV s h 4) (0,0) _ ((setRow_other _ _ _ _ (by have:=HL.out.1;have:=HL.out.2;omega)).trans HF.out.2.2.2.1) Tryz.underlying111 rfl (by kernel_rfl) ?_
     refine hK _ _ ?_;clear hK K;refine wpAny_ready (rs:=[3]) (by kernel_rfl) (by simp) ?_
     refine AllReady.cons rfl (fun K hK=>?_) AllReady.nil
     refine QaR rfl ?_;refine wp_store_row 111 (.tmp 3) (.tmp 51) rfl (w.heap.size+1) (QbV s h 4) rfl rfl 111 _ ((setRow_other _ _ _ _ (by omega)).trans HF.out.2.1) (by kernel_rfl) rfl (by simp [QbV,Value.oneCell']) ?_
     refine hK _ _ ?_;clear hK K;refine wpAny_ready (rs:=[4]) (by kernel_rfl) (by simp) ?_
     refine AllReady.cons rfl (fun K hK=>?_) AllReady.nil
     refine QaR rfl ?_;go_simp;refine hK _ _ ?_;clear hK K;refine wpAny_done (by kernel_rfl) ?_ _
     go_wp2_with fail;refine QdG (A:=⟨w.heap.size,0,none⟩) (B:=⟨w.heap.size+1,0,none⟩) rfl (QbO HG.1 rfl) (QdQ HG.2.1) rfl rfl rfl rfl ⟨rfl,HG.2.2⟩
   ·refine QaR rfl ?_
    refine wp_load_row 111 (.tmp 7) rfl B7 rfl 111 (QbV s h 4) (0,0) _ (HF.out.2.2.2.1) Tryz.underlying111 rfl (by kernel_rfl) ?_
    refine hK _ _ ?_;clear hK K;refine wpAny_ready (rs:=[0]) (by kernel_rfl) (by simp) ?_
    refine AllReady.cons rfl (fun K hK=>?_) AllReady.nil
    refine QaR rfl ?_;refine wp_load_row 78 (.tmp 5) rfl B5 rfl 78 (QbF h) (0,0) _ (HF.out.2.2.1) Tryz.underlying78 rfl (by kernel_rfl) ?_
    refine hK _ _ ?_;clear hK K;refine wpAny_ready (rs:=[2]) (by kernel_rfl) (by simp) ?_
    refine AllReady.cons rfl (fun K hK=>?_) AllReady.nil
    refine QaR rfl ?_;refine wp_store_row 78 (.tmp 2) (.tmp 50) rfl w.heap.size (QbF h) rfl rfl 78 #[.int .u64 0,.int .u64 0,.int .u64 0,.int .u64 0,.int .u64 0,.int .u64 0,.int .u64 0,.int .u64 0,.int .u64 0,.int .u64 0,.int .u64 0,.bool false,.int .u8 0,.int .u8 0,.int .u8 0,.int .i64 0,.int .i64 0,.int .i64 0,.int .i64 0,.int .i64 0,.int .i64 0,.int .i64 0,.int .i64 0,.int .i64 0] HF.out.1 (by kernel_rfl) rfl (by simp [QbF,Value.oneCell']) ?_
    refine hK _ _ ?_;clear hK K;refine wpAny_ready (rs:=[3]) (by kernel_rfl) (by simp) ?_
    refine AllReady.cons rfl (fun K hK=>?_) AllReady.nil
    refine QaR rfl ?_;refine wp_store_row 111 (.tmp 3) (.tmp 51) rfl (w.heap.size+1) (QbV s h 4) rfl rfl 111 _ ((setRow_other _ _ _ _ (by omega)).trans HF.out.2.1) (by kernel_rfl) rfl (by simp [QbV,Value.oneCell']) ?_
    refine hK _ _ ?_;clear hK K;refine wpAny_ready (rs:=[4]) (by kernel_rfl) (by simp) ?_
    refine AllReady.cons rfl (fun K hK=>?_) AllReady.nil
    refine QaR rfl ?_;go_simp;refine hK _ _ ?_;clear hK K;refine wpAny_done (by kernel_rfl) ?_ _
    go_wp2_with fail;refine QdG (A:=⟨w.heap.size,0,none⟩) (B:=⟨w.heap.size+1,0,none⟩) rfl (QbO HG.1 rfl) (QdQ HG.2.1) rfl rfl rfl rfl ⟨rfl,HG.2.2⟩
end
end Go.Proofs.YtilaebjndadkhaaGreatDoor
