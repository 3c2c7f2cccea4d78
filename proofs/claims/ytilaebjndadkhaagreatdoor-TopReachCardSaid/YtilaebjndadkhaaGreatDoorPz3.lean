/- What parts of the program compute: packed for TopReach. Conditions: none. -/
import Derived.Test.YtilaebjndadkhaaGreatDoorPz2
set_option linter.all false
set_option maxRecDepth 100000
set_option maxHeartbeats 8000000
open Go.Lib (hid)
namespace Go.Proofs.YtilaebjndadkhaaGreatDoor
section
open Go.RowKit
def Qc9(a b:Int):Nat:=if a<0∨b<a∨9007199254740990<b then 8 else 0
def QaQ(a b:Int):Int:=if Qc9 a b=0 then b-a+1 else 0
theorem Qco(a b:Int)(h:Qc9 a b=0):0≤a∧a≤b∧b≤9007199254740990:=by
 unfold Qc9 at h;split at h
 ·exact absurd h (by decide)
 ·omega
theorem QhR(a b:Int)(h:Qc9 a b≠0):Qc9 a b=8∧(a<0∨b<a∨9007199254740990<b):=by
 unfold Qc9 at h ⊢;split at h
 ·rename_i hc;exact ⟨if_pos hc,hc⟩
 ·exact absurd rfl h
def Qey:List UInt8:=[98,121,116,101,115,61]
def QcD:List UInt8:=[98,121,116,101,115,32]
def Qe3(a b:Int):List UInt8:=Qfk a++45 :: Qfk b
def QgD(a b:Int):List UInt8:=if Qc9 a b=0 then Qey++Qe3 a b else []
def QeP(c:UInt8)(l:List UInt8):List UInt8:=l.takeWhile (fun x=>x != c)
def Qhj(c:UInt8)(l:List UInt8):Bool:=decide ((QeP c l).length<l.length)
def Qbb(c:UInt8)(l:List UInt8):List UInt8:=l.drop ((QeP c l).length+1)
theorem QmV(c:UInt8)(l:List UInt8):(QeP c l).length≤l.length:=(List.takeWhile_prefix _).length_le
theorem Qro(c:UInt8)(l:List UInt8):l.take (QeP c l).length=QeP c l:=(List.prefix_iff_eq_take.1 (List.takeWhile_prefix _)).symm
theorem Qs8(c:UInt8)(l:List UInt8):Go.Lib.index l [c]=if (QeP c l).length<l.length then ((QeP c l).length:Int) else -1:=by
 induction l with
 |nil=>rfl
 |cons d t ih=>
  unfold Go.Lib.index
  by_cases hc:d=c
  ·subst hc
   have:QeP d (d :: t) = []:=by unfold QeP;rw [List.takeWhile_cons_of_neg (by simp)]
   rw [this,if_pos (by simp [List.isPrefixOf]),if_pos (by simp)];rfl
  ·have ha:QeP c (d :: t)=d :: QeP c t:=by unfold QeP;rw [List.takeWhile_cons_of_pos (by simpa using hc)]
   rw [if_neg (by simp [List.isPrefixOf];exact fun h=>hc h.symm),ih,ha]
   by_cases hlt:(QeP c t).length<t.length
   ·rw [if_pos hlt,if_neg (by rw [beq_iff_eq];omega),if_pos (by simp;omega)];simp
   ·rw [if_neg hlt,if_pos (by decide),if_neg (by simp;omega)]
theorem Qyl(c:UInt8)(l:List UInt8):Go.Lib.cut l [c]=if Qhj c l=true then (QeP c l,Qbb c l,true) else (l,[],false):=by
 unfold Go.Lib.cut Qhj Qbb;rw [Qs8]
 by_cases hlt:(QeP c l).length<l.length
 ·rw [if_pos hlt,if_pos (by omega),decide_eq_true hlt,if_pos rfl,Int.toNat_natCast,Qro];rfl
 ·rw [if_neg hlt,if_neg (by decide),decide_eq_false hlt,if_neg (by decide)]
def Qpy(a b:List UInt8):Nat:=if QcE a≠0 then QcE a else QcE b
def QiF(l:List UInt8):Bool:=Qey.isPrefixOf l&&Qhj 45 (l.drop 6)
def QgX(l:List UInt8):Nat:=Qcq (QeP 45 (l.drop 6))
def QgW(l:List UInt8):Nat:=Qcq (Qbb 45 (l.drop 6))
def QbH(l:List UInt8):Nat:=if QiF l=false then 4 else if Qpy (QeP 45 (l.drop 6)) (Qbb 45 (l.drop 6))≠0 then Qpy (QeP 45 (l.drop 6)) (Qbb 45 (l.drop 6)) else Qc9 (QgX l) (QgW l)
def QcI(l:List UInt8):Int:=if QbH l=0 then (QgX l:Int) else 0
def QcH(l:List UInt8):Int:=if QbH l=0 then (QgW l:Int) else 0
def QbW(a b t:Int):Nat:=if Qc9 a b≠0 then Qc9 a b else if t≤b∨9007199254740991<t then 8 else 0
def QbY(a b t:Int):List UInt8:=if QbW a b t=0 then QcD++Qe3 a b++47 :: Qfk t else []
def Qhu(l:List UInt8):Bool:=QcD.isPrefixOf l&&Qhj 45 (l.drop 6)&&Qhj 47 (Qbb 45 (l.drop 6))
def Qm2(l:List UInt8):Nat:=Qcq (QeP 45 (l.drop 6))
def Qm0(l:List UInt8):Nat:=Qcq (QeP 47 (Qbb 45 (l.drop 6)))
def Qm1(l:List UInt8):Nat:=Qcq (Qbb 47 (Qbb 45 (l.drop 6)))
def Qdt(a b c:List UInt8):Nat:=if QcE a≠0 then QcE a else if QcE b≠0 then QcE b else QcE c
def Qce(l:List UInt8):Nat:=if Qhu l=false then 4 else if Qdt (QeP 45 (l.drop 6)) (QeP 47 (Qbb 45 (l.drop 6))) (Qbb 47 (Qbb 45 (l.drop 6)))≠0 then Qdt (QeP 45 (l.drop 6)) (QeP 47 (Qbb 45 (l.drop 6))) (Qbb 47 (Qbb 45 (l.drop 6)))
 else QbW (Qm2 l) (Qm0 l) (Qm1 l)
def QcX(l:List UInt8):Int:=if Qce l=0 then (Qm2 l:Int) else 0
def QcW(l:List UInt8):Int:=if Qce l=0 then (Qm0 l:Int) else 0
def Qdu(l:List UInt8):Int:=if Qce l=0 then (Qm1 l:Int) else 0
def Qdq(a b t:Int):Nat:=if Qc9 a b≠0 then Qc9 a b else if t≤a then 8 else 0
def QfV(a b t:Int):Int:=if Qdq a b t=0 then a else 0
def QfU(a b t:Int):Int:=if Qdq a b t=0 then (if b<t-1 then b else t-1) else 0
end
section
open Go.RowKit
def QgY(b:Bool)(c:Nat):Nat:=if (b&&QiM c)=true then c-32 else c
theorem QxO(c:Nat)(h:c<97):QiM c=false:=by unfold QiM;rw [decide_eq_false (by omega)];rfl
theorem QxQ(c:Nat)(h:122<c):QiM c=false:=by unfold QiM;rw [decide_eq_false (show ¬c≤122 by omega),Bool.and_false]
theorem QxP(c:Nat)(h:97≤c)(h2:c≤122):QiM c=true:=by unfold QiM;rw [decide_eq_true h,decide_eq_true h2];rfl
theorem Qrs(c B:Nat)(b:Bool)(w:World)(hblk:w.heap[B]?=some (.cells #[.bool b] 4 (0,0)))(hc:c<128) :
  Calls Tryz.prog 318 #[.int .i32 (c:Int),.pointer (some ⟨B,0,none⟩)] w fun e w'=>e = .returned (.int .i32 (QgY b c:Nat))∧w'=w.setCell ⟨B,0,none⟩ (.bool ((c:Int)==45)):=by
 have Qao:w.cell? ⟨B,0,none⟩=some (.bool b):=by unfold World.cell?;rw [hblk];rfl
 have hfr:w.frozen? ⟨B,0,none⟩=false:=by unfold World.frozen?;rw [hblk];rfl
 cases b
 ·have H:Hid (QgY false c=c):=hid rfl
  go_enter Tryz.func318,Tryz.ntmps318;go_wp2_with fail;go_ret;exact ⟨by rw [H.out];rfl,rfl⟩
 ·by_cases h1:c<97
  ·have H:Hid (QgY true c=c):=hid (by unfold QgY;rw [QxO c h1];rfl)
   have t1:decide ((c:Int)≥97)=false:=by simp;omega
   go_enter Tryz.func318,Tryz.ntmps318;go_wp2_with fail;go_ret;exact ⟨by rw [H.out];rfl,rfl⟩
  ·by_cases h2:122<c
   ·have H:Hid (QgY true c=c):=hid (by unfold QgY;rw [QxQ c h2];rfl)
    have t1:decide ((c:Int)≤122)=false:=by simp;omega
    go_enter Tryz.func318,Tryz.ntmps318;go_wp2_with fail;go_ret;exact ⟨by rw [H.out];rfl,rfl⟩
   ·have H:Hid (QgY true c=c-32):=hid (by unfold QgY;rw [QxP c (by omega) (by omega)];rfl)
    have t1:decide ((c:Int)≤122)=true:=by simp;omega
    have h3:97≤c:=by omega
    go_enter Tryz.func318,Tryz.ntmps318;go_wp2_with fail;go_ret;refine ⟨QbE ?_,rfl⟩;rw [H.out];omega
def stB(c:UInt8):Bool:=((c.toNat:Nat):Int)==45
def Qfi:Bool→List UInt8→List UInt8
 |_,[]=>[]
 |b,c :: t=>UInt8.ofNat (QgY b c.toNat) :: Qfi (stB c) t
theorem Qrv(b:Bool)(c:Nat)(h:c<128):QgY b c<128:=by unfold QgY;split<;>omega
theorem QfY{T e:TypeId}{B b c:Nat}{p:Value}{l:List Value}{w:World}(h:Go.Lib.BuilderAtF T e B b p l w)(hc:c<B)(v:Value):Go.Lib.BuilderAtF T e B b p l (w.setCell ⟨c,0,none⟩ v):=by
 obtain ⟨hB,x,hx,QAq,hne⟩:=h;have hnc:x.ownBlock≠some c:=by
  rcases QAq.2 with ⟨rfl,_⟩|⟨g,cap,cur,fz,rfl,hg,_⟩
  ·simp [Value.ownBlock]
  ·intro e
   have:g=c:=by simpa [Value.ownBlock] using e
   omega
 refine ⟨hB,x,?_,QAq.kept (row:=some c) ⟨rfl,rfl,rfl,by simp [World.setCell],fun k _ hk=>Below.heap_setCell _ _ _ _ (fun e=>hk (by simp [e]))⟩ (Or.inr hnc),hne⟩
 rw [←hx];exact Below.heap_setCell _ _ _ _ (show b≠c by omega)
theorem Qib{T e:TypeId}{B b c:Nat}{l:List Value}{w:World}(h:Go.Lib.IsBuilderF T e B b l w)(hc:c<B)(v:Value):Go.Lib.IsBuilderF T e B b l (w.setCell ⟨c,0,none⟩ v):=
 h.elim (fun x=>.inl (QfY x hc v)) (fun x=>.inr (QfY x hc v))
def AtT(w0:World)(c:Nat)(b:Bool)(w:World):Prop:=w.heap[c]?=some (.cells #[.bool b] 4 (0,0))∧Below c w0 w
theorem AtT.below{w0 w w':World}{c B:Nat}{b:Bool}(h:AtT w0 c b w)(hb:Below B w w')(hB:c<B):AtT w0 c b w':=
 ⟨(hb.block c hB).trans h.1,h.2.trans (hb.mono (by omega))⟩
theorem AtT.set{w0 w:World}{c:Nat}{b:Bool}(h:AtT w0 c b w)(b':Bool):AtT w0 c b' (w.setCell ⟨c,0,none⟩ (.bool b')):=by
 refine ⟨?_,h.2.setCell (p:=⟨c,0,none⟩) (Nat.le_refl _) _⟩;simp [World.setCell,Array.getElem?_modify,h.1]
theorem QdE(w:World)(c j:Nat)(v:Value)(h:j≠c):(w.setCell ⟨c,0,none⟩ v).heap[j]?=w.heap[j]?:=Below.heap_setCell _ _ _ _ h
end
section
open Go.RowKit Go.Lib
theorem Qk8(b:Bool)(l:List UInt8)(k:Nat)(h:k<l.length):Qfi b (l.drop k)=UInt8.ofNat (QgY b l[k].toNat) :: Qfi (stB l[k]) (l.drop (k+1)):=by
 rw [List.drop_eq_getElem_cons h];rfl
theorem Qzp(b n:Nat)(w:World)(hbk:w.heap[b]?=some (.cells #[.pointer none,.slice none 0 0] 236 (0,0)))(hBw:b≤w.heap.size)(hn:n≤281474976710656) :
  Calls Tryz.prog 128 #[.pointer (some ⟨b,0,none⟩),.int .i64 n] w fun e w'=>e = .returned (.tuple #[])∧(Lib.BuilderAt 236 5 b b (.pointer (some ⟨b,0,none⟩)) [] w'∧Below b w w')∧∃ p cap,w'.cell? ⟨b,1,none⟩=some (.slice p 0 cap)∧n≤cap:=
 Any.Builder_Grow_fresh_cap { Tryz.lays230 with } Tryz.Builder_Extra_230 b b n w (Nat.le_refl _) hbk hBw hn
theorem Qk2(b:Nat)(l:List Value)(s:ByteArray)(w:World)(h:Lib.IsBuilderF 236 5 b b l w)(hlen:l.length+s.size≤140737488355328)(hBw:b≤w.heap.size) :
  Calls Tryz.prog 129 #[.pointer (some ⟨b,0,none⟩),.string s] w fun e w'=>e = .returned (.tuple #[.int .i64 s.size,.nilIface])∧(Lib.BuilderAtF 236 5 b b (.pointer (some ⟨b,0,none⟩)) (l++Lib.strCells s) w'∧Below b w w'∧Lib.OthersKept 5 (some b) w w')∧∀ v0,w.cell? ⟨b,1,none⟩=some v0→∃ v1,w'.cell? ⟨b,1,none⟩=some v1∧v0.capOf≤v1.capOf:=
 Any.Builder_WriteString_kc { Tryz.lays230 with } Tryz.Builder_Extra_230 b b l s w h hlen hBw
theorem Qod(b:Nat)(l:List Value)(c:Int)(w:World)(h:Lib.IsBuilderF 236 5 b b l w)(hlen:l.length+1≤140737488355328)(hBw:b≤w.heap.size) :
  Calls Tryz.prog 330 #[.pointer (some ⟨b,0,none⟩),.int .u8 c] w fun e w'=>e = .returned .nilIface∧(Lib.BuilderAtF 236 5 b b (.pointer (some ⟨b,0,none⟩)) (l++[.int .u8 c]) w'∧Below b w w'∧Lib.OthersKept 5 (some b) w w'):=
 Any.Builder_WriteByte_k { Tryz.lays230 with } Tryz.Builder_Extra_230 b b l c w h hlen hBw
theorem Qoc(b:Nat)(l:List Value)(r:Nat)(hr:r<128)(w:World)(h:Lib.IsBuilderF 236 5 b b l w)(hlen:l.length+4≤140737488355328)(hBw:b≤w.heap.size) :
  Calls Tryz.prog 225 #[.pointer (some ⟨b,0,none⟩),.int .i32 (r:Int)] w fun e w'=>e = .returned (.tuple #[.int .i64 1,.nilIface])∧(Lib.BuilderAtF 236 5 b b (.pointer (some ⟨b,0,none⟩)) (l++[.int .u8 (r:Int)]) w'∧Below b w w'∧Lib.OthersKept 5 (some b) w w'):=by
 have h:=Any.Builder_WriteRune_k { Tryz.lays230 with } Tryz.Builder_Extra_230 b b l (r:Int) (by omega) (by omega) w h hlen hBw
 have e:Lib.runeCells (r:Int) = [.int .u8 (r:Int)]:=by unfold Lib.runeCells;rw [Lib.encodeRuneZ_one (by omega) (by omega)];rfl
 rw [e] at h;exact h
theorem Qwk(b:Nat)(l:List UInt8)(w:World)(h:Lib.IsBuilderF 236 5 b b (Lib.byteCells l) w)(hBw:b≤w.heap.size) :
  Calls Tryz.prog 130 #[.pointer (some ⟨b,0,none⟩)] w fun e w'=>e = .returned (.string (bs l))∧(Lib.IsBuilderF 236 5 b b (Lib.byteCells l) w'∧Below b w w'):=
 Any.Builder_String_any_f { Tryz.lays230 with } Tryz.Builder_Extra_230 b b l w h hBw
theorem Qzr(b:Nat)(p:Option Addr)(n cap:Nat)(w:World)(c1:w.cell? ⟨b,1,none⟩=some (.slice p n cap)) :
  Calls Tryz.prog 329 #[.pointer (some ⟨b,0,none⟩)] w fun e w'=>e = .returned (.int .i64 cap)∧w'=w:=
 Any.Builder_Cap_cell { Tryz.lays230 with } b p n cap w c1
theorem QtW(r:Nat)(hr:r<128)(w:World):Calls Tryz.prog 328 #[.int .i32 (r:Int)] w fun e w'=>e = .returned (.int .i64 1)∧w'=w:=by
 have h:=Any.utf8_RuneLen { Tryz.lays230 with } (r:Int) w
 have e:Lib.runeLen (r:Int)=1:=by unfold Lib.runeLen;rw [if_neg (by omega),if_pos (by omega)]
 rw [e] at h;exact h
theorem Qqd(s:ByteArray)(w:World)(c:Nat)(hs:s.size≤1000000)(QA6:∀ j (h:j<s.size),s[j].toNat<128)(hcw:c<w.heap.size)(Qao:w.heap[c]?=some (.cells #[.bool true] 4 (0,0))) :
  Calls Tryz.prog 310 #[.func (.func 318) #[] #[.pointer (some ⟨c,0,none⟩)],.string s] w fun e w'=>e = .returned (.string (bs (Qfi true s.data.toList)))∧Below c w w':=by
 have eg:∀ args w,(callFunc 318 args).run Tryz.prog w = .ok (.enter 318 args) w:=enters_of Tryz.func318 (by kernel_rfl) rfl
 obtain ⟨ANS,hANS⟩:∃ ANS,ANS=Qfi true s.data.toList:=⟨_,rfl⟩;have hlen:s.data.toList.length=s.size:=Qab s;rw [←hANS];have HASC:=hid QA6;clear QA6;go_enter Tryz.func310,Tryz.ntmps310;go_wp2;go_loopg [1] s.size (fun gk s1 wx=>s1 = .string s∧∃ (k:Nat) (b:Bool),wx.heap[w.heap.size]?=some (.cells #[.pointer none,.slice none 0 0] 236 (0,0))∧wx.heap[w.heap.size+1]?=some (.stringIter s k)∧AtT w c b wx∧
  s.data.toList.take k++Qfi b (s.data.toList.drop k)=ANS∧s.size≤k+gk∧k≤s.size)
 case atStart=>
  refine ⟨rfl,0,true,?_,?_,⟨?_,?_⟩,by rw [hANS];rfl,by omega,by omega⟩
  ·have h1:=heap_alloc_new w (.cells #[.pointer none,.slice none 0 0] 236)
   exact (Below.heap_alloc _ _ _ (by simp)).trans h1
  ·have:=World.iter_heap (w.alloc (.cells #[.pointer none,.slice none 0 0] 236)) s 0
   simpa using this
  ·exact (Below.heap_alloc _ _ _ (by simp;omega)).trans ((Below.heap_alloc _ _ _ (by omega)).trans Qao)
  ·exact ((Below.refl c w).alloc (by omega) _).alloc (by simp;omega) _
 case round=>
  obtain ⟨rfl,k,b,hfr,hit,hAt,hsp,hfu,hks⟩:=hrel
  by_cases hlt:k<s.size
  ·obtain ⟨g',rfl⟩:∃ g',gk=g'+1:=⟨gk-1,by omega⟩
   have hch:=HASC.out k hlt;have hdec:=Qgx s k hlt hch;have hnx:∀ ty,(Instr.next (.pointer (some ⟨w.heap.size+1,0,none⟩)) true ty).run Tryz.prog wr=_:=fun ty=>Lib.run_next_any_at wr (w.heap.size+1) s k ty hit hlt
   rw [hdec] at hnx;have hst:=Qk8 b s.data.toList k (by rw [hlen];exact hlt)
   change Qfi b (s.data.toList.drop k)=UInt8.ofNat (QgY b s[k].toNat) :: Qfi (stB s[k]) (s.data.toList.drop (k+1)) at hst;obtain ⟨ch,hchq⟩:∃ ch,ch=s[k]:=⟨_,rfl⟩;have htk:s.data.toList.take (k+1)=s.data.toList.take k++[ch]:=by
    rw [List.take_succ_eq_append_getElem (by rw [hlen];exact hlt),hchq];rfl
   rw [←hchq] at hst hch hnx;have QBo:=Lib.iterAt_heap wr (w.heap.size+1) s k (k+1) hit;have hfr2:(wr.iterAt (w.heap.size+1) s (k+1)).heap[w.heap.size]?=_:=(Lib.iterAt_other wr (w.heap.size+1) w.heap.size s (k+1) (by omega)).trans hfr
   have QBd:AtT w c b (wr.iterAt (w.heap.size+1) s (k+1)):=hAt.below (Lib.below_iterAt (Below.refl (w.heap.size+1) wr) (Nat.le_refl _) s (k+1)) (by omega)
   obtain ⟨W,hW⟩:∃ W,wr.iterAt (w.heap.size+1) s (k+1)=W:=⟨_,rfl⟩;rw [hW] at hnx QBo hfr2 QBd;have cS:=Qrs ch.toNat c b W QBd.1 hch;have QBx:AtT w c (stB ch) (W.setCell ⟨c,0,none⟩ (.bool (stB ch))):=QBd.set (stB ch);have QBY:(W.setCell ⟨c,0,none⟩ (.bool (stB ch))).heap[w.heap.size]?=_:=(QdE W c w.heap.size (.bool (stB ch)) (by omega)).trans hfr2
   have QBn:(W.setCell ⟨c,0,none⟩ (.bool (stB ch))).heap[w.heap.size+1]?=_:=(QdE W c (w.heap.size+1) (.bool (stB ch)) (by omega)).trans QBo
   have hn1:((ch.toNat:Int) != 65533)=true:=by rw [bne_iff_ne];omega
   have hn2:((ch.toNat:Int)==65533)=false:=by rw [beq_eq_false_iff_ne];omega
   have hn3:¬(ch.toNat:Int)=65533:=by omega
   have hM:=Qrv b ch.toNat hch;obtain ⟨M,hMq⟩:∃ M,M=QgY b ch.toNat:=⟨_,rfl⟩;rw [←hMq] at cS hst hM;obtain ⟨W3,hW3⟩:∃ W3,W3=W.setCell ⟨c,0,none⟩ (.bool (stB ch)):=⟨_,rfl⟩;change Calls _ _ _ _ fun e w'=>_∧w'=W.setCell ⟨c,0,none⟩ (.bool (stB ch)) at cS
   rw [←hW3] at cS QBx QBY QBn;clear hit hfr hAt hW QBd hfr2 QBo hMq hW3 hchq hdec
   by_cases hc:M=ch.toNat
   ·have HS:Hid (s.data.toList.take (k+1)++Qfi (stB ch) (s.data.toList.drop (k+1))=ANS):=hid (by
     rw [←hsp,hst,htk,hc,List.append_assoc];simp)
    subst hc;clear hst hsp htk;go_wp2_with (go_at_fn 318;go_must (refine cS.mono ?_;rintro e W' ⟨rfl,rfl⟩));go_roundg g'
    case measure=>omega
    case rel=>exact ⟨rfl,k+1,stB ch,QBY,QBn,QBx,HS.out,by omega,by omega⟩
   ·have HS:Hid ((s.data.toList.take k++[UInt8.ofNat M])++Qfi (stB ch) (s.data.toList.drop (k+1))=ANS):=hid (by
     rw [←hsp,hst,List.append_assoc];rfl)
    have t1:((M:Int)==(ch.toNat:Int))=false:=by rw [beq_eq_false_iff_ne];omega
    have hxs:(s.extract 0 k).size=k:=by rw [ByteArray.size_extract];omega
    have hxd:(s.extract 0 k).data.toList=s.data.toList.take k:=by rw [Qcw,Qaj,List.drop_zero]
    have hMch:¬(M:Int)=(ch.toNat:Int):=by omega
    clear hst hsp htk hc;go_wp2_with fail;refine cS.mono ?_;rintro e W' ⟨rfl,rfl⟩;go_wp2_with fail;refine (QtW ch.toNat hch _).mono ?_;rintro e W' ⟨rfl,rfl⟩;go_wp2_with fail;have QBH:w.heap.size≤W'.heap.size:=by have:=(gsi QBY).1;omega
    have cG:=Qzp w.heap.size (s.size+4) W' QBY QBH (by omega)
    rw [show ((s.size+4:Nat):Int)=(s.size:Int)+4 by omega] at cG
    refine cG.mono ?_;rintro e W4 ⟨rfl,⟨h4,b4⟩,p4,cap4,hc4,hcap4⟩;have hAt4:=QBx.below b4 hcw;have hsz4:w.heap.size≤W4.heap.size:=by have:=b4.size;omega
    clear cG QBY QBn QBx cS;go_wp2_with fail;refine (Qk2 w.heap.size [] (s.extract 0 k) W4 (Lib.IsBuilderF.of (Or.inr h4)) (by rw [hxs];simp;omega) hsz4).mono ?_
    rintro e W5 ⟨rfl,⟨h5,b5,-⟩,hk5⟩;obtain ⟨v5,hv5,QB1⟩:=hk5 _ hc4;have QB0:4≤v5.capOf:=by
     have:cap4≤v5.capOf:=QB1;omega
    have hAt5:=hAt4.below b5 hcw;have hsz5:w.heap.size≤W5.heap.size:=by have:=b5.size;omega
    clear hk5 hc4 h4 hAt4 b4 b5 hv5 QB1 QB0;go_wp2_with fail;refine (Qoc w.heap.size _ M hM W5 (Or.inr h5) (by simp [Lib.strCells_length,hxs];omega) hsz5).mono ?_
    rintro e W6 ⟨rfl,h6,b6,-⟩;have hAt6:=hAt5.below b6 hcw;have hsz6:w.heap.size≤W6.heap.size:=by have:=b6.size;omega
    have QA4 : []++Lib.strCells (s.extract 0 k)++[Value.int .u8 (M:Int)]=Lib.byteCells (s.data.toList.take k++[UInt8.ofNat M]):=by
     rw [List.nil_append,Lib.strCells_eq,hxd,Lib.byteCells_append]
     congr 1
     unfold Lib.byteCells;simp [UInt8.toNat_ofNat'];omega
    rw [QA4] at h6;obtain ⟨g6,n6,cap6,hc6,hcap6⟩:∃ g n cap,W6.cell? ⟨w.heap.size,1,none⟩=some (.slice (some ⟨g,0,none⟩) n cap)∧1≤cap:=by
     obtain ⟨_,v6,hv6,hown6,_⟩:=h6;rcases hown6.2 with ⟨_,h0⟩|⟨g6,cap6,_,_,rfl,_,_,_,hnc,_⟩
     ·exfalso
      simp [Lib.byteCells] at h0
     ·refine ⟨g6,_,cap6,by rw [Lib.cell_of_heap hv6];rfl,?_⟩
      have:1≤(Lib.byteCells (s.data.toList.take k++[UInt8.ofNat M])).length:=by rw [Lib.byteCells_length];simp
      omega
    have hcz:((cap6:Int)==0)=false:=by rw [beq_eq_false_iff_ne];omega
    have hBlt:w.heap.size<W6.heap.size:=h6.lt;clear h5 hAt5 hsz5 b6;go_wp2_with fail;refine (Qzr w.heap.size _ _ cap6 W6 hc6).mono ?_;rintro e W' ⟨rfl,rfl⟩;obtain ⟨s2,hs2⟩:∃ s2,s.extract (k+1) s.size=s2:=⟨_,rfl⟩;have hl2:s2.data.toList=s.data.toList.drop (k+1):=by rw [←hs2,Qcw,Qaj,←hlen,List.take_length]
    have hz2:s2.size=s.size-(k+1):=by rw [←Qab,hl2,List.length_drop,hlen]
    have HASC2:Hid (∀ j (h:j<s2.size),s2[j].toNat<128):=hid (fun j h=>by
     have:=HASC.out (k+1+j) (by omega)
     have e:s2[j]=s[k+1+j]:=by
      have:s2.data.toList[j]'(by rw [Qab];exact h)=s.data.toList[k+1+j]'(by rw [Qab];omega):=by
       simp only [hl2,List.getElem_drop]
      exact this
     rw [e];exact this)
    go_wp2_with fail;go_loopg [] s2.size (fun gk wx=>∃ (p:Nat) (acc:List UInt8) (st:Bool),Lib.IsBuilderF 236 5 w.heap.size w.heap.size (Lib.byteCells acc) wx∧wx.heap[W'.heap.size]?=some (.stringIter s2 p)∧AtT w c st wx∧
     acc++Qfi st (s2.data.toList.drop p)=ANS∧s2.size≤p+gk∧p≤s2.size∧acc.length≤k+1+p)
    case atStart=>
     refine ⟨0,s.data.toList.take k++[UInt8.ofNat M],stB ch,Lib.IsBuilderF.alloc (Or.inr h6) _,World.iter_heap W' s2 0,hAt6.below ((Below.refl W'.heap.size W').alloc (Nat.le_refl _) _) (by omega),?_,by omega,by omega,?_⟩
     ·rw [List.drop_zero,hl2];exact HS.out
     ·rw [List.length_append,List.length_take,hlen];simp;omega
    case round=>
     obtain ⟨p,acc,st,hI,hit,hAt,hacc,hfu2,hp2,hal⟩:=hrel;have hszI:W'.heap.size<wr.heap.size:=(gsi hit).1
     by_cases QAM:p<s2.size
     ·obtain ⟨g2,rfl⟩:∃ g2,gk=g2+1:=⟨gk-1,by omega⟩
      have hch2:=HASC2.out p QAM;have hnx:∀ ty,(Instr.next (.pointer (some ⟨W'.heap.size,0,none⟩)) true ty).run Tryz.prog wr=_:=fun ty=>Lib.run_next_any_at wr W'.heap.size s2 p ty hit QAM
      rw [Qgx s2 p QAM hch2] at hnx;have hst:=Qk8 st s2.data.toList p (by rw [Qab];exact QAM)
      change Qfi st (s2.data.toList.drop p)=UInt8.ofNat (QgY st s2[p].toNat) :: Qfi (stB s2[p]) (s2.data.toList.drop (p+1)) at hst;obtain ⟨d,hd⟩:∃ d,d=s2[p]:=⟨_,rfl⟩;rw [←hd] at hst hch2 hnx;have hI2:=hI.iterAt hit (p+1);have QBo:=Lib.iterAt_heap wr W'.heap.size s2 p (p+1) hit;have QBd:AtT w c st (wr.iterAt W'.heap.size s2 (p+1)):=hAt.below (Lib.below_iterAt (Below.refl W'.heap.size wr) (Nat.le_refl _) s2 (p+1)) (by omega)
      obtain ⟨Wa,hWa⟩:∃ Wa,wr.iterAt W'.heap.size s2 (p+1)=Wa:=⟨_,rfl⟩;rw [hWa] at hnx hI2 QBo QBd;have cS:=Qrs d.toNat c st Wa QBd.1 hch2;change Calls _ _ _ _ fun e w'=>_∧w'=Wa.setCell ⟨c,0,none⟩ (.bool (stB d)) at cS
      have QBx:=QBd.set (stB d);have QBn:(Wa.setCell ⟨c,0,none⟩ (.bool (stB d))).heap[W'.heap.size]?=_:=(QdE Wa c W'.heap.size (.bool (stB d)) (by omega)).trans QBo
      have hI3:=Qib hI2 hcw (.bool (stB d));have hN:=Qrv st d.toNat hch2;obtain ⟨N,hNq⟩:∃ N,N=QgY st d.toNat:=⟨_,rfl⟩;rw [←hNq] at cS hst hN;have HS2:Hid ((acc++[UInt8.ofNat N])++Qfi (stB d) (s2.data.toList.drop (p+1))=ANS):=hid (by
       rw [←hacc,hst,List.append_assoc];rfl)
      obtain ⟨W3,hW3⟩:∃ W3,W3=Wa.setCell ⟨c,0,none⟩ (.bool (stB d)):=⟨_,rfl⟩;rw [←hW3] at cS QBx QBn hI3;have QBH:W'.heap.size<W3.heap.size:=(gsi QBn).1;have n0:(0:Int)≤(N:Int):=by omega
      clear hd hI hit hAt hI2 QBo QBd hWa hNq hW3 hst hacc;go_wp2_with fail;refine cS.mono ?_;rintro e W7 ⟨rfl,rfl⟩;go_wp2_with fail;refine (Qod w.heap.size _ (N:Int) W7 hI3 (by rw [Lib.byteCells_length];omega) (by omega)).mono ?_
      rintro e W8 ⟨rfl,h8,b8,k8⟩;go_wp2_with fail;go_roundg g2
      case measure=>omega
      case rel=>
       refine ⟨p+1,acc++[UInt8.ofNat N],stB d,Or.inr ?_,k8.iter QBn (by omega),QBx.below b8 hcw,HS2.out,by omega,by omega,by rw [List.length_append];simp;omega⟩
       rw [Lib.byteCells_append];have e1:Lib.byteCells [UInt8.ofNat N] = [Value.int .u8 (N:Int)]:=by
        unfold Lib.byteCells;simp [UInt8.toNat_ofNat'];omega
       rw [e1];exact h8
     ·obtain rfl:p=s2.size:=by omega
      have hnx:∀ ty,(Instr.next (.pointer (some ⟨W'.heap.size,0,none⟩)) true ty).run Tryz.prog wr=_:=fun ty=>Lib.run_next_end_at wr W'.heap.size s2 s2.size ty hit QAM
      have HS2:Hid (acc=ANS):=hid (by rw [←hacc,←Qab s2,List.drop_length];exact (List.append_nil _).symm)
      clear hacc hit;go_wp2_with fail;refine (Qwk w.heap.size acc wr hI (by omega)).mono ?_
      rintro e W8 ⟨rfl,_,b8⟩;go_wp2_with fail;go_ret;exact ⟨QdF (by rw [HS2.out]),(hAt.below b8 hcw).2⟩
  ·obtain rfl:k=s.size:=by omega
   have hnx:∀ ty,(Instr.next (.pointer (some ⟨w.heap.size+1,0,none⟩)) true ty).run Tryz.prog wr=_:=fun ty=>Lib.run_next_end_at wr (w.heap.size+1) s s.size ty hit hlt
   have cC:Calls Tryz.prog 329 #[.pointer (some ⟨w.heap.size,0,none⟩)] wr fun e w'=>e = .returned (.int .i64 0)∧w'=wr:=Qzr w.heap.size none 0 0 wr (by rw [Lib.cell_of_heap hfr];rfl)
   have HS:Hid (s=bs ANS):=hid (by rw [←hsp,←hlen,List.drop_length,List.take_length];show s=bs (_++[]);rw [List.append_nil,Qcx])
   clear hsp;clear hit hfr;go_wp2_with fail;refine cC.mono ?_;rintro e W' ⟨rfl,rfl⟩;go_wp2_with fail;go_ret;exact ⟨QdF HS.out,hAt.2⟩
end
section
open Go.RowKit
theorem QkT(s:ByteArray)(w:World)(hs:s.size≤1000000)(QA6:∀ j (h:j<s.size),s[j].toNat<128) :
  Calls Tryz.prog 293 #[.string s] w fun e w'=>e = .returned (.string (bs (Qfi true s.data.toList)))∧Below w.heap.size w w':=by
 have HM:=hid (fun w c=>Qqd s w c hs QA6)
 obtain ⟨A,hA⟩:∃ A,A=bs (Qfi true s.data.toList):=⟨_,rfl⟩;rw [←hA] at HM ⊢;clear QA6 hA;go_enter Tryz.func293,Tryz.ntmps293;go_wp2_with fail;refine (HM.out _ w.heap.size (Qt4 _ _ _) (heap_alloc_new w _)).mono ?_;rintro e w1 ⟨rfl,hb⟩;go_wp2_with fail;go_ret;exact ⟨rfl,(QiB w _ _).trans hb⟩
def Qd1(c:Nat):Nat:=if 65≤c∧c≤90 then c+32 else c
theorem Qma(c:Nat)(w:World)(hc:c≤1114111):Calls Tryz.prog 311 #[.int .i32 (c:Int)] w fun e w'=>e = .returned (.int .i32 (Qd1 c:Nat))∧w'=w:=by
 by_cases h1:c<65
 ·have H:Hid (Qd1 c=c):=hid (if_neg (by omega))
  have t:decide ((c:Int)≥65)=false:=by simp;omega
  go_enter Tryz.func311,Tryz.ntmps311;go_wp2_with fail;go_ret;exact ⟨by rw [H.out];rfl,rfl⟩
 ·by_cases h2:90<c
  ·have H:Hid (Qd1 c=c):=hid (if_neg (by omega))
   have t:decide ((c:Int)≤90)=false:=by simp;omega
   go_enter Tryz.func311,Tryz.ntmps311;go_wp2_with fail;go_ret;exact ⟨by rw [H.out];rfl,rfl⟩
  ·have H:Hid (Qd1 c=c+32):=hid (if_pos (by omega))
   have t:decide ((c:Int)≤90)=true:=by simp;omega
   have h3:65≤c:=by omega
   go_enter Tryz.func311,Tryz.ntmps311;go_wp2_with fail;go_ret;refine ⟨QbE ?_,rfl⟩;rw [H.out];omega
def Qtp(c:UInt8):Bool:=c==32||c==9
end
section
open Go.RowKit
theorem Qny(n:Nat):(97≤n∧n≤122∧QaV n=true)∨(48≤n∧n≤57∧QaV n=true)∨(n=45∧QaV n=true)∨(n<48∧n≠45∧QaV n=false)∨(57<n∧n<97∧QaV n=false)∨(122<n∧QaV n=false):=by
 unfold QaV QiM Qes;simp only [Bool.or_eq_true,Bool.and_eq_true,decide_eq_true_eq,beq_iff_eq,Bool.or_eq_false_iff,Bool.and_eq_false_iff,decide_eq_false_iff_not,beq_eq_false_iff_ne];omega
end
section
open Go.RowKit
def Qd2(c:UInt8):UInt8:=UInt8.ofNat (Qd1 c.toNat)
def Qaq(l:List UInt8):List UInt8:=l.takeWhile (fun c=>c != 58)
def Qih:List UInt8:=[32,9]
def QbM(l:List UInt8):List UInt8:=(Qaq l).map Qd2
def QdK(l:List UInt8):List UInt8:=Go.Lib.trimS (l.drop ((Qaq l).length+1)) Qih
def Qa1(l:List UInt8):Bool:=l.all (fun c=>Qaz c.toNat)
def Qcp(l:List UInt8):Bool:=Qa1 l&&decide ((Qaq l).length<l.length)&&QdO (QbM l)
def Qa8(l:List UInt8):List UInt8:=if Qcp l=true then QbM l else []
def Qa7(l:List UInt8):List UInt8:=if Qcp l=true then QdK l else []
def Qa9(l:List UInt8):Nat:=if Qcp l=true then 0 else 4
theorem Qpo(l:List UInt8):(Qaq l).length≤l.length:=(List.takeWhile_prefix _).length_le
theorem Qre(l:List UInt8):l.take (Qaq l).length=Qaq l:=(List.prefix_iff_eq_take.1 (List.takeWhile_prefix _)).symm
theorem QxV(l:List UInt8):Go.Lib.index l [58]=if (Qaq l).length<l.length then ((Qaq l).length:Int) else -1:=by
 induction l with
 |nil=>rfl
 |cons c t ih=>
  unfold Go.Lib.index
  by_cases hc:c=58
  ·subst hc
   have:Qaq (58 :: t) = []:=by unfold Qaq;rw [List.takeWhile_cons_of_neg (by decide)]
   rw [this,if_pos (by simp [List.isPrefixOf]),if_pos (by simp)];rfl
  ·have ha:Qaq (c :: t)=c :: Qaq t:=by unfold Qaq;rw [List.takeWhile_cons_of_pos (by simpa using hc)]
   rw [if_neg (by simp [List.isPrefixOf];exact fun h=>hc h.symm),ih,ha]
   by_cases hlt:(Qaq t).length<t.length
   ·rw [if_pos hlt,if_neg (by rw [beq_iff_eq];omega),if_pos (by simp;omega)];simp
   ·rw [if_neg hlt,if_pos (by decide),if_neg (by simp;omega)]
theorem Qzj(l:List UInt8):Go.Lib.cut l [58]=if (Qaq l).length<l.length then (Qaq l,l.drop ((Qaq l).length+1),true) else (l,[],false):=by
 unfold Go.Lib.cut;rw [QxV]
 by_cases hlt:(Qaq l).length<l.length
 ·rw [if_pos hlt,if_pos (by omega),if_pos hlt,Int.toNat_natCast,Qre];rfl
 ·rw [if_neg hlt,if_neg (by decide),if_neg hlt]
theorem QrF(c:Nat)(h:c<128):Qd1 c<128:=by
 unfold Qd1;split<;>omega
theorem Qqe(l:List UInt8)(f:Int→Int)(hf:∀ x:Nat,x<128→f x=(Qd1 x:Nat)):∀ h:(∀ c∈l,c.toNat<128),Go.Lib.mapD f l=l.map Qd2:=by
 induction l with
 |nil=>intro _;rfl
 |cons c t ih=>
  intro h;have hc:c.toNat<128:=h c (List.mem_cons_self ..);have hs:=QrF _ hc;rw [Go.Lib.mapD_step f _ (by simp),Go.Lib.decodeL_ascii c t hc,hf _ hc,if_pos (by omega)]
  have e:Go.Lib.encodeRune ((Qd1 c.toNat:Nat):Int) = [Qd2 c]:=by
   unfold Go.Lib.encodeRune;rw [Go.Lib.encodeRuneZ_one (by omega) (by omega)]
   rfl
  rw [e];show Qd2 c :: Go.Lib.mapD f t=_;rw [ih (fun d hd=>h d (List.mem_cons_of_mem _ hd))];rfl
theorem Qsd(n:Nat)(h:Qaz n=true):n<128:=by
 unfold Qaz at h;simp only [Bool.or_eq_true,beq_iff_eq,Bool.and_eq_true,decide_eq_true_eq] at h;omega
theorem Qno(l:List UInt8)(h:Qa1 l=true):∀ c∈l,c.toNat<128:=fun c hc=>Qsd _ (List.all_eq_true.1 h c hc)
theorem Qua(l:List UInt8)(c:UInt8)(h:c∈Qaq l):c∈l:=(List.takeWhile_subset _) h
end
section
open Go.RowKit
theorem Qzq(s:ByteArray)(w:World)(hs:s.size≤1000000)(hE:EnvW w)(A V:ByteArray)(B:Bool)
  (h:Go.Lib.cut s.data.toList [58]=(A.data.toList,V.data.toList,B)) :
  Calls Tryz.prog 246 #[.string s,.string ⟨#[58]⟩] w fun e w'=>e = .returned (.tuple #[.string A,.string V,.bool B])∧Below w.heap.size w w':=by
 obtain ⟨m,hm⟩:=hE.m;have hc:=Tryz.strings_Cut s ⟨#[58]⟩ m w (by omega) hm
 refine hc.mono ?_;rintro e w' ⟨rfl,n,rfl⟩;refine ⟨?_,(fun n=>by induction n with|zero=>exact Below.refl _ _|succ n ih=>exact ih.drew:∀ n,Below w.heap.size w (w.drewN n)) n⟩
 have h2:Go.Lib.cut s.data.toList (ByteArray.mk #[58]).data.toList=(A.data.toList,V.data.toList,B):=h;rw [h2]
theorem Qq0(s:ByteArray)(w:World)(hs:s.size≤1000000)(hE:EnvW w)(QA6:∀ c∈s.data.toList,c.toNat<128) :
  Calls Tryz.prog 310 #[.func (.func 311) #[] #[],.string s] w fun e w'=>e = .returned (.string (bs (s.data.toList.map Qd2)))∧Below w.heap.size w w':=by
 have h:=Tryz.strings_Map_grows 311 #[] (enters_of Tryz.func311 (by kernel_rfl) rfl) (fun x=>(Qd1 x.toNat:Nat)) s w (by omega)
  (fun W x hx _=>(Qma x W hx).mono fun e w' ⟨he,hw⟩=>⟨he,hw ▸ Below.refl _ _⟩)
  (fun x hx=>by unfold Qd1;rw [Int.toNat_natCast];split<;>constructor<;>omega) hE.tabs
 rw [Qqe s.data.toList _ (fun x hx=>by rw [Int.toNat_natCast]) QA6] at h
 exact h
theorem QwM(s:ByteArray)(w:World)(hs:s.size≤1000000) :
  Calls Tryz.prog 199 #[.string s,.string ⟨#[32,9]⟩] w fun e w'=>e = .returned (.string (bs (Go.Lib.trimS s.data.toList Qih)))∧Below w.heap.size w w':=
 Any.strings_Trim_laid Tryz.lays160 (by kernel_rfl) s ⟨#[32,9]⟩ w (by omega) (by decide) (Go.Proofs.ascii_of_all (by decide))
structure Two(w:World)(b:Nat)(x y:Value):Prop where
 c0:w.cell? ⟨b,0,none⟩=some x
 c1:w.cell? ⟨b,1,none⟩=some y
 f0:w.frozen? ⟨b,0,none⟩=false
 f1:w.frozen? ⟨b,1,none⟩=false
theorem Qb9{w:World}{b:Nat}{x y:Value}{t:TypeId}(h:w.heap[b]?=some (.cells #[x,y] t (0,0))):Two w b x y:=
 ⟨by unfold World.cell?;rw [h];rfl,by unfold World.cell?;rw [h];rfl,by unfold World.frozen?;rw [h];rfl,by unfold World.frozen?;rw [h];rfl⟩
theorem QaW{w w1:World}{x y:Value}{t:TypeId}(hb:Below (w.alloc (.cells #[x,y] t)).heap.size (w.alloc (.cells #[x,y] t)) w1):w1.heap[w.heap.size]?=some (.cells #[x,y] t (0,0)):=
 (hb.block _ (by simp)).trans (heap_alloc_new w _)
theorem QbG{fn:Func}{R:Ending→World→Prop}{a:Act}{w:World}{b:Nat}{x y E:Value}{p u:Tmp}{ty:TypeId}(QAH:fn.results=#[.cell p ty,.tmp u])
  (QAy:(loadVar ty ⟨b,0,none⟩).run Tryz.prog w = .ok (.agg #[x,y]) w)
  (hp:a.tmps.getD p undef = .pointer (some ⟨b,0,none⟩)) (hE:a.tmps.getD u undef=E) (QAN:a.defers = [])
  (hR:R (.returned (.tuple #[.agg #[x,y],E])) w):bodyPost Tryz.prog fn R .ret a w:=by
 refine bodyPost_ret_by (v:=.tuple #[.agg #[x,y],E]) ?_ QAN hR;rw [results_cell_tmp QAH,hp,hE];simp [asAddr,QAy,Result.andThen]
theorem Qhe(w:World)(b:Nat)(t:TypeId)(x y:Value)(h:w.heap[b]?=some (.cells #[x,y] t (0,0))):(loadVar 379 ⟨b,0,none⟩).run Tryz.prog w = .ok (.agg #[x,y]) w:=
 run_loadVar_row w b t 379 #[x,y] (0,0) _ h Tryz.underlying379 rfl (by kernel_rfl)
theorem Qbf{w:World}{b:Nat}{x y:Value}{t:TypeId}(h:w.heap[b]?=some (.cells #[x,y] t (0,0)))(x' y':Value) :
  ((w.setCell ⟨b,0,none⟩ x').setCell ⟨b,1,none⟩ y').heap[b]?=some (.cells #[x',y'] t (0,0)):=by
 simp [World.setCell,Array.getElem?_modify,h]
theorem QaO{B:Nat}{w0 w:World}(h:Below B w0 w)(b:Nat)(hB:B≤b)(x' y':Value):Below B w0 ((w.setCell ⟨b,0,none⟩ x').setCell ⟨b,1,none⟩ y'):=
 (h.setCell (p:=⟨b,0,none⟩) hB _).setCell (p:=⟨b,1,none⟩) hB _
theorem QkU(s:ByteArray)(w:World)(hs:s.size≤1000000)(hE:EnvW w) :
  Calls Tryz.prog 281 #[.string s] w fun e w'=>e = .returned (.tuple #[.agg #[.string (bs (Qa8 s.data.toList)),.string (bs (Qa7 s.data.toList))],.int .i64 (Qa9 s.data.toList)])∧Below w.heap.size w w':=by
 have HE:=hid hE;clear hE
 by_cases QBf:(Qaq s.data.toList).length<s.data.toList.length
 ·have hcut:=Qzj s.data.toList
  rw [if_pos QBf] at hcut;obtain ⟨A,hA⟩:∃ A,A=bs (Qaq s.data.toList):=⟨_,rfl⟩;obtain ⟨V,hV⟩:∃ V,V=bs (s.data.toList.drop ((Qaq s.data.toList).length+1)):=⟨_,rfl⟩;have HC:=hid (fun w hE=>Qzq s w hs hE A V true (by rw [hcut,hA,hV,Qaj,Qaj]))
  have hsl:=Qab s;have hAl:A.size≤1000000:=by rw [hA,QaC];have:=Qpo s.data.toList;omega
  have hVl:V.size≤1000000:=by rw [hV,QaC,List.length_drop];omega
  cases hpl:Qa1 s.data.toList with
  |false=>
   have HP:Hid (Qa8 s.data.toList = []∧Qa7 s.data.toList = []∧Qa9 s.data.toList=4):=hid (by
    have:Qcp s.data.toList=false:=by unfold Qcp;rw [hpl];rfl
    unfold Qa8 Qa7 Qa9;rw [this];exact ⟨rfl,rfl,rfl⟩)
   have hfp:=fun w=>Qeq s w (by omega)
   rw [show (s.data.toList.all (fun c=>Qaz c.toNat))=false from hpl] at hfp
   have HFP:=hid hfp;clear QBf hcut hpl hfp hsl hA hV hAl hVl;go_enter Tryz.func281,Tryz.ntmps281;go_wp2_with fail;refine (HC.out _ (HE.out.below ((Below.refl _ _).alloc (Nat.le_refl _) _))).mono ?_;rintro e w1 ⟨rfl,hb1⟩;obtain ⟨k0,k1,f0,f1⟩:=Qb9 (QaW hb1);go_wp2_with (go_at_call 291;refine (HFP.out _).mono ?_;rintro e w' ⟨rfl,rfl⟩);refine QbG (b:=w.heap.size) (x:=.string ⟨#[]⟩) (y:=.string ⟨#[]⟩) rfl (Qhe _ _ _ _ _ (Qbf (QaW hb1) _ _)) rfl rfl rfl ?_;refine ⟨?_,QaO (((Below.refl _ _).alloc (Nat.le_refl _) _).trans (hb1.mono (by simp))) _ (Nat.le_refl _) _ _⟩
   rw [HP.out.1,HP.out.2.1,HP.out.2.2];rfl
  |true=>
   have hfp:=fun w=>Qeq s w (by omega)
   rw [show (s.data.toList.all (fun c=>Qaz c.toNat))=true from hpl] at hfp
   have HFP:=hid hfp;have QA6:∀ c∈A.data.toList,c.toNat<128:=by
    rw [hA,Qaj];intro c hc;exact Qno _ hpl c (Qua _ c hc)
   have hms:=fun w hE=>Qq0 A w hAl hE QA6
   rw [show A.data.toList.map Qd2=QbM s.data.toList by rw [hA,Qaj];rfl] at hms
   have HMS:=hid hms;have HFN:=hid (fun w=>Qii (bs (QbM s.data.toList)) w)
   have HT:=hid (fun w=>QwM V w hVl)
   have hvv:bs (Go.Lib.trimS V.data.toList Qih)=bs (QdK s.data.toList):=by rw [hV,Qaj];rfl
   rw [hvv] at HT;rw [Qaj] at HFN;cases hnm:QdO (QbM s.data.toList) with
   |false=>
    have HP:Hid (Qa8 s.data.toList = []∧Qa7 s.data.toList = []∧Qa9 s.data.toList=4):=hid (by
     have:Qcp s.data.toList=false:=by unfold Qcp;rw [hnm,Bool.and_false]
     unfold Qa8 Qa7 Qa9;rw [this];exact ⟨rfl,rfl,rfl⟩)
    rw [hnm] at HFN;obtain ⟨N,hN⟩:∃ N,N=bs (QbM s.data.toList):=⟨_,rfl⟩;rw [←hN] at HMS HFN;clear QBf hcut hpl hfp hsl hA hV hAl hVl QA6 hms hvv hnm hN HT;go_enter Tryz.func281,Tryz.ntmps281;go_wp2_with fail;refine (HC.out _ (HE.out.below ((Below.refl _ _).alloc (Nat.le_refl _) _))).mono ?_;rintro e w1 ⟨rfl,hb1⟩;have HE1:=hid ((HE.out.below ((Below.refl _ _).alloc (Nat.le_refl _) _)).below hb1);go_wp2_with (go_at_call 291;refine (HFP.out _).mono ?_;rintro e w' ⟨rfl,rfl⟩);refine (HMS.out _ HE1.out).mono ?_;rintro e w2 ⟨rfl,hb2⟩;go_wp2_with fail;refine (HFN.out _).mono ?_;rintro e w3 ⟨rfl,hb3⟩;have QAV:=Qaa hb1 (Qaa hb2 hb3);clear hb1 hb2 hb3;obtain ⟨k0,k1,f0,f1⟩:=Qb9 (QaW QAV);go_wp2_with fail;refine QbG (b:=w.heap.size) (x:=.string ⟨#[]⟩) (y:=.string ⟨#[]⟩) rfl (Qhe _ _ _ _ _ (Qbf (QaW QAV) _ _)) rfl rfl rfl ?_;refine ⟨?_,QaO (((Below.refl _ _).alloc (Nat.le_refl _) _).trans (QAV.mono (by simp))) _ (Nat.le_refl _) _ _⟩
    rw [HP.out.1,HP.out.2.1,HP.out.2.2];rfl
   |true=>
    have HP:Hid (Qa8 s.data.toList=QbM s.data.toList∧Qa7 s.data.toList=QdK s.data.toList∧Qa9 s.data.toList=0):=hid (by
     have:Qcp s.data.toList=true:=by unfold Qcp;rw [hnm,hpl,decide_eq_true QBf];rfl
     unfold Qa8 Qa7 Qa9;rw [this];exact ⟨rfl,rfl,rfl⟩)
    rw [hnm] at HFN;obtain ⟨N,hN⟩:∃ N,N=bs (QbM s.data.toList):=⟨_,rfl⟩;obtain ⟨T,hT⟩:∃ T,T=bs (QdK s.data.toList):=⟨_,rfl⟩;rw [←hN] at HMS HFN;rw [←hT] at HT;have HNT:=hid (And.intro hN hT);clear QBf hcut hpl hfp hsl hA hV hAl hVl QA6 hms hvv hnm hN hT;go_enter Tryz.func281,Tryz.ntmps281;go_wp2_with fail;refine (HC.out _ (HE.out.below ((Below.refl _ _).alloc (Nat.le_refl _) _))).mono ?_;rintro e w1 ⟨rfl,hb1⟩;have HE1:=hid ((HE.out.below ((Below.refl _ _).alloc (Nat.le_refl _) _)).below hb1);go_wp2_with (go_at_call 291;refine (HFP.out _).mono ?_;rintro e w' ⟨rfl,rfl⟩);refine (HMS.out _ HE1.out).mono ?_;rintro e w2 ⟨rfl,hb2⟩;go_wp2_with fail;refine (HFN.out _).mono ?_;rintro e w3 ⟨rfl,hb3⟩;go_wp2_with fail;refine (HT.out _).mono ?_;rintro e w4 ⟨rfl,hb4⟩;have QAV:=Qaa hb1 (Qaa hb2 (Qaa hb3 hb4));clear hb1 hb2 hb3 hb4;obtain ⟨k0,k1,f0,f1⟩:=Qb9 (QaW QAV);go_wp2_with fail;refine QbG (b:=w.heap.size) (x:=.string N) (y:=.string T) rfl (Qhe _ _ _ _ _ (Qbf (QaW QAV) _ _)) rfl rfl rfl ?_;refine ⟨?_,QaO (((Below.refl _ _).alloc (Nat.le_refl _) _).trans (QAV.mono (by simp))) _ (Nat.le_refl _) _ _⟩
    rw [HP.out.1,HP.out.2.1,HP.out.2.2,←HNT.out.1,←HNT.out.2];rfl
 ·have hcut:=Qzj s.data.toList
  rw [if_neg QBf] at hcut;have HC:=hid (fun w hE=>Qzq s w hs hE s ⟨#[]⟩ false hcut)
  have HP:Hid (Qa8 s.data.toList = []∧Qa7 s.data.toList = []∧Qa9 s.data.toList=4):=hid (by
   have:Qcp s.data.toList=false:=by unfold Qcp;rw [decide_eq_false QBf,Bool.and_false,Bool.false_and]
   unfold Qa8 Qa7 Qa9;rw [this];exact ⟨rfl,rfl,rfl⟩)
  clear QBf hcut;go_enter Tryz.func281,Tryz.ntmps281;go_wp2_with fail;refine (HC.out _ (HE.out.below ((Below.refl _ _).alloc (Nat.le_refl _) _))).mono ?_;rintro e w1 ⟨rfl,hb1⟩;obtain ⟨k0,k1,f0,f1⟩:=Qb9 (QaW hb1);go_wp2_with fail;refine QbG (b:=w.heap.size) (x:=.string ⟨#[]⟩) (y:=.string ⟨#[]⟩) rfl (Qhe _ _ _ _ _ (Qbf (QaW hb1) _ _)) rfl rfl rfl ?_;refine ⟨?_,QaO (((Below.refl _ _).alloc (Nat.le_refl _) _).trans (hb1.mono (by simp))) _ (Nat.le_refl _) _ _⟩
  rw [HP.out.1,HP.out.2.1,HP.out.2.2];rfl
theorem QgS(s:ByteArray)(w:World)(hs:s.size≤1000000)(hE:EnvF w) :
  Calls Tryz.prog 281 #[.string s] w fun e w'=>e = .returned (.tuple #[.agg #[.string (bs (Qa8 s.data.toList)),.string (bs (Qa7 s.data.toList))],.int .i64 (Qa9 s.data.toList)])∧Below w.heap.size w w':=QkU s w hs hE.weak
end
section
open Go.RowKit
def HoldsF(w:World)(v:Value)(fs:List (List UInt8×List UInt8)):Prop:=
 ∃ a c,v = .slice a fs.length c∧fs.length≤c∧(fs≠[]→∃ b o,a=some ⟨b,o,none⟩∧b<w.heap.size∧∀ j (hj:j<fs.length),w.cell? ⟨b,o+j*2,none⟩=some (.string (bs fs[j].1))∧w.cell? ⟨b,o+j*2+1,none⟩=some (.string (bs fs[j].2)))
theorem HoldsF.below{w w':World}{v:Value}{fs:List (List UInt8×List UInt8)}(h:HoldsF w v fs)(hb:Below w.heap.size w w'):HoldsF w' v fs:=by
 obtain ⟨a,c,hv,hc,hx⟩:=h;refine ⟨a,c,hv,hc,fun hne=>?_⟩
 obtain ⟨b,o,ha,hlt,Qao⟩:=hx hne;exact ⟨b,o,ha,Nat.lt_of_lt_of_le hlt hb.size,fun j hj=>⟨(hb.cell (p:=⟨b,o+j*2,none⟩) hlt).trans (Qao j hj).1,(hb.cell (p:=⟨b,o+j*2+1,none⟩) hlt).trans (Qao j hj).2⟩⟩
theorem HoldsF.nil(w:World)(a:Option Addr)(c:Nat):HoldsF w (.slice a 0 c) []:=⟨a,c,rfl,Nat.zero_le _,fun h=>absurd rfl h⟩
def Qau:List (List UInt8×List UInt8)→List Value
 |[]=>[]
 |f :: t=>.string (bs f.1) :: .string (bs f.2) :: Qau t
theorem Qbt(fs:List (List UInt8×List UInt8)):(Qau fs).length=fs.length*2:=by
 induction fs with
 |nil=>rfl
 |cons f t ih=>show (Qau t).length+1+1=(t.length+1)*2;omega
theorem QcU(fs:List (List UInt8×List UInt8))(j:Nat)(hj:j<fs.length):(Qau fs)[j*2]?=some (.string (bs fs[j].1))∧(Qau fs)[j*2+1]?=some (.string (bs fs[j].2)):=by
 induction fs generalizing j with
 |nil=>exact absurd hj (Nat.not_lt_zero _)
 |cons f t ih=>
  cases j with
  |zero=>exact ⟨rfl,rfl⟩
  |succ j=>
   have:=ih j (by simp at hj;omega)
   rw [show (j+1)*2=j*2+1+1 by omega]
   exact this
theorem QfO(a b:List (List UInt8×List UInt8)):Qau (a++b)=Qau a++Qau b:=by
 induction a with
 |nil=>rfl
 |cons f t ih=>show _ :: _ :: Qau (t++b)=_;rw [ih];rfl
theorem HoldsF.of_own{w:World}{base n:Nat}{e:TypeId}{v:Value}{fs:List (List UInt8×List UInt8)}(h:w.ownsRow base e 2 v n (Qau fs)):HoldsF w v fs:=by
 have hn:fs.length=n:=by have:=h.1;rw [Qbt] at this;omega
 subst hn;rcases h.2 with ⟨rfl,h0⟩|⟨g,cap,cur,rfl,hb,hg,hle,hm,hs,ht⟩
 ·have:fs = []:=List.eq_nil_of_length_eq_zero h0
  subst this;exact HoldsF.nil w none 0
 ·refine ⟨_,cap,rfl,hle,fun _=>⟨g,0,rfl,(gsi hg).1,fun j hj=>?_⟩⟩
  have h1:=h.cells (g:=g) rfl (j*2) _ (QcU fs j hj).1;have h2:=h.cells (g:=g) rfl (j*2+1) _ (QcU fs j hj).2;have e0:∀ k,(⟨g,0,none⟩:Addr).add k=⟨g,0+k,none⟩:=fun k=>by unfold Addr.add;split<;>simp_all
  rw [e0] at h1 h2;exact ⟨h1,h2⟩
def QfH(fs:List (List UInt8×List UInt8))(n:List UInt8):List (List UInt8):=(fs.filter (fun f=>f.1==n)).map (·.2)
def Qc8(fs:List (List UInt8×List UInt8))(n:List UInt8):Nat:=match QfH fs n with|[]=>6|[_]=>0|_=>22
def QbC(fs:List (List UInt8×List UInt8))(n:List UInt8):List UInt8:=match QfH fs n with|[v]=>v|_=>[]
theorem QlZ(fs:List (List UInt8×List UInt8))(n:List UInt8)(k:Nat)(h:k<fs.length):QfH (fs.take (k+1)) n=QfH (fs.take k) n++(if fs[k].1=n then [fs[k].2] else []):=by
 unfold QfH;rw [List.take_succ_eq_append_getElem h,List.filter_append,List.map_append]
 congr 1
 by_cases e:fs[k].1=n
 ·rw [if_pos e];simp [e]
 ·rw [if_neg e];simp [e]
theorem QnS(fs:List (List UInt8×List UInt8))(n:List UInt8)(k:Nat):∃ t,QfH fs n=QfH (fs.take k) n++t:=by
 refine ⟨QfH (fs.drop k) n,?_⟩;unfold QfH;rw [←List.map_append,←List.filter_append,List.take_append_drop]
def Quh(fs:List (List UInt8×List UInt8))(n:List UInt8)(k:Nat)(x e:Value):Prop:=
 (QfH (fs.take k) n = []∧x = .string ⟨#[]⟩∧e = .int .i64 6)∨∃ v,QfH (fs.take k) n = [v]∧x = .string (bs v)∧e = .int .i64 0
theorem Qx4(fs:List (List UInt8×List UInt8))(n:List UInt8)(k:Nat)(hk:fs.length≤k)(x e:Value)(h:Quh fs n k x e):x = .string (bs (QbC fs n))∧e = .int .i64 (Qc8 fs n):=by
 have ht:fs.take k=fs:=List.take_of_length_le hk;unfold Quh at h;rw [ht] at h;unfold QbC Qc8;rcases h with ⟨h,hx,he⟩|⟨v,h,hx,he⟩
 ·rw [h];exact ⟨hx,he⟩
 ·rw [h];exact ⟨hx,he⟩
theorem Qtn(fs:List (List UInt8×List UInt8))(n:List UInt8)(k:Nat)(hk:k<fs.length)(v:List UInt8)(h:QfH (fs.take k) n = [v])(hn:fs[k].1=n):QbC fs n = []∧Qc8 fs n=22:=by
 obtain ⟨t,ht⟩:=QnS fs n (k+1);rw [QlZ fs n k hk,h,if_pos hn] at ht;unfold QbC Qc8;rw [ht];exact ⟨rfl,rfl⟩
theorem QrV{x y x' y':Value}(h:x=x')(h2:y=y'):Ending.returned (.tuple #[x,y]) = .returned (.tuple #[x',y']):=by rw [h,h2]
theorem QjF(v:Value)(fs:List (List UInt8×List UInt8))(n:ByteArray)(w:World)(hv:HoldsF w v fs)(hlen:fs.length≤1000000) :
  Calls Tryz.prog 213 #[v,.string n] w fun e w'=>e = .returned (.tuple #[.string (bs (QbC fs n.data.toList)),.int .i64 (Qc8 fs n.data.toList)])∧Below w.heap.size w w':=by
 obtain ⟨a,c,rfl,hc,hx⟩:=hv;have HX:=hid hx;clear hx;obtain ⟨m,rfl⟩:∃ m,n=bs m:=⟨n.data.toList,(Qcx n).symm⟩;rw [Qaj];go_enter Tryz.func213,Tryz.ntmps213;go_wp2_with fail;go_loopw [6,7,12] (fun x e i wr=>∃ k:Nat,k≤fs.length∧i = .int .i64 k∧Below w.heap.size w wr∧Quh fs m k x e) (fun _ _ i _=>fs.length-(intOf i).toNat)
 case atStart=>exact ⟨0,by omega,rfl,Below.refl _ _,.inl ⟨rfl,rfl,rfl⟩⟩
 case round=>
  obtain ⟨k,hk,rfl,hb,hst⟩:=hrel
  by_cases hlt:k<fs.length
  ·obtain ⟨b,o,rfl,hbl,Qao⟩:=HX.out (fun e=>by rw [e] at hlt;exact absurd hlt (Nat.not_lt_zero _))
   have c0:=(hb.cell (p:=⟨b,o+k*2,none⟩) hbl).trans (Qao k hlt).1;have c1:=(hb.cell (p:=⟨b,o+k*2+1,none⟩) hbl).trans (Qao k hlt).2;have QAr:=QlZ fs m k hlt;have QA3:=QwO fs[k].1 m;clear Qao
   by_cases hn:fs[k].1=m
   ·rw [if_pos hn] at QAr
    rw [decide_eq_true hn] at QA3;rcases hst with ⟨h0,rfl,rfl⟩|⟨v,h1,rfl,rfl⟩
    ·have Hn:Hid (QfH (fs.take (k+1)) m = [fs[k].2]):=hid (by rw [QAr,h0];rfl)
     have HF:Hid (fs=fs):=hid rfl;clear QAr h0 hn HX;obtain ⟨X,hX⟩:∃ X,X=bs fs[k].1:=⟨_,rfl⟩;obtain ⟨y,hy⟩:∃ y,y=fs[k].2:=⟨_,rfl⟩;rw [←hX] at c0 QA3;rw [←hy] at c1 Hn;clear hX hy;go_wp2_with fail;go_roundw
     case rel=>exact ⟨k+1,by omega,by go_num,hb.trans (((Below.refl _ _).alloc (Nat.le_refl _) _).mono hb.size),.inr ⟨y,Hn.out,rfl,rfl⟩⟩
     case measure=>simp [intOf];omega
    ·have HE:=hid (Qtn fs m k hlt v h1 hn)
     clear QAr h1 hn HX;obtain ⟨X,hX⟩:∃ X,X=bs fs[k].1:=⟨_,rfl⟩;rw [←hX] at c0 QA3;clear hX;go_wp2_with fail;go_ret2;exact ⟨QrV (by rw [HE.out.1];rfl) (by rw [HE.out.2];rfl),hb.trans (((Below.refl _ _).alloc (Nat.le_refl _) _).mono hb.size)⟩
   ·rw [if_neg hn,List.append_nil] at QAr
    rw [decide_eq_false hn] at QA3;have Hst:Hid (Quh fs m (k+1) u6 u7):=hid (by unfold Quh at hst ⊢;rw [QAr];exact hst)
    clear QAr hst hn HX;obtain ⟨X,hX⟩:∃ X,X=bs fs[k].1:=⟨_,rfl⟩;rw [←hX] at c0 QA3;clear hX;go_wp2_with fail;go_roundw
    case rel=>exact ⟨k+1,by omega,by go_num,hb.trans (((Below.refl _ _).alloc (Nat.le_refl _) _).mono hb.size),Hst.out⟩
    case measure=>simp [intOf];omega
  ·have H:=hid (Qx4 fs m k (by omega) _ _ hst)
   clear hst;go_wp2_with fail;go_ret2;exact ⟨QrV H.out.1 H.out.2,hb⟩
end
section
open Go.RowKit
theorem QcP(n:Nat)(h:n<18446744073709551616):(Go.Lib.decDigits n).length≤20:=by
 rw [Go.Lib.decDigits_length];have h1:=Go.Lib.numDigits_eq n;rcases Nat.eq_zero_or_pos n with h0|h0
 ·subst h0;rw [Go.Lib.nDigits_small (by decide)];decide
 ·obtain ⟨h2,h3⟩:=h1 h0 h
  rw [←h2];split<;>omega
theorem Qvt(n:Int)(h0 : -9223372036854775808≤n)(h1:n≤9223372036854775807):(Go.Lib.itoa n).length≤21:=by
 unfold Go.Lib.itoa;split
 ·have:=QcP n.natAbs (by omega);simp;omega
 ·have:=QcP n.toNat (by omega);omega
theorem QnM(n:Int)(h:0≤n):Go.Lib.itoa n=Go.Lib.decDigits n.toNat:=by
 unfold Go.Lib.itoa;rw [if_neg (by omega)]
end
section
open Go.RowKit
theorem Qjw:(Tryz.prog.info? 379).map (fun i=>(i.zero,i.size,i.bytes))=some (some (.agg #[.string ByteArray.empty,.string ByteArray.empty]),2,32):=by kernel_rfl
theorem QgB{B:Nat}{w wr w':World}{base:Nat}{e:TypeId}{size:Nat}{v:Value}{n:Nat}{xs:List Value}(hb:Below B w wr)(hg:wr.grownBy w' v.ownBlock)(QAq:wr.ownsRow base e size v n xs)(hB:B≤base)(hB2:B≤wr.heap.size):Below B w w':=
 hb.grown hg hB2 fun k hk=>Nat.le_trans hB (QAq.lt k hk).1
end
section
open Go.RowKit
theorem QbL(a b:Int)(w:World) :
  Calls Tryz.prog 45 #[.agg #[.int .i64 a,.int .i64 b]] w fun e w'=>e = .returned (.int .i64 (Qc9 a b:Nat))∧Below w.heap.size w w':=by
 by_cases h1:a<0
 ·have H:Hid (Qc9 a b=8):=hid (if_pos (.inl h1))
  have t1:decide (a<0)=true:=decide_eq_true h1;go_enter Tryz.func45,Tryz.ntmps45;go_wp2_with fail;go_ret;exact ⟨by rw [H.out];rfl,(Below.refl _ _).alloc (Nat.le_refl _) _⟩
 have t1:decide (a<0)=false:=decide_eq_false h1
 by_cases h2:b<a
 ·have H:Hid (Qc9 a b=8):=hid (if_pos (.inr (.inl h2)))
  have t2:decide (a>b)=true:=decide_eq_true h2;go_enter Tryz.func45,Tryz.ntmps45;go_wp2_with fail;go_ret;exact ⟨by rw [H.out];rfl,(Below.refl _ _).alloc (Nat.le_refl _) _⟩
 have t2:decide (a>b)=false:=decide_eq_false h2
 by_cases h3:9007199254740990<b
 ·have H:Hid (Qc9 a b=8):=hid (if_pos (.inr (.inr h3)))
  have t3:decide (b>9007199254740990)=true:=decide_eq_true h3;go_enter Tryz.func45,Tryz.ntmps45;go_wp2_with fail;go_ret;exact ⟨by rw [H.out];rfl,(Below.refl _ _).alloc (Nat.le_refl _) _⟩
 ·have H:Hid (Qc9 a b=0):=hid (if_neg (fun h=>h.elim h1 (fun h=>h.elim h2 h3)))
  have t3:decide (b>9007199254740990)=false:=decide_eq_false h3;go_enter Tryz.func45,Tryz.ntmps45;go_wp2_with fail;go_ret;exact ⟨by rw [H.out];rfl,(Below.refl _ _).alloc (Nat.le_refl _) _⟩
theorem QwQ(w:World)(x y:Value)(t:TypeId):(w.alloc (.cells #[x,y] t)).cell? ⟨w.heap.size,0,none⟩=some x∧(w.alloc (.cells #[x,y] t)).cell? ⟨w.heap.size,1,none⟩=some y:=by
 have hh:=heap_alloc_new w (.cells #[x,y] t);constructor<;>(unfold World.cell?;rw [hh];rfl)
theorem QdX(n:Int)(h1:n≤9223372036854775807):(Qfk n).length≤20:=by
 unfold Qfk;split
 ·exact Nat.zero_le _
 ·exact QcP _ (by omega)
theorem QhQ(a b:Int)(w:World)(hE:EnvF w)(ha0 : -9223372036854775808≤a)(ha:a≤9223372036854775807)(hb0 : -9223372036854775808≤b)(hb:b≤9223372036854775807) :
  Calls Tryz.prog 210 #[.agg #[.int .i64 a,.int .i64 b]] w fun e w'=>e = .returned (.string (bs (Qe3 a b)))∧Below w.heap.size w w':=by
 have HA:=hid (fun w hE=>QcO a ha0 ha w hE)
 have HB:=hid (fun w hE=>QcO b hb0 hb w hE)
 obtain ⟨X,hX⟩:∃ X,bs (Qfk a)=X:=⟨_,rfl⟩;obtain ⟨Y,hY⟩:∃ Y,bs (Qfk b)=Y:=⟨_,rfl⟩;have hXs:X.size≤20:=by rw [←hX,QaC];exact QdX a ha
 have hYs:Y.size≤20:=by rw [←hY,QaC];exact QdX b hb
 have HR:Hid ((X++⟨#[45]⟩)++Y=bs (Qe3 a b)):=hid (by
  rw [←hX,←hY,show (⟨#[45]⟩:ByteArray)=bs [45] from rfl,QdD,QdD];unfold Qe3;simp)
 rw [hX] at HA;rw [hY] at HB;have padd1:=fun w=>run_string_add_sum (P:=Tryz.prog) w X ⟨#[45]⟩ (by show _+1≤_;omega)
 have padd2:=fun w=>run_string_add_sum (P:=Tryz.prog) w (X++⟨#[45]⟩) Y (by rw [ByteArray.size_append];show _+1+_≤_;omega)
 have box:=QwQ w (.int .i64 a) (.int .i64 b) 67;have hb0':Below w.heap.size w (w.alloc (.cells #[.int .i64 a,.int .i64 b] 67)):=(Below.refl _ _).alloc (Nat.le_refl _) _;have hbl:w.heap.size<(w.alloc (.cells #[.int .i64 a,.int .i64 b] 67)).heap.size:=by simp
 have HE:=hid (hE.below hb0');clear hE hX hY;go_enter Tryz.func210,Tryz.ntmps210;go_wp2_with fail;generalize hW0:w.alloc (.cells #[.int .i64 a,.int .i64 b] 67)=W0 at box hb0' hbl HE ⊢;clear hW0;have k0:∀ p:BelowOf W0,p.world.cell? ⟨w.heap.size,0,none⟩=some (.int .i64 a):=fun p=>QaN p hbl box.1
 have k1:∀ p:BelowOf W0,p.world.cell? ⟨w.heap.size,1,none⟩=some (.int .i64 b):=fun p=>QaN p hbl box.2
 have hb0:=hid hb0';clear box hb0';refine Qac (by kernel_rfl) (by kernel_rfl) ?_
 repeat (go_big_quiet_step ((first
  |(go_at_call 243;exact Qav (HA.out _ (HE.out.below (BelowOf.below _))))
  |(go_at_call 243;exact Qav (HB.out _ (HE.out.below (BelowOf.below _))))
  |fail)))
 refine wpQuiet_nil ?_;intro W1 hw';have hb1:=QaM hw';clear hw';go_wp2_with fail;go_ret;exact ⟨by rw [←HR.out];rfl,Qaa hb0.out hb1⟩
end
section
open Go.RowKit
theorem Qa2{B:Nat}{e:TypeId}{k:Nat}{v:Value}{n:Nat}{xs:List Value}{w w':World}(h:w.ownsRow B e k v n xs)(hb:Below w.heap.size w w'):w'.ownsRow B e k v n xs:=by
 refine ⟨h.1,?_⟩;rcases h.2 with h0|⟨g,cap,cur,e1,e2,e3,e4⟩
 ·exact .inl h0
 ·exact .inr ⟨g,cap,cur,e1,e2,(hb.block g (gsi e3).1).trans e3,e4⟩
def QfF(ns:List Nat):List Value:=ns.map fun (n:Nat)=>.int .i64 (n:Int)
theorem QlS(ns:List Nat):(QfF ns).length=ns.length:=by simp [QfF]
theorem QlT(a b:List Nat):QfF (a++b)=QfF a++QfF b:=by simp [QfF]
def HoldsI(B:Nat)(w:World)(v:Value)(ns:List Nat):Prop:=
 ∃ b c,v = .slice (some ⟨b,0,none⟩) ns.length c∧B≤b∧b<w.heap.size∧ns.length≤c∧∀ j (hj:j<ns.length),w.cell? ⟨b,j,none⟩=some (.int .i64 (ns[j]:Int))
theorem HoldsI.of_own{w:World}{base n:Nat}{e:TypeId}{v:Value}{ns:List Nat}(h:w.ownsRow base e 1 v n (QfF ns))(hne:ns≠[]):HoldsI base w v ns:=by
 have hn:ns.length=n:=by have:=h.1;rw [QlS,Nat.mul_one] at this;exact this
 subst hn;rcases h.2 with ⟨rfl,h0⟩|⟨g,cap,cur,rfl,hb,hg,hle,hm,hs,ht⟩
 ·exact absurd (List.eq_nil_of_length_eq_zero h0) hne
 ·refine ⟨g,cap,rfl,hb,(gsi hg).1,hle,fun j hj=>?_⟩
  have:=h.cells (g:=g) rfl j (.int .i64 (ns[j]:Int)) (by unfold QfF;rw [List.getElem?_map,List.getElem?_eq_getElem hj];rfl)
  have e0:(⟨g,0,none⟩:Addr).add j=⟨g,j,none⟩:=by unfold Addr.add;split<;>simp_all
  rwa [e0] at this
theorem QoW:(Tryz.prog.info? 3).map (fun i=>(i.zero,i.size,i.bytes))=some (some (.int .i64 0),1,8):=by kernel_rfl
theorem Qrb{ops:Array Oper}{rest:List Oper}{o:Oper}{a:Act}{Q:Exit→Act→World→Prop}(w0:World)(hgd:o.guard=none)(s x:Operand)
  (ho:o.op = .call { callee:=.builtin .append,args:=#[s,x],argTypes:=#[272,272] })
  (base:Nat) (v:Value) (ns:List Nat) (hs:a.eval s=v) (QAq:w0.ownsRow base 3 1 v ns.length (QfF ns))
  (m:Nat) (hx:a.eval x = .slice (some ⟨w0.heap.size,0,none⟩) 1 1) (hn:ns.length<2147483648) (QAv:base≤w0.heap.size)
  (h:∀ v' w',w'.ownsRow base 3 1 v' (ns++[m]).length (QfF (ns++[m]))→w0.grownBy w' v.ownBlock→v'≠.slice none 0 0→wpList Tryz.prog ops Q rest (a.put o.dst v') w') :
  wpList Tryz.prog ops Q (o :: rest) a (w0.alloc (.cells #[.int .i64 (m:Int)] 3)):=by
 obtain ⟨i0,hi,hz0,hz1,hz2⟩:=info_parts QoW;refine wpList_append_own _ hgd s x 272 ho base 3 i0 _ 1 8 Tryz.underlying272 hi hz0 hz1 hz2 rfl (by decide) v ns.length (QfF ns) hs (QAq.alloc _) ⟨w0.heap.size,0,none⟩ 1 1 [.int .i64 (m:Int)] hx rfl (cell_one_new w0 _ _) (by simp [Value.oneCell']) (by unfold maxLen;omega) (by omega) (by simp;omega) ?_
 intro v' w' h2 h3 h4;refine h v' w' ?_ ?_ (fun e=>by have:=(h4.1 e).2;omega)
 ·rw [List.length_append,QlT];simpa [QfF] using h2
 ·exact ⟨h3.os,h3.tape,h3.output,Nat.le_trans (by simp) h3.size,fun k hk hne=>(h3.block k (by simp;omega) hne).trans (heap_alloc_old w0 _ hk)⟩
def Qek:List (List UInt8)→Nat
 |[]=>0
 |l :: t=>if QcE l≠0 then QcE l else Qek t
theorem Qjp(xs:List (List UInt8)):∀ k,(∀ j (hj:j<xs.length),j<k→QcE xs[j]=0)→Qek xs=Qek (xs.drop k):=by
 induction xs with
 |nil=>intro k _;simp
 |cons x t ih=>
  intro k h;cases k with
  |zero=>rfl
  |succ k=>
   have h0:=h 0 (by simp) (by omega)
   show (if QcE x≠0 then QcE x else Qek t)=Qek (t.drop k)
   rw [if_neg (fun hh=>hh h0)]
   exact ih k (fun j hj hk=>h (j+1) (by simp;omega) (by omega))
theorem Qu6(xs:List (List UInt8))(k:Nat)(hk:k<xs.length)(h:∀ j (hj:j<xs.length),j<k→QcE xs[j]=0)(hb:QcE xs[k]≠0):Qek xs=QcE xs[k]:=by
 rw [Qjp xs k h,List.drop_eq_getElem_cons hk];exact if_pos hb
theorem QsB(xs:List (List UInt8))(h:∀ j (hj:j<xs.length),QcE xs[j]=0):Qek xs=0:=by
 rw [Qjp xs xs.length (fun j hj _=>h j hj),List.drop_length];rfl
def Qww(xs:List (List UInt8))(w:World)(e:Ending)(w':World):Prop:=∃ v,e = .returned (.tuple #[v,.int .i64 (Qek xs:Nat)])∧(Qek xs=0→HoldsI w.heap.size w' v (xs.map Qcq))∧Below w.heap.size w w'
theorem QeX(v:Value)(xs:List (List UInt8))(w:World)(hv:HoldsS w v xs)(hne:xs≠[])(hlen:xs.length≤1000)(hx:∀ x∈xs,x.length≤1000000)(hE:EnvF w) :
  Calls Tryz.prog 247 #[v] w (Qww xs w):=by
 obtain ⟨a,c,rfl,hc,hh⟩:=hv;obtain ⟨b,o,rfl,hbl,Qao⟩:=hh hne;have HC:=hid Qao;have HE:=hid hE;have HX:=hid hx;clear hh Qao hE hx;go_enter Tryz.func247,Tryz.ntmps247;go_wp2_with fail;go_loopw [4,11] (fun u i wr=>∃ k:Nat,k≤xs.length∧i = .int .i64 k∧wr.ownsRow w.heap.size 3 1 u ((xs.take k).map Qcq).length (QfF ((xs.take k).map Qcq))∧Below w.heap.size w wr∧Hid (∀ j (hj:j<xs.length),j<k→QcE xs[j]=0)) (fun _ i _=>xs.length-(intOf i).toNat)
 case atStart=>exact ⟨0,by omega,rfl,by rw [List.take_zero];exact World.ownsRow_nil _ _ _ _,Below.refl _ _,hid (fun j hj h=>absurd h (Nat.not_lt_zero _))⟩
 case round=>
  obtain ⟨k,hk,rfl,QAq,hb,HK⟩:=hrel
  by_cases hlt:k<xs.length
  ·have c0:=(hb.cell (p:=⟨b,o+k,none⟩) hbl).trans (HC.out k hlt)
   obtain ⟨S,hS⟩:∃ S,bs xs[k]=S:=⟨_,rfl⟩;have hSd:S.data.toList=xs[k]:=by rw [←hS,Qaj]
   have hSs:S.size≤1000000:=by rw [←hS,QaC];exact HX.out _ (List.getElem_mem hlt)
   rw [hS] at c0;have HN:=hid (fun w hE=>QfM S w hSs hE)
   rw [hSd] at HN;have hkl:((xs.take k).map Qcq).length<2147483648:=by rw [List.length_map,List.length_take];omega
   have tl:decide ((k:Int)<(xs.length:Int))=true:=decide_eq_true (by omega)
   have HEr:=hid (HE.out.below hb)
   by_cases hz:QcE xs[k]=0
   ·rw [hz] at HN
    have HK2:Hid (∀ j (hj:j<xs.length),j<k+1→QcE xs[j]=0):=hid (fun j hj h=>by
     by_cases e:j=k
     ·subst e;exact hz
     ·exact HK.out j hj (by omega))
    have QAr:Hid ((xs.take (k+1)).map Qcq=(xs.take k).map Qcq++[Qcq xs[k]]):=hid (by rw [List.take_succ_eq_append_getElem hlt,List.map_append];rfl)
    clear hz hS hSd HK;go_wp2_with fail;refine (HN.out _ HEr.out).mono ?_;rintro e w1 ⟨rfl,hb1⟩;have QAt:w1.ownsRow w.heap.size 3 1 _ ((xs.take k).map Qcq).length (QfF ((xs.take k).map Qcq)):=Qa2 QAq hb1;have hb2:=Qaa hb hb1;clear QAq c0;go_wp2_with (at_builtin;go_loud (refine Qrb w1 (by rfl) _ _ (by rfl) w.heap.size _ ((xs.take k).map Qcq) (by rfl) QAt (Qcq xs[k]) (by rfl) hkl hb2.size ?_);intro v' w2 QAx hg2 hne2)
    go_roundw
    case rel=>exact ⟨k+1,by omega,by go_num,by rw [QAr.out];exact QAx,QgB hb2 hg2 QAt (Nat.le_refl _) hb2.size,HK2⟩
    case measure=>simp [intOf];omega
   ·have HR:Hid (Qek xs=QcE xs[k]):=hid (Qu6 xs k hlt HK.out hz)
    have tz:((QcE xs[k]:Int) != 0)=true:=by rw [bne_iff_ne];omega
    have hz2:Hid (QcE xs[k]≠0):=hid hz;clear hz hS hSd HK;go_wp2_with fail;refine (HN.out _ HEr.out).mono ?_;rintro e w1 ⟨rfl,hb1⟩;have hb2:=Qaa hb hb1;clear c0 QAq;go_wp2_with fail;go_ret2;exact ⟨_,by rw [HR.out];rfl,fun h=>absurd (HR.out ▸ h) hz2.out,hb2⟩
  ·have hall:xs.take k=xs:=List.take_of_length_le (by omega)
   have HR:Hid (Qek xs=0):=hid (QsB xs (fun j hj=>HK.out j hj (by omega)))
   rw [hall] at QAq;have tl:decide ((k:Int)<(xs.length:Int))=false:=decide_eq_false (by omega)
   clear hall HK;go_wp2_with fail;go_ret2;exact ⟨_,by rw [HR.out];rfl,fun _=>HoldsI.of_own QAq (by simpa using hne),hb⟩
end
section
open Go.RowKit
theorem Qbn(w:World)(b:Nat)(t:TypeId)(x y:Value)(h:w.heap[b]?=some (.cells #[x,y] t (0,0))):(loadVar 67 ⟨b,0,none⟩).run Tryz.prog w = .ok (.agg #[x,y]) w:=
 run_loadVar_row w b t 67 #[x,y] (0,0) _ h Tryz.underlying67 rfl (by kernel_rfl)
theorem Qoe(s:ByteArray)(c:UInt8)(w:World)(hs:s.size≤1000000)(hE:EnvF w) :
  Calls Tryz.prog 246 #[.string s,.string ⟨#[c]⟩] w fun e w'=>e = .returned (.tuple #[.string (bs (if Qhj c s.data.toList=true then QeP c s.data.toList else s.data.toList)),.string (bs (if Qhj c s.data.toList=true then Qbb c s.data.toList else [])),.bool (Qhj c s.data.toList)])∧Below w.heap.size w w':=by
 obtain ⟨m,hm⟩:=hE.m;refine (Tryz.strings_Cut s ⟨#[c]⟩ m w (by omega) hm).mono ?_
 rintro e w' ⟨rfl,n,rfl⟩;refine ⟨?_,(fun n=>by induction n with|zero=>exact Below.refl _ _|succ n ih=>exact ih.drew:∀ n,Below w.heap.size w (w.drewN n)) n⟩
 have h2:=Qyl c s.data.toList;have h3:Go.Lib.cut s.data.toList (ByteArray.mk #[c]).data.toList=Go.Lib.cut s.data.toList [c]:=rfl;rw [h3,h2];cases Qhj c s.data.toList<;>rfl
theorem Qpi(s p:ByteArray)(w:World) :
  Calls Tryz.prog 198 #[.string s,.string p] w fun e w'=>e = .returned (.tuple #[.string (bs (Lib.trimPrefix s.data.toList p.data.toList)),.bool (p.data.toList.isPrefixOf s.data.toList)])∧w'=w:=Tryz.strings_CutPrefix s p w
theorem QoG(l:List UInt8):Qcq l≤9007199254740991:=by
 unfold Qcq;split
 ·rename_i h
  unfold QcE at h;split at h
  ·exact absurd h (by decide)
  ·split at h
   ·exact absurd h (by decide)
   ·omega
 ·exact Nat.zero_le _
theorem Qk6(a b:List UInt8):Qek [a,b]=Qpy a b:=by
 show (if QcE a≠0 then QcE a else if QcE b≠0 then QcE b else 0)=_
 unfold Qpy;split
 ·rfl
 ·split<;>omega
theorem Qq8(l:List UInt8):QiF l=(Qey.isPrefixOf l&&Qhj 45 (if Qey.isPrefixOf l=true then l.drop 6 else l)):=by
 unfold QiF;cases h:Qey.isPrefixOf l<;>simp
theorem Qlq(s:ByteArray)(w:World)(hs:s.size≤1000000)(hE:EnvF w) :
  Calls Tryz.prog 320 #[.string s] w fun e w'=>e = .returned (.tuple #[.agg #[.int .i64 (QcI s.data.toList),.int .i64 (QcH s.data.toList)],.int .i64 (QbH s.data.toList:Nat)])∧Below w.heap.size w w':=by
 obtain ⟨L,hL⟩:∃ L,s.data.toList=L:=⟨_,rfl⟩;have hLl:L.length≤1000000:=by rw [←hL,Qab];exact hs
 have HP:=hid (fun w=>Qpi s ⟨#[98,121,116,101,115,61]⟩ w)
 rw [hL] at HP;rw [hL];obtain ⟨R,hR⟩:∃ R,bs (Lib.trimPrefix L (ByteArray.mk #[98,121,116,101,115,61]).data.toList)=R:=⟨_,rfl⟩;have hRd:R.data.toList=if Qey.isPrefixOf L=true then L.drop 6 else L:=by rw [←hR,Qaj];rfl
 have hRs:R.size≤1000000:=by rw [←Qab,hRd];split<;>(try rw [List.length_drop])<;>omega
 rw [hR,show (ByteArray.mk #[98,121,116,101,115,61]).data.toList=Qey from rfl] at HP;have HC:=hid (fun w hE=>Qoe R 45 w hRs hE)
 have HE:=hid (hE.below ((Below.refl _ _).alloc (Nat.le_refl _) (.cells #[.int .i64 0,.int .i64 0] 67)));have hok:=Qq8 L;rw [←hRd] at hok;clear hE hR;cases hp:Qey.isPrefixOf L with
 |false=>
  rw [hp] at HP hok;have HA:Hid (QbH L=4∧QcI L=0∧QcH L=0):=hid (by
   have:QbH L=4:=by unfold QbH;rw [hok];rfl
   unfold QcI QcH;rw [this];exact ⟨rfl,rfl,rfl⟩)
  generalize bs (if Qhj 45 R.data.toList=true then QeP 45 R.data.toList else R.data.toList)=X at HC
  generalize bs (if Qhj 45 R.data.toList=true then Qbb 45 R.data.toList else [])=Y at HC
  generalize Qhj 45 R.data.toList=B at HC;clear hok hp hRd;go_enter Tryz.func320,Tryz.ntmps320;go_wp2_with fail;refine (HP.out _).mono ?_;rintro e w' ⟨rfl,rfl⟩;go_wp2_with fail;refine (HC.out _ HE.out).mono ?_;rintro e w1 ⟨rfl,hb1⟩;obtain ⟨k0,k1,f0,f1⟩:=Qb9 (QaW hb1);go_wp2_with fail;refine QbG (b:=w.heap.size) (x:=.int .i64 0) (y:=.int .i64 0) rfl (Qbn _ _ _ _ _ (Qbf (QaW hb1) _ _)) rfl rfl rfl ?_;refine ⟨?_,QaO (((Below.refl _ _).alloc (Nat.le_refl _) _).trans (hb1.mono (by simp))) _ (Nat.le_refl _) _ _⟩
  rw [HA.out.1,HA.out.2.1,HA.out.2.2];rfl
 |true=>
  rw [hp] at HP hok;rw [hp,if_pos rfl] at hRd;rw [hRd] at HC;rw [hRd] at hok;cases hB:Qhj 45 (L.drop 6) with
  |false=>
   rw [hB] at HC hok;have HA:Hid (QbH L=4∧QcI L=0∧QcH L=0):=hid (by
    have:QbH L=4:=by unfold QbH;rw [hok];rfl
    unfold QcI QcH;rw [this];exact ⟨rfl,rfl,rfl⟩)
   rw [if_neg (by decide),if_neg (by decide)] at HC
   generalize bs (L.drop 6)=X at HC;generalize bs []=Y at HC;clear hok hp hRd hB;go_enter Tryz.func320,Tryz.ntmps320;go_wp2_with fail;refine (HP.out _).mono ?_;rintro e w' ⟨rfl,rfl⟩;go_wp2_with fail;refine (HC.out _ HE.out).mono ?_;rintro e w1 ⟨rfl,hb1⟩;obtain ⟨k0,k1,f0,f1⟩:=Qb9 (QaW hb1);go_wp2_with fail;refine QbG (b:=w.heap.size) (x:=.int .i64 0) (y:=.int .i64 0) rfl (Qbn _ _ _ _ _ (Qbf (QaW hb1) _ _)) rfl rfl rfl ?_;refine ⟨?_,QaO (((Below.refl _ _).alloc (Nat.le_refl _) _).trans (hb1.mono (by simp))) _ (Nat.le_refl _) _ _⟩
   rw [HA.out.1,HA.out.2.1,HA.out.2.2];rfl
  |true=>
   rw [hB] at HC hok;rw [if_pos rfl,if_pos rfl] at HC;obtain ⟨F,hF⟩:∃ F,QeP 45 (L.drop 6)=F:=⟨_,rfl⟩;obtain ⟨T,hT⟩:∃ T,Qbb 45 (L.drop 6)=T:=⟨_,rfl⟩;have hFl:F.length≤1000000:=by rw [←hF];have:=QmV 45 (L.drop 6);rw [List.length_drop] at this;omega
   have hTl:T.length≤1000000:=by rw [←hT];unfold Qbb;rw [List.length_drop,List.length_drop];omega
   have HA:Hid (QbH L=if Qpy F T≠0 then Qpy F T else Qc9 (Qcq F:Nat) (Qcq T:Nat)):=hid (by
    unfold QbH;rw [hok];rw [if_neg (by decide)]
    unfold QgX QgW;rw [hF,hT])
   have HAV:Hid (QgX L=Qcq F∧QgW L=Qcq T):=hid (by unfold QgX QgW;rw [hF,hT];exact ⟨rfl,rfl⟩)
   rw [hF,hT] at HC;have QBR:=QeX (xs:=[F,T]) (hne:=by simp) (hlen:=by simp) (hx:=by intro x hx;simp at hx;rcases hx with rfl|rfl<;>assumption)
   have HN:=hid QBR;clear hok hp hRd hB hF hT QBR
   by_cases hz:Qpy F T=0
   ·have HZ:Hid (Qek [F,T]=0∧QbH L=Qc9 (Qcq F:Nat) (Qcq T:Nat)):=hid ⟨(Qk6 F T).trans hz,by rw [HA.out,if_neg (fun h=>h hz)]⟩
    have HF:Hid (∀ b,Qcq b≤9007199254740991):=hid QoG;obtain ⟨P,hP⟩:∃ P,Qcq F=P:=⟨_,rfl⟩;obtain ⟨Q,hQ⟩:∃ Q,Qcq T=Q:=⟨_,rfl⟩;have hPl:=HF.out F;have hQl:=HF.out T;rw [hP] at HZ HAV hPl;rw [hQ] at HZ HAV hQl;have HI:Hid ([F,T].map Qcq = [P,Q]):=hid (by rw [←hP,←hQ];rfl)
    have HCk:=hid (fun w=>QbL (P:Int) (Q:Int) w)
    clear hz HA HF hP hQ;go_enter Tryz.func320,Tryz.ntmps320;go_wp2_with fail;refine (HP.out _).mono ?_;rintro e w' ⟨rfl,rfl⟩;go_wp2_with fail;refine (HC.out _ HE.out).mono ?_;rintro e w1 ⟨rfl,hb1⟩;have QBa:=hid hb1;have hbl:w.heap.size<w1.heap.size:=by have:=hb1.size;simp at this;omega
    clear hb1;go_wp2_with fail;have hS:HoldsS (w1.alloc (.cells #[.string (bs F),.string (bs T)] 9)) (.slice (some ⟨w1.heap.size,0,none⟩) 2 2) [F,T]:=HoldsS.of_block (heap_alloc_new _ _) rfl rfl;have hbA:Below w1.heap.size w1 (w1.alloc (.cells #[.string (bs F),.string (bs T)] 9)):=(Below.refl _ _).alloc (Nat.le_refl _) _;refine (HN.out _ _ hS ((HE.out.below QBa.out).below hbA)).mono ?_;rintro e w2 ⟨v,rfl,hI,hb2⟩;rw [HZ.out.1];have hI2:=hI HZ.out.1;rw [HI.out] at hI2;obtain ⟨g,c,hv,-,hg,-,Qao⟩:=hI2;have c0:=Qao 0 (by simp)
    have c1:=Qao 1 (by simp)
    have hv2:v = .slice (some ⟨g,0,none⟩) 2 c:=hv;clear Qao hv hI;subst hv2;have QAR:Below (w.alloc (.cells #[.int .i64 0,.int .i64 0] 67)).heap.size (w.alloc (.cells #[.int .i64 0,.int .i64 0] 67)) w2:=Qaa QBa.out (Qaa hbA hb2);clear hb2 hbA hS;have HB2:=hid QAR;have hw2:w.heap.size<w2.heap.size:=by have:=QAR.size;simp at this;omega
    clear QAR;change w2.cell? ⟨g,0,none⟩=some (.int .i64 (P:Int)) at c0;change w2.cell? ⟨g,1,none⟩=some (.int .i64 (Q:Int)) at c1;go_wp2_with fail;go_region
    all_goals go_wp2_with fail
    have hbR:Below w2.heap.size w2 (w2.alloc (.cells #[.int .i64 (P:Int),.int .i64 (Q:Int)] 67)).drew:=((Below.refl _ _).alloc (Nat.le_refl _) _).drew;have hnR:(w2.alloc (.cells #[.int .i64 (P:Int),.int .i64 (Q:Int)] 67)).drew.heap[w2.heap.size]?=some (.cells #[.int .i64 (P:Int),.int .i64 (Q:Int)] 67 (0,0)):=heap_alloc_new w2 _;have hlR:w2.heap.size<(w2.alloc (.cells #[.int .i64 (P:Int),.int .i64 (Q:Int)] 67)).drew.heap.size:=by simp
    refine (HCk.out _).mono ?_;rintro e w3 ⟨rfl,hb3⟩;obtain ⟨j0,j1,-,-⟩:=Qb9 ((hb3.block _ hlR).trans hnR);have QA5:Below (w.alloc (.cells #[.int .i64 0,.int .i64 0] 67)).heap.size (w.alloc (.cells #[.int .i64 0,.int .i64 0] 67)) w3:=Qaa HB2.out (Qaa hbR hb3);obtain ⟨k0,k1,f0,f1⟩:=Qb9 (QaW QA5);clear hb3 hbR hnR hlR c0 c1;have HB3:=hid QA5;clear QA5
    by_cases hr:Qc9 (P:Int) (Q:Int)=0
    ·have HR:Hid (QbH L=0∧QcI L=(P:Int)∧QcH L=(Q:Int)):=hid (by
      have e1:QbH L=0:=by rw [HZ.out.2,hr]
      refine ⟨e1,?_,?_⟩
      ·unfold QcI;rw [if_pos e1,HAV.out.1]
      ·unfold QcH;rw [if_pos e1,HAV.out.2])
     rw [hr];clear hr;go_wp2_with fail;refine QbG (b:=w.heap.size) (x:=.int .i64 (P:Int)) (y:=.int .i64 (Q:Int)) rfl (Qbn _ _ _ _ _ (Qbf (QaW HB3.out) _ _)) rfl rfl rfl ?_;refine ⟨?_,QaO (((Below.refl _ _).alloc (Nat.le_refl _) _).trans (HB3.out.mono (by simp))) _ (Nat.le_refl _) _ _⟩
     rw [HR.out.1,HR.out.2.1,HR.out.2.2];rfl
    ·have h8:=(QhR _ _ hr).1
     have HR:Hid (QbH L=8∧QcI L=0∧QcH L=0):=hid (by
      have e1:QbH L=8:=by rw [HZ.out.2,h8]
      refine ⟨e1,?_,?_⟩
      ·unfold QcI;rw [e1,if_neg (by decide)]
      ·unfold QcH;rw [e1,if_neg (by decide)])
     rw [h8];clear hr h8;go_wp2_with fail;refine QbG (b:=w.heap.size) (x:=.int .i64 0) (y:=.int .i64 0) rfl (Qbn _ _ _ _ _ (Qbf (QaW HB3.out) _ _)) rfl rfl rfl ?_;refine ⟨?_,QaO (((Below.refl _ _).alloc (Nat.le_refl _) _).trans (HB3.out.mono (by simp))) _ (Nat.le_refl _) _ _⟩
     rw [HR.out.1,HR.out.2.1,HR.out.2.2];rfl
   ·have HZ:Hid (Qek [F,T]=Qpy F T∧QbH L=Qpy F T∧QcI L=0∧QcH L=0):=hid (by
     have e1:QbH L=Qpy F T:=by rw [HA.out,if_pos hz]
     refine ⟨Qk6 F T,e1,?_,?_⟩
     ·unfold QcI;rw [e1,if_neg hz]
     ·unfold QcH;rw [e1,if_neg hz])
    have tz:((Qpy F T:Int) != 0)=true:=by rw [bne_iff_ne];omega
    generalize Qpy F T=Z at HZ tz;clear hz HA HAV;go_enter Tryz.func320,Tryz.ntmps320;go_wp2_with fail;refine (HP.out _).mono ?_;rintro e w' ⟨rfl,rfl⟩;go_wp2_with fail;refine (HC.out _ HE.out).mono ?_;rintro e w1 ⟨rfl,hb1⟩;have QBa:=hid hb1;have hbl:w.heap.size<w1.heap.size:=by have:=hb1.size;simp at this;omega
    clear hb1;go_wp2_with fail;have hS:HoldsS (w1.alloc (.cells #[.string (bs F),.string (bs T)] 9)) (.slice (some ⟨w1.heap.size,0,none⟩) 2 2) [F,T]:=HoldsS.of_block (heap_alloc_new _ _) rfl rfl;have hbA:Below w1.heap.size w1 (w1.alloc (.cells #[.string (bs F),.string (bs T)] 9)):=(Below.refl _ _).alloc (Nat.le_refl _) _;refine (HN.out _ _ hS ((HE.out.below QBa.out).below hbA)).mono ?_;rintro e w2 ⟨v,rfl,-,hb2⟩;rw [HZ.out.1];have QAR:Below (w.alloc (.cells #[.int .i64 0,.int .i64 0] 67)).heap.size (w.alloc (.cells #[.int .i64 0,.int .i64 0] 67)) w2:=Qaa QBa.out (Qaa hbA hb2);obtain ⟨k0,k1,f0,f1⟩:=Qb9 (QaW QAR);clear hb2 hbA hS;go_wp2_with fail;refine QbG (b:=w.heap.size) (x:=.int .i64 0) (y:=.int .i64 0) rfl (Qbn _ _ _ _ _ (Qbf (QaW QAR) _ _)) rfl rfl rfl ?_;refine ⟨?_,QaO (((Below.refl _ _).alloc (Nat.le_refl _) _).trans (QAR.mono (by simp))) _ (Nat.le_refl _) _ _⟩
    rw [HZ.out.2.1,HZ.out.2.2.1,HZ.out.2.2.2];rfl
end
section
open Go.RowKit
theorem Qht(a b:Int)(ha:a≤9223372036854775807)(hb:b≤9223372036854775807):(Qe3 a b).length≤41:=by
 unfold Qe3;have h1:=QdX a ha;have h2:=QdX b hb;rw [List.length_append,List.length_cons];omega
theorem Qyt{w w1:World}{x y:Value}{t:TypeId}(hb:Below (w.alloc (.cells #[x,y] t)).heap.size (w.alloc (.cells #[x,y] t)) w1):w1.cell? ⟨w.heap.size,0,none⟩=some x∧w1.cell? ⟨w.heap.size,1,none⟩=some y:=
 ⟨(Qb9 (QaW hb)).c0,(Qb9 (QaW hb)).c1⟩
theorem Qbq(w:World)(x y:Value)(t:TypeId):Below w.heap.size w (w.alloc (.cells #[x,y] t)):=(Below.refl _ _).alloc (Nat.le_refl _) _
theorem Qzt(a b:Int)(h:Qc9 a b=0)(X:ByteArray)(hX:bs (Qe3 a b)=X):(⟨#[98,121,116,101,115,61]⟩:ByteArray)++X=bs (QgD a b):=by
 unfold QgD;rw [if_pos h,←hX];exact QdD Qey (Qe3 a b)
theorem QpY(a b:Int)(w:World)(hE:EnvF w)(ha0 : -9223372036854775808≤a)(ha:a≤9223372036854775807)(hb0 : -9223372036854775808≤b)(hb:b≤9223372036854775807) :
  Calls Tryz.prog 180 #[.agg #[.int .i64 a,.int .i64 b]] w fun e w'=>e = .returned (.tuple #[.string (bs (QgD a b)),.int .i64 (Qc9 a b:Nat)])∧Below w.heap.size w w':=by
 have HK:=hid (fun w=>QbL a b w)
 have HT:=hid (fun w hE=>QhQ a b w hE ha0 ha hb0 hb)
 have HE:=hid (hE.below (Qbq w (.int .i64 a) (.int .i64 b) 67));clear hE
 by_cases hr:Qc9 a b=0
 ·obtain ⟨X,hX⟩:∃ X,bs (Qe3 a b)=X:=⟨_,rfl⟩
  have hXs:X.size≤41:=by rw [←hX,QaC];exact Qht a b ha hb
  have HR:=hid (Qzt a b hr X hX);rw [hX] at HT;have padd:=fun w=>run_string_add_sum (P:=Tryz.prog) w ⟨#[98,121,116,101,115,61]⟩ X (by show 6+_≤_;omega)
  rw [hr];rw [hr] at HK;clear hr hX;go_enter Tryz.func180,Tryz.ntmps180;go_wp2_with fail;refine (HK.out _).mono ?_;rintro e w1 ⟨rfl,hb1⟩;obtain ⟨c0,c1⟩:=Qyt hb1;have HE1:=hid (HE.out.below hb1);have QBa:=Qaa (Qbq w _ _ _) hb1;clear hb1;go_wp2_with fail;refine (HT.out _ HE1.out).mono ?_;rintro e w2 ⟨rfl,hb2⟩;go_wp2_with fail;go_ret2;exact ⟨by rw [←HR.out];rfl,Qaa QBa hb2⟩
 ·obtain ⟨h8,-⟩:=QhR _ _ hr
  have HR:Hid (QgD a b = []):=hid (by unfold QgD;rw [if_neg hr])
  rw [h8];rw [h8] at HK;clear hr h8 HT;go_enter Tryz.func180,Tryz.ntmps180;go_wp2_with fail;refine (HK.out _).mono ?_;rintro e w1 ⟨rfl,hb1⟩;go_wp2_with fail;go_ret2;exact ⟨by rw [HR.out];rfl,Qaa (Qbq w _ _ _) hb1⟩
end
section
open Go.RowKit
def Qdy(x:Nat):Bool:=decide (33≤x)&&decide (x≤126)
def QeR(l:List UInt8):Bool:=[47].isPrefixOf l&&decide (l.length≤64)&&l.all (fun c=>Qdy c.toNat)
def QeT(x:Nat):Bool:=QiM x||Qes x||x==45||x==46
def Qen(l:List UInt8):Bool:=!l.isEmpty&&decide (l.length≤32)&&l.all (fun c=>QeT c.toNat)
theorem QuV(x:Nat)(h:128≤x):Qdy x=false:=by unfold Qdy;rw [decide_eq_false (show ¬x≤126 by omega),Bool.and_false]
theorem QvF(x:Nat)(h:128≤x):QeT x=false:=by
 unfold QeT QiM Qes;rw [decide_eq_false (show ¬x≤122 by omega),decide_eq_false (show ¬x≤57 by omega),beq_eq_false_iff_ne.2 (show x≠45 by omega),beq_eq_false_iff_ne.2 (show x≠46 by omega),Bool.and_false,Bool.and_false];rfl
theorem QzW(x:Nat)(w:World):Calls Tryz.prog 81 #[.int .i32 (x:Int)] w fun e w'=>e = .returned (.bool (!Qdy x))∧w'=w:=by
 by_cases h1:x≤32
 ·have H:Hid (Qdy x=false):=hid (by unfold Qdy;rw [decide_eq_false (by omega)];rfl)
  have t1:decide ((x:Int)≤32)=true:=decide_eq_true (by omega)
  go_enter Tryz.func81,Tryz.ntmps81;go_wp2_with fail;go_ret;exact ⟨by rw [H.out];rfl,rfl⟩
 have t1:decide ((x:Int)≤32)=false:=decide_eq_false (by omega)
 by_cases h2:126<x
 ·have H:Hid (Qdy x=false):=hid (by unfold Qdy;rw [decide_eq_false (show ¬x≤126 by omega),Bool.and_false])
  have t2:decide ((x:Int)>126)=true:=decide_eq_true (by omega)
  go_enter Tryz.func81,Tryz.ntmps81;go_wp2_with fail;go_ret;exact ⟨by rw [H.out];rfl,rfl⟩
 ·have H:Hid (Qdy x=true):=hid (by unfold Qdy;rw [decide_eq_true (show x≤126 by omega),decide_eq_true (show 33≤x by omega)];rfl)
  have t2:decide ((x:Int)>126)=false:=decide_eq_false (by omega)
  go_enter Tryz.func81,Tryz.ntmps81;go_wp2_with fail;go_ret;exact ⟨by rw [H.out];rfl,rfl⟩
theorem QvE(x:Nat)(a b c d e f:Bool)(h1:decide (97≤x)=a)(h2:decide (x≤122)=b)(h3:decide (48≤x)=c)(h4:decide (x≤57)=d)(h5:(x==45)=e)(h6:(x==46)=f):QeT x=((a&&b)||(c&&d)||e||f):=by
 unfold QeT QiM Qes;rw [h1,h2,h3,h4,h5,h6]
theorem Qpf(x k:Nat)(a:Bool)(h:decide (k≤x)=a):decide ((x:Int)≥(k:Int))=a:=by
 rw [←h];exact decide_eq_decide.2 (by omega)
theorem Qmn(x k:Nat)(a:Bool)(h:decide (x≤k)=a):decide ((x:Int)≤(k:Int))=a:=by
 rw [←h];exact decide_eq_decide.2 (by omega)
theorem Qpk(x k:Nat)(a:Bool)(h:(x==k)=a):((x:Int)==(k:Int))=a:=by
 rw [←h,Bool.eq_iff_iff,beq_iff_eq,beq_iff_eq];omega
theorem Qz9(x:Nat)(w:World):Calls Tryz.prog 84 #[.int .i32 (x:Int)] w fun e w'=>e = .returned (.bool (!QeT x))∧w'=w:=by
 cases h1:decide (97≤x)<;>cases h2:decide (x≤122)<;>cases h3:decide (48≤x)<;>cases h4:decide (x≤57)<;>cases h5:(x==45)<;>cases h6:(x==46)
 all_goals
  have H:=hid (QvE x _ _ _ _ _ _ h1 h2 h3 h4 h5 h6);have t1:decide ((x:Int)≥97)=_:=Qpf x 97 _ h1;have t2:decide ((x:Int)≤122)=_:=Qmn x 122 _ h2;have t3:decide ((x:Int)≥48)=_:=Qpf x 48 _ h3;have t4:decide ((x:Int)≤57)=_:=Qmn x 57 _ h4;have t5:((x:Int)==45)=_:=Qpk x 45 _ h5;have t6:((x:Int)==46)=_:=Qpk x 46 _ h6;clear h1 h2 h3 h4 h5 h6;go_enter Tryz.func84,Tryz.ntmps84;go_wp2_with fail;go_ret;exact ⟨by rw [H.out];rfl,rfl⟩
theorem QvA(s:ByteArray)(w:World) :
  Calls Tryz.prog 83 #[.string s,.func (.func 81) #[] #[]] w fun e w'=>e = .returned (.int .i64 (Lib.idxFunc (fun x=>!Qdy x) true s))∧Below w.heap.size w w':=
 Tryz.strings_IndexFunc_grows 81 #[] (enters_of Tryz.func81 (by kernel_rfl) rfl) (fun x=>!Qdy x) s w
  (fun W x _ _=>(QzW x W).mono fun e w' ⟨he,hw⟩=>⟨he,hw ▸ Below.refl _ _⟩)
theorem QvB(s:ByteArray)(w:World) :
  Calls Tryz.prog 83 #[.string s,.func (.func 84) #[] #[]] w fun e w'=>e = .returned (.int .i64 (Lib.idxFunc (fun x=>!QeT x) true s))∧Below w.heap.size w w':=
 Tryz.strings_IndexFunc_grows 84 #[] (enters_of Tryz.func84 (by kernel_rfl) rfl) (fun x=>!QeT x) s w
  (fun W x _ _=>(Qz9 x W).mono fun e w' ⟨he,hw⟩=>⟨he,hw ▸ Below.refl _ _⟩)
theorem Qog(s:ByteArray):decide (Lib.idxFunc (fun x=>!Qdy x) true s<0)=s.data.toList.all (fun c=>Qdy c.toNat):=by
 rw [QkL _ (fun x h=>by rw [QuV x h];rfl)];simp
theorem Qoh(s:ByteArray):decide (Lib.idxFunc (fun x=>!QeT x) true s<0)=s.data.toList.all (fun c=>QeT c.toNat):=by
 rw [QkL _ (fun x h=>by rw [QvF x h];rfl)];simp
theorem Qq1(s:ByteArray)(w:World):Calls Tryz.prog 82 #[.string s,.string ⟨#[47]⟩] w fun e w'=>e = .returned (.bool ([47].isPrefixOf s.data.toList))∧w'=w:=Tryz.strings_HasPrefix s ⟨#[47]⟩ w
theorem QiD(s:ByteArray)(w:World) :
  Calls Tryz.prog 43 #[.string s] w fun e w'=>e = .returned (.bool (QeR s.data.toList))∧Below w.heap.size w w':=by
 have HP:=hid (fun w=>Qq1 s w)
 have HB:Hid (QeR s.data.toList=([47].isPrefixOf s.data.toList&&decide (s.size≤64)&&s.data.toList.all (fun c=>Qdy c.toNat))):=hid (by unfold QeR;rw [Qab])
 have HI:=hid (fun w=>QvA s w)
 have HA:=hid (Qog s);generalize s.data.toList.all (fun c=>Qdy c.toNat)=A at HA HB
 generalize Lib.idxFunc (fun x=>!Qdy x) true s=i at HA HI
 cases hp : [47].isPrefixOf s.data.toList with
 |false=>
  rw [hp] at HP HB;clear hp;go_enter Tryz.func43,Tryz.ntmps43;go_wp2_with fail;refine (HP.out _).mono ?_;rintro e w' ⟨rfl,rfl⟩;go_wp2_with fail;go_ret;exact ⟨by rw [HB.out];rfl,Below.refl _ _⟩
 |true=>
  rw [hp] at HP HB;clear hp
  by_cases hl:s.size≤64
  ·rw [decide_eq_true hl] at HB
   have tl:decide ((s.size:Int)≤64)=true:=decide_eq_true (by omega)
   go_enter Tryz.func43,Tryz.ntmps43;go_wp2_with fail;refine (HP.out _).mono ?_;rintro e w' ⟨rfl,rfl⟩;go_wp2_with fail;refine (HI.out _).mono ?_;rintro e w1 ⟨rfl,hb1⟩;go_wp2_with fail;go_ret;exact ⟨by rw [HB.out,←HA.out];rfl,hb1⟩
  ·rw [decide_eq_false hl] at HB
   have tl:decide ((s.size:Int)≤64)=false:=decide_eq_false (by omega)
   go_enter Tryz.func43,Tryz.ntmps43;go_wp2_with fail;refine (HP.out _).mono ?_;rintro e w' ⟨rfl,rfl⟩;go_wp2_with fail;go_ret;exact ⟨by rw [HB.out];rfl,Below.refl _ _⟩
theorem QiE(s:ByteArray)(w:World) :
  Calls Tryz.prog 44 #[.string s] w fun e w'=>e = .returned (.bool (Qen s.data.toList))∧Below w.heap.size w w':=by
 have HB:Hid (Qen s.data.toList=(!s.toList.isEmpty&&decide (s.size≤32)&&s.data.toList.all (fun c=>QeT c.toNat))):=hid (by unfold Qen;rw [Qab,ByteArray.toList_eq])
 have HI:=hid (fun w=>QvB s w)
 have HA:=hid (Qoh s);generalize s.data.toList.all (fun c=>QeT c.toNat)=A at HA HB
 generalize Lib.idxFunc (fun x=>!QeT x) true s=i at HA HI
 cases hp:s.toList.isEmpty with
 |true=>
  rw [hp] at HB;go_enter Tryz.func44,Tryz.ntmps44;go_wp2_with fail;go_ret;exact ⟨by rw [HB.out];rfl,Below.refl _ _⟩
 |false=>
  rw [hp] at HB
  by_cases hl:s.size≤32
  ·rw [decide_eq_true hl] at HB
   have tl:decide ((s.size:Int)≤32)=true:=decide_eq_true (by omega)
   go_enter Tryz.func44,Tryz.ntmps44;go_wp2_with fail;refine (HI.out _).mono ?_;rintro e w1 ⟨rfl,hb1⟩;go_wp2_with fail;go_ret;exact ⟨by rw [HB.out,←HA.out];rfl,hb1⟩
  ·rw [decide_eq_false hl] at HB
   have tl:decide ((s.size:Int)≤32)=false:=decide_eq_false (by omega)
   go_enter Tryz.func44,Tryz.ntmps44;go_wp2_with fail;go_ret;exact ⟨by rw [HB.out];rfl,Below.refl _ _⟩
end
section
open Go.RowKit
theorem Qz0{W w1:World}(hb:Below W.heap.size W w1):(∀ b o,b<W.heap.size→w1.cell? ⟨b,o,none⟩=W.cell? ⟨b,o,none⟩)∧(∀ b o,b<W.heap.size→w1.frozen? ⟨b,o,none⟩=W.frozen? ⟨b,o,none⟩):=
 ⟨fun b o h=>hb.cell (p:=⟨b,o,none⟩) h,fun b o h=>hb.frozen (p:=⟨b,o,none⟩) h⟩
theorem QdH{fn:Func}{R:Ending→World→Prop}{a:Act}{w:World}{A:Addr}{V:Value}{p:Tmp}{ty:TypeId}(QAH:fn.results=#[.cell p ty])
  (QAy:(loadVar ty A).run Tryz.prog w = .ok V w)
  (hp:a.tmps.getD p undef = .pointer (some A)) (QAN:a.defers = [])
  (hR:R (.returned V) w):bodyPost Tryz.prog fn R .ret a w:=by
 refine bodyPost_ret_by (v:=V) ?_ QAN hR;have hp':a.tmps[p]?.getD undef = .pointer (some A):=by simpa using hp
 simp [results,QAH,hp',asAddr,QAy]
theorem Qlm{fn:Func}{R:Ending→World→Prop}{a:Act}{w:World}{A:Addr}{V E:Value}{p u:Tmp}{ty:TypeId}(QAH:fn.results=#[.cell p ty,.tmp u])
  (QAy:(loadVar ty A).run Tryz.prog w = .ok V w)
  (hp:a.tmps.getD p undef = .pointer (some A)) (hE:a.tmps.getD u undef=E) (QAN:a.defers = [])
  (hR:R (.returned (.tuple #[V,E])) w):bodyPost Tryz.prog fn R .ret a w:=by
 refine bodyPost_ret_by (v:=.tuple #[V,E]) ?_ QAN hR;rw [results_cell_tmp QAH,hp,hE];simp [asAddr,QAy,Result.andThen]
theorem QaK{fn:Func}{R:Ending→World→Prop}{a:Act}{w:World}{A:Addr}{V E F:Value}{p u v:Tmp}{ty:TypeId}(QAH:fn.results=#[.cell p ty,.tmp u,.tmp v])
  (QAy:(loadVar ty A).run Tryz.prog w = .ok V w)
  (hp:a.tmps.getD p undef = .pointer (some A)) (hE:a.tmps.getD u undef=E) (hF:a.tmps.getD v undef=F) (QAN:a.defers = [])
  (hR:R (.returned (.tuple #[V,E,F])) w):bodyPost Tryz.prog fn R .ret a w:=by
 refine bodyPost_ret_by (v:=.tuple #[V,E,F]) ?_ QAN hR;have hp':a.tmps[p]?.getD undef = .pointer (some A):=by simpa using hp
 have hE':a.tmps[u]?.getD undef=E:=by simpa using hE
 have hF':a.tmps[v]?.getD undef=F:=by simpa using hF
 simp [results,QAH,hp',hE',hF',asAddr,QAy,Result.andThen]
end
section
open Go.RowKit
def QgE(p h:List UInt8)(a b:Int):Nat:=if QeR p=false∨Qen h=false then 2 else Qc9 a b
theorem QwP(w:World)(x y z u:Value)(t:TypeId):(w.alloc (.cells #[x,y,z,u] t)).cell? ⟨w.heap.size,0,none⟩=some x∧(w.alloc (.cells #[x,y,z,u] t)).cell? ⟨w.heap.size,1,none⟩=some y∧(w.alloc (.cells #[x,y,z,u] t)).cell? ⟨w.heap.size,2,none⟩=some z∧(w.alloc (.cells #[x,y,z,u] t)).cell? ⟨w.heap.size,3,none⟩=some u:=by
 have hh:=heap_alloc_new w (.cells #[x,y,z,u] t);refine ⟨?_,?_,?_,?_⟩<;>(unfold World.cell?;rw [hh];rfl)
theorem Qbp(w:World)(x y z u:Value)(t:TypeId):Below w.heap.size w (w.alloc (.cells #[x,y,z,u] t)):=(Below.refl _ _).alloc (Nat.le_refl _) _
theorem QfZ{w w1:World}{x y z u:Value}{t:TypeId}(hb:Below (w.alloc (.cells #[x,y,z,u] t)).heap.size (w.alloc (.cells #[x,y,z,u] t)) w1):w1.cell? ⟨w.heap.size,0,none⟩=some x∧w1.cell? ⟨w.heap.size,1,none⟩=some y∧w1.cell? ⟨w.heap.size,2,none⟩=some z∧w1.cell? ⟨w.heap.size,3,none⟩=some u:=by
 obtain ⟨a,b,c,d⟩:=QwP w x y z u t;exact ⟨(hb.cell (p:=⟨w.heap.size,0,none⟩) (by simp)).trans a,(hb.cell (p:=⟨w.heap.size,1,none⟩) (by simp)).trans b,(hb.cell (p:=⟨w.heap.size,2,none⟩) (by simp)).trans c,(hb.cell (p:=⟨w.heap.size,3,none⟩) (by simp)).trans d⟩
theorem Qdl(p h:ByteArray)(a b:Int)(w:World) :
  Calls Tryz.prog 19 #[.agg #[.string p,.string h,.int .i64 a,.int .i64 b]] w fun e w'=>e = .returned (.int .i64 (QgE p.data.toList h.data.toList a b:Nat))∧Below w.heap.size w w':=by
 have HP:=hid (fun w=>QiD p w)
 have HH:=hid (fun w=>QiE h w)
 have HC:=hid (fun w=>QbL a b w)
 cases hp:QeR p.data.toList with
 |false=>
  have HR:Hid (QgE p.data.toList h.data.toList a b=2):=hid (if_pos (.inl hp));rw [hp] at HP;clear hp;go_enter Tryz.func19,Tryz.ntmps19;go_wp2_with fail;refine (HP.out _).mono ?_;rintro e w1 ⟨rfl,hb1⟩;go_wp2_with fail;go_ret;exact ⟨by rw [HR.out];rfl,Qaa (Qbp w _ _ _ _ _) hb1⟩
 |true=>
  rw [hp] at HP;cases hh:Qen h.data.toList with
  |false=>
   have HR:Hid (QgE p.data.toList h.data.toList a b=2):=hid (if_pos (.inr hh));rw [hh] at HH;clear hp hh;go_enter Tryz.func19,Tryz.ntmps19;go_wp2_with fail;refine (HP.out _).mono ?_;rintro e w1 ⟨rfl,hb1⟩;obtain ⟨c0,c1,c2,c3⟩:=QfZ hb1;have HB1:=hid (Qaa (Qbp w _ _ _ _ _) hb1);clear hb1;go_wp2_with fail;refine (HH.out _).mono ?_;rintro e w2 ⟨rfl,hb2⟩;go_wp2_with fail;go_ret;exact ⟨by rw [HR.out];rfl,Qaa HB1.out hb2⟩
  |true=>
   have HR:Hid (QgE p.data.toList h.data.toList a b=Qc9 a b):=hid (if_neg (fun e=>e.elim (fun e=>by rw [hp] at e;exact absurd e (by decide)) (fun e=>by rw [hh] at e;exact absurd e (by decide))))
   rw [hh] at HH;clear hp hh;go_enter Tryz.func19,Tryz.ntmps19;go_wp2_with fail;refine (HP.out _).mono ?_;rintro e w1 ⟨rfl,hb1⟩;obtain ⟨c0,c1,c2,c3⟩:=QfZ hb1;have HB1:=hid hb1;clear hb1;go_wp2_with fail;refine (HH.out _).mono ?_;rintro e w2 ⟨rfl,hb2⟩;have HB2:=hid (Qaa HB1.out hb2);obtain ⟨c0,c1,c2,c3⟩:=QfZ HB2.out;clear hb2;go_wp2_with fail;refine (HC.out _).mono ?_;rintro e w3 ⟨rfl,hb3⟩;go_wp2_with fail;go_ret;exact ⟨by rw [HR.out];rfl,Qaa (Qbp w _ _ _ _ _) (Qaa HB2.out hb3)⟩
theorem QeF(w:World)(b:Nat)(t:TypeId)(x y z u:Value)(h:w.heap[b]?=some (.cells #[x,y,z,u] t (0,0))):(loadVar 69 ⟨b,0,none⟩).run Tryz.prog w = .ok (.agg #[x,y,z,u]) w:=
 run_loadVar_row w b t 69 #[x,y,z,u] (0,0) _ h Tryz.underlying69 rfl (by kernel_rfl)
theorem QeI{w:World}{b:Nat}{x y z u:Value}{t:TypeId}(h:w.heap[b]?=some (.cells #[x,y,z,u] t (0,0)))(x' y' z' u':Value) :
  ((((w.setCell ⟨b,0,none⟩ x').setCell ⟨b,1,none⟩ y').setCell ⟨b,2,none⟩ z').setCell ⟨b,3,none⟩ u').heap[b]?=some (.cells #[x',y',z',u'] t (0,0)):=by
 simp [World.setCell,Array.getElem?_modify,h]
theorem QcT{B:Nat}{w0 w:World}(h:Below B w0 w)(b:Nat)(hB:B≤b)(x' y' z' u':Value):Below B w0 ((((w.setCell ⟨b,0,none⟩ x').setCell ⟨b,1,none⟩ y').setCell ⟨b,2,none⟩ z').setCell ⟨b,3,none⟩ u'):=
 (((h.setCell (p:=⟨b,0,none⟩) hB _).setCell (p:=⟨b,1,none⟩) hB _).setCell (p:=⟨b,2,none⟩) hB _).setCell (p:=⟨b,3,none⟩) hB _
end
end Go.Proofs.YtilaebjndadkhaaGreatDoor
