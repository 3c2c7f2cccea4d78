/- What parts of the program compute: packed for TopReach. Conditions: none. -/
import Derived.Test.YtilaebjndadkhaaGreatDoorPz10
set_option linter.all false
set_option maxRecDepth 100000
set_option maxHeartbeats 8000000
open Go.Lib (hid)
namespace Go.Proofs.YtilaebjndadkhaaGreatDoor
section
open Go.RowKit
def Qdm(l:List UInt8)(w:World)(e:Ending)(w':World):Prop:=
 ∃ a c,e = .returned (.slice a l.length c)∧w'.ownsRow w.heap.size 5 1 (.slice a l.length c) l.length (QaG l)∧Below w.heap.size w w'
theorem QjH(w:World)(a:Option Addr)(n c n' c':Nat):(binOp .eql 157 (.slice a n c) (.slice none n' c')).run Tryz.prog w = .ok (.bool a.isNone) w:=Lib.run_eql_slice_nil w _ _ a n c n' c' Tryz.underlying157
theorem Qg4(w:World):Calls Tryz.prog 205 #[.slice none 0 0] w fun e w'=>e = .returned (.slice none 0 0)∧w'=w:=by
 have q:=QjH;go_enter Tryz.func205,Tryz.ntmps205;go_wp2_with fail;go_ret;exact ⟨rfl,rfl⟩
theorem Qq3(l:List UInt8):∀ u∈QaG l,u.oneCell'=true:=by
 intro u hu;unfold QaG at hu;obtain ⟨b,-,rfl⟩:=List.mem_map.1 hu;rfl
theorem Qmt(v:Value)(b0:Nat)(l:List UInt8)(w:World)(h:w.ownsRow b0 5 1 v l.length (QaG l))(hl:l.length≤1000000) :
  Calls Tryz.prog 205 #[v] w (Qdm l w):=by
 rcases id h.2 with ⟨rfl,h0⟩|⟨g,cap,cur,rfl,-⟩
 ·refine (Qg4 w).mono ?_
  rintro e w' ⟨rfl,hw⟩;subst hw;obtain rfl:l = []:=List.length_eq_zero_iff.1 h0;exact ⟨_,_,rfl,World.ownsRow_nil _ _ _ _,Below.refl _ _⟩
 ·have q:=QjH
  obtain ⟨i0,hi,hz0,hz1,hz2⟩:=info_parts Qic;have HC:=hid (h.cells (g:=g) rfl);have HL:=hid (Qk3 l);have HO:=hid (Qq3 l);obtain ⟨E,hE⟩:∃ E,QaG l=E:=⟨_,rfl⟩;rw [hE] at HC HL HO;have HE:=hid hE;obtain ⟨N,hN⟩:∃ N,l.length=N:=⟨_,rfl⟩;rw [hN] at HL hl ⊢;have HN:=hid hN;clear h hE hN;go_enter Tryz.func205,Tryz.ntmps205;go_wp2_with (at_builtin;refine wpList_append_own _ rfl _ _ 157 rfl w.heap.size 5 i0 (.int .u8 0) 1 1 Tryz.underlying157 hi hz0 hz1 hz2 rfl (by decide) _ _ _ rfl (World.ownsRow_made w #[] 0 (Nat.le_refl _) (Nat.zero_le _) rfl) ⟨g,0,none⟩ N cap E rfl ?qc1 ?qc2 ?qc3 ?qc4 ?qc5 ?qc6 ?_)
  case qc1=>rw [HL.out,Nat.mul_one]
  case qc2=>exact fun j u hj=>Lib.cell?_alloc_some _ (HC.out j u hj)
  case qc3=>exact HO.out
  case qc4=>unfold maxLen;omega
  case qc5=>omega
  case qc6=>simp
  intro v' w1 QAq QAu hnil;have QAx:w1.ownsRow w.heap.size 5 1 v' N E:=by simpa using QAq
  go_wp2;go_ret;obtain ⟨a,c,hv⟩:=Qbe QAx;subst hv;unfold Qdm;rw [HN.out,HE.out];exact ⟨a,c,rfl,QAx,((Below.refl _ w).alloc (Nat.le_refl _) _).grown QAu (by simp) (by intro k hk;simp [Value.ownBlock] at hk;omega)⟩
theorem Qvp(n:Nat):∀ x,leB (n+1) x=leB n x++[UInt8.ofNat (x/256 ^ n)]:=by
 induction n with
 |zero=>intro x;show [UInt8.ofNat x]=_;rw [Nat.pow_zero,Nat.div_one];rfl
 |succ n ih=>
  intro x;show UInt8.ofNat x :: leB (n+1) (x/256)=_;rw [ih,Nat.div_div_eq_div_mul,show 256*256 ^ n=256 ^ (n+1) by rw [Nat.pow_succ,Nat.mul_comm]]
  rfl
theorem Qsy(y:Nat):UInt8.ofNat (y%256)=UInt8.ofNat y:=by
 apply UInt8.toNat_inj.1;rw [UInt8.toNat_ofNat',UInt8.toNat_ofNat',Nat.mod_mod]
def LpSt(l:List UInt8)(n x:Nat)(w:World)(u2 u7 u15:Value)(wr:World):Prop:=
 ∃ (k:Nat) (a:Option Addr) (c:Nat),k≤n∧u15 = .int .i64 (k:Nat)∧u2 = .int .u64 (x/256 ^ k:Nat)∧u7 = .slice a (l++leB k x).length c∧wr.ownsRow w.heap.size 5 1 (.slice a (l++leB k x).length c) (l++leB k x).length (QaG (l++leB k x))∧Below w.heap.size w wr
theorem Qju(b0 n x:Nat)(l:List UInt8)(v:Value)(w:World)(hv:∃ a c,v = .slice a l.length c)(h1:1≤n)(h8:n≤8)(hx:x<18446744073709551616)(hl:l.length≤900000)(ho:w.ownsRow b0 5 1 v l.length (QaG l)) :
  Calls Tryz.prog 173 #[v,.int .i64 (n:Nat),.int .u64 (x:Nat)] w (Qdm (l++leB n x) w):=by
 have HCl:=hid (Qmt v b0 l w ho (by omega))
 have HF:=hid (fun W=>QdR n W h1 h8)
 obtain ⟨a0,c0,rfl⟩:=hv;obtain ⟨L,hL⟩:∃ L,l.length=L:=⟨_,rfl⟩;have hL2:=hid hL;rw [hL] at HCl ho ⊢;clear ho hL;go_enter Tryz.func173,Tryz.ntmps173;go_wp2_with fail;refine HCl.out.mono ?_;rintro e w1 ⟨a1,c1,rfl,ho1,hb1⟩;have HS1:=hid (And.intro ho1 hb1);clear ho1 hb1;go_wp2_with fail;refine (HF.out _).mono ?_;rintro e w2 ⟨rfl,hw⟩;obtain rfl:=hw.symm;clear hw;go_wp2_with fail;go_loopw [2,7,15] (fun u2 u7 u15 wr=>Hid (LpSt l n x w u2 u7 u15 wr)) (fun _ _ u15 _=>n-(intOf u15).toNat)
 case atStart=>exact hid ⟨0,a1,c1,Nat.zero_le _,rfl,by rw [Nat.pow_zero,Nat.div_one],by rw [show leB 0 x = [] from rfl,List.append_nil],by rw [show leB 0 x = [] from rfl,List.append_nil];exact HS1.out.1,HS1.out.2⟩
 case round=>
  obtain ⟨k,a,c,hk,rfl,rfl,rfl,ho,hb⟩:=hrel.out;clear hrel
  by_cases hlt:k<n
  ·have t1:decide (k<n)=true:=decide_eq_true hlt
   have t1':decide ((k:Int)<(n:Int))=true:=decide_eq_true (by omega)
   have hy:x/256 ^ k<18446744073709551616:=Nat.lt_of_le_of_lt (Nat.div_le_self _ _) hx;have hyn:x/256 ^ k/256=x/256 ^ (k+1):=by rw [Nat.div_div_eq_div_mul,Nat.pow_succ]
   have HYN:=hid hyn;have hsn:=Qvp k x;have hlen:(l++leB k x).length=l.length+k:=by rw [List.length_append,QbP]
   have HSN:Hid (l++leB (k+1) x=(l++leB k x)++[UInt8.ofNat (x/256 ^ k%256)]):=hid (by rw [hsn,Qsy,List.append_assoc])
   generalize x/256 ^ k=y at *;obtain ⟨d,hd⟩:∃ d,l++leB k x=d:=⟨_,rfl⟩;rw [hd] at ho hlen HSN ⊢;have HO1:=hid ho;have HB1:=hid hb;clear ho hb hyn hsn hd;go_wp2_with (at_builtin;go_loud (refine Qez 157 5 (.int .u8 0) 1 1 Tryz.underlying157 Qic rfl (by decide) (by decide) wr [.int .u8 ((y:Int)%256)] rfl (by simp [Value.oneCell']) (by rfl) _ _ (by rfl) w.heap.size _ d.length (QaG d) (by rfl) HO1.out (by rfl) (by omega) HB1.out.size ?_);intro g' cap w3 QAt hg1 hd1)
   refine ⟨hid ⟨k+1,some ⟨g',0,none⟩,cap,hlt,by go_num,?_,?_,?_,Qe8 HB1.out hg1 HO1.out (Nat.le_refl _) (Nat.le_refl _)⟩,?_⟩
   ·rw [←HYN.out];rfl
   ·rw [HSN.out,List.length_append,List.length_singleton,hlen]
   ·rw [HSN.out,List.length_append,List.length_singleton,Qfe _ _ (by omega)]
    exact QAt
   ·simp [intOf];omega
  ·have t1:decide (k<n)=false:=decide_eq_false hlt
   have t1':decide ((k:Int)<(n:Int))=false:=decide_eq_false (by omega)
   obtain rfl:k=n:=by omega
   have HO1:=hid (And.intro ho hb);clear ho hb;obtain ⟨d,hd⟩:∃ d,l++leB k x=d:=⟨_,rfl⟩;rw [hd] at HO1 ⊢;have HD:=hid hd;clear hd;go_wp2_with fail;go_ret;rw [HD.out];exact ⟨a,c,rfl,HO1.out.1,HO1.out.2⟩
end
section
open Go.RowKit
theorem Ql9{α:Type}(f:α→List UInt8)(xs:List α)(k:Nat)(x:α)(h:xs[k]?=some x):(xs.take (k+1)).flatMap f=(xs.take k).flatMap f++f x:=by
 obtain ⟨hk,rfl⟩:=List.getElem?_eq_some_iff.1 h;rw [List.take_succ_eq_append_getElem hk,List.flatMap_append];simp
theorem QvX(n:Nat)(xs:List Nat):(xs.flatMap (leB n)).length=n*xs.length:=by
 induction xs with
 |nil=>simp
 |cons x r ih=>rw [List.flatMap_cons,List.length_append,QbP,ih,List.length_cons,Nat.mul_add,Nat.mul_one];omega
def QzO(f:Nat→List UInt8)(l:List UInt8)(w:World)(k:Nat)(u0:Value)(wr:World):Prop:=
 ∃ (bb:Nat) (a:Option Addr) (c:Nat),u0 = .slice a (l++f k).length c∧wr.ownsRow bb 5 1 (.slice a (l++f k).length c) (l++f k).length (QaG (l++f k))∧(0<k→w.heap.size≤bb)∧Below w.heap.size w wr
theorem Qqx(b0 n g c:Nat)(l:List UInt8)(xs:List Nat)(v:Value)(w:World)(hv:∃ a c,v = .slice a l.length c)(h1:1≤n)(h8:n≤8)(hxs:∀ x∈xs,x<18446744073709551616)(hl:l.length≤500000)(hx0:0<xs.length)(hxl:xs.length≤1000)(ho:w.ownsRow b0 5 1 v l.length (QaG l))
  (hg:g<w.heap.size) (hc:∀ j (hj:j<xs.length),w.cell? ⟨g,j,none⟩=some (.int .u64 (xs[j]:Nat))) :
  Calls Tryz.prog 126 #[v,.int .i64 (n:Nat),.slice (some ⟨g,0,none⟩) xs.length c] w (Qdm (l++xs.flatMap (leB n)) w):=by
 obtain ⟨f,hf⟩:∃ f:Nat→List UInt8,f=fun k=>(xs.take k).flatMap (leB n):=⟨_,rfl⟩
 have hfl:∀ k,(f k).length≤8000:=by
  intro k;rw [hf];show ((xs.take k).flatMap (leB n)).length≤_;rw [QvX,List.length_take];have:min k xs.length≤1000:=by omega
  calc n*min k xs.length≤8*1000:=Nat.mul_le_mul h8 this
   _=8000:=rfl
 have hf0:f 0 = []:=by rw [hf];rfl
 have hfs:∀ k x,xs[k]?=some x→f (k+1)=f k++leB n x:=by intro k x h;rw [hf];exact Ql9 _ _ _ _ h
 have hfe:f xs.length=xs.flatMap (leB n):=by rw [hf];show (xs.take xs.length).flatMap _=_;rw [List.take_length]
 rw [←hfe];have HP:=hid (fun (bb x:Nat) (d:List UInt8) (v:Value) (W:World) (hv:∃ a c,v = .slice a d.length c) hx hl ho=>Qju bb n x d v W hv h1 h8 hx hl ho)
 have HX:=hid hxs;have HC:=hid hc;have HF:=hid (And.intro hfl hfs);obtain ⟨a0,c0,rfl⟩:=hv;obtain ⟨L,hL⟩:∃ L,l.length=L:=⟨_,rfl⟩;have HO:Hid (QzO f l w 0 (.slice a0 L c0) w):=hid ⟨b0,a0,c0,by rw [hf0,List.append_nil,hL],by rw [hf0,List.append_nil];exact ho,fun h=>absurd h (Nat.lt_irrefl _),Below.refl _ _⟩
 have HL:=hid hL;rw [hL] at hl ⊢;clear ho hxs hc hf hfl hf0 hfs hfe hL;go_enter Tryz.func126,Tryz.ntmps126;go_wp2_with fail;go_loopw [0,11] (fun u0 u11 wr=>Hid (∃ k:Nat,k≤xs.length∧u11 = .int .i64 (k:Nat)∧QzO f l w k u0 wr)) (fun _ u11 _=>xs.length-(intOf u11).toNat)
 case atStart=>exact hid ⟨0,Nat.zero_le _,rfl,HO.out⟩
 case round=>
  obtain ⟨k,hk,rfl,bb,a,c1,rfl,ho,hbb,hb⟩:=hrel.out;clear hrel
  by_cases hlt:k<xs.length
  ·have t1:decide (k<xs.length)=true:=decide_eq_true hlt
   have t1':decide ((k:Int)<(xs.length:Int))=true:=decide_eq_true (by omega)
   have cx:=(hb.cell (p:=⟨g,k,none⟩) hg).trans (HC.out k hlt);have hfk:=HF.out.1 k;have HS:=hid (HF.out.2 k xs[k] (List.getElem?_eq_getElem hlt));have HQ:=hid (HP.out bb xs[k] (l++f k) (.slice a (l++f k).length c1) wr ⟨a,c1,rfl⟩ (HX.out _ (List.getElem_mem hlt)) (by rw [List.length_append,HL.out];omega) ho)
   rw [List.append_assoc,←HS.out] at HQ;have HB:=hid hb;generalize xs[k]=x at *;obtain ⟨d,hd⟩:∃ d,l++f k=d:=⟨_,rfl⟩;rw [hd] at HQ ⊢;clear ho hbb hb hd hfk HS;go_wp2_with fail;refine HQ.out.mono ?_;rintro e w2 ⟨a2,c2,rfl,ho2,hb2⟩;have HO2:=hid (And.intro ho2 hb2);clear ho2 hb2;go_wp2_with fail;refine ⟨hid ⟨k+1,hlt,by go_num,wr.heap.size,a2,c2,by rw [List.length_append],HO2.out.1,fun _=>HB.out.size,Qaa HB.out HO2.out.2⟩,?_⟩
   simp [intOf];omega
  ·have t1:decide (k<xs.length)=false:=decide_eq_false hlt
   have t1':decide ((k:Int)<(xs.length:Int))=false:=decide_eq_false (by omega)
   obtain rfl:k=xs.length:=by omega
   have HO1:=hid (And.intro (Qbd ho (hbb hx0)) hb);clear ho hb hbb;obtain ⟨d,hd⟩:∃ d,l++f xs.length=d:=⟨_,rfl⟩;rw [hd] at HO1 ⊢;have HD:=hid hd;clear hd;go_wp2_with fail;go_ret;rw [HD.out];exact ⟨a,c1,rfl,HO1.out.1,HO1.out.2⟩
theorem Qh6(x:Int)(w:World)(h0 : -2147483648≤x)(h1:x<2147483648):Calls Tryz.prog 174 #[.int .i64 x,.int .i64 4] w fun e w'=>e = .returned (.tuple #[.int .u64 (QaU x:Nat),.int .i64 0])∧w'=w:=by
 have HF:=hid (fun W=>QdR 4 W (by decide) (by decide))
 go_enter Tryz.func174,Tryz.ntmps174;go_wp2_with fail;refine (HF.out _).mono ?_;rintro e w1 ⟨rfl,hw⟩;obtain rfl:=hw.symm;clear hw;go_wp2_with fail;go_ret2;refine ⟨?_,rfl⟩;have e:IntKind.u64.wrap (IntKind.u64.wrap x*4294967296)/4294967296=((QaU x:Nat):Int):=by
  unfold QaU;rw [IntKind.wrap_u64,IntKind.wrap_u64];omega
 rw [←e];rfl
theorem Qi3(b0 g c:Nat)(l:List UInt8)(xs:List Int)(v:Value)(w:World)(hv:∃ a c,v = .slice a l.length c)(hxs:∀ x∈xs,-2147483648≤x∧x<2147483648)(hl:l.length≤500000)(hx0:0<xs.length)(hxl:xs.length≤1000)(ho:w.ownsRow b0 5 1 v l.length (QaG l))
  (hg:g<w.heap.size) (hc:∀ j (hj:j<xs.length),w.cell? ⟨g,j,none⟩=some (.int .i64 xs[j])) :
  Calls Tryz.prog 127 #[v,.slice (some ⟨g,0,none⟩) xs.length c] w (Qdm (l++xs.flatMap (fun x=>leB 4 (QaU x))) w):=by
 obtain ⟨f,hf⟩:∃ f:Nat→List UInt8,f=fun k=>(xs.take k).flatMap (fun x=>leB 4 (QaU x)):=⟨_,rfl⟩
 have hfl:∀ k,(f k).length≤8000:=by
  intro k;rw [hf];show ((xs.take k).flatMap (fun x=>leB 4 (QaU x))).length≤_
  have gen:∀ ys:List Int,(ys.flatMap (fun x=>leB 4 (QaU x))).length=4*ys.length:=by
   intro ys
   induction ys with
   |nil=>simp
   |cons x r ih=>rw [List.flatMap_cons,List.length_append,QbP,ih,List.length_cons];omega
  rw [gen,List.length_take];omega
 have hf0:f 0 = []:=by rw [hf];rfl
 have hfs:∀ k x,xs[k]?=some x→f (k+1)=f k++leB 4 (QaU x):=by intro k x h;rw [hf];exact Ql9 _ _ _ _ h
 have hfe:f xs.length=xs.flatMap (fun x=>leB 4 (QaU x)):=by rw [hf];show (xs.take xs.length).flatMap _=_;rw [List.take_length]
 rw [←hfe];have HP:=hid (fun (bb x:Nat) (d:List UInt8) (v:Value) (W:World) (hv:∃ a c,v = .slice a d.length c) hx hl ho=>Qju bb 4 x d v W hv (by decide) (by decide) hx hl ho)
 have HX:=hid hxs;have HC:=hid hc;have HF:=hid (And.intro hfl hfs);obtain ⟨a0,c0,rfl⟩:=hv;obtain ⟨L,hL⟩:∃ L,l.length=L:=⟨_,rfl⟩;have HO:Hid (QzO f l w 0 (.slice a0 L c0) w):=hid ⟨b0,a0,c0,by rw [hf0,List.append_nil,hL],by rw [hf0,List.append_nil];exact ho,fun h=>absurd h (Nat.lt_irrefl _),Below.refl _ _⟩
 have HL:=hid hL;rw [hL] at hl ⊢;clear ho hxs hc hf hfl hf0 hfs hfe hL;go_enter Tryz.func127,Tryz.ntmps127;go_wp2_with fail;go_loopw [0,11] (fun u0 u11 wr=>Hid (∃ k:Nat,k≤xs.length∧u11 = .int .i64 (k:Nat)∧QzO f l w k u0 wr)) (fun _ u11 _=>xs.length-(intOf u11).toNat)
 case atStart=>exact hid ⟨0,Nat.zero_le _,rfl,HO.out⟩
 case round=>
  obtain ⟨k,hk,rfl,bb,a,c1,rfl,ho,hbb,hb⟩:=hrel.out;clear hrel
  by_cases hlt:k<xs.length
  ·have t1:decide (k<xs.length)=true:=decide_eq_true hlt
   have t1':decide ((k:Int)<(xs.length:Int))=true:=decide_eq_true (by omega)
   have cx:=(hb.cell (p:=⟨g,k,none⟩) hg).trans (HC.out k hlt);have hfk:=HF.out.1 k;have HS:=hid (HF.out.2 k xs[k] (List.getElem?_eq_getElem hlt));have hxk:=HX.out _ (List.getElem_mem hlt);have hu4:=Qe2 xs[k];have HU:=hid (fun W=>Qh6 xs[k] W hxk.1 hxk.2)
   have HQ:=hid (HP.out bb (QaU xs[k]) (l++f k) (.slice a (l++f k).length c1) wr ⟨a,c1,rfl⟩ (by have:(256:Nat) ^ 4=4294967296:=rfl;omega) (by rw [List.length_append,HL.out];omega) ho)
   rw [List.append_assoc,←HS.out] at HQ;have HB:=hid hb;generalize xs[k]=x at *;generalize QaU x=y at *;obtain ⟨d,hd⟩:∃ d,l++f k=d:=⟨_,rfl⟩;rw [hd] at HQ ⊢;clear ho hbb hb hd hfk HS hxk hu4;go_wp2_with fail;refine (HU.out _).mono ?_;rintro e w1 ⟨rfl,hw⟩;obtain rfl:=hw.symm;clear hw;go_wp2_with fail;refine HQ.out.mono ?_;rintro e w2 ⟨a2,c2,rfl,ho2,hb2⟩;have HO2:=hid (And.intro ho2 hb2);clear ho2 hb2;go_wp2_with fail;refine ⟨hid ⟨k+1,hlt,by go_num,wr.heap.size,a2,c2,by rw [List.length_append],HO2.out.1,fun _=>HB.out.size,Qaa HB.out HO2.out.2⟩,?_⟩
   simp [intOf];omega
  ·have t1:decide (k<xs.length)=false:=decide_eq_false hlt
   have t1':decide ((k:Int)<(xs.length:Int))=false:=decide_eq_false (by omega)
   obtain rfl:k=xs.length:=by omega
   have HO1:=hid (And.intro (Qbd ho (hbb hx0)) hb);clear ho hb hbb;obtain ⟨d,hd⟩:∃ d,l++f xs.length=d:=⟨_,rfl⟩;rw [hd] at HO1 ⊢;have HD:=hid hd;clear hd;go_wp2_with fail;go_ret;rw [HD.out];exact ⟨a,c1,rfl,HO1.out.1,HO1.out.2⟩
end
section
open Go.RowKit
theorem Qkm(b0 n:Nat)(l:List UInt8)(xs:List Nat)(v:Value)(W:World)(hv:∃ a c,v = .slice a l.length c)(h1:1≤n)(h8:n≤8)(hxs:∀ x∈xs,x<18446744073709551616)(hl:l.length≤500000)(hx0:0<xs.length)(hxl:xs.length≤1000)(ho:W.ownsRow b0 5 1 v l.length (QaG l)) :
  Calls Tryz.prog 126 #[v,.int .i64 (n:Nat),.slice (some ⟨W.heap.size,0,none⟩) xs.length xs.length] (W.alloc (.cells (QwD xs).toArray 43)) (Qdm (l++xs.flatMap (leB n)) W):=by
 have hB:Below W.heap.size W (W.alloc (.cells (QwD xs).toArray 43)):=(Below.refl _ _).alloc (Nat.le_refl _) _;have hk:=heap_alloc_new W (.cells (QwD xs).toArray 43);refine (Qqx b0 n W.heap.size xs.length l xs v _ hv h1 h8 hxs hl hx0 hxl (Qad ho (fun g hg=>hB.block g (ho.lt g hg).2)) (by rw [World.size_alloc];omega) (fun j hj=>?_)).mono ?_
 ·unfold World.cell?
  rw [hk];show (QwD xs).toArray[j]?=_;unfold QwD;rw [List.getElem?_toArray,List.getElem?_map,List.getElem?_eq_getElem hj];rfl
 ·rintro e w' ⟨a,c,rfl,h1,h2⟩
  exact ⟨a,c,rfl,Qbd h1 hB.size,hB.trans (h2.mono hB.size)⟩
theorem QtK(b0:Nat)(l:List UInt8)(xs:List Int)(v:Value)(W:World)(hv:∃ a c,v = .slice a l.length c)(hxs:∀ x∈xs,-2147483648≤x∧x<2147483648)(hl:l.length≤500000)(hx0:0<xs.length)(hxl:xs.length≤1000)(ho:W.ownsRow b0 5 1 v l.length (QaG l)) :
  Calls Tryz.prog 127 #[v,.slice (some ⟨W.heap.size,0,none⟩) xs.length xs.length] (W.alloc (.cells (xs.map (Value.int .i64)).toArray 3)) (Qdm (l++xs.flatMap (fun x=>leB 4 (QaU x))) W):=by
 have hB:Below W.heap.size W (W.alloc (.cells (xs.map (Value.int .i64)).toArray 3)):=(Below.refl _ _).alloc (Nat.le_refl _) _;have hk:=heap_alloc_new W (.cells (xs.map (Value.int .i64)).toArray 3);refine (Qi3 b0 W.heap.size xs.length l xs v _ hv hxs hl hx0 hxl (Qad ho (fun g hg=>hB.block g (ho.lt g hg).2)) (by rw [World.size_alloc];omega) (fun j hj=>?_)).mono ?_
 ·unfold World.cell?
  rw [hk];show (xs.map (Value.int .i64)).toArray[j]?=_;rw [List.getElem?_toArray,List.getElem?_map,List.getElem?_eq_getElem hj];rfl
 ·rintro e w' ⟨a,c,rfl,h1,h2⟩
  exact ⟨a,c,rfl,Qbd h1 hB.size,hB.trans (h2.mono hB.size)⟩
theorem QsM(w:World)(b0:Nat)(ty:TypeId)(hb:b0≤w.heap.size):∃ g c w',(Builtin.append_ #[157,157] ty #[.slice (some ⟨w.heap.size,0,none⟩) 7 7,.slice (some ⟨w.heap.size+1,0,none⟩) 1 1]).run Tryz.prog ((w.alloc (.cells #[.int .u8 80,.int .u8 77,.int .u8 84,.int .u8 105,.int .u8 108,.int .u8 101,.int .u8 115] 5 (7,8))).alloc (.cells #[.int .u8 3] 5)) = .ok (.slice (some ⟨g,0,none⟩) 8 c) w'∧w'.ownsRow b0 5 1 (.slice (some ⟨g,0,none⟩) 8 c) 8 (QaG Qin)∧Below b0 w w':=by
 obtain ⟨i0,hi,hz0,hz1,hz2⟩:=info_parts Qic;obtain ⟨W7,hW7⟩:∃ W7,w.alloc (.cells #[.int .u8 80,.int .u8 77,.int .u8 84,.int .u8 105,.int .u8 108,.int .u8 101,.int .u8 115] 5 (7,8))=W7:=⟨_,rfl⟩;have hz7:W7.heap.size=w.heap.size+1:=by rw [←hW7,World.size_alloc]
 have hB7:Below w.heap.size w W7:=by rw [←hW7];exact (Below.refl _ _).alloc (Nat.le_refl _) _
 have h7:W7.heap[w.heap.size]?=some (.cells #[.int .u8 80,.int .u8 77,.int .u8 84,.int .u8 105,.int .u8 108,.int .u8 101,.int .u8 115] 5 (7,8)):=by rw [←hW7];exact heap_alloc_new w _
 rw [hW7];have h8:=heap_alloc_new W7 (.cells #[.int .u8 3] 5);rw [hz7] at h8;have h78:=(Below.heap_alloc W7 (.cells #[.int .u8 3] 5) w.heap.size (by omega)).trans h7
 have ad:∀ g j:Nat,(⟨g,0,none⟩:Addr).add j=⟨g,j,none⟩:=fun g j=>by unfold Addr.add;split<;>simp_all
 obtain ⟨v',w',QAw,QAq,hgr⟩:=run_append_arg_grows (P:=Tryz.prog) (W7.alloc (.cells #[.int .u8 3] 5)) 157 ty 5 i0 (.int .u8 0) 1 1 Tryz.underlying157 hi hz0 hz1 hz2 rfl (by decide)
  ⟨w.heap.size,0,none⟩ 7 7 [.int .u8 80,.int .u8 77,.int .u8 84,.int .u8 105,.int .u8 108,.int .u8 101,.int .u8 115] rfl (fun j u hj=>by rw [ad];unfold World.cell?;rw [h78];simpa using hj)
  ⟨w.heap.size+1,0,none⟩ 1 1 [.int .u8 3] rfl (fun j u hj=>by rw [ad];unfold World.cell?;rw [h8];simpa using hj) (by decide) (by decide) (by decide)
 rcases id QAq.2 with ⟨-,h0⟩|⟨g,c,cur,rfl,-⟩
 ·exact absurd h0 (by decide)
 ·refine ⟨g,c,w',QAw,Qbd QAq (by rw [World.size_alloc];omega),?_⟩
  refine (hB7.mono hb).trans ⟨hgr.os,hgr.tape,hgr.output,Nat.le_trans (by simp) hgr.size,fun k hk=>(hgr.block k (by rw [World.size_alloc];omega) (by simp)).trans (Below.heap_alloc _ _ _ (by omega))⟩
def Qna(h:Hdr):List (Nat×Nat):=[(h.rf,h.rl),(h.mf,h.ml),(h.lf,h.ll),(h.df,h.dl)]
def Qbc(h:Hdr)(k:Nat):List UInt8:=Qin++((Qna h).take k).flatMap (fun p=>leB 8 p.1++leB 8 p.2)
def HeR(B:Nat)(w:World)(l:List UInt8)(u5:Value)(wr:World):Prop:=∃ a c,u5 = .slice a l.length c∧wr.ownsRow B 5 1 (.slice a l.length c) l.length (QaG l)∧Below B w wr
theorem HeR.below{B:Nat}{w wr w2:World}{l:List UInt8}{u:Value}(h:HeR B w l u wr)(hb:Below wr.heap.size wr w2)(hB:B≤w.heap.size):HeR B w l u w2:=by
 obtain ⟨a,c,rfl,h1,h2⟩:=h;exact ⟨a,c,rfl,Qad h1 (fun g hg=>hb.block g (h1.lt g hg).2),h2.trans (hb.mono (Nat.le_trans hB h2.size))⟩
theorem Qfr(h:Hdr)(k:Nat)(hk:k≤4):(Qbc h k).length≤1000:=by
 rcases (by omega:k=0∨k=1∨k=2∨k=3∨k=4) with rfl|rfl|rfl|rfl|rfl<;>simp [Qbc,Qna,Qin,QbP]
theorem Qxd(h:Hdr):Qbc h 0++(leB 8 h.rf++leB 8 h.rl)=Qbc h 1:=by simp [Qbc,Qna]
theorem Qxc(h:Hdr):Qbc h 1++(leB 8 h.mf++leB 8 h.ml)=Qbc h 2:=by simp [Qbc,Qna]
theorem Qxb(h:Hdr):Qbc h 2++(leB 8 h.lf++leB 8 h.ll)=Qbc h 3:=by simp [Qbc,Qna]
theorem Qxa(h:Hdr):Qbc h 3++(leB 8 h.df++leB 8 h.dl)=Qbc h 4:=by simp [Qbc,Qna]
section
variable (b0:Nat) (l:List UInt8) (v:Value) (W:World) (hv:∃ a c,v = .slice a l.length c) (hl:l.length≤500000) (ho:W.ownsRow b0 5 1 v l.length (QaG l))
include hv hl ho
theorem Qr4(x:Nat)(hx:x<18446744073709551616):Calls Tryz.prog 126 #[v,.int .i64 1,.slice (some ⟨W.heap.size,0,none⟩) 1 1] (W.alloc (.cells #[.int .u64 (x:Nat)] 43)) (Qdm (l++leB 1 x) W):=by
 have h:=Qkm b0 1 l [x] v W hv (by decide) (by decide) (by simp [hx]) hl (by simp) (by simp) ho
 simp only [List.flatMap_cons,List.flatMap_nil,List.append_nil] at h;exact h
theorem Qr2(x y z:Nat)(hx:x<18446744073709551616)(hy:y<18446744073709551616)(hz:z<18446744073709551616):Calls Tryz.prog 126 #[v,.int .i64 8,.slice (some ⟨W.heap.size,0,none⟩) 3 3] (W.alloc (.cells #[.int .u64 (x:Nat),.int .u64 (y:Nat),.int .u64 (z:Nat)] 43)) (Qdm (l++(leB 8 x++(leB 8 y++leB 8 z))) W):=by
 have h:=Qkm b0 8 l [x,y,z] v W hv (by decide) (by decide) (by simp [hx,hy,hz]) hl (by simp) (by simp) ho
 simp only [List.flatMap_cons,List.flatMap_nil,List.append_nil] at h;exact h
theorem Qr3(x0 x1 x2 x3 x4 x5:Nat)(h0:x0<18446744073709551616)(h1:x1<18446744073709551616)(h2:x2<18446744073709551616)(h3:x3<18446744073709551616)(h4:x4<18446744073709551616)(h5:x5<18446744073709551616):Calls Tryz.prog 126 #[v,.int .i64 1,.slice (some ⟨W.heap.size,0,none⟩) 6 6] (W.alloc (.cells #[.int .u64 (x0:Nat),.int .u64 (x1:Nat),.int .u64 (x2:Nat),.int .u64 (x3:Nat),.int .u64 (x4:Nat),.int .u64 (x5:Nat)] 43)) (Qdm (l++(leB 1 x0++(leB 1 x1++(leB 1 x2++(leB 1 x3++(leB 1 x4++leB 1 x5)))))) W):=by
 have h:=Qkm b0 1 l [x0,x1,x2,x3,x4,x5] v W hv (by decide) (by decide) (by simp [h0,h1,h2,h3,h4,h5]) hl (by simp) (by simp) ho
 simp only [List.flatMap_cons,List.flatMap_nil,List.append_nil] at h;exact h
theorem Qkl(x y:Nat)(hx:x<18446744073709551616)(hy:y<18446744073709551616):Calls Tryz.prog 126 #[v,.int .i64 8,.slice (some ⟨W.heap.size,0,none⟩) 2 2] (W.alloc (.cells #[.int .u64 (x:Nat),.int .u64 (y:Nat)] 43)) (Qdm (l++(leB 8 x++leB 8 y)) W):=by
 have h:=Qkm b0 8 l [x,y] v W hv (by decide) (by decide) (by simp [hx,hy]) hl (by simp) (by simp) ho
 simp only [List.flatMap_cons,List.flatMap_nil,List.append_nil] at h;exact h
theorem QtJ(x y:Int)(hx : -2147483648≤x∧x<2147483648)(hy : -2147483648≤y∧y<2147483648):Calls Tryz.prog 127 #[v,.slice (some ⟨W.heap.size,0,none⟩) 2 2] (W.alloc (.cells #[.int .i64 x,.int .i64 y] 3)) (Qdm (l++(leB 4 (QaU x)++leB 4 (QaU y))) W):=by
 have h:=QtK b0 l [x,y] v W hv (by intro z hz;simp at hz;rcases hz with rfl|rfl<;>assumption) hl (by simp) (by simp) ho
 simp only [List.flatMap_cons,List.flatMap_nil,List.append_nil] at h;exact h
theorem Qpe(x y z u:Int)(hx : -2147483648≤x∧x<2147483648)(hy : -2147483648≤y∧y<2147483648)(hz : -2147483648≤z∧z<2147483648)(hu : -2147483648≤u∧u<2147483648):Calls Tryz.prog 127 #[v,.slice (some ⟨W.heap.size,0,none⟩) 4 4] (W.alloc (.cells #[.int .i64 x,.int .i64 y,.int .i64 z,.int .i64 u] 3)) (Qdm (l++(leB 4 (QaU x)++(leB 4 (QaU y)++(leB 4 (QaU z)++leB 4 (QaU u))))) W):=by
 have h:=QtK b0 l [x,y,z,u] v W hv (by intro q hq;simp at hq;rcases hq with rfl|rfl|rfl|rfl<;>assumption) hl (by simp) (by simp) ho
 simp only [List.flatMap_cons,List.flatMap_nil,List.append_nil] at h;exact h
end
theorem HeR.next{B:Nat}{w wr w2:World}{l l2:List UInt8}{u:Value}(h:HeR B w l u wr){e:Ending}(hp:Qdm l2 wr e w2)(hB:B≤w.heap.size):∃ v,e = .returned v∧HeR B w l2 v w2:=by
 obtain ⟨a,c,-,-,hb⟩:=h;obtain ⟨a2,c2,rfl,h1,h2⟩:=hp;exact ⟨_,rfl,a2,c2,rfl,Qbd h1 (Nat.le_trans hB hb.size),hb.trans (h2.mono (Nat.le_trans hB hb.size))⟩
theorem QkM(h:Hdr)(ok:HdrOk h)(hc:QjM h=0)(w:World):Calls Tryz.prog 71 #[.agg #[.int .u64 (h.rf:Nat),.int .u64 (h.rl:Nat),.int .u64 (h.mf:Nat),.int .u64 (h.ml:Nat),.int .u64 (h.lf:Nat),.int .u64 (h.ll:Nat),.int .u64 (h.df:Nat),.int .u64 (h.dl:Nat),.int .u64 (h.ad:Nat),.int .u64 (h.en:Nat),.int .u64 (h.co:Nat),.bool h.cl,.int .u8 (h.inn:Nat),.int .u8 (h.out:Nat),.int .u8 (h.kd:Nat),.int .i64 h.z0,.int .i64 h.z1,.int .i64 h.x0,.int .i64 h.y0,.int .i64 h.x1,.int .i64 h.y1,.int .i64 h.zo,.int .i64 h.lo,.int .i64 h.la]] w fun e w'=>e = .returned (.tuple #[.string (bs (QiN h)),.int .i64 0])∧Below w.heap.size w w':=by
 have hB0:=Qf1 w h 78;have hX0:=QkP w h 78;have HCk:=hid (fun W=>QgQ h ok W)
 rw [hc] at HCk;have HSc:=hid (fun W=>Qeo h W)
 obtain ⟨W0,hW0⟩:∃ W0,w.alloc (.cells #[.int .u64 (h.rf:Nat),.int .u64 (h.rl:Nat),.int .u64 (h.mf:Nat),.int .u64 (h.ml:Nat),.int .u64 (h.lf:Nat),.int .u64 (h.ll:Nat),.int .u64 (h.df:Nat),.int .u64 (h.dl:Nat),.int .u64 (h.ad:Nat),.int .u64 (h.en:Nat),.int .u64 (h.co:Nat),.bool h.cl,.int .u8 (h.inn:Nat),.int .u8 (h.out:Nat),.int .u8 (h.kd:Nat),.int .i64 h.z0,.int .i64 h.z1,.int .i64 h.x0,.int .i64 h.y0,.int .i64 h.x1,.int .i64 h.y1,.int .i64 h.zo,.int .i64 h.lo,.int .i64 h.la] 78)=W0:=⟨_,rfl⟩;obtain ⟨b0,hb0⟩:∃ b0,w.heap.size=b0:=⟨_,rfl⟩;rw [hW0] at hB0 hX0;rw [hb0] at hX0;have HB0:=hid hB0;have HX0:=hid hX0;clear hB0 hX0;go_enter Tryz.func71,Tryz.ntmps71;go_wp2_with (refine wpList_load_row rfl 78 (.tmp 1) rfl b0 rfl 78 #[.int .u64 (h.rf:Nat),.int .u64 (h.rl:Nat),.int .u64 (h.mf:Nat),.int .u64 (h.ml:Nat),.int .u64 (h.lf:Nat),.int .u64 (h.ll:Nat),.int .u64 (h.df:Nat),.int .u64 (h.dl:Nat),.int .u64 (h.ad:Nat),.int .u64 (h.en:Nat),.int .u64 (h.co:Nat),.bool h.cl,.int .u8 (h.inn:Nat),.int .u8 (h.out:Nat),.int .u8 (h.kd:Nat),.int .i64 h.z0,.int .i64 h.z1,.int .i64 h.x0,.int .i64 h.y0,.int .i64 h.x1,.int .i64 h.y1,.int .i64 h.zo,.int .i64 h.lo,.int .i64 h.la] (0,0) _ HX0.out Tryz.underlying78 rfl (by kernel_rfl) ?_)
 refine (HCk.out _).mono ?_;rintro e w1 ⟨rfl,hb1⟩;have HB1:=hid hb1;obtain ⟨g8,c8,w2,QAw,ho2,hb2⟩:=QsM w1 W0.heap.size 157 hb1.size;have hkc:=fun (w:World) (C:Array Value) (n c:Nat)=>Lib.run_convert_bytes_const (P:=Tryz.prog) w 157 5 C n c Tryz.underlying157 Tryz.underlying5
 have hXl:b0<W0.heap.size:=(gsi HX0.out).1;have HXW:Hid (∀ W,Below W0.heap.size W0 W→W.heap[b0]?=some (.cells (QbF h) 78 (0,0))):=hid (fun W hb=>(hb.block b0 hXl).trans HX0.out)
 have hR2:HeR W0.heap.size W0 (Qbc h 0) (.slice (some ⟨g8,0,none⟩) 8 c8) w2:=⟨_,c8,rfl,ho2,hb1.trans hb2⟩;have HR2:=hid hR2;have HU:=hid QAw;have HX2:=hid (HXW.out w2 (hb1.trans hb2));clear hb1 QAw ho2 hb2 hR2;go_wp2_with (first|(at_builtin;go_loud (refine Lib.wpList_append_run _ rfl _ _ _ _ rfl _ _ rfl rfl _ _ HU.out ?_))|(refine wpList_load_row rfl 78 (.tmp 1) rfl b0 rfl 78 #[.int .u64 (h.rf:Nat),.int .u64 (h.rl:Nat),.int .u64 (h.mf:Nat),.int .u64 (h.ml:Nat),.int .u64 (h.lf:Nat),.int .u64 (h.ll:Nat),.int .u64 (h.df:Nat),.int .u64 (h.dl:Nat),.int .u64 (h.ad:Nat),.int .u64 (h.en:Nat),.int .u64 (h.co:Nat),.bool h.cl,.int .u8 (h.inn:Nat),.int .u8 (h.out:Nat),.int .u8 (h.kd:Nat),.int .i64 h.z0,.int .i64 h.z1,.int .i64 h.x0,.int .i64 h.y0,.int .i64 h.x1,.int .i64 h.y1,.int .i64 h.zo,.int .i64 h.lo,.int .i64 h.la] (0,0) _ HX2.out Tryz.underlying78 rfl (by kernel_rfl) ?_))
 refine (HSc.out _).mono ?_;rintro e w3 ⟨rfl,hb3⟩;have HR3:=hid (HR2.out.below hb3 (Nat.le_refl _));clear hb3 hkc HU HX2;have i0:=Qo1 h;have i1:=Qo0 h;have i2:=QoZ h;have i3:=QoY h;go_wp2_with fail;go_loopw [5,20] (fun u5 u20 wr=>Hid (∃ k:Nat,k≤4∧u20 = .int .i64 (k:Nat)∧HeR W0.heap.size W0 (Qbc h k) u5 wr)) (fun _ u20 _=>4-(intOf u20).toNat)
 case atStart=>exact hid ⟨0,by decide,rfl,HR3.out⟩
 case round=>
  obtain ⟨k,hk,rfl,hst⟩:=hrel.out;clear hrel;rcases (by omega:k=0∨k=1∨k=2∨k=3∨k=4) with rfl|rfl|rfl|rfl|rfl
  ·obtain ⟨a,c,rfl,ho,hb⟩:=hst
   have hlen:=Qfr h 0 (by decide)
   obtain ⟨W1,hW1⟩:∃ W1,wr.alloc (.cells #[.int .u64 (h.rf:Nat),.int .u64 (h.rl:Nat)] 76)=W1:=⟨_,rfl⟩;obtain ⟨s0,s1⟩:=QaA wr (.int .u64 (h.rf:Nat)) (.int .u64 (h.rl:Nat)) 76;rw [hW1] at s0 s1;have hB1:Below W0.heap.size W0 W1:=by rw [←hW1];exact hb.alloc hb.size _
   have ho1:W1.ownsRow W0.heap.size 5 1 (.slice a (Qbc h 0).length c) (Qbc h 0).length (QaG (Qbc h 0)):=by
    rw [←hW1];exact ho.alloc _
   have HP:=hid (Qkl W0.heap.size (Qbc h 0) _ W1 ⟨a,c,rfl⟩ (by omega) ho1 h.rf h.rl ok.rf ok.rl)
   have hsx:Qbc h 0++(leB 8 h.rf++leB 8 h.rl)=Qbc h 1:=Qxd h;rw [hsx] at HP;have HN:Hid (HeR W0.heap.size W0 (Qbc h 0) (.slice a (Qbc h 0).length c) W1):=hid ⟨a,c,rfl,ho1,hB1⟩;clear ho hb hB1 ho1 hsx;obtain ⟨L,hL⟩:∃ L,(Qbc h 0).length=L:=⟨_,rfl⟩;rw [hL] at HP HN ⊢;clear hL hlen;go_wp2_with fail;refine HP.out.mono ?_;intro e w4 QAs;obtain ⟨v,rfl,hn⟩:=HN.out.next QAs (Nat.le_refl _);obtain ⟨a2,c2,rfl,hn1⟩:=id hn;have HN2:=hid hn;clear QAs hn hn1;go_wp2_with fail;refine ⟨hid ⟨1,by decide,by go_num,HN2.out⟩,?_⟩
   simp [intOf]
  ·obtain ⟨a,c,rfl,ho,hb⟩:=hst
   have hlen:=Qfr h 1 (by decide)
   obtain ⟨W1,hW1⟩:∃ W1,wr.alloc (.cells #[.int .u64 (h.mf:Nat),.int .u64 (h.ml:Nat)] 76)=W1:=⟨_,rfl⟩;obtain ⟨s0,s1⟩:=QaA wr (.int .u64 (h.mf:Nat)) (.int .u64 (h.ml:Nat)) 76;rw [hW1] at s0 s1;have hB1:Below W0.heap.size W0 W1:=by rw [←hW1];exact hb.alloc hb.size _
   have ho1:W1.ownsRow W0.heap.size 5 1 (.slice a (Qbc h 1).length c) (Qbc h 1).length (QaG (Qbc h 1)):=by
    rw [←hW1];exact ho.alloc _
   have HP:=hid (Qkl W0.heap.size (Qbc h 1) _ W1 ⟨a,c,rfl⟩ (by omega) ho1 h.mf h.ml ok.mf ok.ml)
   have hsx:Qbc h 1++(leB 8 h.mf++leB 8 h.ml)=Qbc h 2:=Qxc h;rw [hsx] at HP;have HN:Hid (HeR W0.heap.size W0 (Qbc h 1) (.slice a (Qbc h 1).length c) W1):=hid ⟨a,c,rfl,ho1,hB1⟩;clear ho hb hB1 ho1 hsx;obtain ⟨L,hL⟩:∃ L,(Qbc h 1).length=L:=⟨_,rfl⟩;rw [hL] at HP HN ⊢;clear hL hlen;go_wp2_with fail;refine HP.out.mono ?_;intro e w4 QAs;obtain ⟨v,rfl,hn⟩:=HN.out.next QAs (Nat.le_refl _);obtain ⟨a2,c2,rfl,hn1⟩:=id hn;have HN2:=hid hn;clear QAs hn hn1;go_wp2_with fail;refine ⟨hid ⟨2,by decide,by go_num,HN2.out⟩,?_⟩
   simp [intOf]
  ·obtain ⟨a,c,rfl,ho,hb⟩:=hst
   have hlen:=Qfr h 2 (by decide)
   obtain ⟨W1,hW1⟩:∃ W1,wr.alloc (.cells #[.int .u64 (h.lf:Nat),.int .u64 (h.ll:Nat)] 76)=W1:=⟨_,rfl⟩;obtain ⟨s0,s1⟩:=QaA wr (.int .u64 (h.lf:Nat)) (.int .u64 (h.ll:Nat)) 76;rw [hW1] at s0 s1;have hB1:Below W0.heap.size W0 W1:=by rw [←hW1];exact hb.alloc hb.size _
   have ho1:W1.ownsRow W0.heap.size 5 1 (.slice a (Qbc h 2).length c) (Qbc h 2).length (QaG (Qbc h 2)):=by
    rw [←hW1];exact ho.alloc _
   have HP:=hid (Qkl W0.heap.size (Qbc h 2) _ W1 ⟨a,c,rfl⟩ (by omega) ho1 h.lf h.ll ok.lf ok.ll)
   have hsx:Qbc h 2++(leB 8 h.lf++leB 8 h.ll)=Qbc h 3:=Qxb h;rw [hsx] at HP;have HN:Hid (HeR W0.heap.size W0 (Qbc h 2) (.slice a (Qbc h 2).length c) W1):=hid ⟨a,c,rfl,ho1,hB1⟩;clear ho hb hB1 ho1 hsx;obtain ⟨L,hL⟩:∃ L,(Qbc h 2).length=L:=⟨_,rfl⟩;rw [hL] at HP HN ⊢;clear hL hlen;go_wp2_with fail;refine HP.out.mono ?_;intro e w4 QAs;obtain ⟨v,rfl,hn⟩:=HN.out.next QAs (Nat.le_refl _);obtain ⟨a2,c2,rfl,hn1⟩:=id hn;have HN2:=hid hn;clear QAs hn hn1;go_wp2_with fail;refine ⟨hid ⟨3,by decide,by go_num,HN2.out⟩,?_⟩
   simp [intOf]
  ·obtain ⟨a,c,rfl,ho,hb⟩:=hst
   have hlen:=Qfr h 3 (by decide)
   obtain ⟨W1,hW1⟩:∃ W1,wr.alloc (.cells #[.int .u64 (h.df:Nat),.int .u64 (h.dl:Nat)] 76)=W1:=⟨_,rfl⟩;obtain ⟨s0,s1⟩:=QaA wr (.int .u64 (h.df:Nat)) (.int .u64 (h.dl:Nat)) 76;rw [hW1] at s0 s1;have hB1:Below W0.heap.size W0 W1:=by rw [←hW1];exact hb.alloc hb.size _
   have ho1:W1.ownsRow W0.heap.size 5 1 (.slice a (Qbc h 3).length c) (Qbc h 3).length (QaG (Qbc h 3)):=by
    rw [←hW1];exact ho.alloc _
   have HP:=hid (Qkl W0.heap.size (Qbc h 3) _ W1 ⟨a,c,rfl⟩ (by omega) ho1 h.df h.dl ok.df ok.dl)
   have hsx:Qbc h 3++(leB 8 h.df++leB 8 h.dl)=Qbc h 4:=Qxa h;rw [hsx] at HP;have HN:Hid (HeR W0.heap.size W0 (Qbc h 3) (.slice a (Qbc h 3).length c) W1):=hid ⟨a,c,rfl,ho1,hB1⟩;clear ho hb hB1 ho1 hsx;obtain ⟨L,hL⟩:∃ L,(Qbc h 3).length=L:=⟨_,rfl⟩;rw [hL] at HP HN ⊢;clear hL hlen;go_wp2_with fail;refine HP.out.mono ?_;intro e w4 QAs;obtain ⟨v,rfl,hn⟩:=HN.out.next QAs (Nat.le_refl _);obtain ⟨a2,c2,rfl,hn1⟩:=id hn;have HN2:=hid hn;clear QAs hn hn1;go_wp2_with fail;refine ⟨hid ⟨4,by decide,by go_num,HN2.out⟩,?_⟩
   simp [intOf]
  ·have HR4:=hid hst
   clear hst i0 i1 i2 i3;obtain ⟨-,⟨hinn,hout,hkd⟩,⟨⟨hz00,hz01⟩,⟨hz10,hz11⟩,⟨hzo0,hzo1⟩⟩,hx⟩:=QtT h hc;obtain ⟨Z0,hZ0⟩:∃ Z:Nat,h.z0=(Z:Int):=⟨h.z0.toNat,by omega⟩
   obtain ⟨Z1,hZ1⟩:∃ Z:Nat,h.z1=(Z:Int):=⟨h.z1.toNat,by omega⟩
   obtain ⟨Zo,hZo⟩:∃ Z:Nat,h.zo=(Z:Int):=⟨h.zo.toNat,by omega⟩
   have hZ0l:Z0≤26:=by omega
   have hZ1l:Z1≤26:=by omega
   have hZol:Zo≤26:=by omega
   obtain ⟨CLB,hCLB⟩:∃ C:Nat,(if h.cl=true then 1 else 0)=C:=⟨_,rfl⟩
   have hC1:CLB≤1:=by rw [←hCLB];split<;>omega
   have QCa:Hid ((((((Qbc h 4++(leB 8 h.ad++(leB 8 h.en++leB 8 h.co)))++(leB 1 CLB++(leB 1 h.inn++(leB 1 h.out++(leB 1 h.kd++(leB 1 Z0++leB 1 Z1))))))++(leB 4 (QaU h.x0)++(leB 4 (QaU h.y0)++(leB 4 (QaU h.x1)++leB 4 (QaU h.y1)))))++leB 1 Zo)++(leB 4 (QaU h.lo)++leB 4 (QaU h.la)))=QiN h):=hid (by
    unfold QiN Qti Qbc Qna;rw [hZ0,hZ1,hZo,←hCLB];simp [Int.toNat_natCast])
   have HCL:=hid hCLB;have h4l:=Qfr h 4 (by decide)
   obtain ⟨⟨hx00,hx01⟩,⟨hx10,hx11⟩,⟨hlo0,hlo1⟩⟩:=hx.1;obtain ⟨⟨hy00,hy01⟩,⟨hy10,hy11⟩,⟨hla0,hla1⟩⟩:=hx.2;have OkAd:=ok.ad;have OkEn:=ok.en;have OkCo:=ok.co;clear hx;obtain ⟨a0,e0,rfl,ho0,hb0⟩:=HR4.out;have QBV:(Qbc h 4).length≤1000:=by exact h4l
   have HP0:=hid (Qr2 W0.heap.size (Qbc h 4) _ wr ⟨a0,e0,rfl⟩ (by omega) ho0 h.ad h.en h.co OkAd OkEn OkCo)
   have HH0:Hid (HeR W0.heap.size W0 (Qbc h 4) (.slice a0 (Qbc h 4).length e0) wr):=hid ⟨a0,e0,rfl,ho0,hb0⟩;have HC0:=hid (HXW.out wr hb0);clear ho0 hb0;obtain ⟨l0,hl0⟩:∃ l,(Qbc h 4).length=l:=⟨_,rfl⟩;rw [hl0] at HP0 HH0 ⊢;obtain ⟨-,-,-,-,-,-,-,-,c8,c9,c10,-,-,-,-,-,-,-,-,-,-,-,-,-⟩:=QcJ HC0.out;have hl0':=hid (And.intro hl0 QBV);clear hl0 QBV;go_wp2_with fail;refine HP0.out.mono ?_;intro e v1 QAs;obtain ⟨v,rfl,hn⟩:=HH0.out.next QAs (Nat.le_refl _);have HN1:=hid hn;clear QAs hn HP0 HH0 HC0 c8 c9 c10;have hcl01:(h.cl=true∧CLB=1)∨(h.cl=false∧CLB=0):=by rw [←HCL.out];cases h.cl<;>simp
   clear HCL;rcases hcl01 with ⟨hcl,rfl⟩|⟨hcl,rfl⟩
   ·obtain ⟨a1,e1,rfl,ho1,hb1⟩:=HN1.out
    have QA2:((Qbc h 4++(leB 8 h.ad++(leB 8 h.en++leB 8 h.co)))).length≤1100:=by rw [List.length_append];have:=hl0'.out;simp only [List.length_append,QbP] at *;omega
    have HP1:=hid (Qr3 W0.heap.size (Qbc h 4++(leB 8 h.ad++(leB 8 h.en++leB 8 h.co))) _ v1 ⟨a1,e1,rfl⟩ (by omega) ho1 1 h.inn h.out h.kd Z0 Z1 (by omega) (by omega) (by omega) (by omega) (by omega) (by omega))
    have HH1:Hid (HeR W0.heap.size W0 (Qbc h 4++(leB 8 h.ad++(leB 8 h.en++leB 8 h.co))) (.slice a1 ((Qbc h 4++(leB 8 h.ad++(leB 8 h.en++leB 8 h.co)))).length e1) v1):=hid ⟨a1,e1,rfl,ho1,hb1⟩;have HC1:=hid (HXW.out v1 hb1);clear ho1 hb1;obtain ⟨l1,hl1⟩:∃ l,((Qbc h 4++(leB 8 h.ad++(leB 8 h.en++leB 8 h.co)))).length=l:=⟨_,rfl⟩;rw [hl1] at HP1 HH1 ⊢;obtain ⟨-,-,-,-,-,-,-,-,-,-,-,c11,c12,c13,c14,c15,c16,-,-,-,-,-,-,-⟩:=QcJ HC1.out;rw [hcl] at c11;rw [hZ0] at c15;rw [hZ1] at c16;have hl1':=hid (And.intro hl1 QA2);clear hl1 QA2;go_wp2_with fail;refine HP1.out.mono ?_;intro e v2 QAs;obtain ⟨v,rfl,hn⟩:=HH1.out.next QAs (Nat.le_refl _);have HN2:=hid hn;clear QAs hn HP1 HH1 HC1 c11 c12 c13 c14 c15 c16;obtain ⟨a2,e2,rfl,ho2,hb2⟩:=HN2.out;have QAF:(((Qbc h 4++(leB 8 h.ad++(leB 8 h.en++leB 8 h.co)))++(leB 1 1++(leB 1 h.inn++(leB 1 h.out++(leB 1 h.kd++(leB 1 Z0++leB 1 Z1))))))).length≤1200:=by rw [List.length_append];have:=hl1'.out;simp only [List.length_append,QbP] at *;omega
    have HP2:=hid (Qpe W0.heap.size ((Qbc h 4++(leB 8 h.ad++(leB 8 h.en++leB 8 h.co)))++(leB 1 1++(leB 1 h.inn++(leB 1 h.out++(leB 1 h.kd++(leB 1 Z0++leB 1 Z1)))))) _ v2 ⟨a2,e2,rfl⟩ (by omega) ho2 h.x0 h.y0 h.x1 h.y1 (by omega) (by omega) (by omega) (by omega))
    have HH2:Hid (HeR W0.heap.size W0 ((Qbc h 4++(leB 8 h.ad++(leB 8 h.en++leB 8 h.co)))++(leB 1 1++(leB 1 h.inn++(leB 1 h.out++(leB 1 h.kd++(leB 1 Z0++leB 1 Z1)))))) (.slice a2 (((Qbc h 4++(leB 8 h.ad++(leB 8 h.en++leB 8 h.co)))++(leB 1 1++(leB 1 h.inn++(leB 1 h.out++(leB 1 h.kd++(leB 1 Z0++leB 1 Z1))))))).length e2) v2):=hid ⟨a2,e2,rfl,ho2,hb2⟩;have HC2:=hid (HXW.out v2 hb2);clear ho2 hb2;obtain ⟨l2,hl2⟩:∃ l,(((Qbc h 4++(leB 8 h.ad++(leB 8 h.en++leB 8 h.co)))++(leB 1 1++(leB 1 h.inn++(leB 1 h.out++(leB 1 h.kd++(leB 1 Z0++leB 1 Z1))))))).length=l:=⟨_,rfl⟩;rw [hl2] at HP2 HH2 ⊢;obtain ⟨-,-,-,-,-,-,-,-,-,-,-,-,-,-,-,-,-,c17,c18,c19,c20,-,-,-⟩:=QcJ HC2.out;have hl2':=hid (And.intro hl2 QAF);clear hl2 QAF;go_wp2_with fail;refine HP2.out.mono ?_;intro e v3 QAs;obtain ⟨v,rfl,hn⟩:=HH2.out.next QAs (Nat.le_refl _);have HN3:=hid hn;clear QAs hn HP2 HH2 HC2 c17 c18 c19 c20;obtain ⟨a3,e3,rfl,ho3,hb3⟩:=HN3.out;have QA1:((((Qbc h 4++(leB 8 h.ad++(leB 8 h.en++leB 8 h.co)))++(leB 1 1++(leB 1 h.inn++(leB 1 h.out++(leB 1 h.kd++(leB 1 Z0++leB 1 Z1))))))++(leB 4 (QaU h.x0)++(leB 4 (QaU h.y0)++(leB 4 (QaU h.x1)++leB 4 (QaU h.y1)))))).length≤1300:=by rw [List.length_append];have:=hl2'.out;simp only [List.length_append,QbP] at *;omega
    have HP3:=hid (Qr4 W0.heap.size (((Qbc h 4++(leB 8 h.ad++(leB 8 h.en++leB 8 h.co)))++(leB 1 1++(leB 1 h.inn++(leB 1 h.out++(leB 1 h.kd++(leB 1 Z0++leB 1 Z1))))))++(leB 4 (QaU h.x0)++(leB 4 (QaU h.y0)++(leB 4 (QaU h.x1)++leB 4 (QaU h.y1))))) _ v3 ⟨a3,e3,rfl⟩ (by omega) ho3 Zo (by omega))
    have HH3:Hid (HeR W0.heap.size W0 (((Qbc h 4++(leB 8 h.ad++(leB 8 h.en++leB 8 h.co)))++(leB 1 1++(leB 1 h.inn++(leB 1 h.out++(leB 1 h.kd++(leB 1 Z0++leB 1 Z1))))))++(leB 4 (QaU h.x0)++(leB 4 (QaU h.y0)++(leB 4 (QaU h.x1)++leB 4 (QaU h.y1))))) (.slice a3 ((((Qbc h 4++(leB 8 h.ad++(leB 8 h.en++leB 8 h.co)))++(leB 1 1++(leB 1 h.inn++(leB 1 h.out++(leB 1 h.kd++(leB 1 Z0++leB 1 Z1))))))++(leB 4 (QaU h.x0)++(leB 4 (QaU h.y0)++(leB 4 (QaU h.x1)++leB 4 (QaU h.y1)))))).length e3) v3):=hid ⟨a3,e3,rfl,ho3,hb3⟩;have HC3:=hid (HXW.out v3 hb3);clear ho3 hb3;obtain ⟨l3,hl3⟩:∃ l,((((Qbc h 4++(leB 8 h.ad++(leB 8 h.en++leB 8 h.co)))++(leB 1 1++(leB 1 h.inn++(leB 1 h.out++(leB 1 h.kd++(leB 1 Z0++leB 1 Z1))))))++(leB 4 (QaU h.x0)++(leB 4 (QaU h.y0)++(leB 4 (QaU h.x1)++leB 4 (QaU h.y1)))))).length=l:=⟨_,rfl⟩;rw [hl3] at HP3 HH3 ⊢;obtain ⟨-,-,-,-,-,-,-,-,-,-,-,-,-,-,-,-,-,-,-,-,-,c21,-,-⟩:=QcJ HC3.out;rw [hZo] at c21;have hl3':=hid (And.intro hl3 QA1);clear hl3 QA1;go_wp2_with fail;refine HP3.out.mono ?_;intro e v4 QAs;obtain ⟨v,rfl,hn⟩:=HH3.out.next QAs (Nat.le_refl _);have HN4:=hid hn;clear QAs hn HP3 HH3 HC3 c21;obtain ⟨a4,e4,rfl,ho4,hb4⟩:=HN4.out;have QA0:(((((Qbc h 4++(leB 8 h.ad++(leB 8 h.en++leB 8 h.co)))++(leB 1 1++(leB 1 h.inn++(leB 1 h.out++(leB 1 h.kd++(leB 1 Z0++leB 1 Z1))))))++(leB 4 (QaU h.x0)++(leB 4 (QaU h.y0)++(leB 4 (QaU h.x1)++leB 4 (QaU h.y1)))))++leB 1 Zo)).length≤1400:=by rw [List.length_append];have:=hl3'.out;simp only [List.length_append,QbP] at *;omega
    have HP4:=hid (QtJ W0.heap.size ((((Qbc h 4++(leB 8 h.ad++(leB 8 h.en++leB 8 h.co)))++(leB 1 1++(leB 1 h.inn++(leB 1 h.out++(leB 1 h.kd++(leB 1 Z0++leB 1 Z1))))))++(leB 4 (QaU h.x0)++(leB 4 (QaU h.y0)++(leB 4 (QaU h.x1)++leB 4 (QaU h.y1)))))++leB 1 Zo) _ v4 ⟨a4,e4,rfl⟩ (by omega) ho4 h.lo h.la (by omega) (by omega))
    have HH4:Hid (HeR W0.heap.size W0 ((((Qbc h 4++(leB 8 h.ad++(leB 8 h.en++leB 8 h.co)))++(leB 1 1++(leB 1 h.inn++(leB 1 h.out++(leB 1 h.kd++(leB 1 Z0++leB 1 Z1))))))++(leB 4 (QaU h.x0)++(leB 4 (QaU h.y0)++(leB 4 (QaU h.x1)++leB 4 (QaU h.y1)))))++leB 1 Zo) (.slice a4 (((((Qbc h 4++(leB 8 h.ad++(leB 8 h.en++leB 8 h.co)))++(leB 1 1++(leB 1 h.inn++(leB 1 h.out++(leB 1 h.kd++(leB 1 Z0++leB 1 Z1))))))++(leB 4 (QaU h.x0)++(leB 4 (QaU h.y0)++(leB 4 (QaU h.x1)++leB 4 (QaU h.y1)))))++leB 1 Zo)).length e4) v4):=hid ⟨a4,e4,rfl,ho4,hb4⟩;have HC4:=hid (HXW.out v4 hb4);clear ho4 hb4;obtain ⟨l4,hl4⟩:∃ l,(((((Qbc h 4++(leB 8 h.ad++(leB 8 h.en++leB 8 h.co)))++(leB 1 1++(leB 1 h.inn++(leB 1 h.out++(leB 1 h.kd++(leB 1 Z0++leB 1 Z1))))))++(leB 4 (QaU h.x0)++(leB 4 (QaU h.y0)++(leB 4 (QaU h.x1)++leB 4 (QaU h.y1)))))++leB 1 Zo)).length=l:=⟨_,rfl⟩;rw [hl4] at HP4 HH4 ⊢;obtain ⟨-,-,-,-,-,-,-,-,-,-,-,-,-,-,-,-,-,-,-,-,-,-,c22,c23⟩:=QcJ HC4.out;have hl4':=hid (And.intro hl4 QA0);clear hl4 QA0;go_wp2_with fail;refine HP4.out.mono ?_;intro e v5 QAs;obtain ⟨v,rfl,hn⟩:=HH4.out.next QAs (Nat.le_refl _);have HN5:=hid hn;clear QAs hn HP4 HH4 HC4 c22 c23;rw [QCa.out] at HN5;obtain ⟨a5,e5,rfl,ho5,hb5⟩:=HN5.out;have hcv:=Qgc ho5;have HB5:=hid hb5;clear ho5 hb5 HN5;go_wp2_with fail;go_ret2;exact ⟨rfl,HB0.out.trans (HB5.out.mono HB0.out.size)⟩
   ·obtain ⟨a1,e1,rfl,ho1,hb1⟩:=HN1.out
    have QA2:((Qbc h 4++(leB 8 h.ad++(leB 8 h.en++leB 8 h.co)))).length≤1100:=by rw [List.length_append];have:=hl0'.out;simp only [List.length_append,QbP] at *;omega
    have HP1:=hid (Qr3 W0.heap.size (Qbc h 4++(leB 8 h.ad++(leB 8 h.en++leB 8 h.co))) _ v1 ⟨a1,e1,rfl⟩ (by omega) ho1 0 h.inn h.out h.kd Z0 Z1 (by omega) (by omega) (by omega) (by omega) (by omega) (by omega))
    have HH1:Hid (HeR W0.heap.size W0 (Qbc h 4++(leB 8 h.ad++(leB 8 h.en++leB 8 h.co))) (.slice a1 ((Qbc h 4++(leB 8 h.ad++(leB 8 h.en++leB 8 h.co)))).length e1) v1):=hid ⟨a1,e1,rfl,ho1,hb1⟩;have HC1:=hid (HXW.out v1 hb1);clear ho1 hb1;obtain ⟨l1,hl1⟩:∃ l,((Qbc h 4++(leB 8 h.ad++(leB 8 h.en++leB 8 h.co)))).length=l:=⟨_,rfl⟩;rw [hl1] at HP1 HH1 ⊢;obtain ⟨-,-,-,-,-,-,-,-,-,-,-,c11,c12,c13,c14,c15,c16,-,-,-,-,-,-,-⟩:=QcJ HC1.out;rw [hcl] at c11;rw [hZ0] at c15;rw [hZ1] at c16;have hl1':=hid (And.intro hl1 QA2);clear hl1 QA2;go_wp2_with fail;refine HP1.out.mono ?_;intro e v2 QAs;obtain ⟨v,rfl,hn⟩:=HH1.out.next QAs (Nat.le_refl _);have HN2:=hid hn;clear QAs hn HP1 HH1 HC1 c11 c12 c13 c14 c15 c16;obtain ⟨a2,e2,rfl,ho2,hb2⟩:=HN2.out;have QAF:(((Qbc h 4++(leB 8 h.ad++(leB 8 h.en++leB 8 h.co)))++(leB 1 0++(leB 1 h.inn++(leB 1 h.out++(leB 1 h.kd++(leB 1 Z0++leB 1 Z1))))))).length≤1200:=by rw [List.length_append];have:=hl1'.out;simp only [List.length_append,QbP] at *;omega
    have HP2:=hid (Qpe W0.heap.size ((Qbc h 4++(leB 8 h.ad++(leB 8 h.en++leB 8 h.co)))++(leB 1 0++(leB 1 h.inn++(leB 1 h.out++(leB 1 h.kd++(leB 1 Z0++leB 1 Z1)))))) _ v2 ⟨a2,e2,rfl⟩ (by omega) ho2 h.x0 h.y0 h.x1 h.y1 (by omega) (by omega) (by omega) (by omega))
    have HH2:Hid (HeR W0.heap.size W0 ((Qbc h 4++(leB 8 h.ad++(leB 8 h.en++leB 8 h.co)))++(leB 1 0++(leB 1 h.inn++(leB 1 h.out++(leB 1 h.kd++(leB 1 Z0++leB 1 Z1)))))) (.slice a2 (((Qbc h 4++(leB 8 h.ad++(leB 8 h.en++leB 8 h.co)))++(leB 1 0++(leB 1 h.inn++(leB 1 h.out++(leB 1 h.kd++(leB 1 Z0++leB 1 Z1))))))).length e2) v2):=hid ⟨a2,e2,rfl,ho2,hb2⟩;have HC2:=hid (HXW.out v2 hb2);clear ho2 hb2;obtain ⟨l2,hl2⟩:∃ l,(((Qbc h 4++(leB 8 h.ad++(leB 8 h.en++leB 8 h.co)))++(leB 1 0++(leB 1 h.inn++(leB 1 h.out++(leB 1 h.kd++(leB 1 Z0++leB 1 Z1))))))).length=l:=⟨_,rfl⟩;rw [hl2] at HP2 HH2 ⊢;obtain ⟨-,-,-,-,-,-,-,-,-,-,-,-,-,-,-,-,-,c17,c18,c19,c20,-,-,-⟩:=QcJ HC2.out;have hl2':=hid (And.intro hl2 QAF);clear hl2 QAF;go_wp2_with fail;refine HP2.out.mono ?_;intro e v3 QAs;obtain ⟨v,rfl,hn⟩:=HH2.out.next QAs (Nat.le_refl _);have HN3:=hid hn;clear QAs hn HP2 HH2 HC2 c17 c18 c19 c20;obtain ⟨a3,e3,rfl,ho3,hb3⟩:=HN3.out;have QA1:((((Qbc h 4++(leB 8 h.ad++(leB 8 h.en++leB 8 h.co)))++(leB 1 0++(leB 1 h.inn++(leB 1 h.out++(leB 1 h.kd++(leB 1 Z0++leB 1 Z1))))))++(leB 4 (QaU h.x0)++(leB 4 (QaU h.y0)++(leB 4 (QaU h.x1)++leB 4 (QaU h.y1)))))).length≤1300:=by rw [List.length_append];have:=hl2'.out;simp only [List.length_append,QbP] at *;omega
    have HP3:=hid (Qr4 W0.heap.size (((Qbc h 4++(leB 8 h.ad++(leB 8 h.en++leB 8 h.co)))++(leB 1 0++(leB 1 h.inn++(leB 1 h.out++(leB 1 h.kd++(leB 1 Z0++leB 1 Z1))))))++(leB 4 (QaU h.x0)++(leB 4 (QaU h.y0)++(leB 4 (QaU h.x1)++leB 4 (QaU h.y1))))) _ v3 ⟨a3,e3,rfl⟩ (by omega) ho3 Zo (by omega))
    have HH3:Hid (HeR W0.heap.size W0 (((Qbc h 4++(leB 8 h.ad++(leB 8 h.en++leB 8 h.co)))++(leB 1 0++(leB 1 h.inn++(leB 1 h.out++(leB 1 h.kd++(leB 1 Z0++leB 1 Z1))))))++(leB 4 (QaU h.x0)++(leB 4 (QaU h.y0)++(leB 4 (QaU h.x1)++leB 4 (QaU h.y1))))) (.slice a3 ((((Qbc h 4++(leB 8 h.ad++(leB 8 h.en++leB 8 h.co)))++(leB 1 0++(leB 1 h.inn++(leB 1 h.out++(leB 1 h.kd++(leB 1 Z0++leB 1 Z1))))))++(leB 4 (QaU h.x0)++(leB 4 (QaU h.y0)++(leB 4 (QaU h.x1)++leB 4 (QaU h.y1)))))).length e3) v3):=hid ⟨a3,e3,rfl,ho3,hb3⟩;have HC3:=hid (HXW.out v3 hb3);clear ho3 hb3;obtain ⟨l3,hl3⟩:∃ l,((((Qbc h 4++(leB 8 h.ad++(leB 8 h.en++leB 8 h.co)))++(leB 1 0++(leB 1 h.inn++(leB 1 h.out++(leB 1 h.kd++(leB 1 Z0++leB 1 Z1))))))++(leB 4 (QaU h.x0)++(leB 4 (QaU h.y0)++(leB 4 (QaU h.x1)++leB 4 (QaU h.y1)))))).length=l:=⟨_,rfl⟩;rw [hl3] at HP3 HH3 ⊢;obtain ⟨-,-,-,-,-,-,-,-,-,-,-,-,-,-,-,-,-,-,-,-,-,c21,-,-⟩:=QcJ HC3.out;rw [hZo] at c21;have hl3':=hid (And.intro hl3 QA1);clear hl3 QA1;go_wp2_with fail;refine HP3.out.mono ?_;intro e v4 QAs;obtain ⟨v,rfl,hn⟩:=HH3.out.next QAs (Nat.le_refl _);have HN4:=hid hn;clear QAs hn HP3 HH3 HC3 c21;obtain ⟨a4,e4,rfl,ho4,hb4⟩:=HN4.out;have QA0:(((((Qbc h 4++(leB 8 h.ad++(leB 8 h.en++leB 8 h.co)))++(leB 1 0++(leB 1 h.inn++(leB 1 h.out++(leB 1 h.kd++(leB 1 Z0++leB 1 Z1))))))++(leB 4 (QaU h.x0)++(leB 4 (QaU h.y0)++(leB 4 (QaU h.x1)++leB 4 (QaU h.y1)))))++leB 1 Zo)).length≤1400:=by rw [List.length_append];have:=hl3'.out;simp only [List.length_append,QbP] at *;omega
    have HP4:=hid (QtJ W0.heap.size ((((Qbc h 4++(leB 8 h.ad++(leB 8 h.en++leB 8 h.co)))++(leB 1 0++(leB 1 h.inn++(leB 1 h.out++(leB 1 h.kd++(leB 1 Z0++leB 1 Z1))))))++(leB 4 (QaU h.x0)++(leB 4 (QaU h.y0)++(leB 4 (QaU h.x1)++leB 4 (QaU h.y1)))))++leB 1 Zo) _ v4 ⟨a4,e4,rfl⟩ (by omega) ho4 h.lo h.la (by omega) (by omega))
    have HH4:Hid (HeR W0.heap.size W0 ((((Qbc h 4++(leB 8 h.ad++(leB 8 h.en++leB 8 h.co)))++(leB 1 0++(leB 1 h.inn++(leB 1 h.out++(leB 1 h.kd++(leB 1 Z0++leB 1 Z1))))))++(leB 4 (QaU h.x0)++(leB 4 (QaU h.y0)++(leB 4 (QaU h.x1)++leB 4 (QaU h.y1)))))++leB 1 Zo) (.slice a4 (((((Qbc h 4++(leB 8 h.ad++(leB 8 h.en++leB 8 h.co)))++(leB 1 0++(leB 1 h.inn++(leB 1 h.out++(leB 1 h.kd++(leB 1 Z0++leB 1 Z1))))))++(leB 4 (QaU h.x0)++(leB 4 (QaU h.y0)++(leB 4 (QaU h.x1)++leB 4 (QaU h.y1)))))++leB 1 Zo)).length e4) v4):=hid ⟨a4,e4,rfl,ho4,hb4⟩;have HC4:=hid (HXW.out v4 hb4);clear ho4 hb4;obtain ⟨l4,hl4⟩:∃ l,(((((Qbc h 4++(leB 8 h.ad++(leB 8 h.en++leB 8 h.co)))++(leB 1 0++(leB 1 h.inn++(leB 1 h.out++(leB 1 h.kd++(leB 1 Z0++leB 1 Z1))))))++(leB 4 (QaU h.x0)++(leB 4 (QaU h.y0)++(leB 4 (QaU h.x1)++leB 4 (QaU h.y1)))))++leB 1 Zo)).length=l:=⟨_,rfl⟩;rw [hl4] at HP4 HH4 ⊢;obtain ⟨-,-,-,-,-,-,-,-,-,-,-,-,-,-,-,-,-,-,-,-,-,-,c22,c23⟩:=QcJ HC4.out;have hl4':=hid (And.intro hl4 QA0);clear hl4 QA0;go_wp2_with fail;refine HP4.out.mono ?_;intro e v5 QAs;obtain ⟨v,rfl,hn⟩:=HH4.out.next QAs (Nat.le_refl _);have HN5:=hid hn;clear QAs hn HP4 HH4 HC4 c22 c23;rw [QCa.out] at HN5;obtain ⟨a5,e5,rfl,ho5,hb5⟩:=HN5.out;have hcv:=Qgc ho5;have HB5:=hid hb5;clear ho5 hb5 HN5;go_wp2_with fail;go_ret2;exact ⟨rfl,HB0.out.trans (HB5.out.mono HB0.out.size)⟩
end
section
open Go.RowKit
theorem QvC(n0 n1 n2 n3:Nat):(∀ w,(Instr.index 164 (.agg #[.int .u64 (n0:Nat),.int .u64 (n1:Nat),.int .u64 (n2:Nat),.int .u64 (n3:Nat)]) (.int .i64 0)).run Tryz.prog w = .ok (.int .u64 (n0:Nat)) w)∧(∀ w,(Instr.index 164 (.agg #[.int .u64 (n0:Nat),.int .u64 (n1:Nat),.int .u64 (n2:Nat),.int .u64 (n3:Nat)]) (.int .i64 1)).run Tryz.prog w = .ok (.int .u64 (n1:Nat)) w)∧(∀ w,(Instr.index 164 (.agg #[.int .u64 (n0:Nat),.int .u64 (n1:Nat),.int .u64 (n2:Nat),.int .u64 (n3:Nat)]) (.int .i64 2)).run Tryz.prog w = .ok (.int .u64 (n2:Nat)) w)∧(∀ w,(Instr.index 164 (.agg #[.int .u64 (n0:Nat),.int .u64 (n1:Nat),.int .u64 (n2:Nat),.int .u64 (n3:Nat)]) (.int .i64 3)).run Tryz.prog w = .ok (.int .u64 (n3:Nat)) w):=
 ⟨fun _=>by kernel_rfl,fun _=>by kernel_rfl,fun _=>by kernel_rfl,fun _=>by kernel_rfl⟩
def Qjh(n0 n1 n2 n3 a0 a1 a2 a3:Nat):Nat→Array Value
 |0=>#[.int .u64 0,.int .u64 0,.int .u64 0,.int .u64 0,.int .u64 0,.int .u64 0,.int .u64 0,.int .u64 0]
 |1=>#[.int .u64 (a0:Nat),.int .u64 (n0:Nat),.int .u64 0,.int .u64 0,.int .u64 0,.int .u64 0,.int .u64 0,.int .u64 0]
 |2=>#[.int .u64 (a0:Nat),.int .u64 (n0:Nat),.int .u64 (a1:Nat),.int .u64 (n1:Nat),.int .u64 0,.int .u64 0,.int .u64 0,.int .u64 0]
 |3=>#[.int .u64 (a0:Nat),.int .u64 (n0:Nat),.int .u64 (a1:Nat),.int .u64 (n1:Nat),.int .u64 (a2:Nat),.int .u64 (n2:Nat),.int .u64 0,.int .u64 0]
 |_=>#[.int .u64 (a0:Nat),.int .u64 (n0:Nat),.int .u64 (a1:Nat),.int .u64 (n1:Nat),.int .u64 (a2:Nat),.int .u64 (n2:Nat),.int .u64 (a3:Nat),.int .u64 (n3:Nat)]
def QhJ(a0 a1 a2 a3 a4:Nat):Nat→Nat
 |0=>a0
 |1=>a1
 |2=>a2
 |3=>a3
 |_=>a4
def Qzz(n0 n1 n2 n3 a0 a1 a2 a3 a4 B5:Nat)(Z:Array Value)(w:World)(k:Nat)(u6:Value)(wr:World):Prop:=u6 = .int .u64 (QhJ a0 a1 a2 a3 a4 k:Nat)∧wr.heap[B5]?=some (.cells (Qjh n0 n1 n2 n3 a0 a1 a2 a3 k) 165 (0,0))∧wr.heap[w.heap.size+1]?=some (.cells Z 165 (0,0))∧Below w.heap.size w wr
theorem Qhb{w wr:World}{B B2:Nat}{cs cs' C2:Array Value}{T T2:TypeId}(hr:wr.heap[B]?=some (.cells cs T (0,0)))(h2:wr.heap[B2]?=some (.cells C2 T2 (0,0)))(hb:Below w.heap.size w wr)(hw:w.heap.size≤B)(hn:B2≠B)(i j:Nat)(u v:Value)(hc:(cs.set! i u).set! j v=cs') :
  ((wr.setCell ⟨B,i,none⟩ u).setCell ⟨B,j,none⟩ v).heap[B]?=some (.cells cs' T (0,0))∧((wr.setCell ⟨B,i,none⟩ u).setCell ⟨B,j,none⟩ v).heap[B2]?=some (.cells C2 T2 (0,0))∧Below w.heap.size w ((wr.setCell ⟨B,i,none⟩ u).setCell ⟨B,j,none⟩ v):=by
 subst hc;exact ⟨Qat (Qat hr i u) j v,(Below.heap_setCell _ _ _ _ (show B2≠(⟨B,j,none⟩:Addr).block from hn)).trans ((Below.heap_setCell _ _ _ _ (show B2≠(⟨B,i,none⟩:Addr).block from hn)).trans h2),(hb.setCell (p:=⟨B,i,none⟩) hw u).setCell (p:=⟨B,j,none⟩) hw v⟩
theorem Qh9(n0 n1 n2 n3 a0 a1 a2 a3 a4:Nat)(w:World)(h0:a0=127)(h1:a1=a0+n0)(h2:a2=a1+n1)(h3:a3=a2+n2)(h4:a4=a3+n3)(hm:a4≤1099511627776) :
  Calls Tryz.prog 70 #[.agg #[.int .u64 (n0:Nat),.int .u64 (n1:Nat),.int .u64 (n2:Nat),.int .u64 (n3:Nat)]] w fun e w'=>e = .returned (.tuple #[.agg (Qjh n0 n1 n2 n3 a0 a1 a2 a3 4),.int .u64 (a4:Nat),.int .i64 0])∧Below w.heap.size w w':=by
 obtain ⟨j0,j1,j2,j3⟩:=QvC n0 n1 n2 n3;obtain ⟨W,hW⟩:∃ W,((w.alloc (.cells #[.int .u64 (n0:Nat),.int .u64 (n1:Nat),.int .u64 (n2:Nat),.int .u64 (n3:Nat)] 164)).alloc (.cells #[.int .u64 0,.int .u64 0,.int .u64 0,.int .u64 0,.int .u64 0,.int .u64 0,.int .u64 0,.int .u64 0] 165)).alloc (.cells #[.int .u64 0,.int .u64 0,.int .u64 0,.int .u64 0,.int .u64 0,.int .u64 0,.int .u64 0,.int .u64 0] 165)=W:=⟨_,rfl⟩;have hB:Below w.heap.size w W:=by rw [←hW];exact (((Below.refl _ _).alloc (Nat.le_refl _) _).alloc (by simp) _).alloc (by simp;omega) _
 have k1:W.heap[w.heap.size]?=some (.cells #[.int .u64 (n0:Nat),.int .u64 (n1:Nat),.int .u64 (n2:Nat),.int .u64 (n3:Nat)] 164 (0,0)):=by
  rw [←hW];exact (Below.heap_alloc _ _ _ (by rw [World.size_alloc,World.size_alloc];omega)).trans ((Below.heap_alloc _ _ _ (by rw [World.size_alloc];omega)).trans (heap_alloc_new w _))
 have k2:W.heap[w.heap.size+1]?=some (.cells #[.int .u64 0,.int .u64 0,.int .u64 0,.int .u64 0,.int .u64 0,.int .u64 0,.int .u64 0,.int .u64 0] 165 (0,0)):=by
  have:=heap_alloc_new (w.alloc (.cells #[.int .u64 (n0:Nat),.int .u64 (n1:Nat),.int .u64 (n2:Nat),.int .u64 (n3:Nat)] 164)) (.cells #[.int .u64 0,.int .u64 0,.int .u64 0,.int .u64 0,.int .u64 0,.int .u64 0,.int .u64 0,.int .u64 0] 165);rw [World.size_alloc] at this;rw [←hW];exact (Below.heap_alloc _ _ _ (by rw [World.size_alloc,World.size_alloc];omega)).trans this
 have k5:W.heap[w.heap.size+1+1]?=some (.cells #[.int .u64 0,.int .u64 0,.int .u64 0,.int .u64 0,.int .u64 0,.int .u64 0,.int .u64 0,.int .u64 0] 165 (0,0)):=by
  have:=heap_alloc_new ((w.alloc (.cells #[.int .u64 (n0:Nat),.int .u64 (n1:Nat),.int .u64 (n2:Nat),.int .u64 (n3:Nat)] 164)).alloc (.cells #[.int .u64 0,.int .u64 0,.int .u64 0,.int .u64 0,.int .u64 0,.int .u64 0,.int .u64 0,.int .u64 0] 165)) (.cells #[.int .u64 0,.int .u64 0,.int .u64 0,.int .u64 0,.int .u64 0,.int .u64 0,.int .u64 0,.int .u64 0] 165);rw [World.size_alloc,World.size_alloc] at this;rw [←hW];exact this
 obtain ⟨⟨c0,c1,c2,c3⟩,-⟩:=QaF k1;have HS:Hid (Qzz n0 n1 n2 n3 a0 a1 a2 a3 a4 (w.heap.size+1+1) #[.int .u64 0,.int .u64 0,.int .u64 0,.int .u64 0,.int .u64 0,.int .u64 0,.int .u64 0,.int .u64 0] w 0 (.int .u64 127) W):=hid ⟨by rw [show QhJ a0 a1 a2 a3 a4 0=a0 from rfl,h0];rfl,k5,k2,hB⟩
 have HA:=hid (And.intro h0 (And.intro h1 (And.intro h2 (And.intro h3 (And.intro h4 hm)))));clear k1 k2 k5 hB h0 h1 h2 h3 h4 hm;go_enter Tryz.func70,Tryz.ntmps70;go_wp2_with fail;go_loopw [6,10] (fun u6 u10 wr=>Hid (∃ k:Nat,k≤4∧u10 = .int .i64 (k:Nat)∧Qzz n0 n1 n2 n3 a0 a1 a2 a3 a4 (w.heap.size+1+1) #[.int .u64 0,.int .u64 0,.int .u64 0,.int .u64 0,.int .u64 0,.int .u64 0,.int .u64 0,.int .u64 0] w k u6 wr)) (fun _ u10 _=>4-(intOf u10).toNat)
 case atStart=>exact hid ⟨0,by decide,rfl,HS.out⟩
 case round=>
  obtain ⟨k,hk,rfl,rfl,hr,h2,hb⟩:=hrel.out;clear hrel;obtain ⟨g0,g1,g2,g3,g4,g5⟩:=HA.out;rcases (by omega:k=0∨k=1∨k=2∨k=3∨k=4) with rfl|rfl|rfl|rfl|rfl
  ·have hr:=hr
   rw [show QhJ a0 a1 a2 a3 a4 0=a0 from rfl];obtain ⟨x0,f0⟩:=Qao hr 0 (.int .u64 0) rfl;obtain ⟨x1,f1⟩:=Qao hr 1 (.int .u64 0) rfl;have HR:=hid (Qhb (cs':=Qjh n0 n1 n2 n3 a0 a1 a2 a3 1) hr h2 hb (by omega) (by omega) 0 1 (.int .u64 (a0:Nat)) (.int .u64 (n0:Nat)) rfl)
   have hle:a0+n0≤1099511627776:=by omega
   have t1:decide ((1099511627776:Int)-(a0:Int)<(n0:Int))=false:=decide_eq_false (by omega)
   have hA:=hid (show a1=a0+n0 by omega)
   clear hr h2 hb c0 c1 c2 c3 g0 g1 g2 g3 g4 g5;go_wp2_with fail;refine ⟨hid ⟨1,by decide,by go_num,?_,HR.out.1,HR.out.2.1,HR.out.2.2⟩,?_⟩
   ·rw [show QhJ a0 a1 a2 a3 a4 1=a1 from rfl,hA.out];first|rfl|go_num
   ·simp [intOf]
  ·have hr:=hr
   rw [show QhJ a0 a1 a2 a3 a4 1=a1 from rfl];obtain ⟨x0,f0⟩:=Qao hr 2 (.int .u64 0) rfl;obtain ⟨x1,f1⟩:=Qao hr 3 (.int .u64 0) rfl;have HR:=hid (Qhb (cs':=Qjh n0 n1 n2 n3 a0 a1 a2 a3 2) hr h2 hb (by omega) (by omega) 2 3 (.int .u64 (a1:Nat)) (.int .u64 (n1:Nat)) rfl)
   have hle:a1+n1≤1099511627776:=by omega
   have t1:decide ((1099511627776:Int)-(a1:Int)<(n1:Int))=false:=decide_eq_false (by omega)
   have hA:=hid (show a2=a1+n1 by omega)
   clear hr h2 hb c0 c1 c2 c3 g0 g1 g2 g3 g4 g5;go_wp2_with fail;refine ⟨hid ⟨2,by decide,by go_num,?_,HR.out.1,HR.out.2.1,HR.out.2.2⟩,?_⟩
   ·rw [show QhJ a0 a1 a2 a3 a4 2=a2 from rfl,hA.out];first|rfl|go_num
   ·simp [intOf]
  ·have hr:=hr
   rw [show QhJ a0 a1 a2 a3 a4 2=a2 from rfl];obtain ⟨x0,f0⟩:=Qao hr 4 (.int .u64 0) rfl;obtain ⟨x1,f1⟩:=Qao hr 5 (.int .u64 0) rfl;have HR:=hid (Qhb (cs':=Qjh n0 n1 n2 n3 a0 a1 a2 a3 3) hr h2 hb (by omega) (by omega) 4 5 (.int .u64 (a2:Nat)) (.int .u64 (n2:Nat)) rfl)
   have hle:a2+n2≤1099511627776:=by omega
   have t1:decide ((1099511627776:Int)-(a2:Int)<(n2:Int))=false:=decide_eq_false (by omega)
   have hA:=hid (show a3=a2+n2 by omega)
   clear hr h2 hb c0 c1 c2 c3 g0 g1 g2 g3 g4 g5;go_wp2_with fail;refine ⟨hid ⟨3,by decide,by go_num,?_,HR.out.1,HR.out.2.1,HR.out.2.2⟩,?_⟩
   ·rw [show QhJ a0 a1 a2 a3 a4 3=a3 from rfl,hA.out];first|rfl|go_num
   ·simp [intOf]
  ·have hr:=hr
   rw [show QhJ a0 a1 a2 a3 a4 3=a3 from rfl];obtain ⟨x0,f0⟩:=Qao hr 6 (.int .u64 0) rfl;obtain ⟨x1,f1⟩:=Qao hr 7 (.int .u64 0) rfl;have HR:=hid (Qhb (cs':=Qjh n0 n1 n2 n3 a0 a1 a2 a3 4) hr h2 hb (by omega) (by omega) 6 7 (.int .u64 (a3:Nat)) (.int .u64 (n3:Nat)) rfl)
   have hle:a3+n3≤1099511627776:=by omega
   have t1:decide ((1099511627776:Int)-(a3:Int)<(n3:Int))=false:=decide_eq_false (by omega)
   have hA:=hid (show a4=a3+n3 by omega)
   clear hr h2 hb c0 c1 c2 c3 g0 g1 g2 g3 g4 g5;go_wp2_with fail;refine ⟨hid ⟨4,by decide,by go_num,?_,HR.out.1,HR.out.2.1,HR.out.2.2⟩,?_⟩
   ·rw [show QhJ a0 a1 a2 a3 a4 4=a4 from rfl,hA.out];first|rfl|go_num
   ·simp [intOf]
  ·have HR:=hid (show wr.heap[w.heap.size+1+1]?=some (.cells #[.int .u64 (a0:Nat),.int .u64 (n0:Nat),.int .u64 (a1:Nat),.int .u64 (n1:Nat),.int .u64 (a2:Nat),.int .u64 (n2:Nat),.int .u64 (a3:Nat),.int .u64 (n3:Nat)] 165 (0,0)) from hr)
   have H2:=hid h2;have HB:=hid hb;clear hr h2 hb c0 c1 c2 c3 g0 g1 g2 g3 g4 g5;rw [show QhJ a0 a1 a2 a3 a4 4=a4 from rfl];go_wp2_with (first|(refine wpList_load_row rfl 165 (.tmp 5) rfl (w.heap.size+1+1) rfl 165 #[.int .u64 (a0:Nat),.int .u64 (n0:Nat),.int .u64 (a1:Nat),.int .u64 (n1:Nat),.int .u64 (a2:Nat),.int .u64 (n2:Nat),.int .u64 (a3:Nat),.int .u64 (n3:Nat)] (0,0) _ HR.out Tryz.underlying165 rfl (by kernel_rfl) ?_)|(refine wpList_store_row rfl 165 (.tmp 2) (.tmp 28) rfl (w.heap.size+1) #[.int .u64 (a0:Nat),.int .u64 (n0:Nat),.int .u64 (a1:Nat),.int .u64 (n1:Nat),.int .u64 (a2:Nat),.int .u64 (n2:Nat),.int .u64 (a3:Nat),.int .u64 (n3:Nat)] rfl rfl 165 #[.int .u64 0,.int .u64 0,.int .u64 0,.int .u64 0,.int .u64 0,.int .u64 0,.int .u64 0,.int .u64 0] H2.out (by kernel_rfl) rfl (by simp [Value.oneCell']) ?_))
   refine QaK (A:=⟨w.heap.size+1,0,none⟩) rfl (QlJ _ _ _ _ _ _ _ _ _ _ _ (setRow_heap _ _ _ _ _ _ H2.out)) rfl rfl rfl rfl ?_;exact ⟨rfl,Qba HB.out (by omega) _⟩
end
section
open Go.RowKit
def Qrm(h:Hdr)(s0 t0 s1 t1 s2 t2 s3 t3:Nat):Hdr:={ h with rf:=s0,rl:=t0,mf:=s1,ml:=t1,lf:=s2,ll:=t2,df:=s3,dl:=t3 }
theorem Qpc{w:World}{b:Nat}{x0 x1 x2 x3 x4 x5 x6 x7:Value}{t:TypeId}(k:w.heap[b]?=some (.cells #[x0,x1,x2,x3,x4,x5,x6,x7] t (0,0))):w.cell? ⟨b,0,none⟩=some x0∧w.cell? ⟨b,1,none⟩=some x1∧w.cell? ⟨b,2,none⟩=some x2∧w.cell? ⟨b,3,none⟩=some x3∧w.cell? ⟨b,4,none⟩=some x4∧w.cell? ⟨b,5,none⟩=some x5∧w.cell? ⟨b,6,none⟩=some x6∧w.cell? ⟨b,7,none⟩=some x7:=by
 refine ⟨?_,?_,?_,?_,?_,?_,?_,?_⟩<;>(unfold World.cell?;rw [k];rfl)
theorem Qak{w:World}{b k:Nat}(h:k≠b)(i:Nat)(v:Value):(w.setCell ⟨b,i,none⟩ v).heap[k]?=w.heap[k]?:=Below.heap_setCell _ _ _ _ h
theorem set8{B:Nat}{w W:World}{b b4:Nat}{cs C4 cs':Array Value}{T T4:TypeId}(k:W.heap[b]?=some (.cells cs T (0,0)))(k4:W.heap[b4]?=some (.cells C4 T4 (0,0)))(hn:b4≠b)(hB:Below B w W)(hb:B≤b){i0 i1 i2 i3 i4 i5 i6 i7:Nat}{v0 v1 v2 v3 v4 v5 v6 v7:Value}(hc:((((((((cs.set! i0 v0).set! i1 v1).set! i2 v2).set! i3 v3).set! i4 v4).set! i5 v5).set! i6 v6).set! i7 v7)=cs') :
  ((((((((W.setCell ⟨b,i0,none⟩ v0).setCell ⟨b,i1,none⟩ v1).setCell ⟨b,i2,none⟩ v2).setCell ⟨b,i3,none⟩ v3).setCell ⟨b,i4,none⟩ v4).setCell ⟨b,i5,none⟩ v5).setCell ⟨b,i6,none⟩ v6).setCell ⟨b,i7,none⟩ v7).heap[b]?=some (.cells cs' T (0,0))∧((((((((W.setCell ⟨b,i0,none⟩ v0).setCell ⟨b,i1,none⟩ v1).setCell ⟨b,i2,none⟩ v2).setCell ⟨b,i3,none⟩ v3).setCell ⟨b,i4,none⟩ v4).setCell ⟨b,i5,none⟩ v5).setCell ⟨b,i6,none⟩ v6).setCell ⟨b,i7,none⟩ v7).heap[b4]?=some (.cells C4 T4 (0,0))∧Below B w ((((((((W.setCell ⟨b,i0,none⟩ v0).setCell ⟨b,i1,none⟩ v1).setCell ⟨b,i2,none⟩ v2).setCell ⟨b,i3,none⟩ v3).setCell ⟨b,i4,none⟩ v4).setCell ⟨b,i5,none⟩ v5).setCell ⟨b,i6,none⟩ v6).setCell ⟨b,i7,none⟩ v7):=by
 subst hc;exact ⟨(Qat (Qat (Qat (Qat (Qat (Qat (Qat (Qat k i0 v0) i1 v1) i2 v2) i3 v3) i4 v4) i5 v5) i6 v6) i7 v7),((Qak hn i7 v7).trans ((Qak hn i6 v6).trans ((Qak hn i5 v5).trans ((Qak hn i4 v4).trans ((Qak hn i3 v3).trans ((Qak hn i2 v2).trans ((Qak hn i1 v1).trans ((Qak hn i0 v0).trans k4)))))))),(Below.setCell (p:=⟨b,i7,none⟩) (Below.setCell (p:=⟨b,i6,none⟩) (Below.setCell (p:=⟨b,i5,none⟩) (Below.setCell (p:=⟨b,i4,none⟩) (Below.setCell (p:=⟨b,i3,none⟩) (Below.setCell (p:=⟨b,i2,none⟩) (Below.setCell (p:=⟨b,i1,none⟩) (Below.setCell (p:=⟨b,i0,none⟩) hB hb v0) hb v1) hb v2) hb v3) hb v4) hb v5) hb v6) hb v7)⟩
theorem QAg{B b b4:Nat}{w X:World}{P Q:Option Obj}(h:X.heap[b]?=P∧X.heap[b4]?=Q∧Below B w X):X.drew.heap[b]?=P∧X.drew.heap[b4]?=Q∧Below B w X.drew:=⟨h.1,h.2.1,h.2.2.drew⟩
theorem QnK(h:Hdr)(s0 t0 s1 t1 s2 t2 s3 t3:Nat)(w:World):Calls Tryz.prog 72 #[.agg #[.int .u64 (h.rf:Nat),.int .u64 (h.rl:Nat),.int .u64 (h.mf:Nat),.int .u64 (h.ml:Nat),.int .u64 (h.lf:Nat),.int .u64 (h.ll:Nat),.int .u64 (h.df:Nat),.int .u64 (h.dl:Nat),.int .u64 (h.ad:Nat),.int .u64 (h.en:Nat),.int .u64 (h.co:Nat),.bool h.cl,.int .u8 (h.inn:Nat),.int .u8 (h.out:Nat),.int .u8 (h.kd:Nat),.int .i64 h.z0,.int .i64 h.z1,.int .i64 h.x0,.int .i64 h.y0,.int .i64 h.x1,.int .i64 h.y1,.int .i64 h.zo,.int .i64 h.lo,.int .i64 h.la],.agg #[.int .u64 (s0:Nat),.int .u64 (t0:Nat),.int .u64 (s1:Nat),.int .u64 (t1:Nat),.int .u64 (s2:Nat),.int .u64 (t2:Nat),.int .u64 (s3:Nat),.int .u64 (t3:Nat)]] w fun e w'=>e = .returned (.agg #[.int .u64 (s0:Nat),.int .u64 (t0:Nat),.int .u64 (s1:Nat),.int .u64 (t1:Nat),.int .u64 (s2:Nat),.int .u64 (t2:Nat),.int .u64 (s3:Nat),.int .u64 (t3:Nat),.int .u64 (h.ad:Nat),.int .u64 (h.en:Nat),.int .u64 (h.co:Nat),.bool h.cl,.int .u8 (h.inn:Nat),.int .u8 (h.out:Nat),.int .u8 (h.kd:Nat),.int .i64 h.z0,.int .i64 h.z1,.int .i64 h.x0,.int .i64 h.y0,.int .i64 h.x1,.int .i64 h.y1,.int .i64 h.zo,.int .i64 h.lo,.int .i64 h.la])∧Below w.heap.size w w':=by
 obtain ⟨W,hW⟩:∃ W,((w.alloc (.cells #[.int .u64 (h.rf:Nat),.int .u64 (h.rl:Nat),.int .u64 (h.mf:Nat),.int .u64 (h.ml:Nat),.int .u64 (h.lf:Nat),.int .u64 (h.ll:Nat),.int .u64 (h.df:Nat),.int .u64 (h.dl:Nat),.int .u64 (h.ad:Nat),.int .u64 (h.en:Nat),.int .u64 (h.co:Nat),.bool h.cl,.int .u8 (h.inn:Nat),.int .u8 (h.out:Nat),.int .u8 (h.kd:Nat),.int .i64 h.z0,.int .i64 h.z1,.int .i64 h.x0,.int .i64 h.y0,.int .i64 h.x1,.int .i64 h.y1,.int .i64 h.zo,.int .i64 h.lo,.int .i64 h.la] 78)).alloc (.cells #[.int .u64 (s0:Nat),.int .u64 (t0:Nat),.int .u64 (s1:Nat),.int .u64 (t1:Nat),.int .u64 (s2:Nat),.int .u64 (t2:Nat),.int .u64 (s3:Nat),.int .u64 (t3:Nat)] 165)).alloc (.cells #[.int .u64 0,.int .u64 0,.int .u64 0,.int .u64 0,.int .u64 0,.int .u64 0,.int .u64 0,.int .u64 0,.int .u64 0,.int .u64 0,.int .u64 0,.bool false,.int .u8 0,.int .u8 0,.int .u8 0,.int .i64 0,.int .i64 0,.int .i64 0,.int .i64 0,.int .i64 0,.int .i64 0,.int .i64 0,.int .i64 0,.int .i64 0] 78)=W:=⟨_,rfl⟩;have hB:Below w.heap.size w W:=by rw [←hW];exact (((Below.refl _ _).alloc (Nat.le_refl _) _).alloc (by simp) _).alloc (by simp;omega) _
 have k2:W.heap[w.heap.size]?=some (.cells (QbF h) 78 (0,0)):=by
  rw [←hW];exact (Below.heap_alloc _ _ _ (by rw [World.size_alloc,World.size_alloc];omega)).trans ((Below.heap_alloc _ _ _ (by rw [World.size_alloc];omega)).trans (heap_alloc_new w _))
 have k3:W.heap[w.heap.size+1]?=some (.cells #[.int .u64 (s0:Nat),.int .u64 (t0:Nat),.int .u64 (s1:Nat),.int .u64 (t1:Nat),.int .u64 (s2:Nat),.int .u64 (t2:Nat),.int .u64 (s3:Nat),.int .u64 (t3:Nat)] 165 (0,0)):=by
  have:=heap_alloc_new (w.alloc (.cells #[.int .u64 (h.rf:Nat),.int .u64 (h.rl:Nat),.int .u64 (h.mf:Nat),.int .u64 (h.ml:Nat),.int .u64 (h.lf:Nat),.int .u64 (h.ll:Nat),.int .u64 (h.df:Nat),.int .u64 (h.dl:Nat),.int .u64 (h.ad:Nat),.int .u64 (h.en:Nat),.int .u64 (h.co:Nat),.bool h.cl,.int .u8 (h.inn:Nat),.int .u8 (h.out:Nat),.int .u8 (h.kd:Nat),.int .i64 h.z0,.int .i64 h.z1,.int .i64 h.x0,.int .i64 h.y0,.int .i64 h.x1,.int .i64 h.y1,.int .i64 h.zo,.int .i64 h.lo,.int .i64 h.la] 78)) (.cells #[.int .u64 (s0:Nat),.int .u64 (t0:Nat),.int .u64 (s1:Nat),.int .u64 (t1:Nat),.int .u64 (s2:Nat),.int .u64 (t2:Nat),.int .u64 (s3:Nat),.int .u64 (t3:Nat)] 165);rw [World.size_alloc] at this;rw [←hW];exact (Below.heap_alloc _ _ _ (by rw [World.size_alloc,World.size_alloc];omega)).trans this
 have k4:W.heap[w.heap.size+1+1]?=some (.cells #[.int .u64 0,.int .u64 0,.int .u64 0,.int .u64 0,.int .u64 0,.int .u64 0,.int .u64 0,.int .u64 0,.int .u64 0,.int .u64 0,.int .u64 0,.bool false,.int .u8 0,.int .u8 0,.int .u8 0,.int .i64 0,.int .i64 0,.int .i64 0,.int .i64 0,.int .i64 0,.int .i64 0,.int .i64 0,.int .i64 0,.int .i64 0] 78 (0,0)):=by
  have:=heap_alloc_new ((w.alloc (.cells #[.int .u64 (h.rf:Nat),.int .u64 (h.rl:Nat),.int .u64 (h.mf:Nat),.int .u64 (h.ml:Nat),.int .u64 (h.lf:Nat),.int .u64 (h.ll:Nat),.int .u64 (h.df:Nat),.int .u64 (h.dl:Nat),.int .u64 (h.ad:Nat),.int .u64 (h.en:Nat),.int .u64 (h.co:Nat),.bool h.cl,.int .u8 (h.inn:Nat),.int .u8 (h.out:Nat),.int .u8 (h.kd:Nat),.int .i64 h.z0,.int .i64 h.z1,.int .i64 h.x0,.int .i64 h.y0,.int .i64 h.x1,.int .i64 h.y1,.int .i64 h.zo,.int .i64 h.lo,.int .i64 h.la] 78)).alloc (.cells #[.int .u64 (s0:Nat),.int .u64 (t0:Nat),.int .u64 (s1:Nat),.int .u64 (t1:Nat),.int .u64 (s2:Nat),.int .u64 (t2:Nat),.int .u64 (s3:Nat),.int .u64 (t3:Nat)] 165)) (.cells #[.int .u64 0,.int .u64 0,.int .u64 0,.int .u64 0,.int .u64 0,.int .u64 0,.int .u64 0,.int .u64 0,.int .u64 0,.int .u64 0,.int .u64 0,.bool false,.int .u8 0,.int .u8 0,.int .u8 0,.int .i64 0,.int .i64 0,.int .i64 0,.int .i64 0,.int .i64 0,.int .i64 0,.int .i64 0,.int .i64 0,.int .i64 0] 78);rw [World.size_alloc,World.size_alloc] at this;rw [←hW];exact this
 obtain ⟨d0,d1,d2,d3,d4,d5,d6,d7⟩:=Qpc k3;obtain ⟨c0,c1,c2,c3,c4,c5,c6,c7,-⟩:=QcJ k2;have f0:∀ i,W.frozen? ⟨w.heap.size,i,none⟩=false:=fun i=>by unfold World.frozen?;rw [k2];rfl
 have HK:=hid (And.intro hB (And.intro k2 k4));clear hB k2 k3 k4;go_enter Tryz.func72,Tryz.ntmps72;go_upto_region 1 with fail
 go_cut [] (fun wx=>wx.heap[w.heap.size]?=some (.cells #[.int .u64 (s0:Nat),.int .u64 (t0:Nat),.int .u64 (s1:Nat),.int .u64 (t1:Nat),.int .u64 (s2:Nat),.int .u64 (t2:Nat),.int .u64 (s3:Nat),.int .u64 (t3:Nat),.int .u64 (h.ad:Nat),.int .u64 (h.en:Nat),.int .u64 (h.co:Nat),.bool h.cl,.int .u8 (h.inn:Nat),.int .u8 (h.out:Nat),.int .u8 (h.kd:Nat),.int .i64 h.z0,.int .i64 h.z1,.int .i64 h.x0,.int .i64 h.y0,.int .i64 h.x1,.int .i64 h.y1,.int .i64 h.zo,.int .i64 h.lo,.int .i64 h.la] 78 (0,0))∧wx.heap[w.heap.size+1+1]?=some (.cells #[.int .u64 0,.int .u64 0,.int .u64 0,.int .u64 0,.int .u64 0,.int .u64 0,.int .u64 0,.int .u64 0,.int .u64 0,.int .u64 0,.int .u64 0,.bool false,.int .u8 0,.int .u8 0,.int .u8 0,.int .i64 0,.int .i64 0,.int .i64 0,.int .i64 0,.int .i64 0,.int .i64 0,.int .i64 0,.int .i64 0,.int .i64 0] 78 (0,0))∧Below w.heap.size w wx)
 case first=>
  go_region
  all_goals
   go_wp2_with fail;go_meet;exact QAg (set8 HK.out.2.1 HK.out.2.2 (by omega) HK.out.1 (Nat.le_refl _) (by kernel_rfl))
 have HC:=hid hcut;clear hcut;go_wp2_with (first|(refine wpList_load_row rfl 78 (.tmp 2) rfl w.heap.size rfl 78 #[.int .u64 (s0:Nat),.int .u64 (t0:Nat),.int .u64 (s1:Nat),.int .u64 (t1:Nat),.int .u64 (s2:Nat),.int .u64 (t2:Nat),.int .u64 (s3:Nat),.int .u64 (t3:Nat),.int .u64 (h.ad:Nat),.int .u64 (h.en:Nat),.int .u64 (h.co:Nat),.bool h.cl,.int .u8 (h.inn:Nat),.int .u8 (h.out:Nat),.int .u8 (h.kd:Nat),.int .i64 h.z0,.int .i64 h.z1,.int .i64 h.x0,.int .i64 h.y0,.int .i64 h.x1,.int .i64 h.y1,.int .i64 h.zo,.int .i64 h.lo,.int .i64 h.la] (0,0) _ HC.out.1 Tryz.underlying78 rfl (by kernel_rfl) ?_)|(refine wpList_store_row rfl 78 (.tmp 4) (.tmp 17) rfl (w.heap.size+1+1) #[.int .u64 (s0:Nat),.int .u64 (t0:Nat),.int .u64 (s1:Nat),.int .u64 (t1:Nat),.int .u64 (s2:Nat),.int .u64 (t2:Nat),.int .u64 (s3:Nat),.int .u64 (t3:Nat),.int .u64 (h.ad:Nat),.int .u64 (h.en:Nat),.int .u64 (h.co:Nat),.bool h.cl,.int .u8 (h.inn:Nat),.int .u8 (h.out:Nat),.int .u8 (h.kd:Nat),.int .i64 h.z0,.int .i64 h.z1,.int .i64 h.x0,.int .i64 h.y0,.int .i64 h.x1,.int .i64 h.y1,.int .i64 h.zo,.int .i64 h.lo,.int .i64 h.la] rfl rfl 78 #[.int .u64 0,.int .u64 0,.int .u64 0,.int .u64 0,.int .u64 0,.int .u64 0,.int .u64 0,.int .u64 0,.int .u64 0,.int .u64 0,.int .u64 0,.bool false,.int .u8 0,.int .u8 0,.int .u8 0,.int .i64 0,.int .i64 0,.int .i64 0,.int .i64 0,.int .i64 0,.int .i64 0,.int .i64 0,.int .i64 0,.int .i64 0] HC.out.2.1 (by kernel_rfl) rfl (by simp [Value.oneCell']) ?_))
 refine Qeb (A:=⟨w.heap.size+1+1,0,none⟩) rfl (QbO (setRow_heap _ _ _ _ _ _ HC.out.2.1) rfl) rfl rfl ?_;exact ⟨rfl,Qba HC.out.2.2 (by omega) _⟩
end
section
open Go.RowKit
theorem Qvz(p0 p1 p2 p3:ByteArray):(∀ w,(Instr.index 111 (.agg #[.string p0,.string p1,.string p2,.string p3]) (.int .i64 0)).run Tryz.prog w = .ok (.string p0) w)∧(∀ w,(Instr.index 111 (.agg #[.string p0,.string p1,.string p2,.string p3]) (.int .i64 1)).run Tryz.prog w = .ok (.string p1) w)∧(∀ w,(Instr.index 111 (.agg #[.string p0,.string p1,.string p2,.string p3]) (.int .i64 2)).run Tryz.prog w = .ok (.string p2) w)∧(∀ w,(Instr.index 111 (.agg #[.string p0,.string p1,.string p2,.string p3]) (.int .i64 3)).run Tryz.prog w = .ok (.string p3) w):=
 ⟨fun _=>by kernel_rfl,fun _=>by kernel_rfl,fun _=>by kernel_rfl,fun _=>by kernel_rfl⟩
def QlN(p0 p1 p2 p3:ByteArray):Nat→Array Value
 |0=>#[.int .u64 0,.int .u64 0,.int .u64 0,.int .u64 0]
 |1=>#[.int .u64 (p0.size:Nat),.int .u64 0,.int .u64 0,.int .u64 0]
 |2=>#[.int .u64 (p0.size:Nat),.int .u64 (p1.size:Nat),.int .u64 0,.int .u64 0]
 |3=>#[.int .u64 (p0.size:Nat),.int .u64 (p1.size:Nat),.int .u64 (p2.size:Nat),.int .u64 0]
 |_=>#[.int .u64 (p0.size:Nat),.int .u64 (p1.size:Nat),.int .u64 (p2.size:Nat),.int .u64 (p3.size:Nat)]
def GlSt(p0 p1 p2 p3:ByteArray)(w W:World)(k:Nat)(wr:World):Prop:=wr.heap[w.heap.size+1+1]?=some (.cells (QlN p0 p1 p2 p3 k) 164 (0,0))∧wr.heap[w.heap.size]?=W.heap[w.heap.size]?∧wr.heap[w.heap.size+1]?=W.heap[w.heap.size+1]?∧Below w.heap.size w wr
theorem Qee{w wr:World}{b:Nat}{cs cs':Array Value}{T:TypeId}(hr:wr.heap[b]?=some (.cells cs T (0,0)))(i:Nat)(v:Value)(hc:cs.set! i v=cs'):(wr.setCell ⟨b,i,none⟩ v).heap[b]?=some (.cells cs' T (0,0)):=by
 subst hc;exact Qat hr i v
theorem Qs5(p0 p1 p2 p3:ByteArray)(b:Nat)(w:World)(k:w.heap[b]?=some (.cells #[.string p0,.string p1,.string p2,.string p3] 111 (0,0)))(hs:p0.size+p1.size+p2.size+p3.size≤1000000) :
  Calls Tryz.prog 73 #[.slice (some ⟨b,0,none⟩) 4 4,.string ⟨#[]⟩] w fun e w'=>e = .returned (.string (bs (p0.data.toList++(p1.data.toList++(p2.data.toList++p3.data.toList)))))∧Below w.heap.size w w':=by
 have hj:Lib.join ([p0,p1,p2,p3].map (·.data.toList)) (⟨#[]⟩:ByteArray).data.toList=p0.data.toList++(p1.data.toList++(p2.data.toList++p3.data.toList)):=by
  simp [Lib.join]
 have h:=Tryz.strings_Join b 0 4 [p0,p1,p2,p3] ⟨#[]⟩ w (fun j x hx=>by
  rw [Nat.zero_add,QaY k]
  match j,hx with
  |0,hx=>simpa using hx
  |1,hx=>simpa using hx
  |2,hx=>simpa using hx
  |3,hx=>simpa using hx
  |j+4,hx=>simp at hx) (gsi k).1 (by simp) (by simp) (by
   rw [hj];simp only [List.length_append];have e0:=Qab p0;have e1:=Qab p1;have e2:=Qab p2;have e3:=Qab p3;omega)
 rw [hj] at h;exact h
theorem QnL(h H:Hdr)(p0 p1 p2 p3:ByteArray)(w:World)(hs:p0.size+p1.size+p2.size+p3.size≤1000000)(hH:H=Qrm h 127 p0.size (127+p0.size) p1.size (127+p0.size+p1.size) p2.size (127+p0.size+p1.size+p2.size) p3.size)(ok:HdrOk H)(hc:QjM H=0) :
  Calls Tryz.prog 38 #[.agg #[.int .u64 (h.rf:Nat),.int .u64 (h.rl:Nat),.int .u64 (h.mf:Nat),.int .u64 (h.ml:Nat),.int .u64 (h.lf:Nat),.int .u64 (h.ll:Nat),.int .u64 (h.df:Nat),.int .u64 (h.dl:Nat),.int .u64 (h.ad:Nat),.int .u64 (h.en:Nat),.int .u64 (h.co:Nat),.bool h.cl,.int .u8 (h.inn:Nat),.int .u8 (h.out:Nat),.int .u8 (h.kd:Nat),.int .i64 h.z0,.int .i64 h.z1,.int .i64 h.x0,.int .i64 h.y0,.int .i64 h.x1,.int .i64 h.y1,.int .i64 h.zo,.int .i64 h.lo,.int .i64 h.la],.agg #[.string p0,.string p1,.string p2,.string p3]] w fun e w'=>e = .returned (.tuple #[.string (bs (QiN H++(p0.data.toList++(p1.data.toList++(p2.data.toList++p3.data.toList))))),.int .i64 0])∧Below w.heap.size w w':=by
 obtain ⟨j0,j1,j2,j3⟩:=Qvz p0 p1 p2 p3;obtain ⟨W,hW⟩:∃ W,((w.alloc (.cells #[.int .u64 (h.rf:Nat),.int .u64 (h.rl:Nat),.int .u64 (h.mf:Nat),.int .u64 (h.ml:Nat),.int .u64 (h.lf:Nat),.int .u64 (h.ll:Nat),.int .u64 (h.df:Nat),.int .u64 (h.dl:Nat),.int .u64 (h.ad:Nat),.int .u64 (h.en:Nat),.int .u64 (h.co:Nat),.bool h.cl,.int .u8 (h.inn:Nat),.int .u8 (h.out:Nat),.int .u8 (h.kd:Nat),.int .i64 h.z0,.int .i64 h.z1,.int .i64 h.x0,.int .i64 h.y0,.int .i64 h.x1,.int .i64 h.y1,.int .i64 h.zo,.int .i64 h.lo,.int .i64 h.la] 78)).alloc (.cells #[.string p0,.string p1,.string p2,.string p3] 111)).alloc (.cells #[.int .u64 0,.int .u64 0,.int .u64 0,.int .u64 0] 164)=W:=⟨_,rfl⟩;have hB:Below w.heap.size w W:=by rw [←hW];exact (((Below.refl _ _).alloc (Nat.le_refl _) _).alloc (by simp) _).alloc (by simp;omega) _
 have k2:W.heap[w.heap.size]?=some (.cells (QbF h) 78 (0,0)):=by
  rw [←hW];exact (Below.heap_alloc _ _ _ (by rw [World.size_alloc,World.size_alloc];omega)).trans ((Below.heap_alloc _ _ _ (by rw [World.size_alloc];omega)).trans (heap_alloc_new w _))
 have k3:W.heap[w.heap.size+1]?=some (.cells #[.string p0,.string p1,.string p2,.string p3] 111 (0,0)):=by
  have:=heap_alloc_new (w.alloc (.cells #[.int .u64 (h.rf:Nat),.int .u64 (h.rl:Nat),.int .u64 (h.mf:Nat),.int .u64 (h.ml:Nat),.int .u64 (h.lf:Nat),.int .u64 (h.ll:Nat),.int .u64 (h.df:Nat),.int .u64 (h.dl:Nat),.int .u64 (h.ad:Nat),.int .u64 (h.en:Nat),.int .u64 (h.co:Nat),.bool h.cl,.int .u8 (h.inn:Nat),.int .u8 (h.out:Nat),.int .u8 (h.kd:Nat),.int .i64 h.z0,.int .i64 h.z1,.int .i64 h.x0,.int .i64 h.y0,.int .i64 h.x1,.int .i64 h.y1,.int .i64 h.zo,.int .i64 h.lo,.int .i64 h.la] 78)) (.cells #[.string p0,.string p1,.string p2,.string p3] 111);rw [World.size_alloc] at this;rw [←hW];exact (Below.heap_alloc _ _ _ (by rw [World.size_alloc,World.size_alloc];omega)).trans this
 have k6:W.heap[w.heap.size+1+1]?=some (.cells #[.int .u64 0,.int .u64 0,.int .u64 0,.int .u64 0] 164 (0,0)):=by
  have:=heap_alloc_new ((w.alloc (.cells #[.int .u64 (h.rf:Nat),.int .u64 (h.rl:Nat),.int .u64 (h.mf:Nat),.int .u64 (h.ml:Nat),.int .u64 (h.lf:Nat),.int .u64 (h.ll:Nat),.int .u64 (h.df:Nat),.int .u64 (h.dl:Nat),.int .u64 (h.ad:Nat),.int .u64 (h.en:Nat),.int .u64 (h.co:Nat),.bool h.cl,.int .u8 (h.inn:Nat),.int .u8 (h.out:Nat),.int .u8 (h.kd:Nat),.int .i64 h.z0,.int .i64 h.z1,.int .i64 h.x0,.int .i64 h.y0,.int .i64 h.x1,.int .i64 h.y1,.int .i64 h.zo,.int .i64 h.lo,.int .i64 h.la] 78)).alloc (.cells #[.string p0,.string p1,.string p2,.string p3] 111)) (.cells #[.int .u64 0,.int .u64 0,.int .u64 0,.int .u64 0] 164);rw [World.size_alloc,World.size_alloc] at this;rw [←hW];exact this
 obtain ⟨⟨c0,c1,c2,c3⟩,-⟩:=QaF k3;have HS:Hid (GlSt p0 p1 p2 p3 w W 0 W):=hid ⟨k6,rfl,rfl,hB⟩;have HK:=hid (And.intro k2 k3);have HSz:=hid (And.intro hs (And.intro hH (And.intro ok hc)));have q0:p0.size≤1000000:=by omega
 have q1:p1.size≤1000000:=by omega
 have q2:p2.size≤1000000:=by omega
 have q3:p3.size≤1000000:=by omega
 clear hB k2 k3 k6 hs hH ok hc;go_enter Tryz.func38,Tryz.ntmps38;go_wp2_with fail;go_loopw [14] (fun u14 wr=>Hid (∃ k:Nat,k≤4∧u14 = .int .i64 (k:Nat)∧GlSt p0 p1 p2 p3 w W k wr)) (fun u14 _=>4-(intOf u14).toNat)
 case atStart=>exact hid ⟨0,by decide,rfl,HS.out⟩
 case round=>
  obtain ⟨k,hk,rfl,hr,hx2,hx3,hb⟩:=hrel.out;clear hrel c0 c1 c2 c3;rcases (by omega:k=0∨k=1∨k=2∨k=3∨k=4) with rfl|rfl|rfl|rfl|rfl
  ·obtain ⟨x0,f0⟩:=Qao hr 0 (.int .u64 0) rfl
   have HR:=hid (And.intro (Qee (w:=w) (cs':=QlN p0 p1 p2 p3 1) hr 0 (.int .u64 (p0.size:Nat)) rfl) (And.intro ((Qak (show w.heap.size≠w.heap.size+1+1 by omega) 0 (.int .u64 (p0.size:Nat))).trans hx2) (And.intro ((Qak (show w.heap.size+1≠w.heap.size+1+1 by omega) 0 (.int .u64 (p0.size:Nat))).trans hx3) (hb.setCell (p:=⟨w.heap.size+1+1,0,none⟩) (by show w.heap.size≤w.heap.size+1+1;omega) (.int .u64 (p0.size:Nat))))))
   clear hr hx2 hx3 hb;go_wp2_with fail;refine ⟨hid ⟨1,by decide,by go_num,HR.out.1,HR.out.2.1,HR.out.2.2.1,HR.out.2.2.2⟩,?_⟩
   simp [intOf]
  ·obtain ⟨x0,f0⟩:=Qao hr 1 (.int .u64 0) rfl
   have HR:=hid (And.intro (Qee (w:=w) (cs':=QlN p0 p1 p2 p3 2) hr 1 (.int .u64 (p1.size:Nat)) rfl) (And.intro ((Qak (show w.heap.size≠w.heap.size+1+1 by omega) 1 (.int .u64 (p1.size:Nat))).trans hx2) (And.intro ((Qak (show w.heap.size+1≠w.heap.size+1+1 by omega) 1 (.int .u64 (p1.size:Nat))).trans hx3) (hb.setCell (p:=⟨w.heap.size+1+1,1,none⟩) (by show w.heap.size≤w.heap.size+1+1;omega) (.int .u64 (p1.size:Nat))))))
   clear hr hx2 hx3 hb;go_wp2_with fail;refine ⟨hid ⟨2,by decide,by go_num,HR.out.1,HR.out.2.1,HR.out.2.2.1,HR.out.2.2.2⟩,?_⟩
   simp [intOf]
  ·obtain ⟨x0,f0⟩:=Qao hr 2 (.int .u64 0) rfl
   have HR:=hid (And.intro (Qee (w:=w) (cs':=QlN p0 p1 p2 p3 3) hr 2 (.int .u64 (p2.size:Nat)) rfl) (And.intro ((Qak (show w.heap.size≠w.heap.size+1+1 by omega) 2 (.int .u64 (p2.size:Nat))).trans hx2) (And.intro ((Qak (show w.heap.size+1≠w.heap.size+1+1 by omega) 2 (.int .u64 (p2.size:Nat))).trans hx3) (hb.setCell (p:=⟨w.heap.size+1+1,2,none⟩) (by show w.heap.size≤w.heap.size+1+1;omega) (.int .u64 (p2.size:Nat))))))
   clear hr hx2 hx3 hb;go_wp2_with fail;refine ⟨hid ⟨3,by decide,by go_num,HR.out.1,HR.out.2.1,HR.out.2.2.1,HR.out.2.2.2⟩,?_⟩
   simp [intOf]
  ·obtain ⟨x0,f0⟩:=Qao hr 3 (.int .u64 0) rfl
   have HR:=hid (And.intro (Qee (w:=w) (cs':=QlN p0 p1 p2 p3 4) hr 3 (.int .u64 (p3.size:Nat)) rfl) (And.intro ((Qak (show w.heap.size≠w.heap.size+1+1 by omega) 3 (.int .u64 (p3.size:Nat))).trans hx2) (And.intro ((Qak (show w.heap.size+1≠w.heap.size+1+1 by omega) 3 (.int .u64 (p3.size:Nat))).trans hx3) (hb.setCell (p:=⟨w.heap.size+1+1,3,none⟩) (by show w.heap.size≤w.heap.size+1+1;omega) (.int .u64 (p3.size:Nat))))))
   clear hr hx2 hx3 hb;go_wp2_with fail;refine ⟨hid ⟨4,by decide,by go_num,HR.out.1,HR.out.2.1,HR.out.2.2.1,HR.out.2.2.2⟩,?_⟩
   simp [intOf]
  ·obtain ⟨hs,hH,ok,hc⟩:=HSz.out
   obtain ⟨a1,ha1⟩:∃ a,127+p0.size=a:=⟨_,rfl⟩;rw [ha1] at hH;obtain ⟨a2,ha2⟩:∃ a,a1+p1.size=a:=⟨_,rfl⟩;rw [ha2] at hH;obtain ⟨a3,ha3⟩:∃ a,a2+p2.size=a:=⟨_,rfl⟩;rw [ha3] at hH;have HSc:Hid (∀ W,Calls Tryz.prog 70 #[.agg #[.int .u64 (p0.size:Nat),.int .u64 (p1.size:Nat),.int .u64 (p2.size:Nat),.int .u64 (p3.size:Nat)]] W fun e w'=>e = .returned (.tuple #[.agg #[.int .u64 127,.int .u64 (p0.size:Nat),.int .u64 (a1:Nat),.int .u64 (p1.size:Nat),.int .u64 (a2:Nat),.int .u64 (p2.size:Nat),.int .u64 (a3:Nat),.int .u64 (p3.size:Nat)],.int .u64 (a3+p3.size:Nat),.int .i64 0])∧Below W.heap.size W w'):=hid (fun W=>Qh9 p0.size p1.size p2.size p3.size 127 a1 a2 a3 (a3+p3.size) W rfl ha1.symm ha2.symm ha3.symm rfl (by omega))
   have HWi:Hid (∀ W,Calls Tryz.prog 72 #[.agg #[.int .u64 (h.rf:Nat),.int .u64 (h.rl:Nat),.int .u64 (h.mf:Nat),.int .u64 (h.ml:Nat),.int .u64 (h.lf:Nat),.int .u64 (h.ll:Nat),.int .u64 (h.df:Nat),.int .u64 (h.dl:Nat),.int .u64 (h.ad:Nat),.int .u64 (h.en:Nat),.int .u64 (h.co:Nat),.bool h.cl,.int .u8 (h.inn:Nat),.int .u8 (h.out:Nat),.int .u8 (h.kd:Nat),.int .i64 h.z0,.int .i64 h.z1,.int .i64 h.x0,.int .i64 h.y0,.int .i64 h.x1,.int .i64 h.y1,.int .i64 h.zo,.int .i64 h.lo,.int .i64 h.la],.agg #[.int .u64 127,.int .u64 (p0.size:Nat),.int .u64 (a1:Nat),.int .u64 (p1.size:Nat),.int .u64 (a2:Nat),.int .u64 (p2.size:Nat),.int .u64 (a3:Nat),.int .u64 (p3.size:Nat)]] W fun e w'=>e = .returned (.agg #[.int .u64 127,.int .u64 (p0.size:Nat),.int .u64 (a1:Nat),.int .u64 (p1.size:Nat),.int .u64 (a2:Nat),.int .u64 (p2.size:Nat),.int .u64 (a3:Nat),.int .u64 (p3.size:Nat),.int .u64 (h.ad:Nat),.int .u64 (h.en:Nat),.int .u64 (h.co:Nat),.bool h.cl,.int .u8 (h.inn:Nat),.int .u8 (h.out:Nat),.int .u8 (h.kd:Nat),.int .i64 h.z0,.int .i64 h.z1,.int .i64 h.x0,.int .i64 h.y0,.int .i64 h.x1,.int .i64 h.y1,.int .i64 h.zo,.int .i64 h.lo,.int .i64 h.la])∧Below W.heap.size W w'):=hid (fun W=>QnK h 127 p0.size a1 p1.size a2 p2.size a3 p3.size W)
   have HEn:Hid (∀ W,Calls Tryz.prog 71 #[.agg #[.int .u64 127,.int .u64 (p0.size:Nat),.int .u64 (a1:Nat),.int .u64 (p1.size:Nat),.int .u64 (a2:Nat),.int .u64 (p2.size:Nat),.int .u64 (a3:Nat),.int .u64 (p3.size:Nat),.int .u64 (h.ad:Nat),.int .u64 (h.en:Nat),.int .u64 (h.co:Nat),.bool h.cl,.int .u8 (h.inn:Nat),.int .u8 (h.out:Nat),.int .u8 (h.kd:Nat),.int .i64 h.z0,.int .i64 h.z1,.int .i64 h.x0,.int .i64 h.y0,.int .i64 h.x1,.int .i64 h.y1,.int .i64 h.zo,.int .i64 h.lo,.int .i64 h.la]] W fun e w'=>e = .returned (.tuple #[.string (bs (QiN H)),.int .i64 0])∧Below W.heap.size W w'):=hid (fun W=>by
    have:=QkM H ok hc W;subst hH;exact this)
   obtain ⟨n0,n1,n2,n3⟩:(wr.cell? ⟨w.heap.size+1+1,0,none⟩=some (.int .u64 (p0.size:Nat)))∧(wr.cell? ⟨w.heap.size+1+1,1,none⟩=some (.int .u64 (p1.size:Nat)))∧(wr.cell? ⟨w.heap.size+1+1,2,none⟩=some (.int .u64 (p2.size:Nat)))∧(wr.cell? ⟨w.heap.size+1+1,3,none⟩=some (.int .u64 (p3.size:Nat))):=(QaF (show wr.heap[w.heap.size+1+1]?=some (.cells #[.int .u64 (p0.size:Nat),.int .u64 (p1.size:Nat),.int .u64 (p2.size:Nat),.int .u64 (p3.size:Nat)] 164 (0,0)) from hr)).1;have HX2:=hid (hx2.trans HK.out.1);have HX3:=hid (hx3.trans HK.out.2);have HB:=hid hb;have hs2:=hs;clear hr hx2 hx3 hb hs hH ha1 ha2 ha3 hc;go_wp2_with fail;refine (HSc.out _).mono ?_;rintro e w1 ⟨rfl,hb1⟩;have h2l:=(gsi HX2.out).1;have h3l:=(gsi HX3.out).1;obtain ⟨W9,hW9⟩:∃ W9,w1.alloc (.cells #[.int .u64 127,.int .u64 (p0.size:Nat),.int .u64 (a1:Nat),.int .u64 (p1.size:Nat),.int .u64 (a2:Nat),.int .u64 (p2.size:Nat),.int .u64 (a3:Nat),.int .u64 (p3.size:Nat)] 165)=W9:=⟨_,rfl⟩;obtain ⟨b9,hb9⟩:∃ b9,w1.heap.size=b9:=⟨_,rfl⟩;have k9:W9.heap[b9]?=some (.cells #[.int .u64 127,.int .u64 (p0.size:Nat),.int .u64 (a1:Nat),.int .u64 (p1.size:Nat),.int .u64 (a2:Nat),.int .u64 (p2.size:Nat),.int .u64 (a3:Nat),.int .u64 (p3.size:Nat)] 165 (0,0)):=by rw [←hW9,←hb9];exact heap_alloc_new w1 _
   have hbw:Below wr.heap.size wr W9:=by rw [←hW9];exact hb1.alloc hb1.size _
   have HX29:=hid ((hbw.block _ h2l).trans HX2.out);have HX39:=hid ((hbw.block _ h3l).trans HX3.out);have HB9:=hid (Qaa HB.out hbw);obtain ⟨d0,d1,d2,d3,d4,d5,d6,d7⟩:=Qpc k9;clear hb1 hbw k9 h2l h3l HX2 HX3 HB n0 n1 n2 n3;go_wp2_with (refine wpList_load_row rfl 78 (.tmp 2) rfl w.heap.size rfl 78 #[.int .u64 (h.rf:Nat),.int .u64 (h.rl:Nat),.int .u64 (h.mf:Nat),.int .u64 (h.ml:Nat),.int .u64 (h.lf:Nat),.int .u64 (h.ll:Nat),.int .u64 (h.df:Nat),.int .u64 (h.dl:Nat),.int .u64 (h.ad:Nat),.int .u64 (h.en:Nat),.int .u64 (h.co:Nat),.bool h.cl,.int .u8 (h.inn:Nat),.int .u8 (h.out:Nat),.int .u8 (h.kd:Nat),.int .i64 h.z0,.int .i64 h.z1,.int .i64 h.x0,.int .i64 h.y0,.int .i64 h.x1,.int .i64 h.y1,.int .i64 h.zo,.int .i64 h.lo,.int .i64 h.la] (0,0) _ HX29.out Tryz.underlying78 rfl (by kernel_rfl) ?_)
   refine (HWi.out _).mono ?_;rintro e w2 ⟨rfl,hb2⟩;have HB2:=hid (Qaa HB9.out hb2);have HX32:=hid ((hb2.block _ (gsi HX39.out).1).trans HX39.out);clear hb2;go_wp2_with fail;refine (HEn.out _).mono ?_;rintro e w3 ⟨rfl,hb3⟩;have HB3:=hid (Qaa HB2.out hb3);have hX33:=(hb3.block _ (gsi HX32.out).1).trans HX32.out;have HJ:=hid (Qs5 p0 p1 p2 p3 (w.heap.size+1) w3 hX33 hs2);obtain ⟨⟨y0,y1,y2,y3⟩,-⟩:=QaF hX33;clear hb3 hX33;go_wp2_with fail;refine HJ.out.mono ?_;rintro e w4 ⟨rfl,hb4⟩;have HB4:=hid (Qaa HB3.out hb4);clear hb4 y0 y1 y2 y3;have z1:(bs (QiN H)).size=127:=by rw [QaC,QkR]
   have z2:(bs (p0.data.toList++(p1.data.toList++(p2.data.toList++p3.data.toList)))).size≤1000000:=by
    rw [QaC];simp only [List.length_append];have e0:=Qab p0;have e1:=Qab p1;have e2:=Qab p2;have e3:=Qab p3;omega
   generalize hqq:p0.data.toList++(p1.data.toList++(p2.data.toList++p3.data.toList))=Q;have hadd:bs (QiN H)++bs Q=bs (QiN H++Q):=by
    apply ByteArray.ext;simp [bs]
   have HA:=hid hadd;have z3:(bs (QiN H)).size+(bs Q).size≤9223372036854775807:=by rw [hqq] at z2;omega
   have HQ:=hid hqq;clear hadd hqq;go_wp2_with fail;go_ret2;rw [HQ.out,←HA.out];exact ⟨rfl,HB4.out⟩
end
section
open Go.RowKit
theorem Qt3(w:World)(v:Value)(t:TypeId):(w.alloc (.cells #[v] t)).cell? ⟨w.heap.size,0,none⟩=some v∧Below w.heap.size w (w.alloc (.cells #[v] t)):=by
 refine ⟨?_,(Below.refl _ _).alloc (Nat.le_refl _) _⟩;unfold World.cell?;rw [heap_alloc_new];rfl
theorem QtU(a:Option Addr)(n c:Nat)(w:World):Calls Tryz.prog 74 #[.agg #[.slice a n c]] w fun e w'=>e = .returned (.int .i64 (n:Nat))∧Below w.heap.size w w':=by
 obtain ⟨c0,hb⟩:=Qt3 w (.slice a n c) 50;have HB:=hid hb;clear hb;go_enter Tryz.func74,Tryz.ntmps74;go_wp2_with fail;go_ret;exact ⟨rfl,HB.out⟩
def Qhp(i:Nat):Nat:=(Lib.bitLen (3*i+1)-1)/2
theorem QmY(i:Nat)(hi:i<6004799503160661)(w:World):Calls Tryz.prog 131 #[.int .u64 (i:Nat)] w fun e w'=>e = .returned (.int .i64 (Qhp i:Nat))∧w'=w:=by
 have hL:=Tryz.bits_Len64 ((3:Int)*(i:Int)+1) w (by omega) (by omega)
 have e1:((3:Int)*(i:Int)+1).toNat=3*i+1:=by omega
 rw [e1] at hL;have hp:1≤Lib.bitLen (3*i+1):=by
  rcases Nat.eq_zero_or_pos (Lib.bitLen (3*i+1)) with h0|h0
  ·exfalso
   rw [Lib.bitLen_half (3*i+1) (by omega) (by omega)] at h0
   omega
  ·exact h0
 have hm:Lib.bitLen (3*i+1)≤64:=Lib.bitLen_le _ 64 (Nat.le_refl _) (by omega)
 have HZ:Hid (Qhp i=(Lib.bitLen (3*i+1)-1)/2):=hid rfl;have t1:decide ((6004799503160661:Int)≤(i:Int))=false:=decide_eq_false (by omega)
 obtain ⟨n,hn⟩:∃ n,Lib.bitLen (3*i+1)=n:=⟨_,rfl⟩;rw [hn] at hL hp hm HZ;obtain ⟨Z,hZ⟩:∃ Z,Qhp i=Z:=⟨_,rfl⟩;rw [hZ] at HZ ⊢;have HL:=hid hL;clear hL hn e1 hZ;go_enter Tryz.func131,Tryz.ntmps131;go_wp2_with fail;refine HL.out.mono ?_;rintro e w1 ⟨rfl,hw⟩;obtain rfl:=hw.symm;clear hw;go_wp2_with fail;go_ret;refine ⟨QbE ?_,rfl⟩;have:=HZ.out;omega
theorem Qiy(g c i:Nat)(t:ByteArray)(hi:i<6004799503160661)(w:World)(hg:g<w.heap.size)(hc:w.cell? ⟨g,0,none⟩=some (.int .u64 (i:Nat))) :
  Calls Tryz.prog 76 #[.agg #[.slice (some ⟨g,0,none⟩) 1 c]] w fun e w'=>e = .returned (.tuple #[.int .i64 (Qhp i:Nat),.int .i64 (Qhp i:Nat),.bool true])∧Below w.heap.size w w':=by
 obtain ⟨c0,hb⟩:=Qt3 w (.slice (some ⟨g,0,none⟩) 1 c) 50;have c1:=(hb.cell (p:=⟨g,0,none⟩) hg).trans hc;have HB:=hid hb;have HZ:=hid (fun W=>QmY i hi W)
 clear hb hc hi;go_enter Tryz.func76,Tryz.ntmps76;go_wp2_with fail;go_quiet (first|(go_at_call 131;exact Calls.quiet_of_same (HZ.out _)))
 go_wp2_with fail;go_ret3;exact ⟨rfl,HB.out.trans ⟨rfl,rfl,rfl,Nat.le_refl _,fun _ _=>rfl⟩⟩
end
end Go.Proofs.YtilaebjndadkhaaGreatDoor
