/- What parts of the program compute: packed for TopCache. Conditions: none. -/
import Derived.Test.YtlpecalodphalaaGreatDoorProg
import Derived.Deep.RegionHeld3
import Derived.WalkSpells
import Derived.WalkLawsBesides
import Derived.Deep.AppendLies
import Derived.Shelf.Strings.OnBuilder
import Derived.Shelf.Small.Wraps
import Derived.Shelf.Strconv.Itoa3
import Derived.Shelf.Strconv.AtoiAll
import Derived.Shelf.Strings.Shaped
import Derived.Shelf.Strings.SplitShaped
import Derived.Shelf.Strings.FuncGrows
import Derived.Shelf.Strings.MapGrows
import Derived.Lib.TrimAscii
import Derived.Shelf.Strings.SlTrimAscii
import Derived.RangeFuncNested
import Derived.RangeFuncBound
import Derived.Shelf.RegionOpen
import Derived.OwnWalkIn
import Derived.LoopNIn
import Derived.LoopIn
import Derived.StillTailTactics
import Derived.Maps.GroupsBeside
import Derived.Laws.EntriesVeiled
import Derived.Lib.SmallJoins
import Derived.Lib.SlBytesRow
import Derived.Shelf.SlicesQ.Equal
import Derived.Shelf.SlicesE.Clone
import Derived.Shelf.SlicesQ.IndexFunc
import Derived.Laws.CopyOwn
import Derived.Shelf.Spec.SlicesInsert
import Derived.Test.YtlpecalodphalaaGreatDoorChecked
import Derived.Stop.Asserts
import Derived.Lib.AppendZerosOnto
import Derived.Test.YtlpecalodphalaaGreatDoorRows
import Derived.Stop.LaidErr
import Derived.PinnedBridge
import Derived.Lib.LaidU8T
import Derived.Lay
import Derived.SevenTiedAt
set_option linter.all false
set_option maxRecDepth 100000
set_option maxHeartbeats 16000000
open Go.Proofs.Tryz Go.RowKit
namespace Go.Proofs
theorem qA{p:Prop}[Decidable p](h:p):decide p=true:=decide_eq_true h
theorem qB{p:Prop}[Decidable p](h:¬p):decide p=false:=decide_eq_false h
theorem qC(n:Nat):n<=n:=Nat.le_refl n
theorem qD{a b c:Nat}(h:a<=b)(k:b<=c):a<=c:=Nat.le_trans h k
theorem qE{a b:Prop}(x:a)(y:b):a/\b:=⟨x,y⟩
theorem qF(B:Nat)(w:World):RowKit.Below B w w:=RowKit.Below.refl B w
theorem qG{α:Type _}{a b:List α}:(a++b).length=a.length+b.length:=List.length_append
theorem qH{α:Type _}{a:α}{l:List α}:(a::l).length=l.length+1:=List.length_cons
theorem qI{α:Type _}[BEq α][LawfulBEq α]{a b:α}:(a==b)=false↔a≠b:=beq_eq_false_iff_ne
theorem qJ(w:World)(o:Obj):(w.alloc o).heap.size=w.heap.size+1:=World.size_alloc w o
theorem qK{a b c:Nat}(h:a<b)(k:b<=c):a<c:=Nat.lt_of_lt_of_le h k
theorem qL(n:Nat):0<=n:=Nat.zero_le n
theorem qM(n:Nat):n+0=n:=rfl
theorem qN{a b:Bool}:a=b↔(a=true↔b=true):=Bool.eq_iff_iff
theorem qO{p:Prop}[Decidable p]:(decide p=true)=p:=decide_eq_true_eq
theorem qP{α:Type _}(a b c:List α):a++b++c=a++(b++c):=List.append_assoc a b c
theorem qQ{α β:Type _}{l:List α}(f:α->β):(l.map f).length=l.length:=List.length_map f
theorem qR(n:Nat):¬n<n:=Nat.lt_irrefl n
theorem qS{α:Type _}{a b:α}(h:some a=some b):a=b:=Option.some.inj h
theorem qT{α:Type _}(l:List α):l++[]=l:=List.append_nil l
theorem qU{α:Type _}{l:List α}{i:Nat}(h:i<l.length):l[i]?=some l[i]:=List.getElem?_eq_getElem h
theorem qV{α:Type _}{l:List α}{i:Nat}(h:i<l.length):l.take (i+1)=l.take i++[l[i]]:=List.take_succ_eq_append_getElem h
theorem qW{α:Type _}{i:Nat}{l:List α}:(l.take i).length=min i l.length:=List.length_take
theorem qX{α:Type _}{i:Nat}{l:List α}(h:l.length<=i):l.take i=l:=List.take_of_length_le h
theorem qY{α β:Type _}{f:α->β}{a b:List α}:(a++b).map f=a.map f++b.map f:=List.map_append
theorem JC{α:Type _}{i:Nat}{l:List α}:(l.drop i).length=l.length-i:=List.length_drop
theorem JD(a b:Bool):((a&&b)=true)=(a=true/\b=true):=Bool.and_eq_true a b
theorem JF{α:Type _}{a:α}{l:List α}:a∈a::l:=List.mem_cons_self
theorem JG{α:Type _}{l:List α}{n:Nat}(h:n<l.length):l[n]∈l:=List.getElem_mem h
theorem JH(n:Nat):¬n<0:=Nat.not_lt_zero n
theorem JI(w:World)(o:Obj):(w.alloc o).heap[w.heap.size]?=some o:=by show (w.heap.push o)[w.heap.size]?=_;rw[Array.getElem?_push_size]
theorem JJ{c:Prop}[Decidable c]{α:Sort _}{a b:α}(h:¬c):(if c then a else b)=b:=if_neg h
theorem JK{c:Prop}[Decidable c]{α:Sort _}{a b:α}(h:c):(if c then a else b)=a:=if_pos h
theorem JN{a b:Prop}(h:a)(k:¬a):b:=absurd h k
theorem JO(w:World)(a:Addr)(u:Value)(k:Nat)(h:k≠a.block):(w.setCell a u).heap[k]?=w.heap[k]?:=RowKit.Below.heap_setCell w a u k h
theorem JQ(w:World)(o:Obj)(k:Nat)(h:k<w.heap.size):(w.alloc o).heap[k]?=w.heap[k]?:=RowKit.Below.heap_alloc w o k h
theorem JR(n:Int):IntKind.i64.wrap n=(n+9223372036854775808)%18446744073709551616-9223372036854775808:=IntKind.wrap_i64 n
theorem JU(n:Int):IntKind.u64.wrap n=n%18446744073709551616:=IntKind.wrap_u64 n
theorem JY{α:Type _}(y:α){a:α}{l:List α}(h:a∈l):a∈y::l:=List.mem_cons_of_mem y h
theorem JZ(w:World)(b:Nat)(e:TypeId)(s:Nat):w.ownsRow b e s (.slice none 0 0) 0 []:=World.ownsRow_nil w b e s
theorem J0{α β:Type _}{f:α->β}{a:α}{l:List α}:(a::l).map f=f a::l.map f:=List.map_cons
theorem J1{α:Type _}{a:α}{s t:List α}:a∈s++t↔a∈s\/a∈t:=List.mem_append
theorem J2{α:Type _}{a b:α}:a∈[b]↔a=b:=List.mem_singleton
theorem J3{α:Type _}(l:List α):[]++l=l:=List.nil_append l
theorem J4{α:Type _}{a:α}{s t:List α}:(a::s)++t=a::(s++t):=List.cons_append
theorem J5(w:World)(o:Obj){r:Nat}(h:r<w.heap.size):(w.alloc o).heap[r]?=w.heap[r]?:=RowKit.Below.heap_alloc w o r h
theorem J6{α:Type _}{a:Array α}{i:Nat}{f:α->α}{j:Nat}:(a.modify i f)[j]?=if i=j then a[j]?.map f else a[j]?:=Array.getElem?_modify
theorem J7(s:ByteArray):s.toList=s.data.toList:=ByteArray.toList_eq s
theorem J8{α:Type _}(a b:α):(some a=some b)=(a=b):=Option.some.injEq a b
theorem J9{α:Type _}{l:List α}{i:Nat}{a:α}:l.getD i a=l[i]?.getD a:=List.getD_eq_getElem?_getD
theorem JE{α:Type _}{l:List α}:l.length=0↔l=[]:=List.length_eq_zero_iff
theorem JX{α:Type _}{a:Option α}{b c:α}(h:a=some b)(k:b=c):a=some c:=h.trans (congrArg some k)
end Go.Proofs
namespace Go.Proofs.YtlpecalodphalaaGreatDoor
abbrev Ju(n:Int):Value:=.int .u64 n
abbrev Ji(n:Int):Value:=.int .i64 n
abbrev Jb(n:Int):Value:=.int .u8 n
abbrev Jd(n:Int):Value:=.int .u32 n
abbrev Jt(s:ByteArray):Value:=.string s
abbrev Ja(b o:Nat):Addr:=⟨b,o,none⟩
abbrev Jp(b:Nat):Value:=.pointer (some ⟨b,0,none⟩)
abbrev Jw(w v:World):Prop:=RowKit.Below w.heap.size w v
abbrev Jx(w:World)(b o:Nat)(v:Value):Prop:=w.cell? ⟨b,o,none⟩=some v
abbrev Jh(w:World)(b:Nat)(c:Array Value)(t:TypeId):Prop:=w.heap[b]?=some (.cells c t (0,0))
abbrev JB(v:Value)(w:World)(e:Ending)(u:World):Prop:=e=.returned v/\RowKit.Below w.heap.size w u
abbrev JS(v:Value)(w:World)(e:Ending)(u:World):Prop:=e=.returned v/\u=w
abbrev Jl(g n c:Nat):Value:=.slice (some ⟨g,0,none⟩) n c
abbrev JA:=ByteArray
abbrev JL:=List UInt8
abbrev JM:=List JL
abbrev JV:=List Value
abbrev JW:=Array Value
abbrev JT:=TypeId
abbrev qZ:Array Value:=#[Ju 0,Ju 0,Ju 0,Ju 0,Ju 0,Ju 0,Ju 0,Ju 0,Ju 0,Ju 0,Ju 0,.bool false,Jb 0,Jb 0,Jb 0,Ji 0,Ji 0,Ji 0,Ji 0,Ji 0,Ji 0,Ji 0,Ji 0,Ji 0]
def Hi(p:Prop):Prop:=p
theorem Hi.o{p:Prop}(h:Hi p):p:=h
theorem Hi.out{p:Prop}(h:Hi p):p:=h
theorem Z{p:Prop}(h:p):Hi p:=h
theorem gsi{α : Type}{xs : Array α}{i : Nat}{a : α}(h : xs[i]? = some a) : ∃h : i < xs.size, xs[i] = a := Array.getElem?_eq_some_iff.1 h
end Go.Proofs.YtlpecalodphalaaGreatDoor
namespace Go.Proofs.YtlpecalodphalaaGreatDoor
section
namespace FnvPlain
def add(s b:Nat):Nat:=(s ^^^ b)*1099511628211%18446744073709551616
def sum(l:JL):Nat:=l.foldl (fun s c=>add s c.toNat) 14695981039346656037
theorem QD7(s b:Nat):add s b<18446744073709551616:=Nat.mod_lt _ (by decide)
theorem foldl_lt(l:JL):∀s,s<18446744073709551616->l.foldl (fun s c=>add s c.toNat) s<18446744073709551616:=by
 induction l with
 |nil=>intro s h;exact h
 |cons a t ih=>intro s _;exact ih _ (QD7 _ _)
theorem sum_lt(l:JL):sum l<18446744073709551616:=foldl_lt l _ (by decide)
theorem xor_lt(s b:Nat)(a:s<18446744073709551616)(c:b<18446744073709551616):s ^^^ b<18446744073709551616:=Nat.xor_lt_two_pow (n:=64) a c
end FnvPlain
end
section
namespace PoolPlain
def off(l:JM)(k:Nat):Nat:=(l.take k).flatten.length
theorem QyK(l:JM)(k:Nat)(a:k<l.length):off l (k+1)=off l k+l[k].length:=by
 unfold off;rw[qV a,List.flatten_append,qG,List.flatten_cons,List.flatten_nil,qT]
theorem QBQ(l:JM)(k:Nat)(a:l.length<=k):off l k=l.flatten.length:=by unfold off;rw[qX a]
theorem QDr(l:JM)(k:Nat):off l k<=l.flatten.length:=by
 have h:l.flatten=(l.take k).flatten++(l.drop k).flatten:=by rw[<-List.flatten_append,List.take_append_drop]
 rw[h,qG];unfold off;omega
theorem QpD(l:JM)(k:Nat)(a:k<l.length):off l k+l[k].length<=l.flatten.length:=by
 rw[<-QyK l k a];exact QDr l _
theorem Qk3(l m:JM)(k:Nat)(a:k<=l.length):off (l++m) k=off l k:=by
 unfold off;rw[List.take_append_of_le_length a]
theorem QDh(l:JM)(k:Nat)(a:k<l.length):(l.flatten.drop (off l k)).take l[k].length=l[k]:=by
 have h:l.flatten=(l.take k).flatten++(l[k]++(l.drop (k+1)).flatten):=by
  conv=>lhs;rw[<-List.take_append_drop k l,List.flatten_append,List.drop_eq_getElem_cons a,List.flatten_cons]
 rw[h];unfold off;rw[List.drop_left,List.take_left]
theorem QCx(l:JM)(m:Nat)(h:∀s∈l,s.length<=m):l.flatten.length<=l.length*m:=by
 induction l with
 |nil=>simp
 |cons x t ih=>
  have a:=h x (JF ..);have b:=ih (fun s hs=>h s (JY _ hs))
  rw[List.flatten_cons,qG,qH,Nat.add_mul];omega
def fnd(l:JM)(s:JL):Nat×Nat×Bool:=match l.findIdx? (fun x=>x==s) with
 |some k=>(off l k,s.length,true)
 |none=>(0,0,false)
theorem Qqb(l:JM)(s:JL)(k:Nat)(b:k<l.length)(c:l[k]=s)(d:∀j (a:j<k),l[j]'(Nat.lt_trans a b)≠s):fnd l s=(off l k,s.length,true):=by
 have h:l.findIdx? (fun x=>x==s)=some k:=by
  rw[List.findIdx?_eq_some_iff_getElem];exact⟨b,by simpa using c,fun j a=>by simpa using d j a⟩
 unfold fnd;rw[h]
theorem QiF(l:JM)(s:JL)(h:s∉l):fnd l s=(0,0,false):=by
 have h:l.findIdx? (fun x=>x==s)=none:=by
  rw[List.findIdx?_eq_none_iff];intro x hx;have:x≠s:=fun e=>h (e ▸ hx)
  simpa using this
 unfold fnd;rw[h]
theorem QrG(l:JM)(s:JL)(h:s∈l):∃k,∃hk:k<l.length,l[k]=s/\∀j (a:j<k),l[j]'(Nat.lt_trans a hk)≠s:=by
 cases e:l.findIdx? (fun x=>x==s) with
 |none=>
  rw[List.findIdx?_eq_none_iff] at e;have:=e s h;simp at this
 |some k=>
  rw[List.findIdx?_eq_some_iff_getElem] at e;obtain⟨hk,h1,h2⟩:=e;exact⟨k,hk,by simpa using h1,fun j a=>by simpa using h2 j a⟩
def grp(l:JM)(x:Nat):List Nat:=(List.range l.length).filter (fun k=>FnvPlain.sum (l.getD k [])==x)
theorem Qzw(l:JM)(s:JL)(x:Nat):grp (l++[s]) x=grp l x++(if FnvPlain.sum s=x then [l.length] else []):=by
 unfold grp;rw[qG,List.length_singleton,List.range_succ,List.filter_append]
 congr 1
 ·refine List.filter_congr (fun k a=>?_)
  have a:=List.mem_range.1 a;rw[J9,J9,List.getElem?_append_left a]
 ·by_cases h:FnvPlain.sum s=x
  ·rw[JK h];simp[h]
  ·rw[JJ h];simp[h]
theorem QCq(l:JM)(x k:Nat)(h:k∈grp l x):∃a:k<l.length,FnvPlain.sum l[k]=x:=by
 unfold grp at h;obtain⟨h1,h2⟩:=List.mem_filter.1 h;have a:=List.mem_range.1 h1;refine⟨a,?_⟩;rw[J9,qU a] at h2;simpa using h2
theorem QB5(l:JM)(k:Nat)(a:k<l.length):k∈grp l (FnvPlain.sum l[k]):=by
 unfold grp;refine List.mem_filter.2 ⟨List.mem_range.2 a,?_⟩;rw[J9,qU a];simp
theorem Qlf(l:JM)(x:Nat):(grp l x).length<=l.length:=by
 unfold grp;exact qD (List.length_filter_le _ _) (by simp)
def OkL(l:JM):Prop:=l.length<=2048/\(∀s∈l,s≠[]/\s.length<=65536)/\l.Nodup
theorem QvP:OkL []:=⟨by simp,by simp,List.nodup_nil⟩
theorem Qmj(l:JM)(h:OkL l):l.flatten.length<=134217728:=by
 have a:=QCx l 65536 (fun s hs=>(h.2.1 s hs).2)
 have:=h.1;omega
theorem QvV{l:JM}(h:l.Nodup)(i j:Nat)(b:i<l.length)(a:j<l.length)(e:l[i]=l[j]):i=j:=by
 unfold List.Nodup at h;rw[List.pairwise_iff_getElem] at h;rcases Nat.lt_trichotomy i j with c|c|c
 ·exact JN e (h i j b a c)
 ·exact c
 ·exact JN e.symm (h j i a b c)
theorem QDN(l:JM)(h:l.Nodup)(k:Nat)(a:k<l.length):fnd l l[k]=(off l k,l[k].length,true):=
 Qqb l _ k a rfl (fun j hj e=>by have:=QvV h j k _ a e;omega)
def Qik(l:JM)(s:JL):Bool:=decide (s≠[]/\s.length<=65536/\s∉l/\l.length<2048)
def Qly(l:JM)(s:JL):JM:=if Qik l s then l++[s] else l
def QmZ(l:JM)(s:JL):Nat×Nat:=if Qik l s then (l.flatten.length,s.length) else ((fnd l s).1,(fnd l s).2.1)
def Que(l:JM)(s:JL):Nat:=if s = [] then 2 else if 65536<s.length then 5 else if s∈l then 0 else if 2048<=l.length then 7 else 0
theorem Qra(l:JM)(s:JL)(h:OkL l)(c:s≠[])(d:s.length<=65536)(f:s∉l)(g:l.length<2048):OkL (l++[s]):=by
 refine⟨by simp;omega,fun x hx=>?_,?_⟩
 ·rcases List.mem_append.1 hx with hx|hx
  ·exact h.2.1 x hx
  ·rw[List.mem_singleton.1 hx];exact⟨c,d⟩
 ·rw[List.nodup_append]
  exact⟨h.2.2,by simp,fun a ha b hb e=>f (by rw[List.mem_singleton.1 hb] at e;exact e ▸ ha)⟩
theorem QCZ(l:JM)(s:JL)(a:s≠[])(c:s.length<=65536)(b:s∉l)(d:l.length<2048):Qik l s=true/\Qly l s=l++[s]/\QmZ l s=(l.flatten.length,s.length)/\Que l s=0:=by
 have h:Qik l s=true:=qA ⟨a,c,b,d⟩;refine⟨h,?_,?_,?_⟩
 ·unfold Qly;rw[JK h]
 ·unfold QmZ;rw[JK h]
 ·unfold Que;rw[JJ a,JJ (by omega),JJ b,JJ (by omega)]
theorem QCY(l:JM)(s:JL)(h:¬(s≠[]/\s.length<=65536/\s∉l/\l.length<2048)):Qik l s=false/\Qly l s=l/\QmZ l s=((fnd l s).1,(fnd l s).2.1):=by
 have h:Qik l s=false:=qB h;refine⟨h,?_,?_⟩
 ·unfold Qly;rw[h];rfl
 ·unfold QmZ;rw[h];rfl
theorem not_mem_nil(l:JM)(h:OkL l) : []∉l:=fun hm=>(h.2.1 _ hm).1 rfl
theorem QnJ(l:JM)(h:OkL l)(s:JL)(a:65536<s.length):s∉l:=fun hm=>by have:=(h.2.1 _ hm).2;omega
def getK(l:JM)(o n:Nat):Option Nat:=(List.range l.length).find? (fun k=>off l k==o&&(l.getD k []).length==n)
def QbB(l:JM)(o n:Nat):JL:=match getK l o n with|some k=>l.getD k []|none=>[]
end PoolPlain
end
section
abbrev Ent:=Nat×Nat×Nat×Nat
def QfV:Nat:=6004799503160661
def Qds:Nat:=1099511627776
def Qcj(e:Ent):Nat:=if e.2.2.1=0 then 2 else if QfV-max 1 e.2.2.2<e.1 then 8 else if Qds<e.2.1\/Qds<e.2.1+e.2.2.1 then 8 else 0
def QdM(e:Ent):Nat:=if Qcj e=0 then e.1+max 1 e.2.2.2-1 else 0
def QDH(e:Ent)(id:Nat):Bool:=Qcj e==0&&(decide (0<e.2.2.2)&&(decide (e.1<=id)&&decide (id<=QdM e)))
def Qm1:Nat->List Ent->Nat
 |_,[]=>0
 |free,e :: r=>if Qcj e≠0 then Qcj e else if e.1<free then 10 else Qm1 (QdM e+1) r
def QeZ(l:List Ent):Nat:=if 4096<l.length then 21 else Qm1 0 l
def Qbt(e:Ent):Prop:=e.1<18446744073709551616/\e.2.1<18446744073709551616/\e.2.2.1<4294967296/\e.2.2.2<4294967296
def vK(t:JL):Nat:=(t.takeWhile fun b=>decide (128<=b.toNat)).length
def QoP:JL->Nat
 |[]=>0
 |b :: r=>b.toNat%128+128*QoP r
def vN(t:JL):Nat:=vK t+1
def vE(t:JL):Nat:=
 if 10<=vK t then 11 else if vK t=t.length then 3 else if vK t=9/\1<(t.getD 9 0).toNat then 11 else if 0<vK t/\(t.getD (vK t) 0).toNat=0 then 4 else 0
def vX(t:JL):Nat:=QoP (t.take (vN t))
def Qeo(e:Ent):Nat:=(e.2.1+e.2.2.1)%18446744073709551616
def QeM(c i:Nat)(Qaw e:Ent)(x:Nat):Nat×Ent:=
 if c=0 then ((if (Qaw.1+x)%18446744073709551616<x then 11 else 0),((Qaw.1+x)%18446744073709551616,e.2.1,e.2.2.1,e.2.2.2))
 else if c=1 then ((if 4294967296<=x then 11 else 0),(e.1,e.2.1,e.2.2.1,x))
 else if c=2 then ((if 4294967296<=x then 11 else 0),(e.1,e.2.1,x,e.2.2.2))
 else ((if (i=0/\x=0)\/(0<i/\0<x/\x-1=Qeo Qaw) then 4 else 0),(e.1,(if x=0 then Qeo Qaw else x-1),e.2.2.1,e.2.2.2))
def QgQ(c:Nat):Nat->Ent->List Ent->JL->Nat×List Ent×JL
 |_,_,[],t=>(0,[],t)
 |i,Qaw,e :: r,t=>
  if vE t≠0 then (vE t,[],[])
  else if (QeM c i Qaw e (vX t)).1≠0 then ((QeM c i Qaw e (vX t)).1,[],[])
  else ((QgQ c (i+1) (QeM c i Qaw e (vX t)).2 r (t.drop (vN t))).1,(QeM c i Qaw e (vX t)).2 :: (QgQ c (i+1) (QeM c i Qaw e (vX t)).2 r (t.drop (vN t))).2.1,(QgQ c (i+1) (QeM c i Qaw e (vX t)).2 r (t.drop (vN t))).2.2)
def Qa7:Ent:=(0,0,0,0)
def QeC:Nat->Nat->List Ent->JL->Nat×List Ent
 |0,_,l,t=>if t≠[] then (4,[]) else if QeZ l≠0 then (QeZ l,[]) else (0,l)
 |k+1,c,l,t=>if (QgQ c 0 Qa7 l t).1≠0 then ((QgQ c 0 Qa7 l t).1,[]) else QeC k (c+1) (QgQ c 0 Qa7 l t).2.1 (QgQ c 0 Qa7 l t).2.2
def QcL(s:JL):Nat×List Ent:=
 if 65536<s.length then (5,[]) else if vE s≠0 then (vE s,[]) else if 4096<vX s then (21,[])
 else QeC 4 0 (List.replicate (vX s) Qa7) (s.drop (vN s))
def QpK(k c i:Nat)(Qaw:Ent)(D r:List Ent)(t:JL):Nat×List Ent:=
 if (QgQ c i Qaw r t).1≠0 then ((QgQ c i Qaw r t).1,[]) else QeC k (c+1) (D++(QgQ c i Qaw r t).2.1) (QgQ c i Qaw r t).2.2
theorem Qz3(k c:Nat)(l:List Ent)(t:JL):QeC (k+1) c l t=QpK k c 0 Qa7 [] l t:=by
 unfold QpK;rw[J3];rfl
theorem QB2(k c i:Nat)(Qaw:Ent)(D:List Ent)(t:JL):QpK k c i Qaw D [] t=QeC k (c+1) D t:=by
 unfold QpK QgQ;rw[JJ (fun h=>h rfl),qT]
theorem Qz7(c i:Nat)(Qaw e:Ent)(r:List Ent)(t:JL)(h:vE t≠0):QgQ c i Qaw (e :: r) t=(vE t,[],[]):=by
 conv=>lhs;unfold QgQ
 exact JK h
theorem Qz6(c i:Nat)(Qaw e:Ent)(r:List Ent)(t:JL)(h:vE t=0)(a:(QeM c i Qaw e (vX t)).1≠0):QgQ c i Qaw (e :: r) t=((QeM c i Qaw e (vX t)).1,[],[]):=by
 conv=>lhs;unfold QgQ
 rw[JJ (fun h1=>h1 h),JK a]
theorem Qw8(c i:Nat)(Qaw e:Ent)(r:List Ent)(t:JL)(h:vE t=0)(a:(QeM c i Qaw e (vX t)).1=0):QgQ c i Qaw (e :: r) t=((QgQ c (i+1) (QeM c i Qaw e (vX t)).2 r (t.drop (vN t))).1,(QeM c i Qaw e (vX t)).2 :: (QgQ c (i+1) (QeM c i Qaw e (vX t)).2 r (t.drop (vN t))).2.1,(QgQ c (i+1) (QeM c i Qaw e (vX t)).2 r (t.drop (vN t))).2.2):=by
 conv=>lhs;unfold QgQ
 rw[JJ (fun h1=>h1 h),JJ (fun h1=>h1 a)]
theorem QB4(k c i:Nat)(Qaw:Ent)(D:List Ent)(e:Ent)(r:List Ent)(t:JL)(h:vE t≠0):QpK k c i Qaw D (e :: r) t=(vE t,[]):=by
 unfold QpK;rw[Qz7 c i Qaw e r t h];exact JK h
theorem Qx3(k c i:Nat)(Qaw:Ent)(D:List Ent)(e:Ent)(r:List Ent)(t:JL)(h:vE t=0)(a:(QeM c i Qaw e (vX t)).1≠0):QpK k c i Qaw D (e :: r) t=((QeM c i Qaw e (vX t)).1,[]):=by
 unfold QpK;rw[Qz6 c i Qaw e r t h a];exact JK a
theorem QyR(k c i:Nat)(Qaw:Ent)(D:List Ent)(e:Ent)(r:List Ent)(t:JL)(h:vE t=0)(a:(QeM c i Qaw e (vX t)).1=0):QpK k c i Qaw D (e :: r) t=QpK k c (i+1) (QeM c i Qaw e (vX t)).2 (D++[(QeM c i Qaw e (vX t)).2]) r (t.drop (vN t)):=by
 unfold QpK;rw[Qw8 c i Qaw e r t h a,qP];rfl
theorem QDd(t:JL)(h:vE t=0):vK t<10/\vK t<t.length/\(vK t=9->(t.getD 9 0).toNat<=1):=by
 have b:vK t<=t.length:=(List.takeWhile_prefix _).length_le;unfold vE at h;split at h
 ·cases h
 ·split at h
  ·cases h
  ·split at h
   ·cases h
   ·rename_i c d a
    exact⟨by omega,by omega,fun h4=>by
     have:=fun h5=>a ⟨h4,h5⟩
     omega⟩
theorem QDb(t:JL)(h:vE t=0):vN t<=t.length:=(QDd t h).2.1
theorem QlK(l:JL):QoP l<128 ^ l.length:=by
 induction l with
 |nil=>decide
 |cons b r ih=>
  unfold QoP;rw[qH,Nat.pow_succ];have:b.toNat%128<128:=Nat.mod_lt _ (by decide)
  omega
theorem Qi0(l:JL)(b:UInt8):QoP (l++[b])=QoP l+b.toNat%128*128 ^ l.length:=by
 induction l with
 |nil=>simp[QoP]
 |cons a r ih=>
  rw[J4];unfold QoP;rw[ih,qH,Nat.pow_succ,Nat.mul_add,<-Nat.add_assoc,Nat.mul_comm 128 (b.toNat%128*128 ^ r.length),Nat.mul_assoc (b.toNat%128)]
theorem QA9(t:JL)(h:vE t=0):vX t<18446744073709551616:=by
 obtain⟨h1,h2,h3⟩:=QDd t h;unfold vX vN
 by_cases c:vK t=9
 ·have d:=h3 c
  have e:t.take (vK t+1)=t.take (vK t)++[t.getD (vK t) 0]:=by
   rw[qV h2,J9,qU h2];rfl
  rw[e,Qi0,qW,Nat.min_eq_left (Nat.le_of_lt h2)];have a:=QlK (t.take (vK t));rw[qW,Nat.min_eq_left (Nat.le_of_lt h2)] at a;rw[c] at a ⊢;have:(t.getD 9 0).toNat%128<=1:=qD (Nat.mod_le _ _) d;have b:(128:Nat) ^ 9=9223372036854775808:=by decide
  rw[b] at a ⊢;have:(t.getD 9 0).toNat%128*9223372036854775808<=1*9223372036854775808:=Nat.mul_le_mul_right _ this;omega
 ·have a:=QlK (t.take (vK t+1))
  rw[qW,Nat.min_eq_left h2] at a;have:(128:Nat) ^ (vK t+1)<=128 ^ 9:=Nat.pow_le_pow_right (by decide) (by omega)
  have b:(128:Nat) ^ 9=9223372036854775808:=by decide
  omega
theorem QuN(c i:Nat)(Qaw e:Ent)(x:Nat)(g:Qbt Qaw)(a:Qbt e)(hx:x<18446744073709551616)(h:(QeM c i Qaw e x).1=0):Qbt (QeM c i Qaw e x).2:=by
 unfold QeM at h ⊢;split
 ·exact⟨Nat.mod_lt _ (by decide),a.2.1,a.2.2.1,a.2.2.2⟩
 ·rename_i f
  rw[JJ f] at h;split
  ·rename_i b
   rw[JK b] at h;refine⟨a.1,a.2.1,a.2.2.1,?_⟩;dsimp only at h ⊢;split at h
   ·cases h
   ·omega
  ·rename_i b
   rw[JJ b] at h;split
   ·rename_i d
    rw[JK d] at h;refine⟨a.1,a.2.1,?_,a.2.2.2⟩;dsimp only at h ⊢;split at h
    ·cases h
    ·omega
   ·refine⟨a.1,?_,a.2.2.1,a.2.2.2⟩
    dsimp only;split
    ·exact Nat.mod_lt _ (by decide)
    ·omega
theorem Qlz:Qbt Qa7:=by unfold Qbt Qa7;exact⟨by decide,by decide,by decide,by decide⟩
theorem QCL(c:Nat)(l:List Ent):∀(i:Nat) (Qaw:Ent) (t:JL),Qbt Qaw->(∀e∈l,Qbt e)->(QgQ c i Qaw l t).1=0->(∀e∈(QgQ c i Qaw l t).2.1,Qbt e)/\(QgQ c i Qaw l t).2.1.length=l.length:=by
 induction l with
 |nil=>
  intro i Qaw t _ _ _;unfold QgQ;exact⟨fun e he=>(by cases he),rfl⟩
 |cons e r ih=>
  intro i Qaw t g d h;unfold QgQ at h ⊢
  by_cases a:vE t=0
  ·rw[JJ (fun h1=>h1 a)] at h ⊢
   by_cases b:(QeM c i Qaw e (vX t)).1=0
   ·rw[JJ (fun h1=>h1 b)] at h ⊢
    have f:=QuN c i Qaw e (vX t) g (d e JF) (QA9 t a) b;obtain⟨g1,g2⟩:=ih (i+1) _ (t.drop (vN t)) f (fun x hx=>d x (JY _ hx)) h
    refine⟨fun x hx=>?_,by rw[qH,qH,g2]⟩
    rcases List.mem_cons.1 hx with rfl|hx
    ·exact f
    ·exact g1 x hx
   ·rw[JK b] at h
    exact JN h b
  ·rw[JK a] at h
   exact JN h a
theorem Qz4(k:Nat):∀(c:Nat) (l:List Ent) (t:JL),(∀e∈l,Qbt e)->(QeC k c l t).1=0->(∀e∈(QeC k c l t).2,Qbt e)/\(QeC k c l t).2.length=l.length/\QeZ (QeC k c l t).2=0:=by
 induction k with
 |zero=>
  intro c l t d h;unfold QeC at h ⊢
  by_cases f:t = []
  ·rw[JJ (fun h1=>h1 f)] at h ⊢
   by_cases b:QeZ l=0
   ·rw[JJ (fun h1=>h1 b)]
    exact⟨d,rfl,b⟩
   ·rw[JK b] at h;exact JN h b
  ·rw[JK f] at h;cases h
 |succ k ih=>
  intro c l t d h;unfold QeC at h ⊢
  by_cases a:(QgQ c 0 Qa7 l t).1=0
  ·rw[JJ (fun h1=>h1 a)] at h ⊢
   obtain⟨g1,g2⟩:=QCL c l 0 Qa7 t Qlz d a;obtain⟨f1,f2,f3⟩:=ih (c+1) _ _ g1 h;exact⟨f1,f2.trans g2,f3⟩
  ·rw[JK a] at h;exact JN h a
theorem Qqp(s:JL)(h:(QcL s).1=0):(∀e∈(QcL s).2,Qbt e)/\(QcL s).2.length<=4096/\QeZ (QcL s).2=0:=by
 unfold QcL at h ⊢;split
 ·rename_i b;rw[JK b] at h;cases h
 ·rename_i b
  rw[JJ b] at h;split
  ·rename_i a;rw[JK a] at h;exact JN h a
  ·rename_i a
   rw[JJ a] at h;split
   ·rename_i c;rw[JK c] at h;cases h
   ·rename_i c
    rw[JJ c] at h;obtain⟨g1,g2,g3⟩:=Qz4 4 0 _ _ (fun e he=>by rw[List.eq_of_mem_replicate he];exact Qlz) h
    rw[List.length_replicate] at g2;exact⟨g1,by omega,g3⟩
theorem QlY:∀(l:List Ent) (free:Nat),Qm1 free l=0->∀e∈l,Qcj e=0
 |[],_,_=>fun e he=>by cases he
 |x :: r,free,h=>fun e he=>by
  unfold Qm1 at h
  by_cases a:Qcj x=0
  ·rw[JJ (fun h1=>h1 a)] at h
   by_cases b:x.1<free
   ·rw[JK b] at h;cases h
   ·rw[JJ b] at h
    rcases List.mem_cons.1 he with rfl|he
    ·exact a
    ·exact QlY r _ h e he
  ·rw[JK a] at h;exact JN h a
theorem Ql0(l:List Ent)(h:QeZ l=0):∀e∈l,Qcj e=0:=by
 unfold QeZ at h;split at h
 ·cases h
 ·exact QlY l 0 h
theorem Qf9(e:Ent)(h:Qcj e=0):0<e.2.2.1/\e.2.1+e.2.2.1<=Qds/\e.1<=QfV-max 1 e.2.2.2:=by
 unfold Qcj at h;split at h
 ·cases h
 ·split at h
  ·cases h
  ·split at h
   ·cases h
   ·rename_i b c a
    exact⟨by omega,Classical.byContradiction fun h4=>a (.inr (by omega)),by omega⟩
def bsM(l:List Ent)(key:Nat):Nat->Nat->Nat->Nat
 |0,a,_=>a
 |n+1,a,b=>if a<b then (if (l.getD ((a+b)/2) Qa7).1<=key then bsM l key n ((a+b)/2+1) b else bsM l key n a ((a+b)/2)) else a
theorem Qxp(l:List Ent)(key:Nat):∀(n a b:Nat),a<=b->bsM l key n a b<=b
 |0,a,b,h=>h
 |n+1,a,b,h=>by
  unfold bsM;split
  ·split
   ·exact Qxp l key n _ b (by omega)
   ·exact qD (Qxp l key n a _ (by omega)) (by omega)
  ·exact h
theorem QAh(l:List Ent)(key n a b:Nat)(h:b<=a):bsM l key n a b=a:=by
 cases n with
 |zero=>rfl
 |succ n=>unfold bsM;rw[JJ (by omega)]
def Qcz(l:List Ent)(key:Nat):Nat:=bsM l key l.length 0 l.length
theorem Qjo(l:List Ent)(key:Nat):Qcz l key<=l.length:=Qxp l key _ _ _ (qL _)
def QfJ(l:List Ent)(key:Nat):Option Ent:=
 if QeZ l≠0\/Qcz l key=0 then none
 else if 0<(l.getD (Qcz l key-1) Qa7).2.2.2/\QDH (l.getD (Qcz l key-1) Qa7) key=false then none
 else some (l.getD (Qcz l key-1) Qa7)
theorem QwN(l:List Ent)(key:Nat)(e:Ent)(h:QfJ l key=some e):e∈l/\Qcj e=0:=by
 unfold QfJ at h;split at h
 ·cases h
 ·split at h
  ·cases h
  ·rename_i a _
   have d:=Qjo l key;have c:Qcz l key-1<l.length:=by
    have:Qcz l key≠0:=fun e=>a (.inr e)
    omega
   have b:l.getD (Qcz l key-1) Qa7∈l:=by
    rw[J9,qU c];exact JG c
   injection h with h
   subst h;exact⟨b,Ql0 l (Classical.byContradiction fun e=>a (.inl e)) _ b⟩
end
section
open PoolPlain
def QmH(a b:Ent):Bool:=decide (b.1=QdM a+1)&&(decide (b.2.1=a.2.1)&&decide (b.2.2.1=a.2.2.1))
def QsW(a:Ent):Ent:=(a.1,a.2.1,a.2.2.1,a.2.2.2+1)
def QAJ(R:List Ent)(e:Ent):List Ent:=match R.getLast? with
 |none=>[e]
 |some r=>if QmH r e then R.dropLast++[QsW r] else R++[e]
theorem Qym(e:Ent):QAJ [] e = [e]:=rfl
theorem Qjk(R:List Ent)(r e:Ent):QAJ (R++[r]) e=if QmH r e then R++[QsW r] else R++[r]++[e]:=by
 unfold QAJ;rw[List.getLast?_append];simp
def rwS(s:JM×List Ent)(x:Nat×JA):JM×List Ent:=
 (Qly s.1 x.2.data.toList,QAJ s.2 (x.1,(QmZ s.1 x.2.data.toList).1,(QmZ s.1 x.2.data.toList).2,1))
def rwM(L:List (Nat×JA)):JM×List Ent:=L.foldl rwS ([],[])
theorem QqV(L:List (Nat×JA))(x:Nat×JA):rwM (L++[x])=rwS (rwM L) x:=by unfold rwM;rw[List.foldl_append];rfl
structure ItmsOk(L:List (Nat×JA)):Prop where
 ok:∀x∈L,x.1<QfV/\0<x.2.size/\x.2.size<=65536
 up:L.Pairwise (fun a b=>a.1<b.1)
 len:L.length<=80
 sz:(L.map (fun x=>x.2.size)).sum<=4000
theorem QAZ(l:JM)(s:JL)(h:OkL l)(d:s≠[])(i:s.length<=65536)(j:l.length<2048) :
  (QmZ l s).2=s.length/\(QmZ l s).1+s.length<=(Qly l s).flatten.length/\Que l s=0/\OkL (Qly l s)/\(Qly l s).length<=l.length+1/\(Qly l s).flatten.length<=l.flatten.length+s.length:=by
 by_cases a:s∈l
 ·have f:Qik l s=false:=by unfold Qik;exact qB (fun x=>x.2.2.1 a)
  obtain⟨k,hk,he,hf⟩:=QrG l s a;have g:=Qqb l s k hk he hf;have b:=QpD l k hk;rw[he] at b;unfold QmZ Qly;rw[f];simp only[Bool.false_eq_true,if_false];rw[g];refine⟨rfl,b,?_,h,Nat.le_succ _,Nat.le_add_right _ _⟩;unfold Que;rw[JJ d,JJ (by omega),JK a]
 ·have f:Qik l s=true:=by unfold Qik;exact qA ⟨d,i,a,j⟩
  unfold QmZ Qly;rw[f];simp only[if_true];have c:(l++[s]).flatten.length=l.flatten.length+s.length:=by simp
  refine⟨trivial,by rw[c];exact qC _,?_,Qra l s h d i a j,by simp,by rw[c];exact qC _⟩
  unfold Que;rw[JJ d,JJ (by omega),JJ a,JJ (by omega)]
structure RwOk(s:JM×List Ent)(T k b:Nat):Prop where
 pool:OkL s.1
 plen:s.1.length<=k
 flat:s.1.flatten.length<=T
 ent:∀e∈s.2,Qcj e=0/\0<e.2.2.2/\e.2.2.2<=k/\e.2.1+e.2.2.1<=s.1.flatten.length/\e.1<QfV
 up:s.2.Pairwise (fun a b=>QdM a<b.1)
 top:∀e∈s.2,QdM e<b
 len:s.2.length<=k
theorem Qqu(e:Ent)(c:0<e.2.2.1)(a:e.1+max 1 e.2.2.2<=QfV)(b:e.2.1+e.2.2.1<=Qds):Qcj e=0:=by
 unfold Qcj;rw[JJ (by omega),JJ (by omega),JJ (by omega)]
theorem Qmw(e:Ent)(h:Qcj e=0)(a:0<e.2.2.2):QdM e=e.1+e.2.2.2-1:=by
 unfold QdM;rw[JK h];omega
theorem RwOk.start(b:Nat):RwOk ([],[]) 0 0 b:=⟨QvP,qC _,qC _,fun e he=>JN he (by simp),List.Pairwise.nil,fun e he=>JN he (by simp),qC _⟩
theorem RwOk.step{s:JM×List Ent}{T k b:Nat}(h:RwOk s T k b)(x:Nat×JA)(H:b<=x.1)(hx:x.1<QfV)(G:0<x.2.size)(L:x.2.size<=65536)(I:k<100)(K:T+x.2.size<=1000000):RwOk (rwS s x) (T+x.2.size) (k+1) (x.1+1):=by
 have l:x.2.data.toList.length=x.2.size:=by simp
 have hne:x.2.data.toList≠[]:=fun e=>by rw[e] at l;simp at l;omega
 obtain⟨a1,a2,a3,a4,a5,a6⟩:=QAZ s.1 x.2.data.toList h.pool hne (by omega) (by have:=h.plen;omega)
 rw[l] at a1 a2 a6;have A:=h.flat;have z:=h.plen;have p:s.1.flatten.length<=(Qly s.1 x.2.data.toList).flatten.length:=by
  unfold Qly;split
  ·simp
  ·exact qC _
 have D:Qds=1099511627776:=rfl;have t:QfV=6004799503160661:=rfl;obtain⟨e,he⟩:∃e:Ent,(x.1,(QmZ s.1 x.2.data.toList).1,(QmZ s.1 x.2.data.toList).2,1)=e:=⟨_,rfl⟩;have C:e.1=x.1:=by rw[<-he]
 have M:e.2.1=(QmZ s.1 x.2.data.toList).1:=by rw[<-he]
 have N:e.2.2.1=x.2.size:=by rw[<-he];exact a1
 have E:e.2.2.2=1:=by rw[<-he]
 have v:Qcj e=0:=Qqu e (by omega) (by omega) (by omega)
 have J:QdM e=x.1:=by rw[Qmw e v (by omega),C,E];omega
 have g:(rwS s x).1=Qly s.1 x.2.data.toList:=rfl;have c:(rwS s x).2=QAJ s.2 e:=by rw[<-he];rfl
 have i:∀d∈s.2,Qcj d=0/\0<d.2.2.2/\d.2.2.2<=k+1/\d.2.1+d.2.2.1<=(Qly s.1 x.2.data.toList).flatten.length/\d.1<QfV:=fun d f=>by
  obtain⟨d1,d2,d3,d4,d5⟩:=h.ent d f;exact⟨d1,d2,by omega,by omega,d5⟩
 have n:Qcj e=0/\0<e.2.2.2/\e.2.2.2<=k+1/\e.2.1+e.2.2.1<=(Qly s.1 x.2.data.toList).flatten.length/\e.1<QfV:=⟨v,by omega,by omega,by omega,by omega⟩
 rcases List.eq_nil_or_concat s.2 with hn|⟨R,r,hR⟩
 ·rw[hn,Qym] at c
  refine⟨by rw[g];exact a4,by rw[g];omega,by rw[g];omega,?_,?_,?_,?_⟩
  ·rw[g,c];intro d f;rw[List.mem_singleton.1 f];exact n
  ·rw[c];exact List.pairwise_singleton _ _
  ·rw[c];intro d f;rw[List.mem_singleton.1 f];omega
  ·rw[c];simp
 ·rw[hR,List.concat_eq_append,Qjk] at c
  rw[List.concat_eq_append] at hR;have q:r∈s.2:=by rw[hR];simp
  obtain⟨r1,r2,r3,r4,r5⟩:=h.ent r q;have m:=h.up;rw[hR,List.pairwise_append] at m;obtain⟨u1,-,u3⟩:=m;have hlen:=h.len;rw[hR,qG,List.length_singleton] at hlen
  by_cases j:QmH r e=true
  ·rw[j] at c
   simp only[if_true] at c;unfold QmH at j;simp only[JD,qO] at j;obtain⟨g1,g2,g3⟩:=j;have B:=Qmw r r1 r2;have y:Qcj (QsW r)=0:=Qqu (QsW r) (by show 0<r.2.2.1;omega) (by show r.1+max 1 (r.2.2.2+1)<=QfV;omega) (by show r.2.1+r.2.2.1<=Qds;omega)
   have ml:QdM (QsW r)=x.1:=by rw[Qmw (QsW r) y (Nat.succ_pos _)];show r.1+(r.2.2.2+1)-1=x.1;omega
   refine⟨by rw[g];exact a4,by rw[g];omega,by rw[g];omega,?_,?_,?_,?_⟩
   ·rw[g,c]
    intro d f;rcases List.mem_append.1 f with f|f
    ·exact i d (by rw[hR];exact List.mem_append_left _ f)
    ·rw[List.mem_singleton.1 f]
     exact⟨y,Nat.succ_pos _,by show r.2.2.2+1<=k+1;omega,by show r.2.1+r.2.2.1<=_;omega,r5⟩
   ·rw[c,List.pairwise_append]
    exact⟨u1,List.pairwise_singleton _ _,fun a ha d f=>by rw[List.mem_singleton.1 f];exact u3 a ha r (List.mem_singleton.2 rfl)⟩
   ·rw[c]
    intro d f;rcases List.mem_append.1 f with f|f
    ·have:=h.top d (by rw[hR];exact List.mem_append_left _ f);omega
    ·rw[List.mem_singleton.1 f];omega
   ·rw[c,qG,List.length_singleton];omega
  ·have j:QmH r e=false:=by simpa using j
   rw[j] at c;simp only[Bool.false_eq_true,if_false] at c;rw[<-hR] at c;refine⟨by rw[g];exact a4,by rw[g];omega,by rw[g];omega,?_,?_,?_,?_⟩
   ·rw[g,c]
    intro d f;rcases List.mem_append.1 f with f|f
    ·exact i d f
    ·rw[List.mem_singleton.1 f];exact n
   ·rw[c,List.pairwise_append]
    exact⟨h.up,List.pairwise_singleton _ _,fun a ha d f=>by rw[List.mem_singleton.1 f];have:=h.top a ha;omega⟩
   ·rw[c]
    intro d f;rcases List.mem_append.1 f with f|f
    ·have:=h.top d f;omega
    ·rw[List.mem_singleton.1 f];omega
   ·rw[c,qG,List.length_singleton];have:=h.len;omega
theorem QBs(L:List (Nat×JA))(h:ItmsOk L):∀k,k<=L.length->RwOk (rwM (L.take k)) (((L.take k).map (fun x=>x.2.size)).sum) k (if f:k<L.length then L[k].1 else QfV):=by
 intro k
 induction k with
 |zero=>intro _;exact RwOk.start _
 |succ k ih=>
  intro f;have b:k<L.length:=f;have g:=ih (Nat.le_of_lt b);rw[dif_pos b] at g;obtain⟨x1,x2,x3⟩:=h.ok L[k] (JG b);have c:((L.take (k+1)).map (fun x=>x.2.size)).sum=((L.take k).map (fun x=>x.2.size)).sum+L[k].2.size:=by
   rw[qV b,qY,List.sum_append];simp
  have i:((L.take (k+1)).map (fun x=>x.2.size)).sum<=4000:=by
   have:=h.sz;have j:(L.map (fun x=>x.2.size)).sum=((L.take (k+1)).map (fun x=>x.2.size)).sum+((L.drop (k+1)).map (fun x=>x.2.size)).sum:=by
    rw[<-List.sum_append,<-qY,List.take_append_drop]
   omega
  have a:=g.step L[k] (qC _) x1 x2 x3 (by have:=h.len;omega) (by omega)
  rw[c,qV b,QqV];refine⟨a.pool,a.plen,a.flat,a.ent,a.up,fun e he=>?_,a.len⟩
  have l:=a.top e he;split
  ·rename_i d
   have:=(List.pairwise_iff_getElem.1 h.up) k (k+1) b d (Nat.lt_succ_self _);omega
  ·omega
end
section
def QaE(c:Nat):Bool:=c==9||(decide (32<=c)&&decide (c<=126))
def scan:JL->Nat->Nat×Nat
 |[],n=>(n,3)
 |c :: r,n=>if c=13/\r = [] then (n,3) else if c=13/\r.head?=some 10 then (n,0)
   else if QaE c.toNat=false then (n,4) else if n=256 then (n,5) else scan r (n+1)
def QbT(l:JL)(i:Nat)(n:Nat):Nat×Nat:=scan (l.drop i) n
theorem Qsw(l:JL)(i n:Nat)(h:l.length<=i):QbT l i n=(n,3):=by
 unfold QbT;rw[List.drop_eq_nil_of_le h];rfl
theorem Qpe(l:JL)(i n:Nat)(h:i<l.length):QbT l i n =
  if l[i]=13/\i+1=l.length then (n,3) else if l[i]=13/\l[i+1]?=some 10 then (n,0)
   else if QaE l[i].toNat=false then (n,4) else if n=256 then (n,5) else QbT l (i+1) (n+1):=by
 unfold QbT;rw[List.drop_eq_getElem_cons h,scan];have b:(l.drop (i+1) = [])↔i+1=l.length:=by rw[List.drop_eq_nil_iff];omega
 have a:(l.drop (i+1)).head?=l[i+1]?:=by rw[List.head?_drop]
 rw[a];simp only[b]
theorem QDl(l:JL):∀n,n<=256->n<=(scan l n).1/\(scan l n).1<=n+l.length/\(scan l n).1<=256/\(scan l n).2<=5:=by
 induction l with
 |nil=>intro n h;simp[scan];omega
 |cons c r ih=>
  intro n h;rw[scan];split
  ·simp;omega
  ·split
   ·simp;omega
   ·split
    ·simp;omega
    ·split
     ·simp;omega
     ·have:=ih (n+1) (by omega)
      simp only[qH];omega
theorem QuR(l:JL):∀n,(scan l n).2=0->(scan l n).1+2<=n+l.length:=by
 induction l with
 |nil=>intro n h;simp[scan] at h
 |cons c r ih=>
  intro n;rw[scan];split
  ·simp
  ·split
   ·rename_i h
    cases r with
    |nil=>simp at h
    |cons d t=>simp
   ·split
    ·simp
    ·split
     ·simp
     ·intro h
      have:=ih (n+1) h;simp only[qH];omega
def Qbe(s:JA)(at_:Int):Nat:=if at_<0\/(s.size:Int)<at_ then 2 else (QbT s.data.toList at_.toNat 0).2
def QaH(s:JA)(at_:Int):JA:=if Qbe s at_=0 then s.extract at_.toNat (at_.toNat+(QbT s.data.toList at_.toNat 0).1) else ⟨#[]⟩
def Qbd(s:JA)(at_:Int):Int:=if Qbe s at_=0 then at_+(QbT s.data.toList at_.toNat 0).1+2 else at_
theorem QiU(s:JA)(a:Int)(h:a<0\/(s.size:Int)<a):Qbe s a=2:=JK h
theorem QcN(s:JA)(i:Nat)(h:i<=s.size):Qbe s (i:Int)=(QbT s.data.toList i 0).2:=by
 unfold Qbe;rw[JJ (by omega)];rfl
def Qbh(l:JL):Nat:=if l.all (fun c=>QaE c.toNat)=false then 4 else if 256<l.length then 5 else 0
theorem Qvw(c:Nat)(h:c<32)(a:c≠9):QaE c=false:=by
 unfold QaE;simp;omega
theorem Qvx(c:Nat)(h:32<=c):QaE c=decide ((c:Int)<=126):=by
 unfold QaE;have b:(c==9)=false:=by simp;omega
 rw[b,qA h,Bool.false_or,Bool.true_and]
 by_cases a:c<=126
 ·rw[qA a,qA (by omega)]
 ·rw[qB a,qB (by omega)]
theorem QaP{a b:Bool}(h:a=b):Ending.returned (.bool a)=.returned (.bool b):=by rw[h]
theorem QcT(c:Nat)(w:World)(h:c<256) :
  Calls prog 237 #[Jb c] w (JS (.bool (QaE c)) w):=by
 by_cases b:c=9
 ·subst b
  go_enter func237,ntmps237;go_wp2;go_ret;exact⟨QaP rfl,rfl⟩
 ·have d:((c:Int)==9)=false:=by rw[qI];omega
  by_cases a:c<32
  ·have H:=Z (Qvw c a b)
   go_enter func237,ntmps237;go_wp2;go_ret;exact⟨QaP H.out.symm,rfl⟩
  ·have H:=Z (Qvx c (by omega))
   go_enter func237,ntmps237;go_wp2;go_ret;exact⟨QaP H.out.symm,rfl⟩
def Exit.jumps(J:Nat->Act->World->Prop)(Q:Exit->Act->World->Prop):Exit->Act->World->Prop
 | .goto l,a,w=>J l a w
 |e,a,w=>Q e a w
theorem QlA{P:Program}{a:Act}{w:World}{Q:Exit->Act->World->Prop}{c:Code}(J:Nat->Act->World->Prop)(μ:Nat->Act->World->Nat)
  (f:∀l a w,J l a w->∃y,findLabel c l=some (.seq .skip y)/\y.wp P (Exit.jumps (fun l' i w'=>J l' i w'/\μ l' i w'<μ l a w) Q) a w)
  (first:(∀l a w y,J l a w->findLabel c l=some (.seq .skip y)->y.wp P (Exit.jumps J Q) a w)->c.wp P (Exit.jumps J Q) a w):(Code.scope c).wp P Q a w:=by
 intro b k cs;have g:=first fun l a w y p j=>by
  obtain⟨y',hf',m⟩:=f l a w p;obtain rfl:y'=y:=by have:=hf'.symm.trans j;simpa using this
  refine wp_mono m ?_;intro e i w' h;cases e<;>first|exact h|exact h.1
 have q:∀l d,findLabel c l=some d->gotoIn l (.inScope c :: k)=some (.code d :: .inScope c :: k):=fun l d j=>by simp[gotoIn,j]
 have key:∀n l a w,μ l a w=n->J l a w->∀d,findLabel c l=some d->∃e i w',Q e i w'/\Arrives P (lone (b.at a (.code d :: .inScope c :: k)) cs w) b k cs e i w':=by
  intro n
  induction n using Nat.strongRecOn with
  |_ n ih=>
   intro l a w r p d j;obtain⟨y',hf',hp'⟩:=f l a w p;obtain rfl:(Code.seq .skip y')=d:=qS (hf'.symm.trans j);have m:=wp_seq (x:=.skip) (y:=y') (wp_skip (Q:=Exit.then (y'.wp P _) _) hp');obtain⟨e,a₁,w₁,hq,QFG⟩:=m b (.inScope c :: k) cs;cases e with
   |normal=>exact⟨.normal,a₁,w₁,hq,Steps.trans QFG (.one step_inScope)⟩
   |exit id=>exact⟨.exit id,a₁,w₁,hq,fun k' hk=>QFG k' (by simp[exitTo,hk])⟩
   |goto l'=>
    obtain⟨hJ',hlt⟩:=hq;obtain⟨r2,hf2,_⟩:=f l' a₁ w₁ hJ';obtain⟨e₂,a₂,w₂,hq₂,harr₂⟩:=ih _ (by omega) l' a₁ w₁ rfl hJ' _ hf2
    exact⟨e₂,a₂,w₂,hq₂,.of_steps (QFG _ (q l' _ hf2)) harr₂⟩
   |ret=>exact⟨_,a₁,w₁,hq,QFG⟩
   |panic ch=>exact⟨_,a₁,w₁,hq,QFG⟩
   |outgrown=>exact⟨_,a₁,w₁,hq,QFG⟩
 obtain⟨e,a₁,w₁,hq,QFG⟩:=g b (.inScope c :: k) cs;cases e with
 |normal=>exact⟨.normal,a₁,w₁,hq,.head step_scope (Steps.trans QFG (.one step_inScope))⟩
 |exit id=>exact⟨.exit id,a₁,w₁,hq,fun k' hk=>.head step_scope (QFG k' (by simp[exitTo,hk]))⟩
 |goto l'=>
  obtain⟨r2,hf2,_⟩:=f l' a₁ w₁ hq;obtain⟨e₂,a₂,w₂,hq₂,harr₂⟩:=key _ l' a₁ w₁ rfl hq _ hf2;exact⟨e₂,a₂,w₂,hq₂,.of_steps (.head step_scope (QFG _ (q l' _ hf2))) harr₂⟩
 |ret=>exact⟨_,a₁,w₁,hq,.of_steps (.one step_scope) QFG⟩
 |panic ch=>exact⟨_,a₁,w₁,hq,.of_steps (.one step_scope) QFG⟩
 |outgrown=>exact⟨_,a₁,w₁,hq,.of_steps (.one step_scope) QFG⟩
theorem QDu(x y:UInt8)(h:x≠y):((x.toNat:Int)==(y.toNat:Int))=false:=by
 rw[qI];intro a;exact h (UInt8.toNat_inj.1 (by omega))
theorem QuA(s:JA)(i E:Nat)(b:i<=s.size)(a:E≠0)(h:E=(QbT s.data.toList i 0).2) :
  Value.tuple #[Jt ⟨#[]⟩,Ji i,Ji E]=Value.tuple #[Jt (QaH s i),Ji (Qbd s i),Ji (Qbe s i)]:=by
 have e:=QcN s i b;rw[<-h] at e;unfold QaH Qbd;rw[e,JJ a,JJ a]
theorem Qx5(s:JA)(i:Int)(h:i<0\/(s.size:Int)<i) :
  Value.tuple #[Jt ⟨#[]⟩,Ji i,Ji 2]=Value.tuple #[Jt (QaH s i),Ji (Qbd s i),Ji (Qbe s i)]:=by
 unfold QaH Qbd;rw[QiU s i h,JJ (by decide),JJ (by decide)];rfl
theorem QBe(s:JA)(i k:Nat)(a:i<=s.size)(h:QbT s.data.toList i 0=(k,0)) :
  Value.tuple #[Jt (s.extract i (i+k)),Ji (i+k+2),Ji 0]=Value.tuple #[Jt (QaH s i),Ji (Qbd s i),Ji (Qbe s i)]:=by
 have e:=QcN s i a;rw[h] at e;unfold QaH Qbd;rw[e,JK rfl,JK rfl];show _=Value.tuple #[Jt (s.extract i (i+(QbT s.data.toList i 0).1)),Ji ((i:Int)+(QbT s.data.toList i 0).1+2),Ji ((0:Nat):Int)];rw[h];rfl
def QEs(s:JA)(i:Nat)(w:World)(l:Nat)(a':Act)(w':World):Prop:=
 w'=w/\((l=1/\∃(k:Nat) (u8 u9 u10 u11 u12 u13 u14 u15 u16 u17 u18 u19 u20 u21 u22 u23 u24 u25 u26 u27 u28 u29 u30 u31 u32 u33 u34 u35 u36 u37 u38 u39 u40 u41 u42 u43 u44 u45 u46 u47 u48 u49 u50 u51 u52 u53 u54 u55 u56 u57 u58 u59 u60 u61 u62 u63 u64:Value),a' = { tmps:=#[Jt s,Ji i,undef,undef,Jt ⟨#[]⟩,Ji 0,Ji 3,Ji ((i+k:Nat):Int),u8,u9,u10,u11,u12,u13,u14,u15,u16,u17,u18,u19,u20,u21,u22,u23,u24,u25,u26,u27,u28,u29,u30,u31,u32,u33,u34,u35,u36,u37,u38,u39,u40,u41,u42,u43,u44,u45,u46,u47,u48,u49,u50,u51,u52,u53,u54,u55,u56,u57,u58,u59,u60,u61,u62,u63,u64],defers:=[] }/\k<=256/\i+k<=s.size/\QbT s.data.toList (i+k) k=QbT s.data.toList i 0)\/(l=0/\∃(E:Nat) (u7 u8 u9 u10 u11 u12 u13 u14 u15 u16 u17 u18 u19 u20 u21 u22 u23 u24 u25 u26 u27 u28 u29 u30 u31 u32 u33 u34 u35 u36 u37 u38 u39 u40 u41 u42 u43 u44 u45 u46 u47 u48 u49 u50 u51 u52 u53 u54 u55 u56 u57 u58 u59 u60 u61 u62 u63 u64:Value),a' = { tmps:=#[Jt s,Ji i,undef,undef,Jt ⟨#[]⟩,Ji 0,Ji (E:Int),u7,u8,u9,u10,u11,u12,u13,u14,u15,u16,u17,u18,u19,u20,u21,u22,u23,u24,u25,u26,u27,u28,u29,u30,u31,u32,u33,u34,u35,u36,u37,u38,u39,u40,u41,u42,u43,u44,u45,u46,u47,u48,u49,u50,u51,u52,u53,u54,u55,u56,u57,u58,u59,u60,u61,u62,u63,u64],defers:=[] }/\E≠0/\E=(QbT s.data.toList i 0).2))
def Qo7(s:JA)(l:Nat)(a':Act)(_:World):Nat:=if l=0 then 0 else 1+(s.size-(intOf (a'.tmps.getD 7 undef)).toNat)
theorem Qd9(s:JA)(d:Int)(w:World)(T:s.size<=9223372036854775807) :
  Calls prog 284 #[Jt s,Ji d] w (JS (.tuple #[Jt (QaH s d),Ji (Qbd s d),Ji (Qbe s d)]) w):=by
 by_cases x:d<0\/(s.size:Int)<d
 ·have N:=Z (Qx5 s d x)
  rcases x with x|x
  all_goals
   go_enter func284,ntmps284;go_wp2_with fail;go_step3;go_wp2_with fail
   try rw[Exit.noGoto_ret]
   go_ret3;exact⟨congrArg Ending.returned N.o,rfl⟩
 ·obtain⟨i,rfl⟩:=Int.eq_ofNat_of_zero_le (show 0<=d by omega)
  have D:i<=s.size:=by omega
  clear x;go_enter func284,ntmps284;go_wp2_with fail;refine QlA (QEs s i w) (Qo7 s) ?_ ?_
  ·rintro l S w' ⟨rfl,⟨rfl,k,u8,u9,u10,u11,u12,u13,u14,u15,u16,u17,u18,u19,u20,u21,u22,u23,u24,u25,u26,u27,u28,u29,u30,u31,u32,u33,u34,u35,u36,u37,u38,u39,u40,u41,u42,u43,u44,u45,u46,u47,u48,u49,u50,u51,u52,u53,u54,u55,u56,u57,u58,u59,u60,u61,u62,u63,u64,rfl,R,M,b⟩|⟨rfl,E,u7,u8,u9,u10,u11,u12,u13,u14,u15,u16,u17,u18,u19,u20,u21,u22,u23,u24,u25,u26,u27,u28,u29,u30,u31,u32,u33,u34,u35,u36,u37,u38,u39,u40,u41,u42,u43,u44,u45,u46,u47,u48,u49,u50,u51,u52,u53,u54,u55,u56,u57,u58,u59,u60,u61,u62,u63,u64,rfl,z,t⟩⟩
   ·refine⟨_,rfl,?_⟩
    by_cases v:i+k=s.size
    ·have t:=Qsw s.data.toList (i+k) k (by simp;omega)
     have H:=Z (b.symm.trans t);clear t b;have J:((i:Int)+(k:Int)==(s.size:Int))=true:=by rw[beq_iff_eq];omega
     clear v;go_wp2_with fail;go_step3;refine qE (qE rfl (.inr (qE rfl ?_))) ?_
     ·refine⟨3,?_⟩
      (repeat apply Exists.intro)
      exact⟨rfl,by decide,by rw[H.out]⟩
     ·simp[Qo7];omega
    ·have q:i+k<s.size:=by omega
     have J:((i:Int)+(k:Int)==(s.size:Int))=false:=by rw[qI];omega
     have a:=Qpe s.data.toList (i+k) k (by simpa using q)
     have G:s.data.toList[i+k]'(by simpa using q)=s[i+k]:=rfl
     rw[G] at a;clear G v;have n:s[i+k].toNat<256:=s[i+k].toNat_lt
     by_cases c:s[i+k]=13
     ·have r:s[i+k].toNat=13:=by rw[c];rfl
      by_cases p:i+k+1=s.size
      ·rw[JK ⟨c,by simpa using p⟩] at a
       have H:=Z (b.symm.trans a);clear a b c;have B:((i:Int)+(k:Int)+1==(s.size:Int))=true:=by rw[beq_iff_eq];omega
       clear p;go_wp2_with fail;go_step3;refine qE (qE rfl (.inr (qE rfl ?_))) ?_
       ·refine⟨3,?_⟩
        (repeat apply Exists.intro)
        exact⟨rfl,by decide,by rw[H.out]⟩
       ·simp[Qo7];omega
      ·have A:i+k+1<s.size:=by omega
       have B:((i:Int)+(k:Int)+1==(s.size:Int))=false:=by rw[qI];omega
       rw[JJ (by simp;omega)] at a
       have m:s.data.toList[i+k+1]?=some s[i+k+1]:=by rw[qU (by simpa using A)];rfl
       rw[m] at a;clear m p
       by_cases f:s[i+k+1]=10
       ·rw[JK ⟨c,by rw[f]⟩] at a
        have y:s[i+k+1].toNat=10:=by rw[f];rfl
        have H:=Z (b.symm.trans a);clear a b c f;go_wp2_with fail;simp only[Exit.jumps];go_ret3;exact⟨congrArg Ending.returned (QBe s i k D H.out),rfl⟩
       ·have y:((s[i+k+1].toNat:Int)==10)=false:=by
         exact QDu _ _ f
        rw[JJ (by rintro⟨_,h⟩;exact f (by simpa using h)),c,JK (by decide)] at a
        have g:QaE 13=false:=by decide
        have H:=Z (b.symm.trans a);clear a b c f;go_wp2_with (go_at_call 237;refine (QcT _ _ (by decide)).mono ?_;rintro e w' ⟨rfl,rfl⟩)
        go_step3;refine qE (qE rfl (.inr (qE rfl ?_))) ?_
        ·refine⟨4,?_⟩
         (repeat apply Exists.intro)
         exact⟨rfl,by decide,by rw[H.out]⟩
        ·simp[Qo7];omega
     ·have r:((s[i+k].toNat:Int)==13)=false:=by
       exact QDu _ _ c
      rw[JJ (by simp[c]),JJ (by simp[c])] at a
      by_cases g:QaE s[i+k].toNat=false
      ·rw[JK g] at a
       have H:=Z (b.symm.trans a);clear a b c;go_wp2_with (go_at_call 237;refine (QcT _ _ n).mono ?_;rintro e w' ⟨rfl,rfl⟩);go_step3;refine qE (qE rfl (.inr (qE rfl ?_))) ?_
       ·refine⟨4,?_⟩
        (repeat apply Exists.intro)
        exact⟨rfl,by decide,by rw[H.out]⟩
       ·simp[Qo7];omega
      ·rw[JJ g] at a
       have C:QaE s[i+k].toNat=true:=by simpa using g
       clear g
       by_cases j:k=256
       ·rw[JK j] at a
        have H:=Z (b.symm.trans a);clear a b c;subst j;go_wp2_with (go_at_call 237;refine (QcT _ _ n).mono ?_;rintro e w' ⟨rfl,rfl⟩);go_step3;refine qE (qE rfl (.inr (qE rfl ?_))) ?_
        ·refine⟨5,?_⟩
         (repeat apply Exists.intro)
         exact⟨rfl,by decide,by rw[H.out]⟩
        ·simp[Qo7];omega
       ·rw[JJ j] at a
        have H:=Z (a.symm.trans b);clear a b c;have I:k<256:=by omega
        have P:((k:Int)==256)=false:=by rw[qI];omega
        clear j;go_wp2_with (go_at_call 237;refine (QcT _ _ n).mono ?_;rintro e w' ⟨rfl,rfl⟩);go_step3;refine qE (qE rfl (.inl (qE rfl ?_))) ?_
        ·refine⟨k+1,?_⟩
         (repeat apply Exists.intro)
         exact⟨rfl,by omega,by omega,by rw[<-Nat.add_assoc];exact H.out⟩
        ·simp[Qo7,intOf];omega
   ·refine⟨_,rfl,?_⟩
    have O:=Z t;clear t;go_wp2_with fail;simp only[Exit.jumps];go_ret3;exact⟨congrArg Ending.returned (QuA s i E D z O.o),rfl⟩
  ·intro H
   go_wp2_with fail;go_step3
   rename_i K L
   refine L _ _ (H 1 _ _ _ ?_ rfl);refine⟨rfl,.inl ⟨rfl,0,?_⟩⟩
   (repeat apply Exists.intro)
   exact⟨rfl,by omega,by omega,rfl⟩
theorem Qyn(l:JL)(k:Nat)(c:UInt8)(h:l[k]?=some c)(a:QaE c.toNat=false):Qbh l=4:=by
 unfold Qbh;rw[JK];rw[List.all_eq_false];exact⟨c,List.mem_of_getElem? h,by simp[a]⟩
theorem Qvm(l:JL)(h:∀k (a:k<l.length),QaE l[k].toNat=true):Qbh l=if 256<l.length then 5 else 0:=by
 unfold Qbh;rw[JJ];simp only[Bool.not_eq_false,List.all_eq_true];intro c b;obtain⟨k,a,rfl⟩:=List.getElem_of_mem b;exact h k a
def Qe2(s:JA):JA:=if Qbh s.data.toList=0 then s++⟨#[13,10]⟩ else ⟨#[]⟩
theorem Qq1(s:JA)(E:Nat)(a:E≠0)(h:Qbh s.data.toList=E):Value.tuple #[Jt ⟨#[]⟩,Ji E]=Value.tuple #[Jt (Qe2 s),Ji (Qbh s.data.toList)]:=by
 unfold Qe2;rw[h,JJ a]
theorem QDn(s:JA)(h:Qbh s.data.toList=0):Value.tuple #[Jt (s++⟨#[13,10]⟩),Ji 0]=Value.tuple #[Jt (Qe2 s),Ji (Qbh s.data.toList)]:=by
 unfold Qe2;rw[h,JK rfl];rfl
theorem Qkv(s:JA)(k:Nat)(h:∀j,j<k->∀a:j<s.size,QaE (s[j]'a).toNat=true)(d:k<s.size)(c:QaE s[k].toNat=true):∀j,j<k+1->∀a:j<s.size,QaE (s[j]'a).toNat=true:=by
 intro j a b
 by_cases e:j=k
 ·subst e;exact c
 ·exact h j (by omega) b
theorem QgC(s:JA)(w:World)(l:s.size<=9223372036854775807) :
  Calls prog 211 #[Jt s] w (JS (.tuple #[Jt (Qe2 s),Ji (Qbh s.data.toList)]) w):=by
 go_enter func211,ntmps211;go_wp2_with fail;go_loop [7] (fun j=>∃k:Nat,k<=s.size/\j = Ji k/\∀j,j<k->∀hj:j<s.size,QaE (s[j]'hj).toNat=true) (fun j=>s.size-(intOf j).toNat)
 case atStart=>exact⟨0,by omega,rfl,fun j hj=>by omega⟩
 case round=>
  obtain⟨k,hk,rfl,hall⟩:=hrel;have b:=Z hall;clear hall
  by_cases g:k<s.size
  ·have d:s[k].toNat<256:=s[k].toNat_lt
   by_cases c:QaE s[k].toNat=false
   ·have H:=Z (Qyn s.data.toList k s[k] (by rw[qU (by simpa using g)];rfl) c)
    go_wp2_with (go_at_call 237;refine (QcT _ _ d).mono ?_;rintro e w' ⟨rfl,rfl⟩);go_ret2;exact⟨congrArg Ending.returned (Qq1 s 4 (by decide) H.out),rfl⟩
   ·have i:QaE s[k].toNat=true:=by simpa using c
    clear c;have H:=Z (Qkv s k b.o g i);go_wp2_with (go_at_call 237;refine (QcT _ _ d).mono ?_;rintro e w' ⟨rfl,rfl⟩);go_round
    case rel=>exact⟨k+1,by omega,by go_num,H.out⟩
    case measure=>simp[intOf];omega
  ·have h:=Qvm s.data.toList (fun j hj=>b.o j (by simp at hj;omega) (by simpa using hj))
   have a:s.data.toList.length=s.size:=by simp
   by_cases f:256<s.size
   ·rw[a,JK f] at h
    have H:=Z h;clear h a;go_wp2;go_ret2;exact⟨congrArg Ending.returned (Qq1 s 5 (by decide) H.out),rfl⟩
   ·rw[a,JJ f] at h
    have H:=Z h;clear h a;go_wp2;go_ret2;exact⟨congrArg Ending.returned (QDn s H.out),rfl⟩
def bs(l:JL):JA:=⟨l.toArray⟩
theorem Qai(l:JL):(bs l).data.toList=l:=by simp[bs]
theorem Qaq(l:JL):(bs l).size=l.length:=by simp[bs,ByteArray.size]
theorem Qb1(s:JA):bs s.data.toList=s:=by cases s;simp[bs]
theorem Qab(s:JA):s.data.toList.length=s.size:=by simp
def QfY(xs:JM):JV:=xs.map fun l=>Jt (bs l)
theorem Qdu(xs:JM):(QfY xs).length=xs.length:=by simp[QfY]
theorem QlN(xs:JM)(j:Nat)(a:j<xs.length):(QfY xs)[j]?=some (Jt (bs xs[j])):=by
 unfold QfY;rw[List.getElem?_map,qU a];rfl
theorem Qi1(xs a:JM):QfY (xs++a)=QfY xs++QfY a:=by simp[QfY]
theorem QlM(l:JL):QfY [l] = [Jt (bs l)]:=rfl
def HoldsS(w:World)(v:Value)(xs:JM):Prop:=
 ∃a c,v=.slice a xs.length c/\xs.length<=c/\(xs≠[]->∃b o,a=some (Ja b o)/\b<w.heap.size/\∀j (hj:j<xs.length),w.cell? (Ja b (o+j))=some (Jt (bs xs[j])))
theorem HoldsS.below{w w':World}{v:Value}{xs:JM}(h:HoldsS w v xs)(d:Jw w w'):HoldsS w' v xs:=by
 obtain⟨a,c,hv,hc,hx⟩:=h;refine⟨a,c,hv,hc,fun hne=>?_⟩
 obtain⟨b,o,ha,hlt,Qak⟩:=hx hne;exact⟨b,o,ha,qK hlt d.size,fun j hj=>(d.cell (p:=(Ja b (o+j))) hlt).trans (Qak j hj)⟩
theorem HoldsS.empty(w:World)(a:Option Addr)(c:Nat):HoldsS w (.slice a 0 c) []:=⟨a,c,rfl,qL _,fun h=>JN rfl h⟩
theorem HoldsS.of_own{w:World}{base n:Nat}{e:JT}{v:Value}{xs:JM}(h:w.ownsRow base e 1 v n (QfY xs)):HoldsS w v xs:=by
 have b:xs.length=n:=by have:=h.1;rw[Qdu,Nat.mul_one] at this;exact this
 subst b;rcases h.2 with⟨rfl,h0⟩|⟨g,cap,cur,rfl,hb,hg,hle,hm,hs,ht⟩
 ·have:xs = []:=List.eq_nil_of_length_eq_zero h0
  subst this;exact HoldsS.empty w none 0
 ·refine⟨_,cap,rfl,hle,fun _=>⟨g,0,rfl,(gsi hg).1,fun j hj=>?_⟩⟩
  have:=h.cells (g:=g) rfl j _ (QlN xs j hj);have a:((Ja g 0):Addr).add j=(Ja g (0+j)):=by unfold Addr.add;split<;>simp_all
  rwa[a] at this
theorem HoldsS.of_block{w:World}{b:Nat}{C:JW}{t:JT}{xs:JM}{n:Nat}(a:w.heap[b]?=some (.cells C t (0,0)))(d:C.toList=QfY xs)(c:n=xs.length):HoldsS w (Jl b n n) xs:=by
 subst c;refine⟨_,_,rfl,qC _,fun _=>⟨b,0,rfl,(gsi a).1,fun j hj=>?_⟩⟩
 rw[cell_of_row w b (0+j) C t (0,0) a];rw[<-Array.getElem?_toList,d,Nat.zero_add];exact QlN xs j hj
theorem Qbm(w:World)(o:Obj):(w.alloc o).heap[w.heap.size]?=some o:=by
 show (w.heap.push o)[w.heap.size]?=_;simp
theorem Qaa{w0 w w':World}(h:Jw w0 w)(k:Jw w w'):Jw w0 w':=h.trans (k.mono h.size)
theorem QbS{k:IntKind}{a b:Int}(h:a=b):Ending.returned (.int k a)=.returned (.int k b):=by rw[h]
theorem QbR{a b:JA}(h:a=b):Ending.returned (Jt a)=.returned (Jt b):=by rw[h]
theorem QcC(s:JA)(a b:Nat):s.extract a b=bs ((s.data.toList.take b).drop a):=by
 have h:(s.extract a b).data.toList=(s.data.toList.take b).drop a:=by
  rw[Go.Lib.extract_data,List.drop_take]
 rw[<-h,Qb1]
theorem QiA:(prog.info? 9).map (fun i=>(i.zero,i.size,i.bytes))=some (some (Jt ByteArray.empty),1,16):=by kernel_rfl
theorem Qt7{d:Array Oper}{c:List Oper}{o:Oper}{a:Act}{Q:Exit->Act->World->Prop}(w0:World)(i:o.guard=none)(s x:Operand)
  (n:o.op=.call { callee:=.builtin .append,args:=#[s,x],argTypes:=#[182,182] })
  (base:Nat) (v:Value) (xs:JM) (t:a.eval s=v) (m:w0.ownsRow base 9 1 v xs.length (QfY xs))
  (b:JA) (l:JL) (j:b=bs l) (hx:a.eval x = Jl w0.heap.size 1 1) (y:xs.length<2147483648) (r:base<=w0.heap.size)
  (h:∀f w',w'.ownsRow base 9 1 f (xs++[l]).length (QfY (xs++[l]))->w0.grownBy w' v.ownBlock->f≠.slice none 0 0->wpList prog d Q c (a.put o.dst f) w') :
  wpList prog d Q (o :: c) a (w0.alloc (.cells #[Jt b] 9)):=by
 obtain⟨i0,hi,hz0,hz1,hz2⟩:=info_parts QiA;subst j;refine wpList_append_own _ i s x 182 n base 9 i0 _ 1 16 underlying182 hi hz0 hz1 hz2 rfl (by decide) v xs.length (QfY xs) t (m.alloc _) (Ja w0.heap.size 0) 1 1 [Jt (bs l)] hx rfl (cell_one_new w0 _ _) (by simp[Value.oneCell']) (by unfold maxLen;omega) (by omega) (by simp;omega) ?_
 intro f w' p g q;refine h f w' ?_ ?_ (fun e=>by have:=(q.1 e).2;omega)
 ·rw[qG,Qi1,QlM];exact p
 ·exact⟨g.os,g.tape,g.output,qD (by simp) g.size,fun k hk hne=>(g.block k (by simp;omega) hne).trans (J5 w0 _ hk)⟩
theorem QgY{B:Nat}{w wr w':World}{base:Nat}{e:JT}{size:Nat}{v:Value}{n:Nat}{xs:JV}(d:Below B w wr)(f:wr.grownBy w' v.ownBlock)(b:wr.ownsRow base e size v n xs)(c:B<=base)(a:B<=wr.heap.size):Below B w w':=
 d.grown f a fun k hk=>qD c (b.lt k hk).1
theorem QvH(w:World)(xs:JM)(n:Nat)(b:n=xs.length)(a:xs.length<=maxLen) :
  (w.alloc (.cells (QfY xs).toArray 9)).ownsRow w.heap.size 9 1 (Jl w.heap.size n n) xs.length (QfY xs):=by
 subst b;refine⟨by rw[Qdu,Nat.mul_one],.inr ⟨w.heap.size,_,_,rfl,qC _,Qbm w _,qC _,a,?_,?_⟩⟩
 ·rw[List.size_toArray,Qdu,Nat.mul_one]
 ·rw[Nat.mul_one];exact qX (by rw[Qdu];exact qC _)
theorem QAT(x y:JL):((bs x).toList==(bs y).toList)=decide (x=y):=by
 rw[J7,J7,Qai,Qai]
 by_cases h:x=y
 ·subst h;simp
 ·simp[h]
theorem Qeh(a b:JL):bs a++bs b=bs (a++b):=by
 have:(bs a++bs b).data.toList=a++b:=by simp[bs]
 rw[<-this,Qb1]
theorem QrM(a b:JA):(a++b).data.toList=a.data.toList++b.data.toList:=by simp
structure BelowOf(w:World) where
 world:World
 below:Jw w world
instance (w:World):Inhabited (BelowOf w):=⟨⟨w,qF _ _⟩⟩
theorem Qae{P:Program}{id:Nat}{Q:Exit->Act->World->Prop}{a:Act}{w:World}{l:List Oper}(b:P.follows .mixedOrders=true)(c:Region.lexB .any l.toArray=true)
  (h:wpQuiet P l.toArray (fun w'=>∃p:BelowOf w,w'=p.world) (fun a'=>∀w',(∃p:BelowOf w,w'=p.world)->Q .normal a' w') l a):(Code.region id l.toArray true).wp P Q a w:=
 wp_region_quiet (C:=fun w'=>∃p:BelowOf w,w'=p.world) b c ⟨⟨w.drew,(qF _ _).drew⟩,rfl⟩ (by simpa using h)
theorem QaA{P:Program}{f:FuncId}{args:JW}{w:World}{p:BelowOf w}{v:Value}
  (h:Calls P f args p.world fun e w'=>e=.returned v/\Jw p.world w'):Calls P f args p.world fun e w''=>e=.returned v/\∃q:BelowOf w,w''=q.world:=
 h.mono fun _ _ ⟨he,hb⟩=>⟨he,⟨_,Qaa p.below hb⟩,rfl⟩
theorem QfA{P:Program}{f:FuncId}{args:JW}{w:World}{p:BelowOf w}{v:Value}
  (h:Calls P f args p.world fun e w'=>e=.returned v/\w'=p.world):Calls P f args p.world fun e w''=>e=.returned v/\∃q:BelowOf w,w''=q.world:=
 h.mono fun _ _ ⟨he,hw⟩=>⟨he,p,hw⟩
theorem QaD{w:World}(p:BelowOf w){a:Addr}{v:Value}(b:a.block<w.heap.size)(h:w.cell? a=some v):p.world.cell? a=some v:=(p.below.cell b).trans h
theorem QaQ{w W:World}(h:∃p:BelowOf w,W=p.world):Jw w W:=let ⟨p,hp⟩:=h;hp ▸ p.below
theorem Qdh(w:World)(x y z u:Value)(t:JT):(w.alloc (.cells #[x,y,z,u] t)).cell? (Ja w.heap.size 0)=some x/\(w.alloc (.cells #[x,y,z,u] t)).cell? (Ja w.heap.size 1)=some y/\(w.alloc (.cells #[x,y,z,u] t)).cell? (Ja w.heap.size 2)=some z/\(w.alloc (.cells #[x,y,z,u] t)).cell? (Ja w.heap.size 3)=some u:=by
 have h:=JI w (.cells #[x,y,z,u] t);refine⟨?_,?_,?_,?_⟩<;>(unfold World.cell?;rw[h];rfl)
theorem QaV(w:World)(x y z u:Value)(t:JT):Jw w (w.alloc (.cells #[x,y,z,u] t)):=(qF _ _).alloc (qC _) _
theorem Qlo(i o n r:Nat)(w:World)(a:r<4294967296) :
  Calls prog 128 #[.agg #[Ju i,Ju o,Jd n,Jd r]] w (JB (Ju ((max 1 r:Nat):Int)) w):=by
 obtain⟨c0,c1,c2,c3⟩:=Qdh w (Ju i) (Ju o) (Jd n) (Jd r) 61;go_enter func128,ntmps128;go_wp2_with fail
 all_goals
  go_ret;exact⟨QbS (by omega),QaV w _ _ _ _ _⟩
theorem Qw1(i o n r:Nat)(w:World)(a:o<=Qds)(b:n<4294967296) :
  Calls prog 129 #[.agg #[Ju i,Ju o,Jd n,Jd r]] w (JB (Ju ((o+n:Nat):Int)) w):=by
 obtain⟨c0,c1,c2,c3⟩:=Qdh w (Ju i) (Ju o) (Jd n) (Jd r) 61;unfold Qds at a;go_enter func129,ntmps129;go_wp2;go_ret;exact⟨QbS (by omega),QaV w _ _ _ _ _⟩
theorem QBl(i o n r:Nat)(w:World) :
  Calls prog 133 #[.agg #[Ju i,Ju o,Jd n,Jd r]] w (JB (Ju (i:Int)) w):=by
 obtain⟨c0,c1,c2,c3⟩:=Qdh w (Ju i) (Ju o) (Jd n) (Jd r) 61;go_enter func133,ntmps133;go_wp2;go_ret;exact⟨rfl,QaV w _ _ _ _ _⟩
theorem Qop(i o n r:Nat)(w:World)(a:n<4294967296) :
  Calls prog 81 #[.agg #[Ju i,Ju o,Jd n,Jd r]] w (JB (Ju (Qeo (i,o,n,r):Nat)) w):=by
 obtain⟨c0,c1,c2,c3⟩:=Qdh w (Ju i) (Ju o) (Jd n) (Jd r) 61;go_enter func81,ntmps81;go_wp2;go_ret;exact⟨QbS (by unfold Qeo;simp only[JU];omega),QaV w _ _ _ _ _⟩
def leN:JL->Nat
 |[]=>0
 |b :: r=>b.toNat+256*leN r
theorem QAN(l:JL):leN l<256 ^ l.length:=by
 induction l with
 |nil=>decide
 |cons b r ih=>
  unfold leN;rw[qH,Nat.pow_succ];have:b.toNat<256:=b.toNat_lt;omega
theorem Qy5(l:JL)(b:UInt8):leN (l++[b])=leN l+b.toNat*256 ^ l.length:=by
 induction l with
 |nil=>simp[leN]
 |cons a r ih=>
  rw[J4];unfold leN;rw[ih,qH,Nat.pow_succ,Nat.mul_add,<-Nat.add_assoc,Nat.mul_comm 256 (b.toNat*256 ^ r.length),Nat.mul_assoc b.toNat]
def atN(s:JL)(a n:Nat):Nat:=leN ((s.drop a).take n)
theorem Qr1(s:JL)(a n:Nat):atN s a n<256 ^ n:=by
 unfold atN;refine qK (QAN _) (Nat.pow_le_pow_right (by decide) ?_)
 rw[qW];exact Nat.min_le_left _ _
def Qko(x:Nat):Int:=if x<2147483648 then (x:Int) else (x:Int)-4294967296
structure Hdr where
 rf:Nat
 rl:Nat
 mf:Nat
 ml:Nat
 lf:Nat
 ll:Nat
 df:Nat
 dl:Nat
 ad:Nat
 en:Nat
 co:Nat
 cl:Bool
 inn:Nat
 out:Nat
 kd:Nat
 z0:Int
 z1:Int
 x0:Int
 y0:Int
 x1:Int
 y1:Int
 zo:Int
 lo:Int
 la:Int
def Qe7:JL:=[80,77,84,105,108,101,115]
def Qoa(s:JL):Hdr:=
 { rf:=atN s 8 8,rl:=atN s 16 8,mf:=atN s 24 8,ml:=atN s 32 8,lf:=atN s 40 8,ll:=atN s 48 8,df:=atN s 56 8,dl:=atN s 64 8,ad:=atN s 72 8,en:=atN s 80 8,co:=atN s 88 8,cl:=decide (atN s 96 1=1),inn:=atN s 97 1,out:=atN s 98 1,kd:=atN s 99 1,z0:=(atN s 100 1:Nat),z1:=(atN s 101 1:Nat),x0:=Qko (atN s 102 4),y0:=Qko (atN s 106 4),x1:=Qko (atN s 110 4),y1:=Qko (atN s 114 4),zo:=(atN s 118 1:Nat),lo:=Qko (atN s 119 4),la:=Qko (atN s 123 4) }
def QA8:Hdr:=⟨0,0,0,0,0,0,0,0,0,0,0,false,0,0,0,0,0,0,0,0,0,0,0,0⟩
def Qnn(f l:Nat):Bool:=decide (f<=Qds)&&(decide (l<=Qds)&&decide (f+l<=Qds))
def Qd5(h:Hdr):Bool:=Qnn h.rf h.rl&&(Qnn h.mf h.ml&&(Qnn h.lf h.ll&&Qnn h.df h.dl))
def inB(lo hi x:Int):Bool:=decide (lo<=x)&&decide (x<=hi)
def QkG(h:Hdr):Nat:=
 if Qd5 h=false then 8
 else if 4<h.inn\/4<h.out\/5<h.kd then 14
 else if (inB 0 26 h.z0&&(inB 0 26 h.z1&&inB 0 26 h.zo))=false\/h.z1<h.z0 then 8
 else if (inB (-1800000000) 1800000000 h.x0&&(inB (-1800000000) 1800000000 h.x1&&inB (-1800000000) 1800000000 h.lo))=false\/h.x1<h.x0 then 8
 else if (inB (-900000000) 900000000 h.y0&&(inB (-900000000) 900000000 h.y1&&inB (-900000000) 900000000 h.la))=false\/h.y1<h.y0 then 8
 else 0
def Qf3(s:JL):Nat:=if s.length<127 then 3 else if s.take 7≠Qe7 then 12 else if (s.getD 7 0).toNat≠3 then 13 else if 1<atN s 96 1 then 4 else QkG (Qoa s)
def Qqe(h:Hdr)(n:Nat):Nat:=
 if h.inn≠1\/h.out≠1 then 14 else if n<h.rf+h.rl\/n<h.mf+h.ml\/n<h.lf+h.ll\/n<h.df+h.dl then 8 else if 16384<h.rf+h.rl then 8 else 0
theorem Qj9(h:Hdr)(a:QkG h=0):Qd5 h=true:=by
 unfold QkG at a;split at a
 ·cases a
 ·rename_i b
  cases c:Qd5 h
  ·exact JN c b
  ·rfl
theorem QlV(f l:Nat)(h:Qnn f l=true):f<=Qds/\l<=Qds/\f+l<=Qds:=by
 unfold Qnn at h;rw[JD,JD,qO,qO,qO] at h;exact h
theorem QlU(h:Hdr)(a:Qd5 h=true):(h.rf<=Qds/\h.rl<=Qds/\h.rf+h.rl<=Qds)/\(h.mf<=Qds/\h.ml<=Qds/\h.mf+h.ml<=Qds)/\(h.lf<=Qds/\h.ll<=Qds/\h.lf+h.ll<=Qds)/\(h.df<=Qds/\h.dl<=Qds/\h.df+h.dl<=Qds):=by
 unfold Qd5 at a;rw[JD,JD,JD] at a;exact⟨QlV _ _ a.1,QlV _ _ a.2.1,QlV _ _ a.2.2.1,QlV _ _ a.2.2.2⟩
def QeQ(f:JL):JL:=f.take 16384
def Qcf(f:JL):Hdr:=Qoa (QeQ f)
def Qee(f:JL)(a n:Nat):JL:=(f.drop a).take n
def Qic(f:JL):Nat:=if f.length<127 then 3 else if Qf3 (QeQ f)≠0 then Qf3 (QeQ f) else Qqe (Qcf f) f.length
def QdW(f:JL):JL:=Qee f (Qcf f).rf (Qcf f).rl
def QcD(f:JL):Nat:=if Qic f≠0 then Qic f else (QcL (QdW f)).1
theorem Qq9(f:JL)(h:Qic f=0):127<=f.length/\Qf3 (QeQ f)=0/\Qqe (Qcf f) f.length=0/\Qd5 (Qcf f)=true:=by
 unfold Qic at h
 by_cases b:f.length<127
 ·rw[JK b] at h;cases h
 rw[JJ b] at h
 by_cases a:Qf3 (QeQ f)=0
 ·rw[JJ (fun e=>e a)] at h
  refine⟨by omega,a,h,?_⟩
  unfold Qf3 at a;split at a
  ·cases a
  ·split at a
   ·cases a
   ·split at a
    ·cases a
    ·split at a
     ·cases a
     ·exact Qj9 _ a
 ·rw[JK a] at h;exact JN h a
theorem Qqd(h:Hdr)(n:Nat)(a:Qqe h n=0):h.rf+h.rl<=n/\h.mf+h.ml<=n/\h.lf+h.ll<=n/\h.df+h.dl<=n/\h.rf+h.rl<=16384:=by
 unfold Qqe at a;split at a
 ·cases a
 ·split at a
  ·cases a
  ·split at a
   ·cases a
   ·omega
theorem Qsx(f:JL)(h:Qic f=0):QdW f=Qee (QeQ f) (Qcf f).rf (Qcf f).rl:=by
 obtain⟨-,-,h3,-⟩:=Qq9 f h;obtain⟨-,-,-,-,g⟩:=Qqd _ _ h3;unfold QdW Qee QeQ;rw[List.drop_take,List.take_take,Nat.min_eq_left (by omega)]
def Qdz(l:Nat)(most:Nat)(x:Ent):Nat:=if l<x.2.1+x.2.2.1 then 8 else if most<x.2.2.1 then 5 else 0
theorem Qq5(l a:Nat)(x:Ent)(h:Qdz l a x=0):x.2.1+x.2.2.1<=l/\x.2.2.1<=a:=by
 unfold Qdz at h;split at h
 ·cases h
 ·split at h
  ·cases h
  ·omega
def QqN(f:JL)(id:Nat):Nat->List Ent->Nat×JL×Bool
 |d,l=>
  match QfJ l id with
  |none=>(0,[],false)
  |some x=>
   if 0<x.2.2.2 then
    (if Qdz (Qcf f).dl 65536 x≠0 then (Qdz (Qcf f).dl 65536 x,[],false) else (0,Qee f ((Qcf f).df+x.2.1) x.2.2.1,true))
   else match d with
    |0=>(20,[],false)
    |d+1=>
     if Qdz (Qcf f).ll 65536 x≠0 then (Qdz (Qcf f).ll 65536 x,[],false)
     else if (QcL (Qee f ((Qcf f).lf+x.2.1) x.2.2.1)).1≠0 then ((QcL (Qee f ((Qcf f).lf+x.2.1) x.2.2.1)).1,[],false)
     else QqN f id d (QcL (Qee f ((Qcf f).lf+x.2.1) x.2.2.1)).2
def Qsl(f:JL)(id:Nat):Nat×JL×Bool:=
 if QcD f≠0 then (QcD f,[],false) else QqN f id 2 (QcL (QdW f)).2
theorem QxV(f:JL)(id d:Nat)(l:List Ent)(h:QfJ l id=none):QqN f id d l=(0,[],false):=by
 unfold QqN;rw[h]
theorem QxU(f:JL)(id d:Nat)(l:List Ent)(x:Ent)(h:QfJ l id=some x)(a:0<x.2.2.2):QqN f id d l=(if Qdz (Qcf f).dl 65536 x≠0 then (Qdz (Qcf f).dl 65536 x,[],false) else (0,Qee f ((Qcf f).df+x.2.1) x.2.2.1,true)):=by
 unfold QqN;rw[h];exact JK a
theorem QxW(f:JL)(id:Nat)(l:List Ent)(x:Ent)(h:QfJ l id=some x)(a:x.2.2.2=0):QqN f id 0 l=(20,[],false):=by
 unfold QqN;rw[h];exact JJ (by omega)
theorem QDa(f:JL)(id d:Nat)(l:List Ent)(x:Ent)(h:QfJ l id=some x)(a:x.2.2.2=0):QqN f id (d+1) l=(if Qdz (Qcf f).ll 65536 x≠0 then (Qdz (Qcf f).ll 65536 x,[],false)
     else if (QcL (Qee f ((Qcf f).lf+x.2.1) x.2.2.1)).1≠0 then ((QcL (Qee f ((Qcf f).lf+x.2.1) x.2.2.1)).1,[],false)
     else QqN f id d (QcL (Qee f ((Qcf f).lf+x.2.1) x.2.2.1)).2):=by
 conv=>lhs;unfold QqN
 rw[h];exact JJ (by omega)
def QcJ:Nat->Nat->JL
 |0,x=>[UInt8.ofNat x]
 |k+1,x=>if x<128 then [UInt8.ofNat x] else UInt8.ofNat (x%128+128) :: QcJ k (x/128)
def QfP(x:Nat):JL:=QcJ 9 x
theorem QkW(k:Nat):∀x,x<128 ^ (k+1)->(∀r,vK (QcJ k x++r)+1=(QcJ k x).length)/\QoP (QcJ k x)=x/\(QcJ k x).length<=k+1/\
  (∀r,(((QcJ k x)++r).getD ((QcJ k x).length-1) 0).toNat=x/128 ^ ((QcJ k x).length-1))/\x/128 ^ ((QcJ k x).length-1)<128/\(1<(QcJ k x).length->x/128 ^ ((QcJ k x).length-1)≠0):=by
 have c:∀x,x<128->(∀r,vK ([UInt8.ofNat x]++r)+1 = [UInt8.ofNat x].length)/\QoP [UInt8.ofNat x]=x/\(∀r,(([UInt8.ofNat x]++r).getD ([UInt8.ofNat x].length-1) 0).toNat=x/128 ^ ([UInt8.ofNat x].length-1))/\x/128 ^ ([UInt8.ofNat x].length-1)<128:=by
  intro x hx;have b:(UInt8.ofNat x).toNat=x:=by rw[UInt8.toNat_ofNat'];omega
  refine⟨fun r=>?_,?_,fun r=>?_,?_⟩
  ·unfold vK
   rw[List.singleton_append,List.takeWhile_cons,b,qB (by omega)];rfl
  ·unfold QoP QoP
   rw[b];omega
  ·show (UInt8.ofNat x).toNat=x/128 ^ 0
   rw[b,Nat.pow_zero,Nat.div_one]
  ·show x/128 ^ 0<128
   rw[Nat.pow_zero,Nat.div_one];exact hx
 induction k with
 |zero=>
  intro x hx;obtain⟨h1,h2,h3,h4⟩:=c x (by simpa using hx)
  unfold QcJ;exact⟨h1,h2,qC _,h3,h4,fun h=>by simp at h⟩
 |succ k ih=>
  intro x hx;unfold QcJ
  by_cases f:x<128
  ·rw[JK f]
   obtain⟨h1,h2,h3,h4⟩:=c x f;exact⟨h1,h2,by simp,h3,h4,fun h=>by simp at h⟩
  ·rw[JJ f]
   have i:x/128<128 ^ (k+1):=by
    rw[Nat.div_lt_iff_lt_mul (by decide),<-Nat.pow_succ];exact hx
   obtain⟨h1,h2,h3,h4,h5,h6⟩:=ih (x/128) i;have b:(UInt8.ofNat (x%128+128)).toNat=x%128+128:=by rw[UInt8.toNat_ofNat'];omega
   have j:0<(QcJ k (x/128)).length:=by have:=h1 [];omega
   have g:(UInt8.ofNat (x%128+128) :: QcJ k (x/128)).length-1=(QcJ k (x/128)).length-1+1:=by rw[qH];omega
   have a:x/128 ^ ((QcJ k (x/128)).length-1+1)=x/128/128 ^ ((QcJ k (x/128)).length-1):=by
    rw[Nat.pow_succ,Nat.mul_comm,Nat.div_div_eq_div_mul]
   refine⟨fun r=>?_,?_,by rw[qH];omega,fun r=>?_,?_,fun _=>?_⟩
   ·have:=h1 r
    unfold vK at this ⊢;rw[J4,List.takeWhile_cons,b,qA (by omega),JK rfl,qH,qH]
    omega
   ·unfold QoP
    rw[b,h2];omega
   ·rw[g,a,J4]
    exact h4 r
   ·rw[g,a];exact h5
   ·rw[g,a]
    by_cases d:1<(QcJ k (x/128)).length
    ·exact h6 d
    ·have:(QcJ k (x/128)).length-1=0:=by omega
     rw[this,Nat.pow_zero,Nat.div_one];omega
theorem Qnv(x:Nat)(hx:x<18446744073709551616)(r:JL):vE (QfP x++r)=0/\vX (QfP x++r)=x/\vN (QfP x++r)=(QfP x).length/\(QfP x++r).drop (vN (QfP x++r))=r:=by
 have f:x<128 ^ (9+1):=qK hx (by decide)
 obtain⟨c,h2,h3,a,h5,h6⟩:=QkW 9 x f;have c:=c r;have a:=a r;have d:vN (QfP x++r)=(QfP x).length:=by unfold vN;exact c
 have b:vK (QfP x++r)=(QcJ 9 x).length-1:=by unfold QfP;omega
 refine⟨?_,?_,d,by rw[d,List.drop_left]⟩
 ·unfold vE
  rw[JJ (by rw[b];omega),JJ (by rw[b,qG];unfold QfP;omega),JJ,JJ]
  ·rintro⟨g1,g2⟩
   rw[b] at g1 g2;unfold QfP at g2;rw[a] at g2;exact h6 (by omega) g2
  ·rintro⟨g1,g2⟩
   rw[b] at g1;rw[g1] at a;unfold QfP at g2;rw[a] at g2;have:x/128 ^ 9<=1:=by
    have g:(128:Nat) ^ 9=9223372036854775808:=by decide
    rw[g];omega
   omega
 ·unfold vX
  rw[d,List.take_left];exact h2
theorem Ql7(x:Nat)(hx:x<18446744073709551616):0<(QfP x).length/\(QfP x).length<=10:=by
 have b:x<128 ^ (9+1):=qK hx (by decide)
 obtain⟨a,h2,h3,-⟩:=QkW 9 x b;have a:=a [];unfold QfP;omega
def QpG(c i:Nat)(Qaw e:Ent):Nat:=
 if c=0 then e.1-Qaw.1 else if c=1 then e.2.2.2 else if c=2 then e.2.2.1 else if 0<i/\e.2.1=Qeo Qaw then 0 else e.2.1+1
def QdY(c:Nat):Nat->Ent->List Ent->List Nat
 |_,_,[]=>[]
 |i,Qaw,e :: r=>QpG c i Qaw e :: QdY c (i+1) e r
def QeO(l:List Ent):List Nat:=l.length :: (QdY 0 0 Qa7 l++QdY 1 0 Qa7 l++QdY 2 0 Qa7 l++QdY 3 0 Qa7 l)
def Qa6(l:List Nat):JL:=l.flatMap QfP
def Qb3(l:List Ent):JL:=Qa6 (QeO l)
theorem QcA(a b:List Nat):Qa6 (a++b)=Qa6 a++Qa6 b:=by unfold Qa6;rw[List.flatMap_append]
theorem QdF(c:Nat)(l:List Ent):∀(i:Nat) (Qaw:Ent),(QdY c i Qaw l).length=l.length:=by
 induction l with
 |nil=>intro i Qaw;rfl
 |cons e r ih=>intro i Qaw;unfold QdY;rw[qH,ih,qH]
theorem QhT(l:List Ent):(QeO l).length=1+4*l.length:=by
 unfold QeO;rw[qH,qG,qG,qG,QdF,QdF,QdF,QdF];omega
def Qud(c:Nat)(e0 e:Ent):Ent:=
 if c=0 then (e.1,e0.2.1,e0.2.2.1,e0.2.2.2) else if c=1 then (e0.1,e0.2.1,e0.2.2.1,e.2.2.2) else if c=2 then (e0.1,e0.2.1,e.2.2.1,e0.2.2.2) else (e0.1,e.2.1,e0.2.2.1,e0.2.2.2)
def Qsy:Nat->List Ent->Prop
 |_,[]=>True
 |a,e :: r=>a<=e.1/\Qsy e.1 r
theorem Ql1:∀(l:List Ent) (free a:Nat),a<=free->Qm1 free l=0->Qsy a l
 |[],_,_,_,_=>trivial
 |e :: r,free,a,ha,h=>by
  unfold Qm1 at h
  by_cases b:Qcj e=0
  ·rw[JJ (fun x=>x b)] at h
   by_cases c:e.1<free
   ·rw[JK c] at h;cases h
   ·rw[JJ c] at h
    refine⟨by omega,Ql1 r _ _ ?_ h⟩
    unfold QdM;rw[JK b];have:1<=max 1 e.2.2.2:=Nat.le_max_left _ _;omega
  ·rw[JK b] at h;exact JN h b
theorem QiG(c:Nat)(l:List Ent):∀(i:Nat) (g a:Ent) (f:List Ent) (b:JL),f.length=l.length->(∀e∈l,Qbt e/\Qcj e=0)->c<4->g.1=a.1\/c≠0->(c=3->∀j,(f.getD j Qa7).2.2.1=(l.getD j Qa7).2.2.1)->(c=3->0<i->Qeo g=Qeo a)->Qsy a.1 l\/c≠0->
  QgQ c i g f (Qa6 (QdY c i a l)++b)=(0,List.zipWith (Qud c) f l,b):=by
 induction l with
 |nil=>
  intro i g a f b y _ _ _ _ _ _;cases f with
  |nil=>rfl
  |cons _ _=>cases y
 |cons e r ih=>
  intro i g a f b y v M I G H q;cases f with
  |nil=>cases y
  |cons e0 f=>
   obtain⟨⟨o1,o2,o3,o4⟩,hck⟩:=v e JF;obtain⟨k1,k2,k3⟩:=Qf9 e hck;have L:Qds=1099511627776:=rfl;have hx:QpG c i a e<18446744073709551616:=by
    unfold QpG;split
    ·omega
    ·split
     ·omega
     ·split
      ·omega
      ·split<;>omega
   unfold QdY;have C:Qa6 (QpG c i a e :: QdY c (i+1) e r)=QfP (QpG c i a e)++Qa6 (QdY c (i+1) e r):=by unfold Qa6;rw[List.flatMap_cons]
   rw[C,qP];obtain⟨g1,g2,g3,g4⟩:=Qnv (QpG c i a e) hx (Qa6 (QdY c (i+1) e r)++b);have A:QeM c i g e0 (QpG c i a e)=(0,Qud c e0 e):=by
    unfold QeM Qud QpG
    by_cases d:c=0
    ·rw[JK d,JK d,JK d]
     have J:=I.resolve_right (fun x=>x d)
     have N:=(q.resolve_right (fun x=>x d)).1
     have K:(g.1+(e.1-a.1))%18446744073709551616=e.1:=by rw[J];omega
     rw[K,JJ (by omega)]
    ·rw[JJ d,JJ d,JJ d]
     by_cases m:c=1
     ·rw[JK m,JK m,JK m,JJ (by omega)]
     ·rw[JJ m,JJ m,JJ m]
      by_cases n:c=2
      ·rw[JK n,JK n,JK n,JJ (by omega)]
      ·rw[JJ n,JJ n,JJ n]
       have p:c=3:=by omega
       by_cases t:0<i/\e.2.1=Qeo a
       ·rw[JK t,JJ (by omega),JK rfl,H p t.1,<-t.2]
       ·have k:¬((i=0/\e.2.1+1=0)\/(0<i/\0<e.2.1+1/\e.2.1+1-1=Qeo g)):=by
         rintro (h|⟨E,-,D⟩)
         ·omega
         ·rw[Nat.add_sub_cancel] at D
          exact t ⟨E,by rw[D];exact H p E⟩
        rw[JJ t,JJ k,JJ (by omega),Nat.add_sub_cancel]
   unfold QgQ;rw[g1,JJ (fun x=>x rfl),g2,A,JJ (fun x=>x rfl),g4]
   have B:=ih (i+1) (Qud c e0 e) e f b (by simpa using y) (fun x hx=>v x (JY _ hx)) M ?_ ?_ ?_ ?_
   ·rw[B];rfl
   ·by_cases d:c=0
    ·left;unfold Qud;rw[JK d]
    ·exact .inr d
   ·intro p j
    exact G p (j+1)
   ·intro p _
    have z:=G p 0;have s:e0.2.2.1=e.2.2.1:=z;unfold Qeo Qud;rw[JJ (by omega),JJ (by omega),JJ (by omega)]
    show (e.2.1+e0.2.2.1)%_=_;rw[s]
   ·rcases q with q|q
    ·exact .inl q.2
    ·exact .inr q
theorem QA6(l:List Ent):∀(a:List Ent),a.length=l.length->List.zipWith (Qud 3) (List.zipWith (Qud 2) (List.zipWith (Qud 1) (List.zipWith (Qud 0) a l) l) l) l=l:=by
 induction l with
 |nil=>intro a h;cases a with
  |nil=>rfl
  |cons _ _=>cases h
 |cons e r ih=>intro a h;cases a with
  |nil=>cases h
  |cons e0 a=>
   rw[List.zipWith_cons_cons,List.zipWith_cons_cons,List.zipWith_cons_cons,List.zipWith_cons_cons,ih a (by simpa using h)]
   rfl
theorem QoW(c:Nat)(l a:List Ent)(h:a.length=l.length):(List.zipWith (Qud c) a l).length=l.length:=by rw[List.length_zipWith,h,Nat.min_self]
theorem QA5(l:List Ent):∀(a:List Ent) (j:Nat),a.length=l.length->((List.zipWith (Qud 2) a l).getD j Qa7).2.2.1=(l.getD j Qa7).2.2.1:=by
 induction l with
 |nil=>intro a j h;cases a with
  |nil=>rfl
  |cons _ _=>cases h
 |cons e r ih=>intro a j h;cases a with
  |nil=>cases h
  |cons e0 a=>
   cases j with
   |zero=>rfl
   |succ j=>exact ih a j (by simpa using h)
theorem QmQ(l:List Ent)(b:QeZ l=0)(d:∀e∈l,Qbt e)(v:(Qb3 l).length<=65536):QcL (Qb3 l)=(0,l):=by
 have y:l.length<=4096:=by
  unfold QeZ at b;split at b
  ·cases b
  ·omega
 have c:Qm1 0 l=0:=by
  unfold QeZ at b;rw[JJ (by omega)] at b
  exact b
 have k:=QlY l 0 c;have a:∀e∈l,Qbt e/\Qcj e=0:=fun e he=>⟨d e he,k e he⟩
 have i:=Ql1 l 0 0 (qC _) c;have m:Qb3 l=QfP l.length++(Qa6 (QdY 0 0 Qa7 l)++(Qa6 (QdY 1 0 Qa7 l)++(Qa6 (QdY 2 0 Qa7 l)++(Qa6 (QdY 3 0 Qa7 l)++[])))):=by
  unfold Qb3 QeO;show QfP l.length++Qa6 _=_;rw[QcA,QcA,QcA,qT,qP,qP]
 obtain⟨g1,g2,g3,g4⟩:=Qnv l.length (by omega) (Qa6 (QdY 0 0 Qa7 l)++(Qa6 (QdY 1 0 Qa7 l)++(Qa6 (QdY 2 0 Qa7 l)++(Qa6 (QdY 3 0 Qa7 l)++[]))))
 rw[<-m] at g1 g2 g3 g4;unfold QcL;rw[JJ (by omega),JJ (fun x=>x g1),g2,JJ (by omega),g4]
 have f:(List.replicate l.length Qa7).length=l.length:=List.length_replicate;have n:=QoW 0 l _ f;have g:=QoW 1 l _ n;have t:=QoW 2 l _ g;have r:=QiG 0 l 0 Qa7 Qa7 (List.replicate l.length Qa7) (Qa6 (QdY 1 0 Qa7 l)++(Qa6 (QdY 2 0 Qa7 l)++(Qa6 (QdY 3 0 Qa7 l)++[]))) f a (by decide) (.inl rfl) (fun h=>by cases h) (fun h=>by cases h) (.inl i)
 have s:=QiG 1 l 0 Qa7 Qa7 _ (Qa6 (QdY 2 0 Qa7 l)++(Qa6 (QdY 3 0 Qa7 l)++[])) n a (by decide) (.inl rfl) (fun h=>by cases h) (fun h=>by cases h) (.inr (by decide))
 have p:=QiG 2 l 0 Qa7 Qa7 _ (Qa6 (QdY 3 0 Qa7 l)++[]) g a (by decide) (.inl rfl) (fun h=>by cases h) (fun h=>by cases h) (.inr (by decide))
 have q:=QiG 3 l 0 Qa7 Qa7 _ [] t a (by decide) (.inl rfl) (fun _ j=>QA5 l _ j g) (fun _ h=>JN h (by decide)) (.inr (by decide))
 unfold QeC;rw[r,JJ (fun x=>x rfl)]
 unfold QeC;rw[s,JJ (fun x=>x rfl)]
 unfold QeC;rw[p,JJ (fun x=>x rfl)]
 unfold QeC;rw[q,JJ (fun x=>x rfl)]
 unfold QeC;rw[JJ (fun x=>x rfl),QA6 l _ f,JJ (fun x=>x b)]
def E4(W:World)(b i o n r:Nat):Prop:=W.cell? (Ja b 0)=some (Ju (i:Int))/\W.cell? (Ja b 1)=some (Ju (o:Int))/\W.cell? (Ja b 2)=some (Jd (n:Int))/\W.cell? (Ja b 3)=some (Jd (r:Int))
theorem QrJ(w:World)(i o n r:Nat)(t:JT):E4 (w.alloc (.cells #[Ju i,Ju o,Jd n,Jd r] t)) w.heap.size i o n r:=Qdh w _ _ _ _ t
theorem QdT{W W':World}{b i o n r:Nat}(h:E4 W b i o n r)(a:b<W.heap.size)(c:Jw W W'):E4 W' b i o n r:=
 ⟨(c.cell (p:=(Ja b 0)) a).trans h.1,(c.cell (p:=(Ja b 1)) a).trans h.2.1,(c.cell (p:=(Ja b 2)) a).trans h.2.2.1,(c.cell (p:=(Ja b 3)) a).trans h.2.2.2⟩
theorem QEV(i o n r:Nat)(h:n=0):Qcj (i,o,n,r)=2:=by unfold Qcj;exact JK h
theorem QEU(i o n r:Nat)(h:n≠0)(a:QfV-max 1 r<i):Qcj (i,o,n,r)=8:=by unfold Qcj;rw[JJ h,JK a]
theorem QDV(i o n r:Nat)(h:n≠0)(a:¬QfV-max 1 r<i)(b:Qds<o\/Qds<o+n):Qcj (i,o,n,r)=8:=by unfold Qcj;rw[JJ h,JJ a,JK b]
theorem QET(i o n r:Nat)(h:n≠0)(a:¬QfV-max 1 r<i)(b:¬(Qds<o\/Qds<o+n)):Qcj (i,o,n,r)=0:=by unfold Qcj;rw[JJ h,JJ a,JJ b]
theorem Qvd{w a b:World}(c:Jw w a)(h:∃p:BelowOf a,b=p.world):Jw w b:=Qaa c (QaQ h)
theorem QjV(i o n r:Nat)(w:World)(V:i<18446744073709551616)(U:o<18446744073709551616)(P:n<4294967296)(O:r<4294967296) :
  Calls prog 82 #[.agg #[Ju i,Ju o,Jd n,Jd r]] w (JB (Ji (Qcj (i,o,n,r):Nat)) w):=by
 have D:=QrJ w i o n r 61;have d:=QaV w (Ju i) (Ju o) (Jd n) (Jd r) 61;have b:=Z d;have A:=Z (fun W=>Qlo i o n r W O)
 have H:=Z (fun W h=>Qw1 i o n r W h P)
 have c:w.heap.size<(w.alloc (.cells #[Ju i,Ju o,Jd n,Jd r] 61)).heap.size:=by simp
 by_cases g:n=0
 ·have h:=QEV i o n r g
  obtain⟨c0,c1,c2,c3⟩:=D;have N:((n:Int)==0)=true:=by rw[g];rfl
  rw[h];clear h g d;go_enter func82,ntmps82;go_wp2;go_ret;exact⟨rfl,b.o⟩
 have N:((n:Int)==0)=false:=by rw[qI];omega
 obtain⟨M,hM⟩:∃M,max 1 r=M:=⟨_,rfl⟩;have L:1<=M/\M<4294967296:=by omega
 have R:IntKind.u64.wrap (6004799503160661-(M:Int))=((6004799503160661-M:Nat):Int):=by rw[JU];omega
 by_cases k:QfV-max 1 r<i
 ·have h:=QEU i o n r g k
  rw[hM] at k A;unfold QfV at k;have J:decide (6004799503160661-M<i)=true:=qA (by omega)
  rw[h];have HA:=Z (fun (p:BelowOf (w.alloc (.cells #[Ju i,Ju o,Jd n,Jd r] 61)))=>QdT D c p.below)
  obtain⟨c0,c1,c2,c3⟩:=D;clear h g k d hM c;go_enter func82,ntmps82;go_wp2_with fail;generalize w.alloc (.cells #[Ju i,Ju o,Jd n,Jd r] 61)=W0 at HA b c0 c1 c2 c3 ⊢;have z:=fun p=>(HA.o p).1
  have x:=fun p=>(HA.o p).2.1
  have B:=fun p=>(HA.o p).2.2.1
  have y:=fun p=>(HA.o p).2.2.2
  refine Qae (by kernel_rfl) (by kernel_rfl) ?_
  repeat (go_big_quiet_step ((go_at_call 128;exact QaA (A.o _))))
  refine wpQuiet_nil ?_;intro G a;have l:=Z (Qvd b.o a);clear a;go_wp2;go_ret;exact⟨rfl,l.o⟩
 ·have f:=k
  rw[hM] at k A;unfold QfV at k;have J:decide (6004799503160661-M<i)=false:=qB (by omega)
  have HA:=Z (fun W (K:Below (w.alloc (.cells #[Ju i,Ju o,Jd n,Jd r] 61)).heap.size (w.alloc (.cells #[Ju i,Ju o,Jd n,Jd r] 61)) W)=>QdT D c K)
  obtain⟨c0,c1,c2,c3⟩:=D
  by_cases t:Qds<o
  ·have h:=QDV i o n r g f (.inl t)
   unfold Qds at t;have I:decide ((o:Int)>1099511627776)=true:=qA (by omega)
   rw[h];clear h g k f t d hM c;go_enter func82,ntmps82;go_wp2_with fail;generalize w.alloc (.cells #[Ju i,Ju o,Jd n,Jd r] 61)=W0 at HA b c0 c1 c2 c3 ⊢;have z:=fun (p:BelowOf W0)=>(HA.o _ p.below).1
   have x:=fun (p:BelowOf W0)=>(HA.o _ p.below).2.1
   have B:=fun (p:BelowOf W0)=>(HA.o _ p.below).2.2.1
   have y:=fun (p:BelowOf W0)=>(HA.o _ p.below).2.2.2
   refine Qae (by kernel_rfl) (by kernel_rfl) ?_
   repeat (go_big_quiet_step ((go_at_call 128;exact QaA (A.o _))))
   refine wpQuiet_nil ?_;intro G a;have l:=Z (QaQ a);clear a z x B y;obtain⟨d0,d1,d2,d3⟩:=HA.o _ l.o;go_wp2;go_ret;exact⟨rfl,Qaa b.o l.o⟩
  ·have s:o<=Qds:=by omega
   have m:=Z (fun W=>H.o W s)
   by_cases C:Qds<o+n
   ·have h:=QDV i o n r g f (.inr C)
    unfold Qds at t C;have I:decide ((o:Int)>1099511627776)=false:=qB (by omega)
    have E:decide (((o+n:Nat):Int)>1099511627776)=true:=qA (by omega)
    rw[h];clear h g k f t s C d hM c H;generalize o+n=S at m E;go_enter func82,ntmps82;go_wp2_with fail;generalize w.alloc (.cells #[Ju i,Ju o,Jd n,Jd r] 61)=W0 at HA b c0 c1 c2 c3 ⊢;have z:=fun (p:BelowOf W0)=>(HA.o _ p.below).1
    have x:=fun (p:BelowOf W0)=>(HA.o _ p.below).2.1
    have B:=fun (p:BelowOf W0)=>(HA.o _ p.below).2.2.1
    have y:=fun (p:BelowOf W0)=>(HA.o _ p.below).2.2.2
    refine Qae (by kernel_rfl) (by kernel_rfl) ?_
    repeat (go_big_quiet_step ((go_at_call 128;exact QaA (A.o _))))
    refine wpQuiet_nil ?_;intro G a;have l:=Z (QaQ a);clear a z x B y;obtain⟨d0,d1,d2,d3⟩:=HA.o _ l.o;go_wp2_with fail;refine (m.o _).mono ?_;rintro e T ⟨rfl,j⟩;have v:=Z (Qaa l.o j);clear j;go_wp2;go_ret;exact⟨rfl,Qaa b.o v.o⟩
   ·have h:=QET i o n r g f (by rintro (q|q)<;>omega)
    unfold Qds at t C;have I:decide ((o:Int)>1099511627776)=false:=qB (by omega)
    have E:decide (((o+n:Nat):Int)>1099511627776)=false:=qB (by omega)
    rw[h];clear h g k f t s C d hM c H;generalize o+n=S at m E;go_enter func82,ntmps82;go_wp2_with fail;generalize w.alloc (.cells #[Ju i,Ju o,Jd n,Jd r] 61)=W0 at HA b c0 c1 c2 c3 ⊢;have z:=fun (p:BelowOf W0)=>(HA.o _ p.below).1
    have x:=fun (p:BelowOf W0)=>(HA.o _ p.below).2.1
    have B:=fun (p:BelowOf W0)=>(HA.o _ p.below).2.2.1
    have y:=fun (p:BelowOf W0)=>(HA.o _ p.below).2.2.2
    refine Qae (by kernel_rfl) (by kernel_rfl) ?_
    repeat (go_big_quiet_step ((go_at_call 128;exact QaA (A.o _))))
    refine wpQuiet_nil ?_;intro G a;have l:=Z (QaQ a);clear a z x B y;obtain⟨d0,d1,d2,d3⟩:=HA.o _ l.o;go_wp2_with fail;refine (m.o _).mono ?_;rintro e T ⟨rfl,j⟩;have v:=Z (Qaa l.o j);clear j;go_wp2;go_ret;exact⟨rfl,Qaa b.o v.o⟩
end
section
def QBr:Value->Option Nat
 | .slice (some a) _ _=>some a.block
 |_=>none
theorem Qhb{w w':World}{a:Addr}(h:w'.heap[a.block]?=w.heap[a.block]?):w'.cell? a=w.cell? a:=by unfold World.cell?;rw[h]
def HoldsR(k:Nat)(w:World)(v:Value)(n:Nat)(cs:JV):Prop:=
 cs.length=n*k/\∃a c,v=.slice a n c/\n<=c/\(n≠0->∃b o,a=some (Ja b o)/\b<w.heap.size/\∀i u,cs[i]?=some u->w.cell? (Ja b (o+i))=some u)
section
variable {k n:Nat} {w w':World} {v:Value} {cs:JV}
theorem HoldsR.below(h:HoldsR k w v n cs)(d:Jw w w'):HoldsR k w' v n cs:=by
 obtain⟨h0,a,c,hv,hc,hx⟩:=h;refine⟨h0,a,c,hv,hc,fun hne=>?_⟩
 obtain⟨b,o,ha,hlt,Qak⟩:=hx hne;exact⟨b,o,ha,qK hlt d.size,fun i u hu=>(d.cell (p:=(Ja b (o+i))) hlt).trans (Qak i u hu)⟩
theorem HoldsR.kept(h:HoldsR k w v n cs)(d:w.heap.size<=w'.heap.size)(f:∀b,QBr v=some b->w'.heap[b]?=w.heap[b]?):HoldsR k w' v n cs:=by
 obtain⟨h0,a,c,rfl,hc,hx⟩:=h;refine⟨h0,a,c,rfl,hc,fun hne=>?_⟩
 obtain⟨b,o,rfl,hlt,Qak⟩:=hx hne;exact⟨b,o,rfl,qK hlt d,fun i u hu=>(Qhb (a:=(Ja b (o+i))) (f b rfl)).trans (Qak i u hu)⟩
theorem HoldsR.empty(k:Nat)(w:World)(a:Option Addr)(c:Nat):HoldsR k w (.slice a 0 c) 0 []:=⟨by simp,a,c,rfl,qL _,fun h=>JN rfl h⟩
theorem HoldsR.len(h:HoldsR k w v n cs):∃a c,v=.slice a n c/\n<=c:=let ⟨_,a,c,h1,h2,_⟩:=h;⟨a,c,h1,h2⟩
theorem HoldsR.of_own{base:Nat}{e:JT}(h:w.ownsRow base e k v n cs):HoldsR k w v n cs:=by
 refine⟨h.1,?_⟩;rcases id h.2 with⟨rfl,h0⟩|⟨g,cap,cur,rfl,hb,hg,hle,hm,hs,ht⟩
 ·exact⟨none,0,by rw[h0],by omega,fun hne=>JN h0 hne⟩
 ·refine⟨_,cap,rfl,hle,fun _=>⟨g,0,rfl,(gsi hg).1,fun i u hu=>?_⟩⟩
  have:=h.cells (g:=g) rfl i u hu;have a:((Ja g 0):Addr).add i=(Ja g (0+i)):=by unfold Addr.add;split<;>simp_all
  rwa[a] at this
theorem HoldsR.at(h:HoldsR k w v n cs)(d:n≠0):∃b o c,v=.slice (some (Ja b o)) n c/\n<=c/\b<w.heap.size/\∀i u,cs[i]?=some u->w.cell? (Ja b (o+i))=some u:=by
 obtain⟨-,a,c,rfl,hc,hx⟩:=h;obtain⟨b,o,rfl,hlt,Qak⟩:=hx d;exact⟨b,o,c,rfl,hc,hlt,Qak⟩
end
def QzT(e:Ent):JV:=[Ju e.1,Ju e.2.1,Jd e.2.2.1,Jd e.2.2.2]
def Qan(l:List Ent):JV:=l.flatMap QzT
theorem Qbg(l:List Ent):(Qan l).length=l.length*4:=by
 induction l with
 |nil=>rfl
 |cons x r ih=>
  unfold Qan at ih ⊢;rw[List.flatMap_cons,qG,ih,qH];simp[QzT];omega
theorem QbQ(a b:List Ent):Qan (a++b)=Qan a++Qan b:=by unfold Qan;rw[List.flatMap_append]
theorem Qed(l:List Ent)(j:Nat)(h:j<l.length):(Qan l)[j*4]?=some (Ju l[j].1)/\(Qan l)[j*4+1]?=some (Ju l[j].2.1)/\(Qan l)[j*4+2]?=some (Jd l[j].2.2.1)/\(Qan l)[j*4+3]?=some (Jd l[j].2.2.2):=by
 have a:l=l.take j++l[j] :: l.drop (j+1):=by rw[<-List.drop_eq_getElem_cons h,List.take_append_drop]
 have hlen:(Qan (l.take j)).length=j*4:=by rw[Qbg,qW,Nat.min_eq_left (Nat.le_of_lt h)]
 have e:Qan l=Qan (l.take j)++(QzT l[j]++Qan (l.drop (j+1))):=by
  conv=>lhs;rw[a]
  rw[QbQ];rfl
 rw[e];refine⟨?_,?_,?_,?_⟩
 ·rw[List.getElem?_append_right (by omega),hlen,Nat.sub_self];rfl
 ·rw[List.getElem?_append_right (by omega),hlen,Nat.add_sub_cancel_left];rfl
 ·rw[List.getElem?_append_right (by omega),hlen,Nat.add_sub_cancel_left];rfl
 ·rw[List.getElem?_append_right (by omega),hlen,Nat.add_sub_cancel_left];rfl
theorem Qon(l:List Ent):∀v∈Qan l,v.oneCell'=true:=by
 intro v a;unfold Qan at a;obtain⟨x,-,hx⟩:=List.mem_flatMap.1 a;simp only[QzT,List.mem_cons,List.not_mem_nil,or_false] at hx;rcases hx with rfl|rfl|rfl|rfl<;>rfl
def HoldsE(w:World)(v:Value)(l:List Ent):Prop:=HoldsR 4 w v l.length (Qan l)
theorem HoldsE.at{w:World}{v:Value}{l:List Ent}(h:HoldsE w v l)(d:l≠[]):∃b o c,v=.slice (some (Ja b o)) l.length c/\l.length<=c/\b<w.heap.size/\∀j (a:j<l.length),w.cell? (Ja b (o+j*4))=some (Ju l[j].1)/\w.cell? (Ja b (o+j*4+1))=some (Ju l[j].2.1)/\w.cell? (Ja b (o+j*4+2))=some (Jd l[j].2.2.1)/\w.cell? (Ja b (o+j*4+3))=some (Jd l[j].2.2.2):=by
 obtain⟨b,o,c,h1,h2,h3,h4⟩:=HoldsR.at h (fun e=>d (List.length_eq_zero_iff.1 e))
 refine⟨b,o,c,h1,h2,h3,fun j a=>?_⟩
 obtain⟨x,y,z,u⟩:=Qed l j a;exact⟨h4 _ _ x,h4 _ _ y,h4 _ _ z,h4 _ _ u⟩
theorem Qdd{j:Array Oper}{d:List Oper}{o:Oper}{a:Act}{Q:Exit->Act->World->Prop}(t e:JT)(z:Value)(k b:Nat)(G:prog.underlying t=some (.slice e))(q:(prog.info? e).map (fun i=>(i.zero,i.size,i.bytes))=some (some z,k,b))(D:z.cells.size=k)(A:0<k)(y:b<=64)
  (w0:World) (cs:JV) (r:cs.length=k) (B:∀u∈cs,u.oneCell'=true) (m:o.guard=none) (s x:Operand) (E:o.op=.call { callee:=.builtin .append,args:=#[s,x],argTypes:=#[t,t] })
  (base:Nat) (v:Value) (n:Nat) (xs:JV) (H:a.eval s=v) (p:w0.ownsRow base e k v n xs) (hx:a.eval x = Jl w0.heap.size 1 1) (L:n<2147483648) (C:base<=w0.heap.size)
  (h:∀g c w',w'.ownsRow base e k (Jl g (n+1) c) (n+1) (xs++cs)->w0.grownBy w' v.ownBlock->(v.ownBlock=some g\/w0.heap.size<=g)->wpList prog j Q d (a.put o.dst (Jl g (n+1) c)) w') :
  wpList prog j Q (o :: d) a (w0.alloc (.cells cs.toArray e)):=by
 obtain⟨i0,hi,hz0,hz1,hz2⟩:=info_parts q;have J:(n+1)*b<=2147483648*64:=Nat.mul_le_mul (by omega) y
 refine wpList_append_lies _ m s x t E base e i0 z k b G hi hz0 hz1 hz2 D A v n xs H (p.alloc _) (Ja w0.heap.size 0) 1 1 cs hx (by rw[r,Nat.one_mul]) (World.news_of_block (JI w0 _)) B (by decide) (by unfold maxLen;omega) (by omega) (by simp;omega) _ rfl ?_
 intro g c w' I f l K;refine h g c w' I ⟨f.os,f.tape,f.output,qD (by simp) f.size,fun i hi hne=>(f.block i (by simp;omega) hne).trans (J5 w0 _ hi)⟩ ?_
 rcases l with l|l
 ·exact .inl l
 ·exact .inr (by rw[l];simp)
end
section
theorem QjU(i o n r:Nat)(b:Bool)(k:((Qcj (i,o,n,r):Int)==0)=b)(w:World)(l:i<18446744073709551616)(h:o<18446744073709551616)(m:n<4294967296)(j:r<4294967296) :
  Calls prog 121 #[.agg #[Ju i,Ju o,Jd n,Jd r]] w (JB (.bool b) w):=by
 obtain⟨c0,c1,c2,c3⟩:=Qdh w (Ju i) (Ju o) (Jd n) (Jd r) 61;have d:=Z (QaV w (Ju i) (Ju o) (Jd n) (Jd r) 61);have g:=Z (fun W=>QjV i o n r W l h m j)
 generalize Qcj (i,o,n,r)=c at k g;go_enter func121,ntmps121;go_wp2_with fail;refine (g.o _).mono ?_;rintro e p ⟨rfl,a⟩;have f:=Z (Qaa d.o a);clear a c0 c1 c2 c3;go_wp2;go_ret;exact⟨rfl,f.o⟩
theorem Qhx(i o n r:Nat)(j:Qcj (i,o,n,r)=0)(w:World)(D:i<18446744073709551616)(B:o<18446744073709551616)(E:n<4294967296)(l:r<4294967296) :
  Calls prog 83 #[.agg #[Ju i,Ju o,Jd n,Jd r]] w (JB (Ju ((i+max 1 r-1:Nat):Int)) w):=by
 have k:=QrJ w i o n r 61;have d:=Z (QaV w (Ju i) (Ju o) (Jd n) (Jd r) 61);have s:=Z (fun W=>QjU i o n r true (by rw[j];rfl) W D B E l)
 have m:=Z (fun W=>Qlo i o n r W l)
 have b:w.heap.size<(w.alloc (.cells #[Ju i,Ju o,Jd n,Jd r] 61)).heap.size:=by simp
 obtain⟨M,hM⟩:∃M,max 1 r=M:=⟨_,rfl⟩;have A:1<=M/\M<4294967296:=by omega
 obtain⟨-,-,hk⟩:=Qf9 _ j;simp only[hM,QfV] at hk;rw[hM] at m ⊢;have H:IntKind.u64.wrap ((i:Int)+(M:Int))=(i:Int)+(M:Int):=by rw[JU];omega
 have C:IntKind.u64.wrap ((i:Int)+(M:Int)-1)=(i:Int)+(M:Int)-1:=by rw[JU];omega
 have v:Hi ((i:Int)+(M:Int)-1=((i+M-1:Nat):Int)):=Z (by omega)
 have HA:=Z (fun W (x:Below (w.alloc (.cells #[Ju i,Ju o,Jd n,Jd r] 61)).heap.size (w.alloc (.cells #[Ju i,Ju o,Jd n,Jd r] 61)) W)=>QdT k b x)
 have h:=Z b;obtain⟨c0,c1,c2,c3⟩:=k;clear j hM hk b;go_enter func83,ntmps83;go_wp2_with fail;generalize w.alloc (.cells #[Ju i,Ju o,Jd n,Jd r] 61)=W0 at HA d h c0 c1 c2 c3 ⊢;refine (s.o _).mono ?_;rintro e g ⟨rfl,f⟩;have a:=Z f;have z:=fun (p:BelowOf g)=>(HA.o _ (Qaa a.o p.below)).1
 have q:=fun (p:BelowOf g)=>(HA.o _ (Qaa a.o p.below)).2.1
 have G:=fun (p:BelowOf g)=>(HA.o _ (Qaa a.o p.below)).2.2.1
 have y:=fun (p:BelowOf g)=>(HA.o _ (Qaa a.o p.below)).2.2.2
 clear f c0 c1 c2 c3;go_wp2_with fail;refine Qae (by kernel_rfl) (by kernel_rfl) ?_
 repeat (go_big_quiet_step ((go_at_call 128;exact QaA (m.o _))))
 refine wpQuiet_nil ?_;intro I c;have t:=Z (QaQ c);clear c z q G y;go_wp2;go_ret;exact⟨QbS v.o,Qaa d.o (Qaa a.o t.o)⟩
theorem Qoo(i o n r id:Nat)(j:Qcj (i,o,n,r)=0)(m:0<r)(b:Bool)(d:QDH (i,o,n,r) id=b)(w:World)(D:i<18446744073709551616)(B:o<18446744073709551616)(E:n<4294967296)(C:r<4294967296) :
  Calls prog 86 #[.agg #[Ju i,Ju o,Jd n,Jd r],Ju id] w (JB (.bool b) w):=by
 have p:=QrJ w i o n r 61;have g:=Z (QaV w (Ju i) (Ju o) (Jd n) (Jd r) 61);have t:=Z (fun W=>QjU i o n r true (by rw[j];rfl) W D B E C)
 have z:=Z (fun W=>Qhx i o n r j W D B E C)
 have x:w.heap.size<(w.alloc (.cells #[Ju i,Ju o,Jd n,Jd r] 61)).heap.size:=by simp
 have q:QdM (i,o,n,r)=i+max 1 r-1:=by unfold QdM;rw[JK j]
 unfold QDH at d;rw[j,q] at d;have HA:=Z (fun W (G:Below (w.alloc (.cells #[Ju i,Ju o,Jd n,Jd r] 61)).heap.size (w.alloc (.cells #[Ju i,Ju o,Jd n,Jd r] 61)) W)=>QdT p x G)
 generalize i+max 1 r-1=N at z d;have I:decide ((r:Int)>0)=true:=qA (by omega)
 have v:decide (0<r)=true:=qA m;simp only[v,beq_self_eq_true,Bool.true_and] at d
 by_cases k:i<=id
 ·have y:decide (i<=id)=true:=qA k
  simp only[y,Bool.true_and] at d
  by_cases l:id<=N
  ·have s:decide (id<=N)=true:=qA l
   rw[s] at d;subst d;obtain⟨c0,c1,c2,c3⟩:=p;clear k l m j q;go_enter func86,ntmps86;go_wp2_with fail;refine (t.o _).mono ?_;rintro e A ⟨rfl,c⟩;have a:=Z c;clear c c0 c1 c2 c3;obtain⟨c0,c1,c2,c3⟩:=HA.o _ a.o;go_wp2_with fail;refine (z.o _).mono ?_;rintro e H ⟨rfl,f⟩;have h:=Z f;clear f;go_wp2;go_ret;exact⟨rfl,Qaa g.o (Qaa a.o h.o)⟩
  ·have s:decide (id<=N)=false:=qB l
   rw[s] at d;subst d;obtain⟨c0,c1,c2,c3⟩:=p;clear k l m j q;go_enter func86,ntmps86;go_wp2_with fail;refine (t.o _).mono ?_;rintro e A ⟨rfl,c⟩;have a:=Z c;clear c c0 c1 c2 c3;obtain⟨c0,c1,c2,c3⟩:=HA.o _ a.o;go_wp2_with fail;refine (z.o _).mono ?_;rintro e H ⟨rfl,f⟩;have h:=Z f;clear f;go_wp2;go_ret;exact⟨rfl,Qaa g.o (Qaa a.o h.o)⟩
 ·have y:decide (i<=id)=false:=qB k
  simp only[y,Bool.false_and] at d;subst d;obtain⟨c0,c1,c2,c3⟩:=p;clear k m j q;go_enter func86,ntmps86;go_wp2_with fail;refine (t.o _).mono ?_;rintro e A ⟨rfl,c⟩;have a:=Z c;clear c c0 c1 c2 c3;obtain⟨c0,c1,c2,c3⟩:=HA.o _ a.o;go_wp2;go_ret;exact⟨rfl,Qaa g.o a.o⟩
theorem QdE(v:Value)(l:List Ent)(w:World)(L:HoldsE w v l)(C:∀e∈l,Qbt e)(hlen:l.length<2147483647) :
  Calls prog 34 #[v] w (JB (Ji (QeZ l:Nat)) w):=by
 obtain⟨a,c,rfl,hc⟩:=HoldsR.len L;have U:=Z (fun hn=>HoldsE.at L hn)
 have H:=Z C;clear L C
 by_cases D:4096<l.length
 ·have h:QeZ l=21:=by unfold QeZ;exact JK D
  have t1:decide ((l.length:Int)>4096)=true:=qA (by omega)
  rw[h];clear h D;go_enter func34,ntmps34;go_wp2;go_ret;exact⟨rfl,qF _ _⟩
 have h:QeZ l=Qm1 0 l:=by unfold QeZ;exact JJ D
 have t1:decide ((l.length:Int)>4096)=false:=qB (by omega)
 rw[h];obtain⟨R,hR⟩:∃R,Qm1 0 l=R:=⟨_,rfl⟩;rw[hR];have V:=Z hR;clear h D hR;go_enter func34,ntmps34;go_wp2_with fail;go_loopw [3,12] (fun u i wr=>∃(k free:Nat),k<=l.length/\i = Ji k/\u = Ju free/\free<18446744073709551616/\Hi (Qm1 free (l.drop k)=R)/\Jw w wr) (fun _ i _=>l.length-(intOf i).toNat)
 case atStart=>exact⟨0,0,by omega,rfl,rfl,by decide,V,qF _ _⟩
 case round=>
  obtain⟨k,free,hk,rfl,rfl,hfree,HRk,hbw⟩:=hrel
  by_cases m:k<l.length
  ·obtain⟨b,o,c',hvv,-,hbl,Qak⟩:=U.o (fun e=>by rw[e] at m;exact JN m (JH _))
   injection hvv with e1 e2 e3
   subst e1 e3;obtain⟨y0,y1,y2,y3⟩:=Qak k m;have c0:=(hbw.cell (p:=(Ja b (o+k*4))) hbl).trans y0;have Y:=(hbw.cell (p:=(Ja b (o+k*4+1))) hbl).trans y1;have c2:=(hbw.cell (p:=(Ja b (o+k*4+2))) hbl).trans y2;have c3:=(hbw.cell (p:=(Ja b (o+k*4+3))) hbl).trans y3;have S:=H.o l[k] (JG m);have s:Qm1 free (l.drop k)=(if Qcj l[k]≠0 then Qcj l[k] else if l[k].1<free then 10 else Qm1 (QdM l[k]+1) (l.drop (k+1))):=by
    rw[List.drop_eq_getElem_cons m];rfl
   have d:=HRk.o;rw[s] at d;obtain⟨X,hXe⟩:∃X,l[k]=X:=⟨_,rfl⟩;rw[hXe] at c0 Y c2 c3 S d;obtain⟨x1,x2,x3,x4⟩:=X;obtain⟨o1,o2,o3,o4⟩:x1<18446744073709551616/\x2<18446744073709551616/\x3<4294967296/\x4<4294967296:=S;have x:=Z (fun W=>QjV x1 x2 x3 x4 W o1 o2 o3 o4)
   have I:=Z hbw;have q:=Z (QaV wr (Ju x1) (Ju x2) (Jd x3) (Jd x4) 61);have n:=Z (QrJ wr x1 x2 x3 x4 61);have B:Hi (wr.heap.size<(wr.alloc (.cells #[Ju x1,Ju x2,Jd x3,Jd x4] 61)).heap.size):=Z (by simp)
   obtain⟨d0,d1,d2,d3⟩:=n.o;clear Qak U y0 y1 y2 y3 hXe s HRk hbw
   by_cases g:Qcj (x1,x2,x3,x4)=0
   ·rw[JJ (fun h=>h g)] at d
    have T:=Z (fun W=>Qhx x1 x2 x3 x4 g W o1 o2 o3 o4)
    have z:QdM (x1,x2,x3,x4)=x1+max 1 x4-1:=by unfold QdM;rw[JK g]
    have M:x1<=6004799503160661-max 1 x4:=(Qf9 _ g).2.2;rw[g] at x;rw[z] at d;obtain⟨N,hN⟩:∃N,x1+max 1 x4-1=N:=⟨_,rfl⟩;have qa:N<6004799503160661:=by omega
    rw[hN] at T d;have y:=Z d;clear g d z M hN
    by_cases r:x1<free
    ·have tf:decide (x1<free)=true:=qA r
     have t:Hi (R=10):=Z (by have:=y.o;simp only at this;rw[JK r] at this;exact this.symm)
     clear r;go_wp2_with fail;refine (x.o _).mono ?_;rintro e P ⟨rfl,f⟩;have j:=Z f;clear f d0 d1 d2 d3;obtain⟨d0,d1,d2,d3⟩:=QdT n.o B.o j.o;go_wp2;go_ret;exact⟨by rw[t.o]<;>rfl,Qaa I.o (Qaa q.o j.o)⟩
    ·have tf:decide (x1<free)=false:=qB r
     have J:Hi (Qm1 (N+1) (l.drop (k+1))=R):=Z (by have:=y.o;simp only at this;rw[JJ r] at this;exact this)
     clear r;go_wp2_with fail;refine (x.o _).mono ?_;rintro e P ⟨rfl,f⟩;have j:=Z f;clear f d0 d1 d2 d3;obtain⟨d0,d1,d2,d3⟩:=QdT n.o B.o j.o;go_wp2_with fail;refine (T.o _).mono ?_;rintro e w2 ⟨rfl,A⟩;have K:=Z A;clear A;go_wp2_with fail;go_roundw
     case rel=>exact⟨k+1,N+1,by omega,by go_num,by go_num,by omega,J,Qaa I.o (Qaa q.o (Qaa j.o K.o))⟩
     case measure=>simp[intOf];omega
   ·rw[JK g] at d
    have O:((Qcj (x1,x2,x3,x4):Int)==0)=false:=by rw[qI];omega
    have E:((Qcj (x1,x2,x3,x4):Int) != 0)=true:=by rw[bne_iff_ne];omega
    rw[d] at x O E;clear d g;go_wp2_with fail;refine (x.o _).mono ?_;rintro e P ⟨rfl,f⟩;have j:=Z f;clear f;go_wp2;go_ret;exact⟨rfl,Qaa I.o (Qaa q.o j.o)⟩
  ·obtain rfl:k=l.length:=by omega
   have G:Hi (R=0):=Z (by have:=HRk.o;rw[List.drop_length] at this;exact this.symm)
   clear HRk;go_wp2;go_ret;exact⟨by rw[G.o]<;>rfl,hbw⟩
theorem QeV{fn:Func}{R:Ending->World->Prop}{a:Act}{w:World}{A:Addr}{V:Value}{p:Tmp}{g:JT}(d:fn.results=#[.cell p g])
  (f:(loadVar g A).run prog w=.ok V w)
  (h:a.tmps.getD p undef=.pointer (some A)) (c:a.defers = [])
  (i:R (.returned V) w):bodyPost prog fn R .ret a w:=by
 refine bodyPost_ret_by (v:=V) ?_ c i;have b:a.tmps[p]?.getD undef=.pointer (some A):=by simpa using h
 simp[results,d,b,asAddr,f]
theorem Qau{fn:Func}{R:Ending->World->Prop}{a:Act}{w:World}{A:Addr}{V E:Value}{p u:Tmp}{f:JT}(c:fn.results=#[.cell p f,.tmp u])
  (d:(loadVar f A).run prog w=.ok V w)
  (g:a.tmps.getD p undef=.pointer (some A)) (h:a.tmps.getD u undef=E) (b:a.defers = [])
  (i:R (.returned (.tuple #[V,E])) w):bodyPost prog fn R .ret a w:=by
 refine bodyPost_ret_by (v:=.tuple #[V,E]) ?_ b i;rw[results_cell_tmp c,g,h];simp[asAddr,d,Result.andThen]
theorem Qa4{fn:Func}{R:Ending->World->Prop}{a:Act}{w:World}{A:Addr}{V E:Value}{p u:Tmp}{h:JT}(f:fn.results=#[.tmp u,.cell p h])
  (g:(loadVar h A).run prog w=.ok V w)
  (i:a.tmps.getD p undef=.pointer (some A)) (j:a.tmps.getD u undef=E) (d:a.defers = [])
  (k:R (.returned (.tuple #[E,V])) w):bodyPost prog fn R .ret a w:=by
 refine bodyPost_ret_by (v:=.tuple #[E,V]) ?_ d k;have b:a.tmps[p]?.getD undef=.pointer (some A):=by simpa using i
 have c:a.tmps[u]?.getD undef=E:=by simpa using j
 simp[results,f,b,c,asAddr,g,Result.andThen]
theorem Qix(w:World)(b:Nat)(t:JT)(a d c f:Value)(h:w.heap[b]?=some (.cells #[a,d,c,f] t (0,0))):(loadVar 61 (Ja b 0)).run prog w=.ok (.agg #[a,d,c,f]) w:=
 run_loadVar_row w b t 61 #[a,d,c,f] (0,0) _ h underlying61 rfl (by kernel_rfl)
theorem QaC{w:World}{b:Nat}{a d c f:Value}{t:JT}(k:w.heap[b]?=some (.cells #[a,d,c,f] t (0,0))) :
  (w.cell? (Ja b 0)=some a/\w.cell? (Ja b 1)=some d/\w.cell? (Ja b 2)=some c/\w.cell? (Ja b 3)=some f)/\w.frozen? (Ja b 0)=false/\w.frozen? (Ja b 1)=false/\w.frozen? (Ja b 2)=false/\w.frozen? (Ja b 3)=false:=by
 refine⟨⟨?_,?_,?_,?_⟩,?_,?_,?_,?_⟩
 all_goals first
  |(unfold World.cell?;rw[k];rfl)
  |(unfold World.frozen?;rw[k];rfl)
theorem Qec{w:World}{b:Nat}{g i h j:Value}{t:JT}(k:w.heap[b]?=some (.cells #[g,i,h,j] t (0,0)))(a d f c:Value):((((w.setCell (Ja b 0) a).setCell (Ja b 1) d).setCell (Ja b 2) f).setCell (Ja b 3) c).heap[b]?=some (.cells #[a,d,f,c] t (0,0)):=by
 simp[World.setCell,J6,k]
theorem QdG{w W:World}{b:Nat}(h:Jw w W)(a:w.heap.size<=b)(c f g d:Value):Jw w ((((W.setCell (Ja b 0) c).setCell (Ja b 1) f).setCell (Ja b 2) g).setCell (Ja b 3) d):=
 (((h.setCell (p:=(Ja b 0)) a _).setCell (p:=(Ja b 1)) a _).setCell (p:=(Ja b 2)) a _).setCell (p:=(Ja b 3)) a _
theorem QBd(w:World)(x y z:Value)(t:JT):(w.alloc (.cells #[x,y,z] t)).cell? (Ja w.heap.size 0)=some x/\(w.alloc (.cells #[x,y,z] t)).cell? (Ja w.heap.size 1)=some y/\(w.alloc (.cells #[x,y,z] t)).cell? (Ja w.heap.size 2)=some z:=by
 have h:=JI w (.cells #[x,y,z] t);refine⟨?_,?_,?_⟩<;>(unfold World.cell?;rw[h];rfl)
theorem Qbz{w:World}{b:Nat}{a d c:Value}{t:JT}(k:w.heap[b]?=some (.cells #[a,d,c] t (0,0))) :
  (w.cell? (Ja b 0)=some a/\w.cell? (Ja b 1)=some d/\w.cell? (Ja b 2)=some c)/\w.frozen? (Ja b 0)=false/\w.frozen? (Ja b 1)=false/\w.frozen? (Ja b 2)=false:=by
 refine⟨⟨?_,?_,?_⟩,?_,?_,?_⟩
 all_goals first
  |(unfold World.cell?;rw[k];rfl)
  |(unfold World.frozen?;rw[k];rfl)
theorem Qcq{w:World}{b:Nat}{f h g:Value}{t:JT}(k:w.heap[b]?=some (.cells #[f,h,g] t (0,0)))(a c d:Value):(((w.setCell (Ja b 0) a).setCell (Ja b 1) c).setCell (Ja b 2) d).heap[b]?=some (.cells #[a,c,d] t (0,0)):=by
 simp[World.setCell,J6,k]
theorem Qbw{w W:World}{b:Nat}(h:Jw w W)(a:w.heap.size<=b)(c d f:Value):Jw w (((W.setCell (Ja b 0) c).setCell (Ja b 1) d).setCell (Ja b 2) f):=
 ((h.setCell (p:=(Ja b 0)) a _).setCell (p:=(Ja b 1)) a _).setCell (p:=(Ja b 2)) a _
theorem Qcp(w:World)(x y z:Value)(t:JT):Jw w (w.alloc (.cells #[x,y,z] t)):=(qF _ _).alloc (qC _) _
theorem Qb5(w:World)(b:Nat)(t:JT)(a d c:Value)(h:w.heap[b]?=some (.cells #[a,d,c] t (0,0))):(loadVar 98 (Ja b 0)).run prog w=.ok (.agg #[a,d,c]) w:=
 run_loadVar_row w b t 98 #[a,d,c] (0,0) _ h underlying98 rfl (by kernel_rfl)
theorem QlF(w:World)(x y z a b c:Value)(t u:JT):((w.alloc (.cells #[x,y,z] t)).alloc (.cells #[a,b,c] u)).heap[w.heap.size]?=some (.cells #[x,y,z] t (0,0))/\((w.alloc (.cells #[x,y,z] t)).alloc (.cells #[a,b,c] u)).heap[w.heap.size+1]?=some (.cells #[a,b,c] u (0,0)):=by
 have f:=JI w (.cells #[x,y,z] t);have d:=JI (w.alloc (.cells #[x,y,z] t)) (.cells #[a,b,c] u);refine⟨(J5 _ _ (by simp)).trans f,?_⟩
 rw[show (w.alloc (.cells #[x,y,z] t)).heap.size=w.heap.size+1 by simp] at d
 exact d
theorem Qsd(s:JA)(a d e:Int)(w:World) :
  Calls prog 80 #[.agg #[Jt s,Ji a,Ji d],Ji e] w fun r w'=>r=.returned (.tuple #[Ju 0,.agg #[Jt s,Ji a,Ji e]])/\Jw w w':=by
 go_enter func80,ntmps80;go_wp2_with fail;go_region
 all_goals
  go_wp2_with fail;refine Qa4 (A:=(Ja (w.heap.size+1) 0)) rfl (Qb5 _ _ _ _ _ _ (QlF w _ _ _ _ _ _ _ _).2) rfl rfl rfl ?_;exact⟨rfl,(((qF _ _).alloc (qC _) _).alloc (by simp) _).drew⟩
theorem Qka(x y:Nat)(hx:x<18446744073709551616)(c:y<18446744073709551616):bits .or .u64 (x:Int) (y:Int)=((x ||| y:Nat):Int):=by
 have d:x ||| y<2 ^ 64:=Nat.or_lt_two_pow (by omega) (by omega)
 have a:(BitVec.ofInt 64 (x:Int)).toNat=x:=by
  rw[BitVec.ofInt_natCast,BitVec.toNat_ofNat];exact Nat.mod_eq_of_lt (by omega)
 have b:(BitVec.ofInt 64 (y:Int)).toNat=y:=by
  rw[BitVec.ofInt_natCast,BitVec.toNat_ofNat];exact Nat.mod_eq_of_lt (by omega)
 show IntKind.u64.wrap ((BitVec.ofInt 64 (x:Int) ||| BitVec.ofInt 64 (y:Int)).toNat:Int)=_
 rw[BitVec.toNat_or,a,b,JU];omega
theorem QoE(b:Nat)(d:b<256):bits .and .u8 (b:Int) 127=((b%128:Nat):Int):=by
 have a:(BitVec.ofInt 8 (b:Int)).toNat=b:=by
  rw[BitVec.ofInt_natCast,BitVec.toNat_ofNat];exact Nat.mod_eq_of_lt (by omega)
 have c:(BitVec.ofInt 8 127).toNat=127:=by decide
 show IntKind.u8.wrap ((BitVec.ofInt 8 (b:Int) &&& BitVec.ofInt 8 127).toNat:Int)=_;rw[BitVec.toNat_and,a,c,show b &&& 127=b%128 from Nat.and_two_pow_sub_one_eq_mod b 7];have:IntKind.u8.wrap ((b%128:Nat):Int)=((b%128:Nat):Int)%256:=by simp[IntKind.wrap,IntKind.bits,IntKind.signed]
 rw[this];omega
theorem QvL(X y k:Nat)(d:X<128 ^ k)(b:y*128 ^ k<18446744073709551616)(c:X<18446744073709551616):bits .or .u64 (X:Int) (IntKind.u64.wrap ((y:Int)*2 ^ (7*k)))=((X+y*128 ^ k:Nat):Int):=by
 have a:(2:Nat) ^ (7*k)=128 ^ k:=by rw[Nat.pow_mul]
 have e:IntKind.u64.wrap ((y:Int)*2 ^ (7*k))=((y*128 ^ k:Nat):Int):=by
  rw[JU,<-a];have f:((y:Int)*2 ^ (7*k))=((y*2 ^ (7*k):Nat):Int):=by
   rw[Int.natCast_mul,Int.natCast_pow];rfl
  rw[f];rw[<-a] at b;generalize y*2 ^ (7*k)=M at b ⊢;omega
 rw[e,Qka _ _ c b,Nat.or_comm]
 congr 1
 rw[<-a] at d ⊢;have:=Nat.shiftLeft_add_eq_or_of_lt d y;rw[Nat.shiftLeft_eq] at this;omega
theorem QvM(X:Nat)(z:Int):∃Y:Nat,Y<18446744073709551616/\bits .or .u64 (X:Int) (IntKind.u64.wrap z)=(Y:Int):=by
 have h:∀u v:Int,∃Y:Nat,Y<18446744073709551616/\bits .or .u64 u v=(Y:Int):=by
  intro u v;refine⟨(BitVec.ofInt 64 u ||| BitVec.ofInt 64 v).toNat,(BitVec.isLt _),?_⟩
  show IntKind.u64.wrap ((BitVec.ofInt 64 u ||| BitVec.ofInt 64 v).toNat:Int)=_
  have:=(BitVec.ofInt 64 u ||| BitVec.ofInt 64 v).isLt
  rw[JU];omega
 exact h _ _
theorem QEq(t:JL)(k:Nat)(a:k<t.length)(h:∀j (c:j<k),128<=(t[j]'(by omega)).toNat)(b:t[k].toNat<128):vK t=k:=by
 induction t generalizing k with
 |nil=>simp at a
 |cons x r ih=>
  unfold vK at ih ⊢;rw[List.takeWhile_cons];cases k with
  |zero=>
   have:x.toNat<128:=b;rw[qB (by omega)];rfl
  |succ k=>
   have d:128<=x.toNat:=h 0 (by omega)
   rw[qA d,JK rfl,qH,ih k (by simpa using a) (fun j c=>h (j+1) (by omega)) b]
theorem QDc(t:JL)(k:Nat)(a:k<=t.length)(h:∀j (b:j<k),128<=(t[j]'(by omega)).toNat):k<=vK t:=by
 induction t generalizing k with
 |nil=>simp at a;omega
 |cons x r ih=>
  cases k with
  |zero=>omega
  |succ k=>
   unfold vK at ih ⊢;have c:128<=x.toNat:=h 0 (by omega)
   rw[List.takeWhile_cons,qA c,JK rfl,qH];have:=ih k (by simpa using a) (fun j b=>h (j+1) (by omega))
   omega
theorem QEr(t:JL):vK t<=t.length:=(List.takeWhile_prefix _).length_le
def QA0(s:JA)(a:Nat):Value:=
 if vE (s.data.toList.drop a)=0 then .tuple #[Ju (vX (s.data.toList.drop a):Nat),.agg #[Jt s,Ji ((a+vN (s.data.toList.drop a):Nat):Int),Ji 0]]
 else .tuple #[Ju 0,.agg #[Jt s,Ji a,Ji (vE (s.data.toList.drop a):Nat)]]
theorem QlC(s:JA)(a E:Nat)(h:vE (s.data.toList.drop a)=E)(b:E≠0):QA0 s a=.tuple #[Ju 0,.agg #[Jt s,Ji a,Ji E]]:=by
 unfold QA0;rw[h,JJ b]
theorem QoY(s:JA)(a X n:Nat)(h:vE (s.data.toList.drop a)=0)(b:vX (s.data.toList.drop a)=X)(c:vN (s.data.toList.drop a)=n):QA0 s a=.tuple #[Ju X,.agg #[Jt s,Ji ((a+n:Nat):Int),Ji 0]]:=by
 unfold QA0;rw[JK h,b,c]
theorem Qum(t:JL)(h:10<=vK t):vE t=11:=by unfold vE;exact JK h
theorem QxY(t:JL)(h:vK t<10)(a:vK t=t.length):vE t=3:=by unfold vE;rw[JJ (by omega),JK a]
theorem QDe(t:JL)(h:vK t=9)(b:9<t.length)(a:1<(t.getD 9 0).toNat):vE t=11:=by
 unfold vE;rw[JJ (by omega),JJ (by omega),JK ⟨h,a⟩]
theorem QBa(t:JL)(k:Nat)(h:vK t=k)(d:k<10)(f:k<t.length)(c:¬(k=9/\1<(t.getD 9 0).toNat))(a:0<k)(b:(t.getD k 0).toNat=0):vE t=4:=by
 unfold vE;rw[h,JJ (by omega),JJ (by omega),JJ c,JK ⟨a,b⟩]
theorem QBb(t:JL)(k:Nat)(h:vK t=k)(d:k<10)(c:k<t.length)(b:¬(k=9/\1<(t.getD 9 0).toNat))(a:¬(0<k/\(t.getD k 0).toNat=0)):vE t=0:=by
 unfold vE;rw[h,JJ (by omega),JJ (by omega),JJ b,JJ a]
theorem Qol(s:JA)(a:Nat):(s.extract a s.size).data.toList=s.data.toList.drop a:=by
 have h:s.data.toList.length=s.size:=Qab s;simp[ByteArray.data_extract];exact qX (by rw[JC,h];exact qC _)
theorem Qc1{w:World}{X Y:Value}(h:X=Y){W:World}(a:Jw w W):Ending.returned X=.returned Y/\Jw w W:=⟨by rw[h],a⟩
theorem QkN(s:JA)(a:Nat)(w:World)(ha:a<=s.size)(hs:s.size<=1000000) :
  Calls prog 32 #[.agg #[Jt s,Ji a,Ji 0]] w fun r w'=>r=.returned (QA0 s a)/\Jw w w':=by
 have t0:decide ((a:Int)<0)=false:=qB (by omega)
 have t1:decide (s.size<a)=false:=qB (by omega)
 have hT:=QlF w (Jt s) (Ji a) (Ji 0) (Jt ⟨#[]⟩) (Ji 0) (Ji 0) 98 98;have hB:Jw w ((w.alloc (.cells #[Jt s,Ji a,Ji 0] 98)).alloc (.cells #[Jt ⟨#[]⟩,Ji 0,Ji 0] 98)):=((qF _ _).alloc (qC _) _).alloc (by simp) _
 obtain⟨⟨c0,c1,c2⟩,-⟩:=Qbz hT.1;have I:=Qol s a;have qa:=Z (fun e W=>Qsd s a 0 e W)
 obtain⟨V,hV⟩:∃V,QA0 s a=V:=⟨_,rfl⟩;have f:=Z (fun E h h0=>hV.symm.trans (QlC s a E h h0))
 have l:=Z (fun X n h hX hn=>hV.symm.trans (QoY s a X n h hX hn))
 rw[hV];have R:(s.data.toList.drop a).length=s.size-a:=by rw[JC,Qab]
 generalize s.data.toList.drop a=L at I f l R;obtain⟨N,hN⟩:∃N,s.size-a=N:=⟨_,rfl⟩;rw[hN] at R;have qp:a+N<=s.size:=by omega
 have g:=Z (qE hT hB);clear hV;go_enter func32,ntmps32;go_wp2_with fail;go_step3;go_wp2_with fail;go_step3;go_wp2_with fail
 try rw[hN]
 generalize s.extract a s.size=T at I ⊢;have qs:T.size=N:=by rw[<-R,<-I,Qab]
 have HG:Hi (∀k (h:k<L.length) (h':k<T.size),L[k].toNat=T[k].toNat):=Z (fun k h h'=>by
  subst I;rfl)
 have HL:=Z R;clear I R hN;generalize hW:((w.alloc (.cells #[Jt s,Ji a,Ji 0] 98)).alloc (.cells #[Jt ⟨#[]⟩,Ji 0,Ji 0] 98))=W at g hT hB c0 c1 c2 ⊢;clear hW hT hB;obtain⟨⟨d0,d1,d2⟩,-,g1,-⟩:=Qbz g.o.1.1;obtain⟨⟨p0,p1,p2⟩,q0,q1,q2⟩:=Qbz g.o.1.2;go_loop [4,5,6,36] (fun x n wh i=>∃k X:Nat,k<=N/\k<=10/\i = Ji k/\n = Ji k/\wh=.bool false/\x = Ju X/\X<18446744073709551616/\Hi (k<=9->X=QoP (L.take k))/\Hi (∀j (h:j<k) (h':j<L.length),128<=L[j].toNat)) (fun _ _ _ i=>N-(intOf i).toNat)
 case atStart=>exact⟨0,0,by omega,by omega,rfl,rfl,rfl,rfl,by decide,Z (fun _=>rfl),Z (fun j h=>JN h (JH _))⟩
 case round=>
  obtain⟨k,X,hkN,hk10,rfl,rfl,rfl,rfl,hX,HX,HJ⟩:=hrel
  by_cases qq:k<N
  ·have qm:k<T.size:=by omega
   by_cases qd:k=10
   ·have O:Hi (V=_):=Z (f.o 11 (Qum L (by
     have:=QDc L k (by have:=HL.o;omega) (fun j hj=>HJ.o j hj (by have:=HL.o;omega))
     omega)) (by decide))
    subst qd;clear HX HJ f l HG;go_wp2_with fail;refine (qa.o _ _).mono ?_;rintro e w1 ⟨rfl,c⟩;have B:=Z ((c.block _ (gsi g.o.1.2).1).trans g.o.1.2);have q:=Z (Qaa g.o.2 c);clear c p0 p1 p2 q0 q1 q2;obtain⟨⟨p0,p1,p2⟩,q0,q1,q2⟩:=Qbz B.o;go_wp2_with fail
    try rw[Exit.noGoto_ret]
    refine Qa4 (A:=(Ja (w.heap.size+1) 0)) rfl (Qb5 _ _ _ _ _ _ (Qcq B.o _ _ _)) rfl rfl rfl ?_;exact Qc1 O.o.symm (Qbw q.o (by omega) _ _ _)
   ·have ql:((k:Int)==10)=false:=by rw[qI];omega
    have qg:k<10:=by omega
    have G:k<L.length:=by have:=HL.o;omega
    obtain⟨b,hb⟩:∃b:Nat,T[k].toNat=b:=⟨_,rfl⟩;have qo:b<256:=by rw[<-hb];exact T[k].toNat_lt
    have qc:L[k].toNat=b:=(HG.o k G qm).trans hb;have t:L.take (k+1)=L.take k++[L[k]]:=qV G;have hlen:(L.take k).length=k:=by rw[qW];omega
    by_cases qb:b<128
    ·have tb:decide (b<128)=true:=qA qb
     have qn:decide ((b:Int)<128)=true:=qA (by omega)
     have d:vK L=k:=QEq L k G (fun j hj=>HJ.o j hj (by omega)) (by omega)
     have m:(L.getD k 0).toNat=b:=by rw[J9,qU G];exact qc
     have HA:Hi (∃Y:Nat,Y<18446744073709551616/\bits .or .u64 (X:Int) (IntKind.u64.wrap ((b:Int)*2 ^ (7*k)))=(Y:Int)/\(¬(k=9/\1<b)->Y=QoP (L.take (k+1)))):=Z (by
      by_cases v:¬(k=9/\1<b)
      ·have M:=HX.o (by omega)
       have D:=QlK (L.take k);rw[hlen,<-M] at D;have hm:b*128 ^ k<18446744073709551616/\X+b*128 ^ k<18446744073709551616:=by
        by_cases qh:k=9
        ·have c:b<=1:=by omega
         have qe:(128:Nat) ^ 9=9223372036854775808:=by decide
         rw[qh,qe] at D ⊢;omega
        ·have hp:(128:Nat) ^ k<=128 ^ 8:=Nat.pow_le_pow_right (by decide) (by omega)
         have hm:b*128 ^ k<=127*128 ^ 8:=Nat.mul_le_mul (by omega) hp
         have h8:(127:Nat)*128 ^ 8=9151314442816847872:=by decide
         have qe:(128:Nat) ^ 8=72057594037927936:=by decide
         omega
       refine⟨X+b*128 ^ k,hm.2,QvL X b k D hm.1 hX,fun _=>?_⟩
       rw[t,Qi0,hlen,<-M,qc,Nat.mod_eq_of_lt qb]
      ·obtain⟨Y,hY,he⟩:=QvM X ((b:Int)*2 ^ (7*k))
       exact⟨Y,hY,he,fun h=>JN h v⟩)
     obtain⟨Y,hY,hYe,hYs⟩:=HA.o;have U:(((k:Int)+1)==10)=decide (k=9):=by
      by_cases h:k=9
      ·rw[h];rfl
      ·rw[qB h,qI];omega
     by_cases v:k=9/\1<b
     ·obtain⟨v,c⟩:=v
      have y:Hi (V=_):=Z (f.o 11 (QDe L (d.trans v) (by omega) (by rw[<-v,m];exact c)) (by decide))
      rw[qA v] at U;have u1:decide (1<b)=true:=qA c;have u2:decide ((b:Int)>1)=true:=qA (by omega)
      clear HX HJ f l HG HA hYs hlen t v c d m;go_wp2_with fail;refine (qa.o _ _).mono ?_;rintro e w1 ⟨rfl,z⟩;have B:=Z ((z.block _ (gsi g.o.1.2).1).trans g.o.1.2);have q:=Z (Qaa g.o.2 z);clear z p0 p1 p2 q0 q1 q2;obtain⟨⟨p0,p1,p2⟩,q0,q1,q2⟩:=Qbz B.o;go_wp2_with fail
      try rw[Exit.noGoto_ret]
      refine Qa4 (A:=(Ja (w.heap.size+1) 0)) rfl (Qb5 _ _ _ _ _ _ (Qcq B.o _ _ _)) rfl rfl rfl ?_;exact Qc1 y.o.symm (Qbw q.o (by omega) _ _ _)
     ·have H:=hYs v
      have S:vX L=Y:=by unfold vX vN;rw[d,H]
      have J:vN L=k+1:=by unfold vN;rw[d]
      have C:¬(k=9/\1<(L.getD 9 0).toNat):=by
       rintro⟨e1,e2⟩;rw[<-e1,m] at e2;exact v ⟨e1,e2⟩
      by_cases hz:0<k/\b=0
      ·have y:Hi (V=_):=Z (f.o 4 (QBa L k d qg G C hz.1 (by rw[m];exact hz.2)) (by decide))
       obtain⟨K,hb0⟩:=hz;have u1:decide (1<b)=false:=qB (by omega)
       have u2:decide ((b:Int)>1)=false:=qB (by omega)
       have u3:((b:Int)==0)=true:=by rw[hb0];rfl
       have u4:decide (0<k)=true:=qA K;have u5:decide ((k:Int)+1>1)=true:=qA (by omega)
       have c:=hb0;cases hd:decide (k=9)<;>rw[hd] at U<;>clear hd
       all_goals
        clear HX HJ f l HG HA hYs hlen t v c d m S J C H hb0;go_wp2_with fail;refine (qa.o _ _).mono ?_;rintro e w1 ⟨rfl,z⟩;have B:=Z ((z.block _ (gsi g.o.1.2).1).trans g.o.1.2);have q:=Z (Qaa g.o.2 z);clear z p0 p1 p2 q0 q1 q2;obtain⟨⟨p0,p1,p2⟩,q0,q1,q2⟩:=Qbz B.o;go_wp2_with fail
        try rw[Exit.noGoto_ret]
        refine Qa4 (A:=(Ja (w.heap.size+1) 0)) rfl (Qb5 _ _ _ _ _ _ (Qcq B.o _ _ _)) rfl rfl rfl ?_;exact Qc1 y.o.symm (Qbw q.o (by omega) _ _ _)
      ·have y:Hi (V=_):=Z (l.o Y (k+1) (QBb L k d qg G C (by rw[m];exact hz)) S J)
       have qr:IntKind.i64.wrap ((a:Int)+((k:Int)+1))=(a:Int)+((k:Int)+1):=by rw[JR];omega
       have qf:Hi ((a:Int)+((k:Int)+1)=((a+(k+1):Nat):Int)):=Z (by omega)
       have P:k=9->b<=1:=fun e=>by
        have:=fun h=>v ⟨e,h⟩
        omega
       by_cases K:0<k
       ·have u3:((b:Int)==0)=false:=by
         rw[qI];have:=fun h=>hz ⟨K,h⟩
         omega
        have u4:decide (0<k)=true:=qA K;have u5:decide ((k:Int)+1>1)=true:=qA (by omega)
        by_cases hd:k=9
        ·rw[qA hd] at U
         have u1:decide (1<b)=false:=qB (by have:=P hd;omega)
         have u2:decide ((b:Int)>1)=false:=qB (by have:=P hd;omega)
         clear hd;clear HX HJ f l HG HA hYs hlen t v d m S J C H P hz;go_wp2_with fail;go_region
         all_goals
          go_wp2_with fail
          try rw[Exit.noGoto_ret]
          refine Qa4 (A:=(Ja (w.heap.size+1) 0)) rfl (Qb5 _ _ _ _ _ _ (Qcq ((JO _ _ _ _ (by simp)).trans g.o.1.2) _ _ _)) rfl rfl rfl ?_
          exact Qc1 (by rw[y.o,<-qf.o]<;>rfl) (Qbw (g.o.2.setCell (p:=(Ja w.heap.size 1)) (qC _) _) (by omega) _ _ _).drew
        ·rw[qB hd] at U
         clear hd;clear HX HJ f l HG HA hYs hlen t v d m S J C H P hz;go_wp2_with fail;go_region
         all_goals
          go_wp2_with fail
          try rw[Exit.noGoto_ret]
          refine Qa4 (A:=(Ja (w.heap.size+1) 0)) rfl (Qb5 _ _ _ _ _ _ (Qcq ((JO _ _ _ _ (by simp)).trans g.o.1.2) _ _ _)) rfl rfl rfl ?_
          exact Qc1 (by rw[y.o,<-qf.o]<;>rfl) (Qbw (g.o.2.setCell (p:=(Ja w.heap.size 1)) (qC _) _) (by omega) _ _ _).drew
       ·have u4:decide (0<k)=false:=qB K
        have u5:decide ((k:Int)+1>1)=false:=qB (by omega)
        rw[qB (by omega)] at U
        clear HX HJ f l HG HA hYs hlen t v d m S J C H P hz;go_wp2_with fail;go_region
        all_goals
         go_wp2_with fail
         try rw[Exit.noGoto_ret]
         refine Qa4 (A:=(Ja (w.heap.size+1) 0)) rfl (Qb5 _ _ _ _ _ _ (Qcq ((JO _ _ _ _ (by simp)).trans g.o.1.2) _ _ _)) rfl rfl rfl ?_
         exact Qc1 (by rw[y.o,<-qf.o]<;>rfl) (Qbw (g.o.2.setCell (p:=(Ja w.heap.size 1)) (qC _) _) (by omega) _ _ _).drew
    ·have tb:decide (b<128)=false:=qB qb
     have qn:decide ((b:Int)<128)=false:=qB (by omega)
     have HA:Hi (∃Y:Nat,Y<18446744073709551616/\bits .or .u64 (X:Int) (IntKind.u64.wrap (IntKind.u64.wrap (bits .and .u8 (b:Int) 127)*2 ^ (7*k)))=(Y:Int)/\(k+1<=9->Y=QoP (L.take (k+1)))):=Z (by
      have hw:IntKind.u64.wrap (bits .and .u8 (b:Int) 127)=((b%128:Nat):Int):=by
       rw[QoE b qo,JU];omega
      rw[hw]
      by_cases v:k+1<=9
      ·have M:=HX.o (by omega)
       have D:=QlK (L.take k);rw[hlen,<-M] at D;have hp:(128:Nat) ^ k<=128 ^ 8:=Nat.pow_le_pow_right (by decide) (by omega)
       have hm:b%128*128 ^ k<=127*128 ^ 8:=Nat.mul_le_mul (by omega) hp
       have h8:(127:Nat)*128 ^ 8=9151314442816847872:=by decide
       have qe:(128:Nat) ^ 8=72057594037927936:=by decide
       refine⟨X+b%128*128 ^ k,by omega,QvL X (b%128) k D (by omega) hX,fun _=>?_⟩
       rw[t,Qi0,hlen,<-M,qc]
      ·obtain⟨Y,hY,he⟩:=QvM X (((b%128:Nat):Int)*2 ^ (7*k))
       exact⟨Y,hY,he,fun h=>JN h v⟩)
     obtain⟨Y,hY,hYe,hYs⟩:=HA.o;have qi:=Z hYs;have qj:Hi (∀j (h:j<k+1) (h':j<L.length),128<=L[j].toNat):=Z (fun j h h'=>by
      by_cases hj:j<k
      ·exact HJ.o j hj h'
      ·obtain rfl:j=k:=by omega
       omega)
     clear HX HJ f l HG HA hYs hlen t;go_wp2_with fail;go_round
     case rel=>exact⟨k+1,Y,by omega,by omega,by go_num,by go_num,rfl,by first|rfl|rw[hYe],hY,qi,qj⟩
     case measure=>simp[intOf];omega
  ·obtain rfl:k=N:=by omega
   have d:Hi (vK L=k):=Z (by
    have h1:=QDc L k (by have:=HL.o;omega) (fun j hj=>HJ.o j hj (by have:=HL.o;omega))
    have h2:=QEr L;have:=HL.o;omega)
   by_cases qd:k=10
   ·have O:Hi (V=_):=Z (f.o 11 (Qum L (by have:=d.o;omega)) (by decide))
    subst qd;clear HX HJ f l HG;go_wp2_with fail;refine (qa.o _ _).mono ?_;rintro e w1 ⟨rfl,c⟩;have B:=Z ((c.block _ (gsi g.o.1.2).1).trans g.o.1.2);have q:=Z (Qaa g.o.2 c);clear c p0 p1 p2 q0 q1 q2;obtain⟨⟨p0,p1,p2⟩,q0,q1,q2⟩:=Qbz B.o;go_wp2_with fail
    try rw[Exit.noGoto_ret]
    refine Qa4 (A:=(Ja (w.heap.size+1) 0)) rfl (Qb5 _ _ _ _ _ _ (Qcq B.o _ _ _)) rfl rfl rfl ?_;exact Qc1 O.o.symm (Qbw q.o (by omega) _ _ _)
   ·have qk:Hi (V=_):=Z (f.o 3 (QxY L (by have:=d.o;omega) (by have:=d.o;have:=HL.o;omega)) (by decide))
    have ql:((k:Int)==10)=false:=by rw[qI];omega
    clear HX HJ f l HG d;go_wp2_with fail;refine (qa.o _ _).mono ?_;rintro e w1 ⟨rfl,c⟩;have B:=Z ((c.block _ (gsi g.o.1.2).1).trans g.o.1.2);have q:=Z (Qaa g.o.2 c);clear c p0 p1 p2 q0 q1 q2;obtain⟨⟨p0,p1,p2⟩,q0,q1,q2⟩:=Qbz B.o;go_wp2_with fail
    try rw[Exit.noGoto_ret]
    refine Qa4 (A:=(Ja (w.heap.size+1) 0)) rfl (Qb5 _ _ _ _ _ _ (Qcq B.o _ _ _)) rfl rfl rfl ?_;exact Qc1 qk.o.symm (Qbw q.o (by omega) _ _ _)
def Qfg(n:Nat):Bool:=decide (48<=n)&&decide (n<=57)
def Qkp(n:Nat):Bool:=decide (97<=n)&&decide (n<=122)
def Qa9(n:Nat):Bool:=Qkp n||Qfg n||n==45
def Qep(l:JL):Bool:=!l.isEmpty&&decide (l.length<=32)&&l.all (fun c=>Qa9 c.toNat)
theorem QCG(n:Nat)(h:128<=n):Qfg n=false:=by unfold Qfg;simp;omega
theorem QvZ(n:Nat)(h:128<=n):Qa9 n=false:=by
 unfold Qa9 Qkp Qfg;have:(n==45)=false:=by rw[qI];omega
 rw[this];simp;omega
theorem Qhz(s:JA)(pos:Nat)(h:pos<s.size)(a:s[pos].toNat<128):Utf8.decode s pos=(s[pos].toNat,1):=by
 rw[Go.Lib.decode_N];have:s.data.toList.getD pos 0=s[pos]:=by
  rw[J9,qU (by rw[Qab];exact h)];rfl
 rw[this];exact Go.Lib.decodeN_ascii _ _ _ _ _ a
theorem Qot(n b0 c b a:Nat)(h:128<=b0):128<=(Go.Lib.decodeN n b0 c b a).1:=by
 unfold Go.Lib.decodeN;rw[JJ (by omega)]
 split
 ·split
  ·assumption
  ·decide
 ·split
  ·split
   ·rename_i h;show 128<=_;omega
   ·decide
  ·split
   ·split
    ·rename_i h;show 128<=_;omega
    ·decide
   ·decide
theorem Qqn(s:JA)(pos:Nat)(h:pos<s.size)(a:128<=s[pos].toNat):128<=(Utf8.decode s pos).1:=by
 rw[Go.Lib.decode_N];have:s.data.toList.getD pos 0=s[pos]:=by
  rw[J9,qU (by rw[Qab];exact h)];rfl
 rw[this];exact Qot _ _ _ _ _ a
theorem Qn4(p:Nat->Bool)(g:∀x,128<=x->p x=true)(s:JA):∀(f pos:Nat),s.size<=pos+f->
  decide (Go.Lib.idxFuncFrom p true s f pos<0)=(s.data.toList.drop pos).all (fun c=>!p c.toNat):=by
 intro f
 induction f with
 |zero=>
  intro pos h;rw[List.drop_eq_nil_of_le (by rw[Qab];omega)]
  rfl
 |succ f ih=>
  intro pos h
  by_cases a:pos<s.size
  ·have i:s.data.toList.drop pos=s[pos] :: s.data.toList.drop (pos+1):=List.drop_eq_getElem_cons (by rw[Qab];exact a)
   unfold Go.Lib.idxFuncFrom;rw[JK a,i,List.all_cons]
   by_cases j:s[pos].toNat<128
   ·rw[Qhz s pos a j]
    by_cases b:p s[pos].toNat=true
    ·rw[JK b,b]
     have d:¬((pos:Int)<0):=by omega
     rw[qB d];rfl
    ·rw[JJ b,ih (pos+1) (by omega)]
     simp[b]
   ·have d:¬((pos:Int)<0):=by omega
    rw[JK (g _ (Qqn s pos a (by omega))),g _ (show 128<=s[pos].toNat by omega),qB d];rfl
  ·rw[List.drop_eq_nil_of_le (by rw[Qab];omega),Go.Lib.idxFuncFrom_end _ _ _ _ _ a]
   rfl
theorem QmB(p:Nat->Bool)(a:∀x,128<=x->p x=true)(s:JA) :
  decide (Go.Lib.idxFunc p true s<0)=s.data.toList.all (fun c=>!p c.toNat):=
 Qn4 p a s s.size 0 (by omega)
end
end Go.Proofs.YtlpecalodphalaaGreatDoor
namespace Go.Proofs
open Go.Shelf
def Tryz.lays156_ren:Go.Shelf.Ren:=⟨fun|156=>71|165=>118|166=>119|169=>120|240=>169|241=>170|276=>206|277=>207|n=>n,fun|31=>182|9=>9|3=>3|4=>4|0=>0|20=>20|72=>244|76=>248|70=>242|37=>169|75=>247|127=>291|164=>323|5=>5|80=>164|n=>n,fun|n=>n⟩
theorem Tryz.lays156:Go.Proofs.Lays.n156 prog Tryz.lays156_ren:={ mixed:=by kernel_rfl,f156:=JX func71 (by kernel_rfl),f165:=JX func118 (by kernel_rfl),f166:=JX func119 (by kernel_rfl),f169:=JX func120 (by kernel_rfl),f240:=JX func169 (by kernel_rfl),f241:=JX func170 (by kernel_rfl),f276:=JX func206 (by kernel_rfl),f277:=JX func207 (by kernel_rfl),t0:=underlying0,a0:=Tryz.isAgg0,z0:=Tryz.sizeOf0,v0:=Tryz.zeroValue0,t3:=underlying3,a3:=Tryz.isAgg3,z3:=Tryz.sizeOf3,v3:=Tryz.zeroValue3,t4:=underlying4,a4:=Tryz.isAgg4,z4:=Tryz.sizeOf4,v4:=Tryz.zeroValue4,t9:=underlying9,a9:=Tryz.isAgg9,z9:=Tryz.sizeOf9,v9:=Tryz.zeroValue9,t20:=underlying20,a20:=Tryz.isAgg20,z20:=Tryz.sizeOf20,v20:=Tryz.zeroValue20,t31:=underlying182,a31:=Tryz.isAgg182,z31:=Tryz.sizeOf182,v31:=Tryz.zeroValue182,t37:=underlying169,a37:=Tryz.isAgg169,z37:=Tryz.sizeOf169,v37:=Tryz.zeroValue169,t70:=underlying242,a70:=Tryz.isAgg242,z70:=Tryz.sizeOf242,v70:=Tryz.zeroValue242,t72:=underlying244,a72:=Tryz.isAgg244,z72:=Tryz.sizeOf244,v72:=Tryz.zeroValue244,t75:=underlying247,a75:=Tryz.isAgg247,z75:=Tryz.sizeOf247,v75:=Tryz.zeroValue247,t76:=underlying248,a76:=Tryz.isAgg248,z76:=Tryz.sizeOf248,v76:=Tryz.zeroValue248,t127:=underlying291,a127:=Tryz.isAgg291,z127:=Tryz.sizeOf291,v127:=Tryz.zeroValue291,t164:=underlying323,a164:=Tryz.isAgg323,z164:=Tryz.sizeOf323,v164:=Tryz.zeroValue323 }
theorem Tryz.Builder_Extra_156:Builder.Extra prog Tryz.lays156_ren:={ sizeBuilder:=by kernel_rfl,liesBuilder:=by kernel_rfl,t5:=underlying5,a5:=Tryz.isAgg5,z5:=Tryz.sizeOf5,v5:=Tryz.zeroValue5,infoByte:=by kernel_rfl,cellsByte:=by kernel_rfl,sizeByte:=by kernel_rfl,neB5:=by decide }
open Go.RowKit in
theorem Tryz.strings_Join(b o c:Nat)(xs:List ByteArray)(sep:ByteArray)(w:World)(d:∀(j:Nat) x,xs[j]?=some x->w.cell? ⟨b,o+j,none⟩=some (.string x))(f:b<w.heap.size)(g:xs.length<=140737488355328)(a:xs.length<=c)(hlen:(Lib.join (xs.map (·.data.toList)) sep.data.toList).length<=140737488355328) :
  Calls prog 71 #[.slice (some ⟨b,o,none⟩) xs.length c,.string sep] w fun e w'=>e=.returned (.string ⟨(Lib.join (xs.map (·.data.toList)) sep.data.toList).toArray⟩)/\Below w.heap.size w w':=Any.strings_Join Tryz.lays156 Tryz.Builder_Extra_156 b o c xs sep w d f g a hlen
def Tryz.lays162_ren:Go.Shelf.Ren:=⟨fun|162=>306|232=>230|227=>226|234=>231|236=>232|228=>252|271=>254|151=>253|120=>287|197=>221|152=>255|260=>251|137=>156|119=>288|224=>289|225=>290|217=>189|266=>218|n=>n,fun|9=>9|4=>4|3=>3|5=>5|117=>351|116=>350|0=>0|124=>354|21=>21|105=>345|46=>208|119=>438|139=>441|138=>440|n=>n,fun|3=>2|4=>3|n=>n⟩
theorem Tryz.lays162:Go.Proofs.Lays.n162 prog Tryz.lays162_ren:={ mixed:=by kernel_rfl,f119:=JX func288 (by kernel_rfl),f120:=JX func287 (by kernel_rfl),f137:=JX func156 (by kernel_rfl),f151:=JX func253 (by kernel_rfl),f152:=JX func255 (by kernel_rfl),f162:=JX func306 (by kernel_rfl),f197:=JX func221 (by kernel_rfl),f217:=JX func189 (by kernel_rfl),f224:=JX func289 (by kernel_rfl),f225:=JX func290 (by kernel_rfl),f227:=JX func226 (by kernel_rfl),f228:=JX func252 (by kernel_rfl),f232:=JX func230 (by kernel_rfl),f234:=JX func231 (by kernel_rfl),f236:=JX func232 (by kernel_rfl),f260:=JX func251 (by kernel_rfl),f266:=JX func218 (by kernel_rfl),f271:=JX func254 (by kernel_rfl),t0:=underlying0,a0:=Tryz.isAgg0,z0:=Tryz.sizeOf0,v0:=Tryz.zeroValue0,t3:=underlying3,a3:=Tryz.isAgg3,z3:=Tryz.sizeOf3,v3:=Tryz.zeroValue3,t4:=underlying4,a4:=Tryz.isAgg4,z4:=Tryz.sizeOf4,v4:=Tryz.zeroValue4,t5:=underlying5,a5:=Tryz.isAgg5,z5:=Tryz.sizeOf5,v5:=Tryz.zeroValue5,t9:=underlying9,a9:=Tryz.isAgg9,z9:=Tryz.sizeOf9,v9:=Tryz.zeroValue9,t21:=underlying21,a21:=Tryz.isAgg21,z21:=Tryz.sizeOf21,v21:=Tryz.zeroValue21,t46:=underlying208,a46:=Tryz.isAgg208,z46:=Tryz.sizeOf208,v46:=Tryz.zeroValue208,t105:=underlying345,a105:=Tryz.isAgg345,z105:=Tryz.sizeOf345,v105:=Tryz.zeroValue345,t116:=underlying350,a116:=Tryz.isAgg350,z116:=Tryz.sizeOf350,t117:=underlying351,a117:=Tryz.isAgg351,z117:=Tryz.sizeOf351,v117:=Tryz.zeroValue351,t119:=underlying438,a119:=Tryz.isAgg438,z119:=Tryz.sizeOf438,t124:=underlying354,a124:=Tryz.isAgg354,z124:=Tryz.sizeOf354,v124:=Tryz.zeroValue354,t138:=underlying440,a138:=Tryz.isAgg440,z138:=Tryz.sizeOf440,v138:=Tryz.zeroValue440,t139:=underlying441,a139:=Tryz.isAgg441,z139:=Tryz.sizeOf441,v139:=Tryz.zeroValue441,g3:=by kernel_rfl,g4:=by kernel_rfl }
def Tryz.lays160_ren:Go.Shelf.Ren:=⟨fun|160=>199|232=>230|231=>225|227=>226|234=>231|233=>227|236=>232|235=>228|228=>252|271=>254|151=>253|197=>221|120=>287|152=>255|260=>251|137=>156|119=>288|224=>289|225=>290|217=>189|266=>218|n=>n,fun|9=>9|4=>4|3=>3|5=>5|117=>351|116=>350|0=>0|124=>354|21=>21|105=>345|46=>208|119=>438|139=>441|138=>440|n=>n,fun|3=>2|4=>3|n=>n⟩
theorem Tryz.lays160:Go.Proofs.Lays.n160 prog Tryz.lays160_ren:={ mixed:=by kernel_rfl,f119:=JX func288 (by kernel_rfl),f120:=JX func287 (by kernel_rfl),f137:=JX func156 (by kernel_rfl),f151:=JX func253 (by kernel_rfl),f152:=JX func255 (by kernel_rfl),f160:=JX func199 (by kernel_rfl),f197:=JX func221 (by kernel_rfl),f217:=JX func189 (by kernel_rfl),f224:=JX func289 (by kernel_rfl),f225:=JX func290 (by kernel_rfl),f227:=JX func226 (by kernel_rfl),f228:=JX func252 (by kernel_rfl),f231:=JX func225 (by kernel_rfl),f232:=JX func230 (by kernel_rfl),f233:=JX func227 (by kernel_rfl),f234:=JX func231 (by kernel_rfl),f235:=JX func228 (by kernel_rfl),f236:=JX func232 (by kernel_rfl),f260:=JX func251 (by kernel_rfl),f266:=JX func218 (by kernel_rfl),f271:=JX func254 (by kernel_rfl),t0:=underlying0,a0:=Tryz.isAgg0,z0:=Tryz.sizeOf0,v0:=Tryz.zeroValue0,t3:=underlying3,a3:=Tryz.isAgg3,z3:=Tryz.sizeOf3,v3:=Tryz.zeroValue3,t4:=underlying4,a4:=Tryz.isAgg4,z4:=Tryz.sizeOf4,v4:=Tryz.zeroValue4,t5:=underlying5,a5:=Tryz.isAgg5,z5:=Tryz.sizeOf5,v5:=Tryz.zeroValue5,t9:=underlying9,a9:=Tryz.isAgg9,z9:=Tryz.sizeOf9,v9:=Tryz.zeroValue9,t21:=underlying21,a21:=Tryz.isAgg21,z21:=Tryz.sizeOf21,v21:=Tryz.zeroValue21,t46:=underlying208,a46:=Tryz.isAgg208,z46:=Tryz.sizeOf208,v46:=Tryz.zeroValue208,t105:=underlying345,a105:=Tryz.isAgg345,z105:=Tryz.sizeOf345,v105:=Tryz.zeroValue345,t116:=underlying350,a116:=Tryz.isAgg350,z116:=Tryz.sizeOf350,t117:=underlying351,a117:=Tryz.isAgg351,z117:=Tryz.sizeOf351,v117:=Tryz.zeroValue351,t119:=underlying438,a119:=Tryz.isAgg438,z119:=Tryz.sizeOf438,t124:=underlying354,a124:=Tryz.isAgg354,z124:=Tryz.sizeOf354,v124:=Tryz.zeroValue354,t138:=underlying440,a138:=Tryz.isAgg440,z138:=Tryz.sizeOf440,v138:=Tryz.zeroValue440,t139:=underlying441,a139:=Tryz.isAgg441,z139:=Tryz.sizeOf441,v139:=Tryz.zeroValue441,g3:=by kernel_rfl,g4:=by kernel_rfl }
def Tryz.lays103_ren:Go.Shelf.Ren:=⟨fun|103=>198|210=>229|206=>123|n=>n,fun|9=>9|4=>4|24=>128|3=>3|n=>n,fun|n=>n⟩
theorem Tryz.lays103:Go.Proofs.Lays.n103 prog Tryz.lays103_ren:={ mixed:=by kernel_rfl,f103:=JX func198 (by kernel_rfl),f206:=JX func123 (by kernel_rfl),f210:=JX func229 (by kernel_rfl),t3:=underlying3,a3:=Tryz.isAgg3,z3:=Tryz.sizeOf3,v3:=Tryz.zeroValue3,t4:=underlying4,a4:=Tryz.isAgg4,z4:=Tryz.sizeOf4,v4:=Tryz.zeroValue4,t9:=underlying9,a9:=Tryz.isAgg9,z9:=Tryz.sizeOf9,v9:=Tryz.zeroValue9,t24:=underlying128,a24:=Tryz.isAgg128,z24:=Tryz.sizeOf128,v24:=Tryz.zeroValue128 }
open Go.RowKit in
theorem Tryz.strings_CutPrefix(s p:ByteArray)(w:World) :
  Calls prog 198 #[.string s,.string p] w fun e w'=>e=.returned (.tuple #[.string ⟨(Lib.trimPrefix s.data.toList p.data.toList).toArray⟩,.bool (Lib.hasPrefix s.data.toList p.data.toList)])/\w'=w:=Any.strings_CutPrefix Tryz.lays103 s p w
def Tryz.lays172_ren:Go.Shelf.Ren:=⟨fun|172=>201|244=>234|245=>235|247=>257|279=>258|280=>259|281=>260|282=>261|287=>291|316=>165|171=>293|205=>292|321=>315|322=>316|243=>317|246=>332|283=>343|284=>344|285=>345|286=>346|129=>151|317=>352|318=>353|319=>354|320=>355|337=>365|338=>366|n=>n,fun|9=>9|3=>3|75=>247|76=>248|4=>4|5=>5|167=>391|37=>169|0=>0|85=>392|2=>2|168=>394|53=>43|175=>443|46=>208|210=>446|127=>291|145=>470|143=>468|21=>21|171=>503|173=>505|212=>513|51=>59|20=>20|213=>514|232=>545|233=>546|80=>164|n=>n,fun|15=>4|16=>5|17=>6|18=>7|19=>8|n=>n⟩
theorem Tryz.lays172:Go.Proofs.Lays.n172 prog Tryz.lays172_ren:={ mixed:=by kernel_rfl,f129:=JX func151 (by kernel_rfl),f171:=JX func293 (by kernel_rfl),f172:=JX func201 (by kernel_rfl),f205:=JX func292 (by kernel_rfl),f243:=JX func317 (by kernel_rfl),f244:=JX func234 (by kernel_rfl),f245:=JX func235 (by kernel_rfl),f246:=JX func332 (by kernel_rfl),f247:=JX func257 (by kernel_rfl),f279:=JX func258 (by kernel_rfl),f280:=JX func259 (by kernel_rfl),f281:=JX func260 (by kernel_rfl),f282:=JX func261 (by kernel_rfl),f283:=JX func343 (by kernel_rfl),f284:=JX func344 (by kernel_rfl),f285:=JX func345 (by kernel_rfl),f286:=JX func346 (by kernel_rfl),f287:=JX func291 (by kernel_rfl),f316:=JX func165 (by kernel_rfl),f317:=JX func352 (by kernel_rfl),f318:=JX func353 (by kernel_rfl),f319:=JX func354 (by kernel_rfl),f320:=JX func355 (by kernel_rfl),f321:=JX func315 (by kernel_rfl),f322:=JX func316 (by kernel_rfl),f337:=JX func365 (by kernel_rfl),f338:=JX func366 (by kernel_rfl),t0:=underlying0,a0:=Tryz.isAgg0,z0:=Tryz.sizeOf0,v0:=Tryz.zeroValue0,t2:=underlying2,a2:=Tryz.isAgg2,z2:=Tryz.sizeOf2,v2:=Tryz.zeroValue2,t3:=underlying3,a3:=Tryz.isAgg3,z3:=Tryz.sizeOf3,v3:=Tryz.zeroValue3,t4:=underlying4,a4:=Tryz.isAgg4,z4:=Tryz.sizeOf4,v4:=Tryz.zeroValue4,t5:=underlying5,a5:=Tryz.isAgg5,z5:=Tryz.sizeOf5,v5:=Tryz.zeroValue5,t9:=underlying9,a9:=Tryz.isAgg9,z9:=Tryz.sizeOf9,v9:=Tryz.zeroValue9,t20:=underlying20,a20:=Tryz.isAgg20,z20:=Tryz.sizeOf20,v20:=Tryz.zeroValue20,t21:=underlying21,a21:=Tryz.isAgg21,z21:=Tryz.sizeOf21,v21:=Tryz.zeroValue21,t37:=underlying169,a37:=Tryz.isAgg169,z37:=Tryz.sizeOf169,v37:=Tryz.zeroValue169,t46:=underlying208,a46:=Tryz.isAgg208,z46:=Tryz.sizeOf208,v46:=Tryz.zeroValue208,t51:=underlying59,a51:=Tryz.isAgg59,z51:=Tryz.sizeOf59,v51:=Tryz.zeroValue59,t53:=underlying43,a53:=Tryz.isAgg43,z53:=Tryz.sizeOf43,v53:=Tryz.zeroValue43,t75:=underlying247,a75:=Tryz.isAgg247,z75:=Tryz.sizeOf247,v75:=Tryz.zeroValue247,t76:=underlying248,a76:=Tryz.isAgg248,z76:=Tryz.sizeOf248,v76:=Tryz.zeroValue248,t85:=underlying392,a85:=Tryz.isAgg392,z85:=Tryz.sizeOf392,v85:=Tryz.zeroValue392,t127:=underlying291,a127:=Tryz.isAgg291,z127:=Tryz.sizeOf291,v127:=Tryz.zeroValue291,t143:=underlying468,a143:=Tryz.isAgg468,z143:=Tryz.sizeOf468,v143:=Tryz.zeroValue468,t145:=underlying470,a145:=Tryz.isAgg470,z145:=Tryz.sizeOf470,v145:=Tryz.zeroValue470,t167:=underlying391,a167:=Tryz.isAgg391,z167:=Tryz.sizeOf391,v167:=Tryz.zeroValue391,t168:=underlying394,a168:=Tryz.isAgg394,z168:=Tryz.sizeOf394,v168:=Tryz.zeroValue394,t171:=underlying503,a171:=Tryz.isAgg503,z171:=Tryz.sizeOf503,v171:=Tryz.zeroValue503,t173:=underlying505,a173:=Tryz.isAgg505,z173:=Tryz.sizeOf505,v173:=Tryz.zeroValue505,t175:=underlying443,a175:=Tryz.isAgg443,z175:=Tryz.sizeOf443,v175:=Tryz.zeroValue443,t210:=underlying446,a210:=Tryz.isAgg446,z210:=Tryz.sizeOf446,v210:=Tryz.zeroValue446,t212:=underlying513,a212:=Tryz.isAgg513,z212:=Tryz.sizeOf513,v212:=Tryz.zeroValue513,t213:=underlying514,a213:=Tryz.isAgg514,z213:=Tryz.sizeOf514,t232:=underlying545,a232:=Tryz.isAgg545,z232:=Tryz.sizeOf545,v232:=Tryz.zeroValue545,t233:=underlying546,a233:=Tryz.isAgg546,z233:=Tryz.sizeOf546,v233:=Tryz.zeroValue546,g15:=by kernel_rfl,g16:=by kernel_rfl,g17:=by kernel_rfl,g18:=by kernel_rfl,g19:=by kernel_rfl }
open Go.RowKit in
theorem Tryz.strconv_Atoi(s:ByteArray)(n:Int)(a:s.size<=18)(h:Lib.atoi s.data.toList=some n)(w:World) :
  Calls prog 201 #[.string s] w fun e w'=>e=.returned (.tuple #[.int .i64 n,.nilIface])/\∃t,w'=Lib.bytesWorld w 5 t:=Any.strconv_Atoi Tryz.lays172 s n a h w
def Tryz.laysM171_ren:Go.Shelf.Ren:=⟨fun|171=>293|243=>317|246=>332|283=>343|284=>344|285=>345|286=>346|129=>151|317=>352|318=>353|319=>354|320=>355|337=>365|338=>366|n=>n,fun|3=>3|9=>9|2=>2|4=>4|171=>503|0=>0|53=>43|37=>169|5=>5|173=>505|212=>513|51=>59|20=>20|213=>514|46=>208|232=>545|233=>546|n=>n,fun|17=>6|18=>7|19=>8|n=>n⟩
theorem Tryz.laysM171:Go.Proofs.LaysM.n171 prog Tryz.laysM171_ren:={ mixed:=by kernel_rfl,f129:=JX func151 (by kernel_rfl),f171:=JX func293 (by kernel_rfl),f243:=JX func317 (by kernel_rfl),f246:=JX func332 (by kernel_rfl),f283:=JX func343 (by kernel_rfl),f284:=JX func344 (by kernel_rfl),f285:=JX func345 (by kernel_rfl),f286:=JX func346 (by kernel_rfl),f317:=JX func352 (by kernel_rfl),f318:=JX func353 (by kernel_rfl),f319:=JX func354 (by kernel_rfl),f320:=JX func355 (by kernel_rfl),f337:=JX func365 (by kernel_rfl),f338:=JX func366 (by kernel_rfl),t0:=underlying0,a0:=Tryz.isAgg0,z0:=Tryz.sizeOf0,v0:=Tryz.zeroValue0,t2:=underlying2,a2:=Tryz.isAgg2,z2:=Tryz.sizeOf2,v2:=Tryz.zeroValue2,t3:=underlying3,a3:=Tryz.isAgg3,z3:=Tryz.sizeOf3,v3:=Tryz.zeroValue3,t4:=underlying4,a4:=Tryz.isAgg4,z4:=Tryz.sizeOf4,v4:=Tryz.zeroValue4,t5:=underlying5,a5:=Tryz.isAgg5,z5:=Tryz.sizeOf5,v5:=Tryz.zeroValue5,t9:=underlying9,a9:=Tryz.isAgg9,z9:=Tryz.sizeOf9,v9:=Tryz.zeroValue9,t20:=underlying20,a20:=Tryz.isAgg20,z20:=Tryz.sizeOf20,v20:=Tryz.zeroValue20,t37:=underlying169,a37:=Tryz.isAgg169,z37:=Tryz.sizeOf169,v37:=Tryz.zeroValue169,t46:=underlying208,a46:=Tryz.isAgg208,z46:=Tryz.sizeOf208,v46:=Tryz.zeroValue208,t51:=underlying59,a51:=Tryz.isAgg59,z51:=Tryz.sizeOf59,v51:=Tryz.zeroValue59,t53:=underlying43,a53:=Tryz.isAgg43,z53:=Tryz.sizeOf43,v53:=Tryz.zeroValue43,t171:=underlying503,a171:=Tryz.isAgg503,z171:=Tryz.sizeOf503,v171:=Tryz.zeroValue503,t173:=underlying505,a173:=Tryz.isAgg505,z173:=Tryz.sizeOf505,v173:=Tryz.zeroValue505,t212:=underlying513,a212:=Tryz.isAgg513,z212:=Tryz.sizeOf513,v212:=Tryz.zeroValue513,t213:=underlying514,a213:=Tryz.isAgg514,z213:=Tryz.sizeOf514,t232:=underlying545,a232:=Tryz.isAgg545,z232:=Tryz.sizeOf545,v232:=Tryz.zeroValue545,t233:=underlying546,a233:=Tryz.isAgg546,z233:=Tryz.sizeOf546,v233:=Tryz.zeroValue546,g17:=by kernel_rfl,g18:=by kernel_rfl,g19:=by kernel_rfl,i0:=by kernel_rfl,i2:=by kernel_rfl,i3:=by kernel_rfl,i4:=by kernel_rfl,i5:=by kernel_rfl,i9:=by kernel_rfl,i20:=by kernel_rfl,i37:=by kernel_rfl,i46:=by kernel_rfl,i51:=by kernel_rfl,i53:=by kernel_rfl,i171:=by kernel_rfl,i173:=by kernel_rfl,i212:=by kernel_rfl,i232:=by kernel_rfl,i233:=by kernel_rfl,m17:=by kernel_rfl,m18:=by kernel_rfl,m19:=by kernel_rfl }
open Go.RowKit Go.Sort Go.Lib in
theorem Tryz.strconv_Itoa(n:Int)(c : -9223372036854775808<=n)(b:n<=9223372036854775807)(w:World)(a:Lib.TabIs prog w "internal/strconv.uint64pow10" .u64 Lib.pow10Tab) :
  Calls prog 293 #[.int .i64 n] w fun e w'=>e=.returned (.string ⟨(Lib.itoa n).toArray⟩)/\∃k os,w'=grow (w.drewN k) os:=Any.strconv_Itoa Tryz.laysM171 n c b w a
def Tryz.laysM316_ren:Go.Shelf.Ren:=⟨fun|316=>165|n=>n,fun|9=>9|3=>3|4=>4|37=>169|0=>0|127=>291|5=>5|n=>n,fun|n=>n⟩
theorem Tryz.laysM316:Go.Proofs.LaysM.n316 prog Tryz.laysM316_ren:={ mixed:=by kernel_rfl,f316:=JX func165 (by kernel_rfl),t0:=underlying0,a0:=Tryz.isAgg0,z0:=Tryz.sizeOf0,v0:=Tryz.zeroValue0,t3:=underlying3,a3:=Tryz.isAgg3,z3:=Tryz.sizeOf3,v3:=Tryz.zeroValue3,t4:=underlying4,a4:=Tryz.isAgg4,z4:=Tryz.sizeOf4,v4:=Tryz.zeroValue4,t9:=underlying9,a9:=Tryz.isAgg9,z9:=Tryz.sizeOf9,v9:=Tryz.zeroValue9,t37:=underlying169,a37:=Tryz.isAgg169,z37:=Tryz.sizeOf169,v37:=Tryz.zeroValue169,t127:=underlying291,a127:=Tryz.isAgg291,z127:=Tryz.sizeOf291,v127:=Tryz.zeroValue291,t5:=underlying5,a5:=Tryz.isAgg5,z5:=Tryz.sizeOf5,v5:=Tryz.zeroValue5,i0:=by kernel_rfl,i3:=by kernel_rfl,i4:=by kernel_rfl,i5:=by kernel_rfl,i9:=by kernel_rfl,i37:=by kernel_rfl,i127:=by kernel_rfl }
open Go.RowKit in
theorem Tryz.stringslite_Clone(s:ByteArray)(w:World)(a:s.size<=281474976710656) :
  Calls prog 165 #[.string s] w fun e w'=>e=.returned (.string s)/\Below w.heap.size w w':=Any.stringslite_Clone Tryz.laysM316 s w a
def Tryz.laysC172_ren:Go.Shelf.Ren:=⟨fun|172=>201|244=>234|245=>235|247=>257|279=>258|280=>259|281=>260|282=>261|287=>291|316=>165|171=>293|205=>292|321=>315|322=>316|243=>317|246=>332|283=>343|284=>344|285=>345|286=>346|129=>151|317=>352|318=>353|319=>354|320=>355|337=>365|338=>366|n=>n,fun|9=>9|3=>3|75=>247|76=>248|4=>4|5=>5|167=>391|37=>169|0=>0|85=>392|2=>2|168=>394|53=>43|175=>443|46=>208|210=>446|127=>291|145=>470|143=>468|21=>21|171=>503|173=>505|212=>513|51=>59|20=>20|213=>514|232=>545|233=>546|80=>164|n=>n,fun|15=>4|16=>5|17=>6|18=>7|19=>8|n=>n⟩
theorem Tryz.laysC172:Go.Proofs.LaysC.n172 prog Tryz.laysC172_ren:={ mixed:=by kernel_rfl,f129:=JX func151 (by kernel_rfl),f171:=JX func293 (by kernel_rfl),f172:=JX func201 (by kernel_rfl),f205:=JX func292 (by kernel_rfl),f243:=JX func317 (by kernel_rfl),f244:=JX func234 (by kernel_rfl),f245:=JX func235 (by kernel_rfl),f246:=JX func332 (by kernel_rfl),f247:=JX func257 (by kernel_rfl),f279:=JX func258 (by kernel_rfl),f280:=JX func259 (by kernel_rfl),f281:=JX func260 (by kernel_rfl),f282:=JX func261 (by kernel_rfl),f283:=JX func343 (by kernel_rfl),f284:=JX func344 (by kernel_rfl),f285:=JX func345 (by kernel_rfl),f286:=JX func346 (by kernel_rfl),f287:=JX func291 (by kernel_rfl),f316:=JX func165 (by kernel_rfl),f317:=JX func352 (by kernel_rfl),f318:=JX func353 (by kernel_rfl),f319:=JX func354 (by kernel_rfl),f320:=JX func355 (by kernel_rfl),f321:=JX func315 (by kernel_rfl),f322:=JX func316 (by kernel_rfl),f337:=JX func365 (by kernel_rfl),f338:=JX func366 (by kernel_rfl),t0:=underlying0,a0:=Tryz.isAgg0,z0:=Tryz.sizeOf0,v0:=Tryz.zeroValue0,t2:=underlying2,a2:=Tryz.isAgg2,z2:=Tryz.sizeOf2,v2:=Tryz.zeroValue2,t3:=underlying3,a3:=Tryz.isAgg3,z3:=Tryz.sizeOf3,v3:=Tryz.zeroValue3,t4:=underlying4,a4:=Tryz.isAgg4,z4:=Tryz.sizeOf4,v4:=Tryz.zeroValue4,t5:=underlying5,a5:=Tryz.isAgg5,z5:=Tryz.sizeOf5,v5:=Tryz.zeroValue5,t9:=underlying9,a9:=Tryz.isAgg9,z9:=Tryz.sizeOf9,v9:=Tryz.zeroValue9,t20:=underlying20,a20:=Tryz.isAgg20,z20:=Tryz.sizeOf20,v20:=Tryz.zeroValue20,t21:=underlying21,a21:=Tryz.isAgg21,z21:=Tryz.sizeOf21,v21:=Tryz.zeroValue21,t37:=underlying169,a37:=Tryz.isAgg169,z37:=Tryz.sizeOf169,v37:=Tryz.zeroValue169,t46:=underlying208,a46:=Tryz.isAgg208,z46:=Tryz.sizeOf208,v46:=Tryz.zeroValue208,t51:=underlying59,a51:=Tryz.isAgg59,z51:=Tryz.sizeOf59,v51:=Tryz.zeroValue59,t53:=underlying43,a53:=Tryz.isAgg43,z53:=Tryz.sizeOf43,v53:=Tryz.zeroValue43,t75:=underlying247,a75:=Tryz.isAgg247,z75:=Tryz.sizeOf247,v75:=Tryz.zeroValue247,t76:=underlying248,a76:=Tryz.isAgg248,z76:=Tryz.sizeOf248,v76:=Tryz.zeroValue248,t85:=underlying392,a85:=Tryz.isAgg392,z85:=Tryz.sizeOf392,v85:=Tryz.zeroValue392,t127:=underlying291,a127:=Tryz.isAgg291,z127:=Tryz.sizeOf291,v127:=Tryz.zeroValue291,t143:=underlying468,a143:=Tryz.isAgg468,z143:=Tryz.sizeOf468,v143:=Tryz.zeroValue468,t145:=underlying470,a145:=Tryz.isAgg470,z145:=Tryz.sizeOf470,v145:=Tryz.zeroValue470,t167:=underlying391,a167:=Tryz.isAgg391,z167:=Tryz.sizeOf391,v167:=Tryz.zeroValue391,t168:=underlying394,a168:=Tryz.isAgg394,z168:=Tryz.sizeOf394,v168:=Tryz.zeroValue394,t171:=underlying503,a171:=Tryz.isAgg503,z171:=Tryz.sizeOf503,v171:=Tryz.zeroValue503,t173:=underlying505,a173:=Tryz.isAgg505,z173:=Tryz.sizeOf505,v173:=Tryz.zeroValue505,t175:=underlying443,a175:=Tryz.isAgg443,z175:=Tryz.sizeOf443,v175:=Tryz.zeroValue443,t210:=underlying446,a210:=Tryz.isAgg446,z210:=Tryz.sizeOf446,v210:=Tryz.zeroValue446,t212:=underlying513,a212:=Tryz.isAgg513,z212:=Tryz.sizeOf513,v212:=Tryz.zeroValue513,t213:=underlying514,a213:=Tryz.isAgg514,z213:=Tryz.sizeOf514,t232:=underlying545,a232:=Tryz.isAgg545,z232:=Tryz.sizeOf545,v232:=Tryz.zeroValue545,t233:=underlying546,a233:=Tryz.isAgg546,z233:=Tryz.sizeOf546,v233:=Tryz.zeroValue546,g15:=by kernel_rfl,g16:=by kernel_rfl,g17:=by kernel_rfl,g18:=by kernel_rfl,g19:=by kernel_rfl,t80:=underlying164,a80:=Tryz.isAgg164,z80:=Tryz.sizeOf164,v80:=Tryz.zeroValue164,i0:=by kernel_rfl,i2:=by kernel_rfl,i3:=by kernel_rfl,i4:=by kernel_rfl,i5:=by kernel_rfl,i9:=by kernel_rfl,i20:=by kernel_rfl,i21:=by kernel_rfl,i37:=by kernel_rfl,i46:=by kernel_rfl,i51:=by kernel_rfl,i53:=by kernel_rfl,i75:=by kernel_rfl,i76:=by kernel_rfl,i80:=by kernel_rfl,i85:=by kernel_rfl,i127:=by kernel_rfl,i143:=by kernel_rfl,i145:=by kernel_rfl,i167:=by kernel_rfl,i168:=by kernel_rfl,i171:=by kernel_rfl,i173:=by kernel_rfl,i175:=by kernel_rfl,i210:=by kernel_rfl,i212:=by kernel_rfl,i232:=by kernel_rfl,i233:=by kernel_rfl,m15:=by kernel_rfl,m16:=by kernel_rfl,m17:=by kernel_rfl,m18:=by kernel_rfl,m19:=by kernel_rfl,c0:=by kernel_rfl,c2:=by kernel_rfl,c3:=by kernel_rfl,c4:=by kernel_rfl,c5:=by kernel_rfl,c9:=by kernel_rfl,c20:=by kernel_rfl,c21:=by kernel_rfl,c37:=by kernel_rfl,c46:=by kernel_rfl,c51:=by kernel_rfl,c53:=by kernel_rfl,c75:=by kernel_rfl,c76:=by kernel_rfl,c80:=by kernel_rfl,c85:=by kernel_rfl,c127:=by kernel_rfl,c143:=by kernel_rfl,c145:=by kernel_rfl,c167:=by kernel_rfl,c168:=by kernel_rfl,c171:=by kernel_rfl,c173:=by kernel_rfl,c175:=by kernel_rfl,c210:=by kernel_rfl,c212:=by kernel_rfl,c213:=by kernel_rfl,c232:=by kernel_rfl,c233:=by kernel_rfl }
open Go.RowKit in
theorem Tryz.strconv_Atoi_ok(s:ByteArray)(a:s.size<=9223372036854775806)(v:Int)(h:Lib.atoiAll s.data.toList=.ok v)(w:World) :
  Calls prog 201 #[.string s] w fun e w'=>e=.returned (.tuple #[.int .i64 v,.nilIface])/\(w'=w\/∃t,w'=Lib.bytesWorld w 5 t):=Any.strconv_Atoi_ok Tryz.laysC172 s a v h w
open Go.RowKit in
theorem Tryz.strconv_Atoi_range(s:ByteArray)(b:s.size<=281474976710656)(h:Lib.atoiAll s.data.toList=.range)(a:Value)(w:World)(d:w.cell? ⟨5,0,none⟩=some a)(c:a=.nilIface\/∃te pe,a=.iface te pe) :
  Calls prog 201 #[.string s] w fun e w'=>∃N,e=.returned (.tuple #[.int .i64 (Lib.atoiSat s.data.toList),.iface 394 (.pointer (some ⟨N,0,none⟩))])/\w.heap.size<=N/\w'.heap[N]?=some (.cells #[.string ⟨#[65,116,111,105]⟩,.string s,a] 446 (0,0))/\Below w.heap.size w w':=Any.strconv_Atoi_range Tryz.laysC172 s b h a w d c
def Tryz.lays145_ren:Go.Shelf.Ren:=⟨fun|145=>265|220=>299|219=>324|217=>189|225=>290|224=>289|267=>338|266=>218|314=>347|n=>n,fun|9=>9|4=>4|59=>404|3=>3|5=>5|46=>208|146=>507|51=>59|n=>n,fun|1=>0|n=>n⟩
theorem Tryz.lays145:Go.Proofs.Lays.n145 prog Tryz.lays145_ren:={ mixed:=by kernel_rfl,f145:=JX func265 (by kernel_rfl),f217:=JX func189 (by kernel_rfl),f219:=JX func324 (by kernel_rfl),f220:=JX func299 (by kernel_rfl),f224:=JX func289 (by kernel_rfl),f225:=JX func290 (by kernel_rfl),f266:=JX func218 (by kernel_rfl),f267:=JX func338 (by kernel_rfl),f314:=JX func347 (by kernel_rfl),t3:=underlying3,a3:=Tryz.isAgg3,z3:=Tryz.sizeOf3,v3:=Tryz.zeroValue3,t4:=underlying4,a4:=Tryz.isAgg4,z4:=Tryz.sizeOf4,v4:=Tryz.zeroValue4,t5:=underlying5,a5:=Tryz.isAgg5,z5:=Tryz.sizeOf5,v5:=Tryz.zeroValue5,t9:=underlying9,a9:=Tryz.isAgg9,z9:=Tryz.sizeOf9,v9:=Tryz.zeroValue9,t46:=underlying208,a46:=Tryz.isAgg208,z46:=Tryz.sizeOf208,v46:=Tryz.zeroValue208,t51:=underlying59,a51:=Tryz.isAgg59,z51:=Tryz.sizeOf59,v51:=Tryz.zeroValue59,t59:=underlying404,a59:=Tryz.isAgg404,z59:=Tryz.sizeOf404,v59:=Tryz.zeroValue404,t146:=underlying507,a146:=Tryz.isAgg507,z146:=Tryz.sizeOf507,v146:=Tryz.zeroValue507,g1:=by kernel_rfl }
open Go.RowKit Go.Lib in
theorem Tryz.strings_Cut(s sep:ByteArray)(m:Int)(w:World)(a:s.size<4294967281)(b:w.cell? ⟨0,0,none⟩=some (.int .i64 m)) :
  Calls prog 265 #[.string s,.string sep] w fun e w'=>e=.returned (.tuple #[.string ⟨(Lib.cut s.data.toList sep.data.toList).1.toArray⟩,.string ⟨(Lib.cut s.data.toList sep.data.toList).2.1.toArray⟩,.bool (Lib.cut s.data.toList sep.data.toList).2.2])/\∃n,w'=w.drewN n:=Any.strings_Cut Tryz.lays145 s sep m w a b
def Tryz.lays138_ren:Go.Shelf.Ren:=⟨fun|138=>357|195=>367|218=>368|143=>358|219=>324|217=>189|225=>290|224=>289|267=>338|266=>218|314=>347|n=>n,fun|9=>9|3=>3|4=>4|5=>5|0=>0|46=>208|146=>507|51=>59|n=>n,fun|1=>0|n=>n⟩
theorem Tryz.lays138:Go.Proofs.Lays.n138 prog Tryz.lays138_ren:={ mixed:=by kernel_rfl,f138:=JX func357 (by kernel_rfl),f143:=JX func358 (by kernel_rfl),f195:=JX func367 (by kernel_rfl),f217:=JX func189 (by kernel_rfl),f218:=JX func368 (by kernel_rfl),f219:=JX func324 (by kernel_rfl),f224:=JX func289 (by kernel_rfl),f225:=JX func290 (by kernel_rfl),f266:=JX func218 (by kernel_rfl),f267:=JX func338 (by kernel_rfl),f314:=JX func347 (by kernel_rfl),t0:=underlying0,a0:=Tryz.isAgg0,z0:=Tryz.sizeOf0,v0:=Tryz.zeroValue0,t3:=underlying3,a3:=Tryz.isAgg3,z3:=Tryz.sizeOf3,v3:=Tryz.zeroValue3,t4:=underlying4,a4:=Tryz.isAgg4,z4:=Tryz.sizeOf4,v4:=Tryz.zeroValue4,t5:=underlying5,a5:=Tryz.isAgg5,z5:=Tryz.sizeOf5,v5:=Tryz.zeroValue5,t9:=underlying9,a9:=Tryz.isAgg9,z9:=Tryz.sizeOf9,v9:=Tryz.zeroValue9,t46:=underlying208,a46:=Tryz.isAgg208,z46:=Tryz.sizeOf208,v46:=Tryz.zeroValue208,t51:=underlying59,a51:=Tryz.isAgg59,z51:=Tryz.sizeOf59,v51:=Tryz.zeroValue59,t146:=underlying507,a146:=Tryz.isAgg507,z146:=Tryz.sizeOf507,v146:=Tryz.zeroValue507,g1:=by kernel_rfl }
def Tryz.laysM145_ren:Go.Shelf.Ren:=⟨fun|145=>265|220=>299|219=>324|217=>189|225=>290|224=>289|267=>338|266=>218|314=>347|n=>n,fun|9=>9|4=>4|59=>404|3=>3|5=>5|46=>208|146=>507|51=>59|n=>n,fun|1=>0|n=>n⟩
theorem Tryz.laysM145:Go.Proofs.LaysM.n145 prog Tryz.laysM145_ren:={ mixed:=by kernel_rfl,f145:=JX func265 (by kernel_rfl),f217:=JX func189 (by kernel_rfl),f219:=JX func324 (by kernel_rfl),f220:=JX func299 (by kernel_rfl),f224:=JX func289 (by kernel_rfl),f225:=JX func290 (by kernel_rfl),f266:=JX func218 (by kernel_rfl),f267:=JX func338 (by kernel_rfl),f314:=JX func347 (by kernel_rfl),t3:=underlying3,a3:=Tryz.isAgg3,z3:=Tryz.sizeOf3,v3:=Tryz.zeroValue3,t4:=underlying4,a4:=Tryz.isAgg4,z4:=Tryz.sizeOf4,v4:=Tryz.zeroValue4,t5:=underlying5,a5:=Tryz.isAgg5,z5:=Tryz.sizeOf5,v5:=Tryz.zeroValue5,t9:=underlying9,a9:=Tryz.isAgg9,z9:=Tryz.sizeOf9,v9:=Tryz.zeroValue9,t46:=underlying208,a46:=Tryz.isAgg208,z46:=Tryz.sizeOf208,v46:=Tryz.zeroValue208,t51:=underlying59,a51:=Tryz.isAgg59,z51:=Tryz.sizeOf59,v51:=Tryz.zeroValue59,t59:=underlying404,a59:=Tryz.isAgg404,z59:=Tryz.sizeOf404,v59:=Tryz.zeroValue404,t146:=underlying507,a146:=Tryz.isAgg507,z146:=Tryz.sizeOf507,v146:=Tryz.zeroValue507,g1:=by kernel_rfl,i3:=by kernel_rfl,i4:=by kernel_rfl,i5:=by kernel_rfl,i9:=by kernel_rfl,i46:=by kernel_rfl,i51:=by kernel_rfl,i59:=by kernel_rfl,i146:=by kernel_rfl,m1:=by kernel_rfl,s1_3:=fun w h=>Go.Proofs.cell_of_shapedOpen_int (zero:=#[.int .i64 0]) (t:=3) h (of_decide_eq_true (by kernel_rfl)) (by kernel_rfl) rfl (by kernel_rfl) (by kernel_rfl) underlying3 }
def Tryz.laysGw15_ren:Go.Shelf.Ren:=⟨fun|15=>154|20=>188|n=>n,fun|9=>9|23=>279|3=>3|4=>4|0=>0|21=>21|n=>n,fun|n=>n⟩
theorem Tryz.laysGw15:Go.Proofs.LaysGw.n15 prog Tryz.laysGw15_ren:={ mixed:=by kernel_rfl,f15:=JX func154 (by kernel_rfl),f20:=JX func188 (by kernel_rfl),t0:=underlying0,a0:=Tryz.isAgg0,z0:=Tryz.sizeOf0,v0:=Tryz.zeroValue0,i0:=by kernel_rfl,t3:=underlying3,a3:=Tryz.isAgg3,z3:=Tryz.sizeOf3,v3:=Tryz.zeroValue3,i3:=by kernel_rfl,t4:=underlying4,a4:=Tryz.isAgg4,z4:=Tryz.sizeOf4,v4:=Tryz.zeroValue4,i4:=by kernel_rfl,t9:=underlying9,a9:=Tryz.isAgg9,z9:=Tryz.sizeOf9,v9:=Tryz.zeroValue9,i9:=by kernel_rfl,t21:=underlying21,a21:=Tryz.isAgg21,z21:=Tryz.sizeOf21,v21:=Tryz.zeroValue21,i21:=by kernel_rfl,t23:=underlying279,a23:=Tryz.isAgg279,z23:=Tryz.sizeOf279,v23:=Tryz.zeroValue279,i23:=by kernel_rfl }
def Tryz.lays99_ren:Go.Shelf.Ren:=⟨fun|99=>75|206=>123|n=>n,fun|9=>9|4=>4|3=>3|n=>n,fun|n=>n⟩
theorem Tryz.lays99:Go.Proofs.Lays.n99 prog Tryz.lays99_ren:={ mixed:=by kernel_rfl,f99:=JX func75 (by kernel_rfl),f206:=JX func123 (by kernel_rfl),t3:=underlying3,a3:=Tryz.isAgg3,z3:=Tryz.sizeOf3,v3:=Tryz.zeroValue3,t4:=underlying4,a4:=Tryz.isAgg4,z4:=Tryz.sizeOf4,v4:=Tryz.zeroValue4,t9:=underlying9,a9:=Tryz.isAgg9,z9:=Tryz.sizeOf9,v9:=Tryz.zeroValue9 }
open Go.RowKit Go.Lib in
theorem Tryz.strings_HasPrefix(s p:ByteArray)(w:World) :
  Calls prog 75 #[.string s,.string p] w fun e w'=>e=.returned (.bool (Lib.hasPrefix s.data.toList p.data.toList))/\w'=w:=Any.strings_HasPrefix Tryz.lays99 s p w
def Tryz.lays146_ren:Go.Shelf.Ren:=⟨fun|146=>340|221=>348|268=>356|138=>357|143=>358|195=>367|197=>221|218=>368|219=>324|260=>251|217=>189|225=>290|224=>289|267=>338|266=>218|314=>347|n=>n,fun|9=>9|31=>182|3=>3|4=>4|0=>0|105=>345|21=>21|5=>5|46=>208|119=>438|139=>441|138=>440|146=>507|51=>59|n=>n,fun|1=>0|3=>2|4=>3|n=>n⟩
theorem Tryz.lays146:Go.Proofs.Lays.n146 prog Tryz.lays146_ren:={ mixed:=by kernel_rfl,f138:=JX func357 (by kernel_rfl),f143:=JX func358 (by kernel_rfl),f146:=JX func340 (by kernel_rfl),f195:=JX func367 (by kernel_rfl),f197:=JX func221 (by kernel_rfl),f217:=JX func189 (by kernel_rfl),f218:=JX func368 (by kernel_rfl),f219:=JX func324 (by kernel_rfl),f221:=JX func348 (by kernel_rfl),f224:=JX func289 (by kernel_rfl),f225:=JX func290 (by kernel_rfl),f260:=JX func251 (by kernel_rfl),f266:=JX func218 (by kernel_rfl),f267:=JX func338 (by kernel_rfl),f268:=JX func356 (by kernel_rfl),f314:=JX func347 (by kernel_rfl),t0:=underlying0,a0:=Tryz.isAgg0,z0:=Tryz.sizeOf0,v0:=Tryz.zeroValue0,t3:=underlying3,a3:=Tryz.isAgg3,z3:=Tryz.sizeOf3,v3:=Tryz.zeroValue3,t4:=underlying4,a4:=Tryz.isAgg4,z4:=Tryz.sizeOf4,v4:=Tryz.zeroValue4,t5:=underlying5,a5:=Tryz.isAgg5,z5:=Tryz.sizeOf5,v5:=Tryz.zeroValue5,t9:=underlying9,a9:=Tryz.isAgg9,z9:=Tryz.sizeOf9,v9:=Tryz.zeroValue9,t21:=underlying21,a21:=Tryz.isAgg21,z21:=Tryz.sizeOf21,v21:=Tryz.zeroValue21,t31:=underlying182,a31:=Tryz.isAgg182,z31:=Tryz.sizeOf182,v31:=Tryz.zeroValue182,t46:=underlying208,a46:=Tryz.isAgg208,z46:=Tryz.sizeOf208,v46:=Tryz.zeroValue208,t51:=underlying59,a51:=Tryz.isAgg59,z51:=Tryz.sizeOf59,v51:=Tryz.zeroValue59,t105:=underlying345,a105:=Tryz.isAgg345,z105:=Tryz.sizeOf345,v105:=Tryz.zeroValue345,t119:=underlying438,a119:=Tryz.isAgg438,z119:=Tryz.sizeOf438,t138:=underlying440,a138:=Tryz.isAgg440,z138:=Tryz.sizeOf440,v138:=Tryz.zeroValue440,t139:=underlying441,a139:=Tryz.isAgg441,z139:=Tryz.sizeOf441,v139:=Tryz.zeroValue441,t146:=underlying507,a146:=Tryz.isAgg507,z146:=Tryz.sizeOf507,v146:=Tryz.zeroValue507,g1:=by kernel_rfl,g3:=by kernel_rfl,g4:=by kernel_rfl }
open Go.RowKit Go.Lib in
theorem Tryz.strings_Split(s sep:ByteArray)(m:Int)(w:World)(c:s.size<4294967281)(b:w.cell? ⟨0,0,none⟩=some (.int .i64 m))(a:1<=sep.size) :
  Calls prog 340 #[.string s,.string sep] w fun e w'=>
   e=.returned (.slice (some ⟨w.heap.size,0,none⟩) (Lib.countB s sep+1) (Lib.countB s sep+1))/\w'=w.alloc (.cells ((Lib.splitB sep 0 (Lib.countB s sep) s).map Value.string).toArray 9):=Any.strings_Split Tryz.lays146 (by kernel_rfl) s sep m w c b a
def Tryz.lays230_ren:Go.Shelf.Ren:=⟨fun|230=>319|197=>221|118=>334|165=>118|166=>119|168=>220|270=>335|167=>336|169=>120|260=>251|240=>169|241=>170|242=>250|276=>206|277=>207|278=>286|n=>n,fun|107=>472|9=>9|72=>244|0=>0|4=>4|3=>3|21=>21|105=>345|76=>248|5=>5|75=>247|70=>242|20=>20|37=>169|127=>291|119=>438|46=>208|139=>441|138=>440|164=>323|51=>59|80=>164|n=>n,fun|3=>2|4=>3|n=>n⟩
theorem Tryz.lays230:Go.Proofs.Lays.n230 prog Tryz.lays230_ren:={ mixed:=by kernel_rfl,f118:=JX func334 (by kernel_rfl),f165:=JX func118 (by kernel_rfl),f166:=JX func119 (by kernel_rfl),f167:=JX func336 (by kernel_rfl),f168:=JX func220 (by kernel_rfl),f169:=JX func120 (by kernel_rfl),f197:=JX func221 (by kernel_rfl),f230:=JX func319 (by kernel_rfl),f240:=JX func169 (by kernel_rfl),f241:=JX func170 (by kernel_rfl),f242:=JX func250 (by kernel_rfl),f260:=JX func251 (by kernel_rfl),f270:=JX func335 (by kernel_rfl),f276:=JX func206 (by kernel_rfl),f277:=JX func207 (by kernel_rfl),f278:=JX func286 (by kernel_rfl),t0:=underlying0,a0:=Tryz.isAgg0,z0:=Tryz.sizeOf0,v0:=Tryz.zeroValue0,t3:=underlying3,a3:=Tryz.isAgg3,z3:=Tryz.sizeOf3,v3:=Tryz.zeroValue3,t4:=underlying4,a4:=Tryz.isAgg4,z4:=Tryz.sizeOf4,v4:=Tryz.zeroValue4,t5:=underlying5,a5:=Tryz.isAgg5,z5:=Tryz.sizeOf5,v5:=Tryz.zeroValue5,t9:=underlying9,a9:=Tryz.isAgg9,z9:=Tryz.sizeOf9,v9:=Tryz.zeroValue9,t20:=underlying20,a20:=Tryz.isAgg20,z20:=Tryz.sizeOf20,v20:=Tryz.zeroValue20,t21:=underlying21,a21:=Tryz.isAgg21,z21:=Tryz.sizeOf21,v21:=Tryz.zeroValue21,t37:=underlying169,a37:=Tryz.isAgg169,z37:=Tryz.sizeOf169,v37:=Tryz.zeroValue169,t46:=underlying208,a46:=Tryz.isAgg208,z46:=Tryz.sizeOf208,v46:=Tryz.zeroValue208,t51:=underlying59,a51:=Tryz.isAgg59,z51:=Tryz.sizeOf59,v51:=Tryz.zeroValue59,t70:=underlying242,a70:=Tryz.isAgg242,z70:=Tryz.sizeOf242,v70:=Tryz.zeroValue242,t72:=underlying244,a72:=Tryz.isAgg244,z72:=Tryz.sizeOf244,v72:=Tryz.zeroValue244,t75:=underlying247,a75:=Tryz.isAgg247,z75:=Tryz.sizeOf247,v75:=Tryz.zeroValue247,t76:=underlying248,a76:=Tryz.isAgg248,z76:=Tryz.sizeOf248,v76:=Tryz.zeroValue248,t105:=underlying345,a105:=Tryz.isAgg345,z105:=Tryz.sizeOf345,v105:=Tryz.zeroValue345,t107:=underlying472,a107:=Tryz.isAgg472,z107:=Tryz.sizeOf472,v107:=Tryz.zeroValue472,t119:=underlying438,a119:=Tryz.isAgg438,z119:=Tryz.sizeOf438,t127:=underlying291,a127:=Tryz.isAgg291,z127:=Tryz.sizeOf291,v127:=Tryz.zeroValue291,t138:=underlying440,a138:=Tryz.isAgg440,z138:=Tryz.sizeOf440,v138:=Tryz.zeroValue440,t139:=underlying441,a139:=Tryz.isAgg441,z139:=Tryz.sizeOf441,v139:=Tryz.zeroValue441,t164:=underlying323,a164:=Tryz.isAgg323,z164:=Tryz.sizeOf323,v164:=Tryz.zeroValue323,g3:=by kernel_rfl,g4:=by kernel_rfl }
theorem Tryz.Builder_Extra_230:Builder.Extra prog Tryz.lays230_ren:={ sizeBuilder:=by kernel_rfl,liesBuilder:=by kernel_rfl,t5:=underlying5,a5:=Tryz.isAgg5,z5:=Tryz.sizeOf5,v5:=Tryz.zeroValue5,infoByte:=by kernel_rfl,cellsByte:=by kernel_rfl,sizeByte:=by kernel_rfl,neB5:=by decide }
open Go.RowKit Go.Lib in
theorem Tryz.strings_IndexFunc_grows(g:Nat)(lb:Array Value)(b:∀args w,(callFunc g args).run prog w=.ok (.enter g args) w)(p:Nat->Bool)(s:ByteArray)(w:World)(a:PredGrows prog g lb p w) :
  Calls prog 154 #[.string s,.func (.func g) #[] lb] w fun e w'=>e=.returned (.int .i64 (Lib.idxFunc p true s))/\Below w.heap.size w w':=Any.strings_IndexFunc_grows Tryz.laysGw15 g lb b p s w a
open Go.RowKit Go.Lib in
theorem Tryz.strings_Map_grows(g:Nat)(lb:Array Value)(d:∀args w,(callFunc g args).run prog w=.ok (.enter g args) w)(f:Int->Int)(s:ByteArray)(w:World)(h:s.size<35184372088832)(b:MapGrows prog g lb f w)(a:∀x:Nat,x<=1114111->-2147483648<=f x/\f x<=2147483647)(c:Lib.Utf8Tabs 2 3 w) :
  Calls prog 319 #[.func (.func g) #[] lb,.string s] w fun e w'=>e=.returned (.string ⟨(Lib.mapD f s.data.toList).toArray⟩)/\Below w.heap.size w w':=Any.strings_Map_grows Tryz.lays230 Tryz.Builder_Extra_230 g lb d f s w h b a c
end Go.Proofs
namespace Go.Proofs.YtlpecalodphalaaGreatDoor
section
theorem QdR(x:Nat)(w:World):Calls prog 322 #[.int .i32 (x:Int)] w (JS (.bool (Qfg x)) w):=by
 by_cases b:x<48
 ·have H:Hi (Qfg x=false):=Z (by unfold Qfg;rw[qB (by omega)];rfl)
  go_enter func322,ntmps322;go_wp2;go_ret;exact⟨QaP H.out.symm,rfl⟩
 ·by_cases c:57<x
  ·have H:Hi (Qfg x=false):=Z (by unfold Qfg;rw[qB (show ¬x<=57 by omega),Bool.and_false])
   have a:decide ((x:Int)<=57)=false:=by simp;omega
   go_enter func322,ntmps322;go_wp2;go_ret;exact⟨QaP H.out.symm,rfl⟩
  ·have H:Hi (Qfg x=true):=Z (by unfold Qfg;rw[qA (show x<=57 by omega),qA (show 48<=x by omega)];rfl)
   have a:decide ((x:Int)<=57)=true:=by simp;omega
   go_enter func322,ntmps322;go_wp2;go_ret;exact⟨QaP H.out.symm,rfl⟩
theorem Qoi(x:Nat)(w:World):Calls prog 326 #[.int .i32 (x:Int)] w (JS (.bool (Qa9 x)) w):=by
 by_cases k:x<97
 ·have d:Qkp x=false:=by unfold Qkp;rw[qB (by omega)];rfl
  cases c:Qfg x with
  |true=>
   have a:=fun w=>QdR x w
   rw[c] at a;have H:Hi (Qa9 x=true):=Z (by unfold Qa9;rw[d,c];rfl)
   have b:=Z a;clear c a d;go_enter func326,ntmps326;go_wp2_with (go_at_call 322;refine (b.o _).mono ?_;rintro e w' ⟨rfl,rfl⟩);go_ret;exact⟨QaP H.out.symm,rfl⟩
  |false=>
   have a:=fun w=>QdR x w
   rw[c] at a;have H:Hi (Qa9 x=decide ((x:Int)=45)):=Z (by
    unfold Qa9;rw[d,c,Bool.false_or,Bool.false_or,qN,beq_iff_eq,decide_eq_true_iff];omega)
   have b:=Z a;clear c a d
   by_cases f:x=45
   ·have t:((x:Int)==45)=true:=by rw[beq_iff_eq];omega
    have g:Hi (Qa9 x=true):=Z (H.out.trans (qA (by omega)))
    clear f H;go_enter func326,ntmps326;go_wp2_with (go_at_call 322;refine (b.o _).mono ?_;rintro e w' ⟨rfl,rfl⟩);go_ret;exact⟨QaP g.o.symm,rfl⟩
   ·have t:((x:Int)==45)=false:=by rw[qI];omega
    go_enter func326,ntmps326;go_wp2_with (go_at_call 322;refine (b.o _).mono ?_;rintro e w' ⟨rfl,rfl⟩);go_ret;exact⟨QaP (by rw[H.out,qB (by omega)]),rfl⟩
 ·by_cases j:122<x
  ·have d:Qkp x=false:=by unfold Qkp;rw[qB (show ¬x<=122 by omega),Bool.and_false]
   have c:Qfg x=false:=by unfold Qfg;rw[qB (show ¬x<=57 by omega),Bool.and_false]
   have H:Hi (Qa9 x=false):=Z (by unfold Qa9;rw[d,c,show (x==45)=false by rw[qI];omega];rfl)
   have h:decide ((x:Int)<=122)=false:=by simp;omega
   have i:((x:Int)==45)=false:=by rw[qI];omega
   have a:=fun w=>QdR x w
   rw[c] at a;have b:=Z a;clear c a d;go_enter func326,ntmps326;go_wp2_with (go_at_call 322;refine (b.o _).mono ?_;rintro e w' ⟨rfl,rfl⟩);go_ret;exact⟨QaP H.out.symm,rfl⟩
  ·have d:Qkp x=true:=by unfold Qkp;rw[qA (show x<=122 by omega),qA (show 97<=x by omega)];rfl
   have H:Hi (Qa9 x=true):=Z (by unfold Qa9;rw[d];rfl)
   have h:decide ((x:Int)<=122)=true:=by simp;omega
   clear d;go_enter func326,ntmps326;go_wp2;go_ret;exact⟨QaP H.out.symm,rfl⟩
theorem Qua(x B:Nat)(w:World)(a:Jx w B 0 (.func (.func 322) #[] #[])) :
  Calls prog 337 #[.int .i32 (x:Int),Jp B] w (JS (.bool (!Qfg x)) w):=by
 go_enter func337,ntmps337;go_wp2_with (go_at_call 322;refine (QdR _ _).mono ?_;rintro e w' ⟨rfl,rfl⟩);go_ret;exact⟨rfl,rfl⟩
theorem Qt9(x B:Nat)(w:World)(a:Jx w B 0 (.func (.func 326) #[] #[])) :
  Calls prog 337 #[.int .i32 (x:Int),Jp B] w (JS (.bool (!Qa9 x)) w):=by
 go_enter func337,ntmps337;go_wp2_with (go_at_call 326;refine (Qoi _ _).mono ?_;rintro e w' ⟨rfl,rfl⟩);go_ret;exact⟨rfl,rfl⟩
theorem Qwt(s:JA)(B:Nat)(w:World)(b:B<w.heap.size)(a:Jx w B 0 (.func (.func 322) #[] #[])) :
  Calls prog 154 #[Jt s,.func (.func 337) #[] #[Jp B]] w (JB (Ji (Lib.idxFunc (fun x=>!Qfg x) true s)) w):=
 Tryz.strings_IndexFunc_grows 337 #[Jp B] (enters_of func337 (by kernel_rfl) rfl) (fun x=>!Qfg x) s w
  (fun W x _ hb=>(Qua x B W ((hb.cell (p:=(Ja B 0)) b).trans a)).mono fun e w' ⟨he,hw⟩=>⟨he,hw ▸ qF _ _⟩)
theorem Qws(s:JA)(B:Nat)(w:World)(b:B<w.heap.size)(a:Jx w B 0 (.func (.func 326) #[] #[])) :
  Calls prog 154 #[Jt s,.func (.func 337) #[] #[Jp B]] w (JB (Ji (Lib.idxFunc (fun x=>!Qa9 x) true s)) w):=
 Tryz.strings_IndexFunc_grows 337 #[Jp B] (enters_of func337 (by kernel_rfl) rfl) (fun x=>!Qa9 x) s w
  (fun W x _ hb=>(Qt9 x B W ((hb.cell (p:=(Ja B 0)) b).trans a)).mono fun e w' ⟨he,hw⟩=>⟨he,hw ▸ qF _ _⟩)
theorem QoN(s:JA):decide (Lib.idxFunc (fun x=>!Qfg x) true s<0)=s.data.toList.all (fun c=>Qfg c.toNat):=by
 rw[QmB _ (fun x h=>by rw[QCG x h];rfl)];simp
theorem QoM(s:JA):decide (Lib.idxFunc (fun x=>!Qa9 x) true s<0)=s.data.toList.all (fun c=>Qa9 c.toNat):=by
 rw[QmB _ (fun x h=>by rw[QvZ x h];rfl)];simp
theorem Qkb(w:World)(v:Value)(t:JT):Jw w (w.alloc (.cells #[v] t)):=(qF _ _).alloc (qC _) _
theorem Qxs(w:World)(v:Value)(t:JT):w.heap.size<(w.alloc (.cells #[v] t)).heap.size:=by simp
theorem QrY(w:World)(v:Value)(t:JT):(w.alloc (.cells #[v] t)).cell? (Ja w.heap.size 0)=some v:=by
 have h:(w.alloc (.cells #[v] t)).heap[w.heap.size]?=some (.cells #[v] t):=by
  show (w.heap.push _)[w.heap.size]?=_;simp
 unfold World.cell?;rw[h];rfl
theorem Qif(s:JA)(w:World) :
  Calls prog 321 #[Jt s,.func (.func 322) #[] #[]] w (JB (.bool (s.data.toList.all (fun c=>Qfg c.toNat))) w):=by
 have H:=Z (QoN s);obtain⟨i,hi⟩:∃i,i=Lib.idxFunc (fun x=>!Qfg x) true s:=⟨_,rfl⟩
 have a:=Z (fun B w hB hc=>hi ▸ Qwt s B w hB hc)
 rw[<-hi] at H;clear hi;go_enter func321,ntmps321;go_wp2_with fail;refine (a.o _ _ (Qxs _ _ _) (QrY _ _ _)).mono ?_;rintro e d ⟨rfl,b⟩;go_wp2;go_ret;exact⟨QaP H.out,Qaa (Qkb _ _ _) b⟩
theorem Qie(s:JA)(w:World) :
  Calls prog 321 #[Jt s,.func (.func 326) #[] #[]] w (JB (.bool (s.data.toList.all (fun c=>Qa9 c.toNat))) w):=by
 have H:=Z (QoM s);obtain⟨i,hi⟩:∃i,i=Lib.idxFunc (fun x=>!Qa9 x) true s:=⟨_,rfl⟩
 have a:=Z (fun B w hB hc=>hi ▸ Qws s B w hB hc)
 rw[<-hi] at H;clear hi;go_enter func321,ntmps321;go_wp2_with fail;refine (a.o _ _ (Qxs _ _ _) (QrY _ _ _)).mono ?_;rintro e d ⟨rfl,b⟩;go_wp2;go_ret;exact⟨QaP H.out,Qaa (Qkb _ _ _) b⟩
theorem QjP(s:JA)(w:World) :
  Calls prog 304 #[Jt s] w (JB (.bool (Qep s.data.toList)) w):=by
 by_cases a:s.size=0
 ·have H:Hi (Qep s.data.toList=false):=Z (by
   unfold Qep;rw[List.length_eq_zero_iff.1 (show s.data.toList.length=0 by rw[Qab];exact a)];rfl)
  have t:s.toList.isEmpty=true:=by
   rw[J7,List.isEmpty_iff];exact List.length_eq_zero_iff.1 (by rw[Qab];exact a)
  go_enter func304,ntmps304;go_wp2;go_ret;exact⟨QaP H.out.symm,qF _ _⟩
 ·have t:s.toList.isEmpty=false:=by
   rw[J7,Bool.eq_false_iff,Ne,List.isEmpty_iff];intro e;exact a (by rw[<-Qab,e];rfl)
  by_cases g:32<s.size
  ·have H:Hi (Qep s.data.toList=false):=Z (by
    unfold Qep;rw[qB (by rw[Qab];omega),Bool.and_false,Bool.false_and])
   have f:decide ((s.size:Int)<=32)=false:=by simp;omega
   go_enter func304,ntmps304;go_wp2;go_ret;exact⟨QaP H.out.symm,qF _ _⟩
  ·have H:Hi (Qep s.data.toList=s.data.toList.all (fun c=>Qa9 c.toNat)):=Z (by
    unfold Qep;rw[qA (by rw[Qab];omega),<-J7,t];rfl)
   have f:decide ((s.size:Int)<=32)=true:=by simp;omega
   have HA:=Z (fun w=>Qie s w)
   obtain⟨b,hb⟩:∃b,b=s.data.toList.all (fun c=>Qa9 c.toNat):=⟨_,rfl⟩
   rw[<-hb] at H HA;clear hb;cases b
   all_goals
    go_enter func304,ntmps304;go_wp2_with fail;refine (HA.o _).mono ?_;rintro e h ⟨rfl,d⟩;go_wp2;go_ret;exact⟨QaP H.out.symm,d⟩
theorem Qff(s:JA)(w:World)(g:s.size<=9223372036854775807) :
  Calls prog 305 #[Jt s] w (JS (.bool (s.data.toList.all (fun c=>QaE c.toNat))) w):=by
 have a:=fun w=>QgC s w g
 obtain⟨L,hL⟩:∃L,L=Qe2 s:=⟨_,rfl⟩;rw[<-hL] at a;cases b:s.data.toList.all (fun c=>QaE c.toNat) with
 |true=>
  obtain⟨E,hE⟩:∃E,E=Qbh s.data.toList:=⟨_,rfl⟩;have f:E≠4:=by rw[hE];unfold Qbh;rw[JJ (by rw[b];decide)];split<;>decide
  rw[<-hE] at a;have d:=Z a;have t:((E:Int) != 4)=true:=by rw[bne_iff_ne];omega
  clear a hE b hL f;go_enter func305,ntmps305;go_wp2_with (go_at_call 211;refine (d.o _).mono ?_;rintro e w' ⟨rfl,rfl⟩);go_ret;exact⟨QaP rfl,rfl⟩
 |false=>
  rw[show Qbh s.data.toList=4 from JK b] at a;have d:=Z a;clear a b hL;go_enter func305,ntmps305;go_wp2_with (go_at_call 211;refine (d.o _).mono ?_;rintro e w' ⟨rfl,rfl⟩);go_ret;exact⟨QaP rfl,rfl⟩
def Qgl(n:Nat)(c:UInt8):Nat:=n*10+(c.toNat-48)
def Qov(l:JL):Nat:=l.foldl Qgl 0
def Qfh(l:JL):Bool:=l.all (fun c=>Qfg c.toNat)
def Qtc(l:JL):Bool:=decide (1<l.length)&&l.head? == some 48
def QfR(l:JL):Bool:=l.isEmpty || !Qfh l||Qtc l
def Qc2(l:JL):Nat:=if QfR l=true then 4 else if 9007199254740991<Qov l then 11 else 0
def QcK(l:JL):Nat:=if Qc2 l=0 then Qov l else 0
theorem QmP(n:Nat)(h:Qfg n=true):48<=n/\n<=57:=by
 unfold Qfg at h;simp only[JD,qO] at h;exact h
theorem Qw2(n:Nat)(h:48<=n)(a:n<=57):Qfg n=true:=by
 unfold Qfg;rw[qA h,qA a];rfl
theorem QCu(l:JL):∀a,a<=l.foldl Qgl a:=by
 induction l with
 |nil=>intro a;exact qC _
 |cons c t ih=>intro a;refine qD ?_ (ih (Qgl a c));unfold Qgl;omega
theorem Qw5(l:JL)(c:UInt8):Qov (l++[c])=Qov l*10+(c.toNat-48):=by
 unfold Qov;rw[List.foldl_append];rfl
theorem QvD(l:JL):∀a,a<18446744073709551616->Qfh l=true->Go.Lib.parseUint10 a l=if l.foldl Qgl a<18446744073709551616 then .ok (l.foldl Qgl a) else .range:=by
 induction l with
 |nil=>intro a h _;show Go.Lib.NumEnd.ok a=if a<18446744073709551616 then Go.Lib.NumEnd.ok a else _;rw[JK h]
 |cons c t ih=>
  intro a h b;have g:Qfg c.toNat=true/\Qfh t=true:=by unfold Qfh at b;rw[List.all_cons,JD] at b;exact b
  have i:=QmP _ g.1;have k:=QCu t (Qgl a c);show (if 48<=c.toNat/\c.toNat<=57 then _ else _)=_
  rw[JK i];have e:(c :: t).foldl Qgl a=t.foldl Qgl (Qgl a c):=rfl;rw[e];have j:Qgl a c=a*10+(c.toNat-48):=rfl
  by_cases f:1844674407370955162<=a
  ·rw[JK f,JJ (by omega)]
  ·rw[JJ f]
   by_cases d:18446744073709551616<=a*10+(c.toNat-48)
   ·rw[JK d,JJ (by omega)]
   ·rw[JJ d]
    exact ih (Qgl a c) (by omega) g.2
theorem QAm(l:JL)(g:l≠[])(a:Qfh l=true):Go.Lib.atoiAll l=if Qov l<9223372036854775808 then .ok (Qov l:Int) else .range:=by
 cases l with
 |nil=>exact JN rfl g
 |cons c t=>
  have h:Qfg c.toNat=true:=by unfold Qfh at a;rw[List.all_cons,JD] at a;exact a.1
  have i:=QmP _ h;have b:=QvD (c :: t) 0 (by decide) a
  change Go.Lib.parseUint10 0 (c :: t)=if Qov (c :: t)<_ then .ok (Qov (c :: t)) else _ at b
  unfold Go.Lib.atoiAll;simp only[];rw[JJ (show ¬(c.toNat=43\/c.toNat=45) by omega)]
  unfold Go.Lib.parseMag;rw[JJ (by simp),b]
  by_cases f:Qov (c :: t)<18446744073709551616
  ·rw[JK f]
   by_cases d:Qov (c :: t)<9223372036854775808
   ·simp only[]
    rw[JK d,JJ (by omega),JJ (by omega),JJ (by omega)]
   ·simp only[]
    rw[JJ d,JK (by omega)]
  ·rw[JJ f,JJ (by omega)]
theorem Qfi(k:Nat)(h:k<10):(UInt8.ofNat (48+k)).toNat=48+k:=by
 rw[UInt8.toNat_ofNat'];omega
theorem Qfj(n:Nat):Go.Lib.decDigits n≠[]:=by
 rw[Go.Lib.decDigits];split<;>simp
theorem Qdk(n:Nat):Qfh (Go.Lib.decDigits n)=true:=by
 induction n using Nat.strongRecOn with
 |ind n ih=>
  rw[Go.Lib.decDigits];split
  ·rename_i h
   unfold Qfh;rw[List.all_cons,Qfi n h,Qw2 _ (by omega) (by omega)];rfl
  ·have:=ih (n/10) (by omega)
   unfold Qfh at this ⊢;rw[List.all_append,this,List.all_cons,Qfi (n%10) (by omega),Qw2 _ (by omega) (by omega)];rfl
theorem QfT(n:Nat):Qov (Go.Lib.decDigits n)=n:=by
 induction n using Nat.strongRecOn with
 |ind n ih=>
  rw[Go.Lib.decDigits];split
  ·rename_i h
   show Qgl 0 _=n;unfold Qgl;rw[Qfi n h];omega
  ·rw[Qw5,ih (n/10) (by omega),Qfi (n%10) (by omega)];omega
theorem QkE(n:Nat)(h:0<n):∀c,(Go.Lib.decDigits n).head?=some c->c≠48:=by
 induction n using Nat.strongRecOn with
 |ind n ih=>
  intro c;rw[Go.Lib.decDigits];split
  ·rename_i b
   intro e f;simp only[List.head?_cons,J8] at e;have:=Qfi n b;rw[e,f] at this;have:(48:UInt8).toNat=48:=rfl;omega
  ·intro e
   have g:=Qfj (n/10);refine ih (n/10) (by omega) (by omega) c ?_
   rw[<-e];cases d:Go.Lib.decDigits (n/10) with
   |nil=>exact JN d g
   |cons a t=>rfl
theorem QsT(n:Nat):QfR (Go.Lib.decDigits n)=false:=by
 unfold QfR;rw[Qdk];have a:(Go.Lib.decDigits n).isEmpty=false:=by
  rw[Bool.eq_false_iff,Ne,List.isEmpty_iff];exact Qfj n
 rw[a];unfold Qtc
 by_cases b:n<10
 ·rw[Go.Lib.decDigits,dif_pos b];rfl
 ·have:((Go.Lib.decDigits n).head? == some 48)=false:=by
   rw[qI];intro e;exact QkE n (by omega) 48 e rfl
  rw[this,Bool.and_false];rfl
theorem QmI:prog.globalNamed "internal/strconv.uint64pow10" = some 6:=by kernel_rfl
structure EnvF(w:World):Prop where
 m:∃m,w.cell? (Ja 0 0)=some (Ji m)
 mlt:0<w.heap.size
 tabs:Lib.Utf8Tabs 2 3 w
 pow:Go.Lib.TabIs prog w "internal/strconv.uint64pow10" .u64 Go.Lib.pow10Tab
 big:6<w.heap.size
 rng:∃tp p,w.cell? (Ja 5 0)=some (.iface tp p)
 rlt:5<w.heap.size
theorem EnvF.below{w w':World}(h:EnvF w)(a:Jw w w'):EnvF w':=
 ⟨let ⟨m,hm⟩:=h.m;⟨m,(a.cell (p:=(Ja 0 0)) h.mlt).trans hm⟩,qK h.mlt a.size,Utf8Tabs_below h.tabs a,var?_below a QmI h.big h.pow,qK h.big a.size,
  let ⟨t,p,hp⟩:=h.rng;⟨t,p,(a.cell (p:=(Ja 5 0)) h.rlt).trans hp⟩,qK h.rlt a.size⟩
structure EnvW(w:World):Prop where
 m:∃m,w.cell? (Ja 0 0)=some (Ji m)
 mlt:0<w.heap.size
 tabs:Lib.Utf8Tabs 2 3 w
 pow:Go.Lib.TabIs prog w "internal/strconv.uint64pow10" .u64 Go.Lib.pow10Tab
 big:6<w.heap.size
theorem EnvW.below{w w':World}(h:EnvW w)(a:Jw w w'):EnvW w':=
 ⟨let ⟨m,hm⟩:=h.m;⟨m,(a.cell (p:=(Ja 0 0)) h.mlt).trans hm⟩,qK h.mlt a.size,Utf8Tabs_below h.tabs a,var?_below a QmI h.big h.pow,qK h.big a.size⟩
theorem EnvF.weak{w:World}(h:EnvF w):EnvW w:=⟨h.m,h.mlt,h.tabs,h.pow,h.big⟩
theorem QDZ(n:Int)(c : -9223372036854775808<=n)(a:n<=9223372036854775807)(w:World)(b:EnvF w) :
  Calls prog 293 #[Ji n] w (JB (Jt (bs (Go.Lib.itoa n))) w):=
 (Tryz.strconv_Itoa n c a w b.pow).mono fun _ _ ⟨he,k,os,hw⟩=>⟨he,hw ▸ ⟨rfl,rfl,rfl,by
  show w.heap.size<=(w.heap++os).size;simp,fun j hj=>by
  show (w.heap++os)[j]?=w.heap[j]?;rw[Array.getElem?_append_left hj]⟩⟩
theorem Qxm(s:JA)(a:s.size<=1000000)(v:Int)(h:Go.Lib.atoiAll s.data.toList=.ok v)(w:World) :
  Calls prog 201 #[Jt s] w (JB (.tuple #[Ji v,.nilIface]) w):=
 (Tryz.strconv_Atoi_ok s (by omega) v h w).mono fun _ _ ⟨he,hw⟩=>⟨he,by
  rcases hw with rfl|⟨t,rfl⟩
  ·exact qF _ _
  ·exact Go.Lib.bytesWorld_below _ _ _⟩
def QEc(w:World)(e:Ending)(w':World):Prop:=∃n t a,e=.returned (.tuple #[Ji n,.iface t (.pointer (some a))])/\Jw w w'
theorem QoC(s:JA)(b:s.size<=1000000)(h:Go.Lib.atoiAll s.data.toList=.range)(w:World)(a:EnvF w) :
  Calls prog 201 #[Jt s] w (QEc w):=by
 obtain⟨tp,p,hv⟩:=a.rng;exact (Tryz.strconv_Atoi_range s (by omega) h _ w hv (.inr ⟨tp,p,rfl⟩)).mono fun _ _ ⟨N,he,_,_,hb⟩=>⟨_,_,_,he,hb⟩
def QeB(n:Int):JL:=if n<0 then [] else Go.Lib.decDigits n.toNat
theorem Qdi(n:Int)(d : -9223372036854775808<=n)(c:n<=9223372036854775807)(w:World)(a:EnvF w) :
  Calls prog 262 #[Ji n] w (JB (Jt (bs (QeB n))) w):=by
 by_cases b:n<0
 ·have H:Hi (QeB n = []):=Z (JK b)
  clear a;go_enter func262,ntmps262;go_wp2;go_ret;exact⟨by rw[H.out];rfl,qF _ _⟩
 ·have H:Hi (QeB n=Go.Lib.itoa n):=Z (by unfold QeB Go.Lib.itoa;rw[JJ b,JJ b])
  have g:=Z (QDZ n d c w a);clear a;go_enter func262,ntmps262;go_wp2_with fail;refine g.o.mono ?_;rintro e h ⟨rfl,f⟩;go_wp2;go_ret;exact⟨by rw[H.out];rfl,f⟩
theorem Qmk(l:JL)(h:QfR l=true):Qc2 l=4/\QcK l=0:=by
 have a:Qc2 l=4:=JK h;exact⟨a,by unfold QcK;rw[a];rfl⟩
theorem QvU(l:JL)(h:QfR l=false)(b:9007199254740991<Qov l):Qc2 l=11/\QcK l=0:=by
 have a:Qc2 l=11:=by unfold Qc2;rw[h,JJ (by decide),JK b]
 exact⟨a,by unfold QcK;rw[a];rfl⟩
theorem QBT(l:JL)(h:QfR l=false)(b:¬9007199254740991<Qov l):Qc2 l=0/\QcK l=Qov l:=by
 have a:Qc2 l=0:=by unfold Qc2;rw[h,JJ (by decide),JJ b]
 exact⟨a,by unfold QcK;rw[a];rfl⟩
theorem Qfr{a d b c:Int}(h:a=d)(f:b=c):Ending.returned (.tuple #[Ji a,Ji b])=.returned (.tuple #[Ji d,Ji c]):=by rw[h,f]
theorem Qtb(s:JA)(h:1<s.size)(a:s[0]=48):Qtc s.data.toList=true:=by
 unfold Qtc;rw[Qab,qA h,List.head?_eq_getElem?,qU (by rw[Qab];omega)]
 show ((some s[0])==some 48)=true;rw[a];rfl
theorem Qwe(s:JA)(h:¬∃h:1<s.size,s[0]=48):Qtc s.data.toList=false:=by
 unfold Qtc
 by_cases a:1<s.size
 ·rw[Qab,qA a,List.head?_eq_getElem?,qU (by rw[Qab];omega)]
  show (true&&(some s[0])==some 48)=false;rw[Bool.true_and,qI];intro e;exact h ⟨a,qS e⟩
 ·rw[Qab,qB a];rfl
theorem QgM(s:JA)(w:World)(L:s.size<=1000000)(G:EnvF w) :
  Calls prog 296 #[Jt s] w (JB (.tuple #[Ji (QcK s.data.toList),Ji (Qc2 s.data.toList)]) w):=by
 have P:=Z G;clear G;obtain⟨l,hl⟩:∃l,l=s.data.toList:=⟨_,rfl⟩;have m:l.length=s.size:=by rw[hl];exact Qab s
 have HA:=Z (fun w=>Qif s w)
 have f:=fun h J=>Qtb s h J
 have b:=fun h=>Qwe s h
 have g:=fun v (h:Go.Lib.atoiAll s.data.toList=.ok v) w=>Qxm s L v h w
 have d:=fun (h:Go.Lib.atoiAll s.data.toList=.range) w G=>QoC s L h w G
 rw[<-hl] at HA f b g d ⊢
 by_cases E:s.size=0
 ·have H:=Z (Qmk l (by rw[List.length_eq_zero_iff.1 (show l.length=0 by omega)];rfl))
  have t:s.toList.isEmpty=true:=by
   rw[J7,List.isEmpty_iff];exact List.length_eq_zero_iff.1 (by rw[Qab];exact E)
  clear hl m f b g d E;go_enter func296,ntmps296;go_wp2;go_ret2;exact⟨Qfr (by rw[H.out.2];rfl) (by rw[H.out.1];rfl),qF _ _⟩
 ·have t:s.toList.isEmpty=false:=by
   rw[J7,Bool.eq_false_iff,Ne,List.isEmpty_iff];intro e;exact E (by rw[<-Qab,e];rfl)
  have B:l.isEmpty=false:=by rw[hl,<-J7];exact t
  have hne:l≠[]:=by intro e;rw[e] at B;exact JN B (by decide)
  have O:0<s.size:=by omega
  clear E hl;cases z:l.all (fun c=>Qfg c.toNat) with
  |false=>
   have H:=Z (Qmk l (by unfold QfR Qfh;rw[z];simp))
   rw[z] at HA;clear m f b g d z B hne;go_enter func296,ntmps296;go_wp2_with fail;refine (HA.o _).mono ?_;rintro e D ⟨rfl,r⟩;go_wp2;go_ret2;exact⟨Qfr (by rw[H.out.2];rfl) (by rw[H.out.1];rfl),r⟩
  |true=>
   rw[z] at HA;have q:Qfh l=true:=z
   by_cases A:∃h:1<s.size,s[0]=48
   ·obtain⟨A,h48⟩:=A
    have H:=Z (Qmk l (by unfold QfR;rw[f A h48,Bool.or_true]))
    have K:((s[0].toNat:Int)==48)=true:=by rw[h48];rfl
    clear m f b g d z B hne q h48;go_enter func296,ntmps296;go_wp2_with fail;refine (HA.o _).mono ?_;rintro e D ⟨rfl,r⟩;go_wp2;go_ret2;exact⟨Qfr (by rw[H.out.2];rfl) (by rw[H.out.1];rfl),r⟩
   ·have x:QfR l=false:=by unfold QfR;rw[B,q,b A];rfl
    have i:=QAm l hne q;have j:=QvU l x;have k:=QBT l x
    by_cases J:1<s.size
    case' pos=>
     have K:((s[0].toNat:Int)==48)=false:=by
      rw[qI];intro e;exact A ⟨J,UInt8.toNat_inj.1 (by show _=48;omega)⟩
    case' neg=>
     have K:decide ((s.size:Int)>1)=false:=qB (by omega)
    all_goals
     by_cases y:Qov l<9223372036854775808
     ·rw[JK y] at i
      have C:=Z (fun w=>g _ i w)
      obtain⟨n,hn⟩:∃n,n=Qov l:=⟨_,rfl⟩;rw[<-hn] at C j k;clear m f b g d z B hne q i y hn A x
      by_cases I:9007199254740991<n
      ·have H:=Z (j I)
       have N:decide ((n:Int)>9007199254740991)=true:=qA (by omega)
       clear j k I;go_enter func296,ntmps296;go_wp2_with fail;refine (HA.o _).mono ?_;rintro e D ⟨rfl,r⟩;go_wp2_with fail;refine (C.o _).mono ?_;rintro e M ⟨rfl,p⟩;go_wp2;go_ret2;exact⟨Qfr (by rw[H.out.2];rfl) (by rw[H.out.1];rfl),Qaa r p⟩
      ·have H:=Z (k I)
       have N:decide ((n:Int)>9007199254740991)=false:=qB (by omega)
       clear j k I;go_enter func296,ntmps296;go_wp2_with fail;refine (HA.o _).mono ?_;rintro e D ⟨rfl,r⟩;go_wp2_with fail;refine (C.o _).mono ?_;rintro e M ⟨rfl,p⟩;go_wp2;go_ret2;exact⟨Qfr (by rw[H.out.2]) (by rw[H.out.1];rfl),Qaa r p⟩
     ·rw[JJ y] at i
      have C:=Z (d i);have H:=Z (j (by omega))
      clear m f b g d z B hne q i y A x j k;go_enter func296,ntmps296;go_wp2_with fail;refine (HA.o _).mono ?_;rintro e D ⟨rfl,r⟩;go_wp2_with fail;refine (C.o _ (P.o.below r)).mono ?_;rintro e M ⟨n,t,a,rfl,p⟩;go_wp2;go_ret2;exact⟨Qfr (by rw[H.out.2];rfl) (by rw[H.out.1];rfl),Qaa r p⟩
def QdK(a b:Int):Nat:=if a<0\/b<a\/9007199254740990<b then 8 else 0
def QaO(a b:Int):Int:=if QdK a b=0 then b-a+1 else 0
theorem QcP(a b:Int)(h:QdK a b=0):0<=a/\a<=b/\b<=9007199254740990:=by
 unfold QdK at h;split at h
 ·exact JN h (by decide)
 ·omega
theorem Qji(a b:Int)(h:QdK a b≠0):QdK a b=8/\(a<0\/b<a\/9007199254740990<b):=by
 unfold QdK at h ⊢;split at h
 ·rename_i c;exact⟨JK c,c⟩
 ·exact JN rfl h
def Qfn:JL:=[98,121,116,101,115,61]
def Qc5:JL:=[98,121,116,101,115,32]
def QfX(a b:Int):JL:=QeB a++45 :: QeB b
def QhF(a b:Int):JL:=if QdK a b=0 then Qfn++QfX a b else []
def QfD(c:UInt8)(l:JL):JL:=l.takeWhile (fun x=>x != c)
def QiE(c:UInt8)(l:JL):Bool:=decide ((QfD c l).length<l.length)
def Qbp(c:UInt8)(l:JL):JL:=l.drop ((QfD c l).length+1)
theorem QoZ(c:UInt8)(l:JL):(QfD c l).length<=l.length:=(List.takeWhile_prefix _).length_le
theorem Quo(c:UInt8)(l:JL):l.take (QfD c l).length=QfD c l:=(List.prefix_iff_eq_take.1 (List.takeWhile_prefix _)).symm
theorem Qwq(c:UInt8)(l:JL):Go.Lib.index l [c]=if (QfD c l).length<l.length then ((QfD c l).length:Int) else -1:=by
 induction l with
 |nil=>rfl
 |cons d t ih=>
  unfold Go.Lib.index
  by_cases b:d=c
  ·subst b
   have:QfD d (d :: t) = []:=by unfold QfD;rw[List.takeWhile_cons_of_neg (by simp)]
   rw[this,JK (by simp[List.isPrefixOf]),JK (by simp)];rfl
  ·have f:QfD c (d :: t)=d :: QfD c t:=by unfold QfD;rw[List.takeWhile_cons_of_pos (by simpa using b)]
   rw[JJ (by simp[List.isPrefixOf];exact fun h=>b h.symm),ih,f]
   by_cases a:(QfD c t).length<t.length
   ·rw[JK a,JJ (by rw[beq_iff_eq];omega),JK (by simp;omega)];simp
   ·rw[JJ a,JK (by decide),JJ (by simp;omega)]
theorem QCI(c:UInt8)(l:JL):Go.Lib.cut l [c]=if QiE c l=true then (QfD c l,Qbp c l,true) else (l,[],false):=by
 unfold Go.Lib.cut QiE Qbp;rw[Qwq]
 by_cases a:(QfD c l).length<l.length
 ·rw[JK a,JK (by omega),qA a,JK rfl,Int.toNat_natCast,Quo];rfl
 ·rw[JJ a,JJ (by decide),qB a,JJ (by decide)]
def Qsf(a b:JL):Nat:=if Qc2 a≠0 then Qc2 a else Qc2 b
def Qkf(l:JL):Bool:=Qfn.isPrefixOf l&&QiE 45 (l.drop 6)
def Qh8(l:JL):Nat:=QcK (QfD 45 (l.drop 6))
def Qh7(l:JL):Nat:=QcK (Qbp 45 (l.drop 6))
def QbW(l:JL):Nat:=if Qkf l=false then 4 else if Qsf (QfD 45 (l.drop 6)) (Qbp 45 (l.drop 6))≠0 then Qsf (QfD 45 (l.drop 6)) (Qbp 45 (l.drop 6)) else QdK (Qh8 l) (Qh7 l)
def Qc9(l:JL):Int:=if QbW l=0 then (Qh8 l:Int) else 0
def Qc8(l:JL):Int:=if QbW l=0 then (Qh7 l:Int) else 0
def Qck(a b t:Int):Nat:=if QdK a b≠0 then QdK a b else if t<=b\/9007199254740991<t then 8 else 0
def Qcm(a b t:Int):JL:=if Qck a b t=0 then Qc5++QfX a b++47 :: QeB t else []
def QiT(l:JL):Bool:=Qc5.isPrefixOf l&&QiE 45 (l.drop 6)&&QiE 47 (Qbp 45 (l.drop 6))
def Qo6(l:JL):Nat:=QcK (QfD 45 (l.drop 6))
def Qo4(l:JL):Nat:=QcK (QfD 47 (Qbp 45 (l.drop 6)))
def Qo5(l:JL):Nat:=QcK (Qbp 47 (Qbp 45 (l.drop 6)))
def Qd1(a b c:JL):Nat:=if Qc2 a≠0 then Qc2 a else if Qc2 b≠0 then Qc2 b else Qc2 c
def Qcn(l:JL):Nat:=if QiT l=false then 4 else if Qd1 (QfD 45 (l.drop 6)) (QfD 47 (Qbp 45 (l.drop 6))) (Qbp 47 (Qbp 45 (l.drop 6)))≠0 then Qd1 (QfD 45 (l.drop 6)) (QfD 47 (Qbp 45 (l.drop 6))) (Qbp 47 (Qbp 45 (l.drop 6)))
 else Qck (Qo6 l) (Qo4 l) (Qo5 l)
def Qdb(l:JL):Int:=if Qcn l=0 then (Qo6 l:Int) else 0
def Qda(l:JL):Int:=if Qcn l=0 then (Qo4 l:Int) else 0
def QdJ(l:JL):Int:=if Qcn l=0 then (Qo5 l:Int) else 0
def QdZ(a b t:Int):Nat:=if QdK a b≠0 then QdK a b else if t<=a then 8 else 0
def QgS(a b t:Int):Int:=if QdZ a b t=0 then a else 0
def QgR(a b t:Int):Int:=if QdZ a b t=0 then (if b<t-1 then b else t-1) else 0
def Qia(b:Bool)(c:Nat):Nat:=if (b&&Qkp c)=true then c-32 else c
theorem QB9(c:Nat)(h:c<97):Qkp c=false:=by unfold Qkp;rw[qB (by omega)];rfl
theorem QCb(c:Nat)(h:122<c):Qkp c=false:=by unfold Qkp;rw[qB (show ¬c<=122 by omega),Bool.and_false]
theorem QCa(c:Nat)(h:97<=c)(a:c<=122):Qkp c=true:=by unfold Qkp;rw[qA h,qA a];rfl
theorem Qus(c B:Nat)(b:Bool)(w:World)(a:w.heap[B]?=some (.cells #[.bool b] 4 (0,0)))(j:c<128) :
  Calls prog 327 #[.int .i32 (c:Int),Jp B] w fun e w'=>e=.returned (.int .i32 (Qia b c:Nat))/\w'=w.setCell (Ja B 0) (.bool ((c:Int)==45)):=by
 have Qak:w.cell? (Ja B 0)=some (.bool b):=by unfold World.cell?;rw[a];rfl
 have f:w.frozen? (Ja B 0)=false:=by unfold World.frozen?;rw[a];rfl
 cases b
 ·have H:Hi (Qia false c=c):=Z rfl
  go_enter func327,ntmps327;go_wp2;go_ret;exact⟨by rw[H.out];rfl,rfl⟩
 ·by_cases h:c<97
  ·have H:Hi (Qia true c=c):=Z (by unfold Qia;rw[QB9 c h];rfl)
   have d:decide ((c:Int)>=97)=false:=by simp;omega
   go_enter func327,ntmps327;go_wp2;go_ret;exact⟨by rw[H.out];rfl,rfl⟩
  ·by_cases g:122<c
   ·have H:Hi (Qia true c=c):=Z (by unfold Qia;rw[QCb c g];rfl)
    have d:decide ((c:Int)<=122)=false:=by simp;omega
    go_enter func327,ntmps327;go_wp2;go_ret;exact⟨by rw[H.out];rfl,rfl⟩
   ·have H:Hi (Qia true c=c-32):=Z (by unfold Qia;rw[QCa c (by omega) (by omega)];rfl)
    have d:decide ((c:Int)<=122)=true:=by simp;omega
    have i:97<=c:=by omega
    go_enter func327,ntmps327;go_wp2;go_ret;refine⟨QbS ?_,rfl⟩;rw[H.out];omega
def stB(c:UInt8):Bool:=((c.toNat:Nat):Int)==45
def Qgf:Bool->JL->JL
 |_,[]=>[]
 |b,c :: t=>UInt8.ofNat (Qia b c.toNat) :: Qgf (stB c) t
theorem Quv(b:Bool)(c:Nat)(h:c<128):Qia b c<128:=by unfold Qia;split<;>omega
theorem QgV{T e:JT}{B b c:Nat}{p:Value}{l:JV}{w:World}(h:Go.Lib.BuilderAtF T e B b p l w)(d:c<B)(v:Value):Go.Lib.BuilderAtF T e B b p l (w.setCell (Ja c 0) v):=by
 obtain⟨hB,x,hx,QE2,hne⟩:=h;have a:x.ownBlock≠some c:=by
  rcases QE2.2 with⟨rfl,_⟩|⟨g,cap,cur,fz,rfl,hg,_⟩
  ·simp[Value.ownBlock]
  ·intro e
   have:g=c:=by simpa[Value.ownBlock] using e
   omega
 refine⟨hB,x,?_,QE2.kept (row:=some c) ⟨rfl,rfl,rfl,by simp[World.setCell],fun k _ hk=>JO _ _ _ _ (fun e=>hk (by simp[e]))⟩ (Or.inr a),hne⟩
 rw[<-hx];exact JO _ _ _ _ (show b≠c by omega)
theorem QjH{T e:JT}{B b c:Nat}{l:JV}{w:World}(h:Go.Lib.IsBuilderF T e B b l w)(a:c<B)(v:Value):Go.Lib.IsBuilderF T e B b l (w.setCell (Ja c 0) v):=
 h.elim (fun x=>.inl (QgV x a v)) (fun x=>.inr (QgV x a v))
def AtT(w0:World)(c:Nat)(b:Bool)(w:World):Prop:=w.heap[c]?=some (.cells #[.bool b] 4 (0,0))/\Below c w0 w
theorem AtT.below{w0 w w':World}{c B:Nat}{b:Bool}(h:AtT w0 c b w)(a:Below B w w')(d:c<B):AtT w0 c b w':=
 ⟨(a.block c d).trans h.1,h.2.trans (a.mono (by omega))⟩
theorem AtT.set{w0 w:World}{c:Nat}{b:Bool}(h:AtT w0 c b w)(a:Bool):AtT w0 c a (w.setCell (Ja c 0) (.bool a)):=by
 refine⟨?_,h.2.setCell (p:=(Ja c 0)) (qC _) _⟩;simp[World.setCell,J6,h.1]
theorem Qej(w:World)(c j:Nat)(v:Value)(h:j≠c):(w.setCell (Ja c 0) v).heap[j]?=w.heap[j]?:=JO _ _ _ _ h
end
section
open Go.RowKit Go.Lib
theorem Qm9(b:Bool)(l:JL)(k:Nat)(h:k<l.length):Qgf b (l.drop k)=UInt8.ofNat (Qia b l[k].toNat) :: Qgf (stB l[k]) (l.drop (k+1)):=by
 rw[List.drop_eq_getElem_cons h];rfl
theorem QD0(b n:Nat)(w:World)(c:w.heap[b]?=some (.cells #[.pointer none,.slice none 0 0] 244 (0,0)))(a:b<=w.heap.size)(d:n<=281474976710656) :
  Calls prog 118 #[Jp b,Ji n] w fun e w'=>e=.returned (.tuple #[])/\(Lib.BuilderAt 244 5 b b (Jp b) [] w'/\Below b w w')/\∃p cap,w'.cell? (Ja b 1)=some (.slice p 0 cap)/\n<=cap:=
 Any.Builder_Grow_fresh_cap { Tryz.lays230 with } Tryz.Builder_Extra_230 b b n w (qC _) c a d
theorem QmV(b:Nat)(l:JV)(s:JA)(w:World)(h:Lib.IsBuilderF 244 5 b b l w)(hlen:l.length+s.size<=140737488355328)(a:b<=w.heap.size) :
  Calls prog 119 #[Jp b,Jt s] w fun e w'=>e=.returned (.tuple #[Ji s.size,.nilIface])/\(Lib.BuilderAtF 244 5 b b (Jp b) (l++Lib.strCells s) w'/\Below b w w'/\Lib.OthersKept 5 (some b) w w')/\∀v0,w.cell? (Ja b 1)=some v0->∃v1,w'.cell? (Ja b 1)=some v1/\v0.capOf<=v1.capOf:=
 Any.Builder_WriteString_kc { Tryz.lays230 with } Tryz.Builder_Extra_230 b b l s w h hlen a
theorem QqA(b:Nat)(l:JV)(c:Int)(w:World)(h:Lib.IsBuilderF 244 5 b b l w)(hlen:l.length+1<=140737488355328)(a:b<=w.heap.size) :
  Calls prog 336 #[Jp b,Jb c] w fun e w'=>e=.returned .nilIface/\(Lib.BuilderAtF 244 5 b b (Jp b) (l++[Jb c]) w'/\Below b w w'/\Lib.OthersKept 5 (some b) w w'):=
 Any.Builder_WriteByte_k { Tryz.lays230 with } Tryz.Builder_Extra_230 b b l c w h hlen a
theorem Qqz(b:Nat)(l:JV)(r:Nat)(c:r<128)(w:World)(h:Lib.IsBuilderF 244 5 b b l w)(hlen:l.length+4<=140737488355328)(a:b<=w.heap.size) :
  Calls prog 220 #[Jp b,.int .i32 (r:Int)] w fun e w'=>e=.returned (.tuple #[Ji 1,.nilIface])/\(Lib.BuilderAtF 244 5 b b (Jp b) (l++[Jb (r:Int)]) w'/\Below b w w'/\Lib.OthersKept 5 (some b) w w'):=by
 have h:=Any.Builder_WriteRune_k { Tryz.lays230 with } Tryz.Builder_Extra_230 b b l (r:Int) (by omega) (by omega) w h hlen a
 have e:Lib.runeCells (r:Int) = [Jb (r:Int)]:=by unfold Lib.runeCells;rw[Lib.encodeRuneZ_one (by omega) (by omega)];rfl
 rw[e] at h;exact h
theorem QAf(b:Nat)(l:JL)(w:World)(h:Lib.IsBuilderF 244 5 b b (Lib.byteCells l) w)(a:b<=w.heap.size) :
  Calls prog 120 #[Jp b] w fun e w'=>e=.returned (Jt (bs l))/\(Lib.IsBuilderF 244 5 b b (Lib.byteCells l) w'/\Below b w w'):=
 Any.Builder_String_any_f { Tryz.lays230 with } Tryz.Builder_Extra_230 b b l w h a
theorem QD2(b:Nat)(p:Option Addr)(n a:Nat)(w:World)(c:Jx w b 1 (.slice p n a)) :
  Calls prog 335 #[Jp b] w (JS (Ji a) w):=
 Any.Builder_Cap_cell { Tryz.lays230 with } b p n a w c
theorem Qxk(r:Nat)(a:r<128)(w:World):Calls prog 334 #[.int .i32 (r:Int)] w (JS (Ji 1) w):=by
 have h:=Any.utf8_RuneLen { Tryz.lays230 with } (r:Int) w
 have e:Lib.runeLen (r:Int)=1:=by unfold Lib.runeLen;rw[JJ (by omega),JK (by omega)]
 rw[e] at h;exact h
theorem QsY(s:JA)(w:World)(c:Nat)(hs:s.size<=1000000)(V:∀j (h:j<s.size),s[j].toNat<128)(y:c<w.heap.size)(Qak:w.heap[c]?=some (.cells #[.bool true] 4 (0,0))) :
  Calls prog 319 #[.func (.func 327) #[] #[Jp c],Jt s] w fun e w'=>e=.returned (Jt (bs (Qgf true s.data.toList)))/\Below c w w':=by
 have eg:∀args w,(callFunc 327 args).run prog w=.ok (.enter 327 args) w:=enters_of func327 (by kernel_rfl) rfl
 obtain⟨ANS,hANS⟩:∃ANS,ANS=Qgf true s.data.toList:=⟨_,rfl⟩;have hlen:s.data.toList.length=s.size:=Qab s;rw[<-hANS];have I:=Z V;clear V;go_enter func319,ntmps319;go_wp2;go_loopg [1] s.size (fun gk s1 wx=>s1 = Jt s/\∃(k:Nat) (b:Bool),wx.heap[w.heap.size]?=some (.cells #[.pointer none,.slice none 0 0] 244 (0,0))/\wx.heap[w.heap.size+1]?=some (.stringIter s k)/\AtT w c b wx/\
  s.data.toList.take k++Qgf b (s.data.toList.drop k)=ANS/\s.size<=k+gk/\k<=s.size)
 case atStart=>
  refine⟨rfl,0,true,?_,?_,⟨?_,?_⟩,by rw[hANS];rfl,by omega,by omega⟩
  ·have h1:=JI w (.cells #[.pointer none,.slice none 0 0] 244)
   exact (JQ _ _ _ (by simp)).trans h1
  ·have:=World.iter_heap (w.alloc (.cells #[.pointer none,.slice none 0 0] 244)) s 0
   simpa using this
  ·exact (JQ _ _ _ (by simp;omega)).trans ((JQ _ _ _ (by omega)).trans Qak)
  ·exact ((qF c w).alloc (by omega) _).alloc (by simp;omega) _
 case round=>
  obtain⟨rfl,k,b,hfr,hit,hAt,hsp,hfu,hks⟩:=hrel
  by_cases x:k<s.size
  ·obtain⟨g',rfl⟩:∃g',gk=g'+1:=⟨gk-1,by omega⟩
   have D:=I.o k x;have Y:=Qhz s k x D;have i:∀ty,(Instr.next (Jp (w.heap.size+1)) true ty).run prog wr=_:=fun ty=>Lib.run_next_any_at wr (w.heap.size+1) s k ty hit x
   rw[Y] at i;have a:=Qm9 b s.data.toList k (by rw[hlen];exact x)
   change Qgf b (s.data.toList.drop k)=UInt8.ofNat (Qia b s[k].toNat) :: Qgf (stB s[k]) (s.data.toList.drop (k+1)) at a;obtain⟨ch,hchq⟩:∃ch,ch=s[k]:=⟨_,rfl⟩;have K:s.data.toList.take (k+1)=s.data.toList.take k++[ch]:=by
    rw[qV (by rw[hlen];exact x),hchq];rfl
   rw[<-hchq] at a D i;have m:=Lib.iterAt_heap wr (w.heap.size+1) s k (k+1) hit;have A:(wr.iterAt (w.heap.size+1) s (k+1)).heap[w.heap.size]?=_:=(Lib.iterAt_other wr (w.heap.size+1) w.heap.size s (k+1) (by omega)).trans hfr
   have f:AtT w c b (wr.iterAt (w.heap.size+1) s (k+1)):=hAt.below (Lib.below_iterAt (qF (w.heap.size+1) wr) (qC _) s (k+1)) (by omega)
   obtain⟨W,hW⟩:∃W,wr.iterAt (w.heap.size+1) s (k+1)=W:=⟨_,rfl⟩;rw[hW] at i m A f;have z:=Qus ch.toNat c b W f.1 D;have q:AtT w c (stB ch) (W.setCell (Ja c 0) (.bool (stB ch))):=f.set (stB ch);have C:(W.setCell (Ja c 0) (.bool (stB ch))).heap[w.heap.size]?=_:=(Qej W c w.heap.size (.bool (stB ch)) (by omega)).trans A
   have r:(W.setCell (Ja c 0) (.bool (stB ch))).heap[w.heap.size+1]?=_:=(Qej W c (w.heap.size+1) (.bool (stB ch)) (by omega)).trans m
   have qm:((ch.toNat:Int) != 65533)=true:=by rw[bne_iff_ne];omega
   have qp:((ch.toNat:Int)==65533)=false:=by rw[qI];omega
   have qn:¬(ch.toNat:Int)=65533:=by omega
   have hM:=Quv b ch.toNat D;obtain⟨M,hMq⟩:∃M,M=Qia b ch.toNat:=⟨_,rfl⟩;rw[<-hMq] at z a hM;obtain⟨W3,hW3⟩:∃W3,W3=W.setCell (Ja c 0) (.bool (stB ch)):=⟨_,rfl⟩;change Calls _ _ _ _ fun e w'=>_/\w'=W.setCell (Ja c 0) (.bool (stB ch)) at z
   rw[<-hW3] at z q C r;clear hit hfr hAt hW f A m hMq hW3 hchq Y
   by_cases hc:M=ch.toNat
   ·have HS:Hi (s.data.toList.take (k+1)++Qgf (stB ch) (s.data.toList.drop (k+1))=ANS):=Z (by
     rw[<-hsp,a,K,hc,qP];simp)
    subst hc;clear a hsp K;go_wp2_with (go_at_fn 327;go_must (refine z.mono ?_;rintro e W' ⟨rfl,rfl⟩));go_roundg g'
    case measure=>omega
    case rel=>exact⟨rfl,k+1,stB ch,C,r,q,HS.o,by omega,by omega⟩
   ·have HS:Hi ((s.data.toList.take k++[UInt8.ofNat M])++Qgf (stB ch) (s.data.toList.drop (k+1))=ANS):=Z (by
     rw[<-hsp,a,qP];rfl)
    have t1:((M:Int)==(ch.toNat:Int))=false:=by rw[qI];omega
    have S:(s.extract 0 k).size=k:=by rw[ByteArray.size_extract];omega
    have qe:(s.extract 0 k).data.toList=s.data.toList.take k:=by rw[QcC,Qai,List.drop_zero]
    have qj:¬(M:Int)=(ch.toNat:Int):=by omega
    clear a hsp K hc;go_wp2_with fail;refine z.mono ?_;rintro e W' ⟨rfl,rfl⟩;go_wp2_with fail;refine (Qxk ch.toNat D _).mono ?_;rintro e W' ⟨rfl,rfl⟩;go_wp2_with fail;have T:w.heap.size<=W'.heap.size:=by have:=(gsi C).1;omega
    have cG:=QD0 w.heap.size (s.size+4) W' C T (by omega)
    rw[show ((s.size+4:Nat):Int)=(s.size:Int)+4 by omega] at cG
    refine cG.mono ?_;rintro e W4 ⟨rfl,⟨h4,b4⟩,p4,X,qb,qh⟩;have J:=q.below b4 y;have qd:w.heap.size<=W4.heap.size:=by have:=b4.size;omega
    clear cG C r q z;go_wp2_with fail;refine (QmV w.heap.size [] (s.extract 0 k) W4 (Lib.IsBuilderF.of (Or.inr h4)) (by rw[S];simp;omega) qd).mono ?_
    rintro e W5 ⟨rfl,⟨h5,b5,-⟩,U⟩;obtain⟨v5,hv5,QGZ⟩:=U _ qb;have qg:4<=v5.capOf:=by
     have:X<=v5.capOf:=QGZ;omega
    have H:=J.below b5 y;have G:w.heap.size<=W5.heap.size:=by have:=b5.size;omega
    clear U qb h4 J b4 b5 hv5 QGZ qg;go_wp2_with fail;refine (Qqz w.heap.size _ M hM W5 (Or.inr h5) (by simp[Lib.strCells_length,S];omega) G).mono ?_
    rintro e W6 ⟨rfl,h6,b6,-⟩;have qc:=H.below b6 y;have ql:w.heap.size<=W6.heap.size:=by have:=b6.size;omega
    have qf : []++Lib.strCells (s.extract 0 k)++[Value.int .u8 (M:Int)]=Lib.byteCells (s.data.toList.take k++[UInt8.ofNat M]):=by
     rw[J3,Lib.strCells_eq,qe,Lib.byteCells_append]
     congr 1
     unfold Lib.byteCells;simp[UInt8.toNat_ofNat'];omega
    rw[qf] at h6;obtain⟨g6,n6,v,hc6,hcap6⟩:∃g n cap,W6.cell? (Ja w.heap.size 1)=some (Jl g n cap)/\1<=cap:=by
     obtain⟨_,v6,hv6,QGb,_⟩:=h6;rcases QGb.2 with⟨_,h0⟩|⟨g6,v,_,_,rfl,_,_,_,hnc,_⟩
     ·exfalso
      simp[Lib.byteCells] at h0
     ·refine⟨g6,_,v,by rw[Lib.cell_of_heap hv6];rfl,?_⟩
      have:1<=(Lib.byteCells (s.data.toList.take k++[UInt8.ofNat M])).length:=by rw[Lib.byteCells_length];simp
      omega
    have qq:((v:Int)==0)=false:=by rw[qI];omega
    have qk:w.heap.size<W6.heap.size:=h6.lt;clear h5 H G b6;go_wp2_with fail;refine (QD2 w.heap.size _ _ v W6 hc6).mono ?_;rintro e W' ⟨rfl,rfl⟩;obtain⟨s2,hs2⟩:∃s2,s.extract (k+1) s.size=s2:=⟨_,rfl⟩;have L:s2.data.toList=s.data.toList.drop (k+1):=by rw[<-hs2,QcC,Qai,<-hlen,List.take_length]
    have qo:s2.size=s.size-(k+1):=by rw[<-Qab,L,JC,hlen]
    have R:Hi (∀j (h:j<s2.size),s2[j].toNat<128):=Z (fun j h=>by
     have:=I.o (k+1+j) (by omega)
     have e:s2[j]=s[k+1+j]:=by
      have:s2.data.toList[j]'(by rw[Qab];exact h)=s.data.toList[k+1+j]'(by rw[Qab];omega):=by
       simp only[L,List.getElem_drop]
      exact this
     rw[e];exact this)
    go_wp2_with fail;go_loopg [] s2.size (fun gk wx=>∃(p:Nat) (l:JL) (E:Bool),Lib.IsBuilderF 244 5 w.heap.size w.heap.size (Lib.byteCells l) wx/\wx.heap[W'.heap.size]?=some (.stringIter s2 p)/\AtT w c E wx/\
     l++Qgf E (s2.data.toList.drop p)=ANS/\s2.size<=p+gk/\p<=s2.size/\l.length<=k+1+p)
    case atStart=>
     refine⟨0,s.data.toList.take k++[UInt8.ofNat M],stB ch,Lib.IsBuilderF.alloc (Or.inr h6) _,World.iter_heap W' s2 0,qc.below ((qF W'.heap.size W').alloc (qC _) _) (by omega),?_,by omega,by omega,?_⟩
     ·rw[List.drop_zero,L];exact HS.o
     ·rw[qG,qW,hlen];simp;omega
    case round=>
     obtain⟨p,l,E,hI,hit,hAt,hacc,hfu2,hp2,hal⟩:=hrel;have qi:W'.heap.size<wr.heap.size:=(gsi hit).1
     by_cases B:p<s2.size
     ·obtain⟨g2,rfl⟩:∃g2,gk=g2+1:=⟨gk-1,by omega⟩
      have t:=R.o p B;have i:∀ty,(Instr.next (Jp W'.heap.size) true ty).run prog wr=_:=fun ty=>Lib.run_next_any_at wr W'.heap.size s2 p ty hit B
      rw[Qhz s2 p B t] at i;have a:=Qm9 E s2.data.toList p (by rw[Qab];exact B)
      change Qgf E (s2.data.toList.drop p)=UInt8.ofNat (Qia E s2[p].toNat) :: Qgf (stB s2[p]) (s2.data.toList.drop (p+1)) at a;obtain⟨d,hd⟩:∃d,d=s2[p]:=⟨_,rfl⟩;rw[<-hd] at a t i;have O:=hI.iterAt hit (p+1);have m:=Lib.iterAt_heap wr W'.heap.size s2 p (p+1) hit;have f:AtT w c E (wr.iterAt W'.heap.size s2 (p+1)):=hAt.below (Lib.below_iterAt (qF W'.heap.size wr) (qC _) s2 (p+1)) (by omega)
      obtain⟨Wa,hWa⟩:∃Wa,wr.iterAt W'.heap.size s2 (p+1)=Wa:=⟨_,rfl⟩;rw[hWa] at i O m f;have z:=Qus d.toNat c E Wa f.1 t;change Calls _ _ _ _ fun e w'=>_/\w'=Wa.setCell (Ja c 0) (.bool (stB d)) at z
      have q:=f.set (stB d);have r:(Wa.setCell (Ja c 0) (.bool (stB d))).heap[W'.heap.size]?=_:=(Qej Wa c W'.heap.size (.bool (stB d)) (by omega)).trans m
      have qa:=QjH O y (.bool (stB d));have hN:=Quv E d.toNat t;obtain⟨N,hNq⟩:∃N,N=Qia E d.toNat:=⟨_,rfl⟩;rw[<-hNq] at z a hN;have P:Hi ((l++[UInt8.ofNat N])++Qgf (stB d) (s2.data.toList.drop (p+1))=ANS):=Z (by
       rw[<-hacc,a,qP];rfl)
      obtain⟨W3,hW3⟩:∃W3,W3=Wa.setCell (Ja c 0) (.bool (stB d)):=⟨_,rfl⟩;rw[<-hW3] at z q r qa;have T:W'.heap.size<W3.heap.size:=(gsi r).1;have n0:(0:Int)<=(N:Int):=by omega
      clear hd hI hit hAt O m f hWa hNq hW3 a hacc;go_wp2_with fail;refine z.mono ?_;rintro e W7 ⟨rfl,rfl⟩;go_wp2_with fail;refine (QqA w.heap.size _ (N:Int) W7 qa (by rw[Lib.byteCells_length];omega) (by omega)).mono ?_
      rintro e W8 ⟨rfl,h8,b8,k8⟩;go_wp2_with fail;go_roundg g2
      case measure=>omega
      case rel=>
       refine⟨p+1,l++[UInt8.ofNat N],stB d,Or.inr ?_,k8.iter r (by omega),q.below b8 y,P.o,by omega,by omega,by rw[qG];simp;omega⟩
       rw[Lib.byteCells_append];have e1:Lib.byteCells [UInt8.ofNat N] = [Value.int .u8 (N:Int)]:=by
        unfold Lib.byteCells;simp[UInt8.toNat_ofNat'];omega
       rw[e1];exact h8
     ·obtain rfl:p=s2.size:=by omega
      have i:∀ty,(Instr.next (Jp W'.heap.size) true ty).run prog wr=_:=fun ty=>Lib.run_next_end_at wr W'.heap.size s2 s2.size ty hit B
      have P:Hi (l=ANS):=Z (by rw[<-hacc,<-Qab s2,List.drop_length];exact (qT _).symm)
      clear hacc hit;go_wp2_with fail;refine (QAf w.heap.size l wr hI (by omega)).mono ?_
      rintro e W8 ⟨rfl,_,b8⟩;go_wp2;go_ret;exact⟨QbR (by rw[P.o]),(hAt.below b8 y).2⟩
  ·obtain rfl:k=s.size:=by omega
   have i:∀ty,(Instr.next (Jp (w.heap.size+1)) true ty).run prog wr=_:=fun ty=>Lib.run_next_end_at wr (w.heap.size+1) s s.size ty hit x
   have cC:Calls prog 335 #[Jp w.heap.size] wr (JS (Ji 0) wr):=QD2 w.heap.size none 0 0 wr (by unfold Jx;rw[Lib.cell_of_heap hfr];rfl)
   have HS:Hi (s=bs ANS):=Z (by rw[<-hsp,<-hlen,List.drop_length,List.take_length];show s=bs (_++[]);rw[qT,Qb1])
   clear hsp;clear hit hfr;go_wp2_with fail;refine cC.mono ?_;rintro e W' ⟨rfl,rfl⟩;go_wp2;go_ret;exact⟨QbR HS.o,hAt.2⟩
end
section
theorem QmJ(s:JA)(w:World)(f:s.size<=1000000)(a:∀j (h:j<s.size),s[j].toNat<128) :
  Calls prog 307 #[Jt s] w (JB (Jt (bs (Qgf true s.data.toList))) w):=by
 have b:=Z (fun w c=>QsY s w c f a)
 obtain⟨A,hA⟩:∃A,A=bs (Qgf true s.data.toList):=⟨_,rfl⟩;rw[<-hA] at b ⊢;clear a hA;go_enter func307,ntmps307;go_wp2_with fail;refine (b.o _ w.heap.size (Qxs _ _ _) (JI w _)).mono ?_;rintro e g ⟨rfl,d⟩;go_wp2;go_ret;exact⟨rfl,(Qkb w _ _).trans d⟩
def QeI(c:Nat):Nat:=if 65<=c/\c<=90 then c+32 else c
theorem Qog(c:Nat)(w:World)(b:c<=1114111):Calls prog 320 #[.int .i32 (c:Int)] w (JS (.int .i32 (QeI c:Nat)) w):=by
 by_cases a:c<65
 ·have H:Hi (QeI c=c):=Z (JJ (by omega))
  have t:decide ((c:Int)>=65)=false:=by simp;omega
  go_enter func320,ntmps320;go_wp2;go_ret;exact⟨by rw[H.out];rfl,rfl⟩
 ·by_cases d:90<c
  ·have H:Hi (QeI c=c):=Z (JJ (by omega))
   have t:decide ((c:Int)<=90)=false:=by simp;omega
   go_enter func320,ntmps320;go_wp2;go_ret;exact⟨by rw[H.out];rfl,rfl⟩
  ·have H:Hi (QeI c=c+32):=Z (JK (by omega))
   have t:decide ((c:Int)<=90)=true:=by simp;omega
   have f:65<=c:=by omega
   go_enter func320,ntmps320;go_wp2;go_ret;refine⟨QbS ?_,rfl⟩;rw[H.out];omega
def QwI(c:UInt8):Bool:=c==32||c==9
theorem QpJ(n:Nat):(97<=n/\n<=122/\Qa9 n=true)\/(48<=n/\n<=57/\Qa9 n=true)\/(n=45/\Qa9 n=true)\/(n<48/\n≠45/\Qa9 n=false)\/(57<n/\n<97/\Qa9 n=false)\/(122<n/\Qa9 n=false):=by
 unfold Qa9 Qkp Qfg;simp only[Bool.or_eq_true,JD,qO,beq_iff_eq,Bool.or_eq_false_iff,Bool.and_eq_false_iff,decide_eq_false_iff_not,qI];omega
def QeJ(c:UInt8):UInt8:=UInt8.ofNat (QeI c.toNat)
def Qaw(l:JL):JL:=l.takeWhile (fun c=>c != 58)
def QjN:JL:=[32,9]
def QbV(l:JL):JL:=(Qaw l).map QeJ
def Qem(l:JL):JL:=Go.Lib.trimS (l.drop ((Qaw l).length+1)) QjN
def Qbi(l:JL):Bool:=l.all (fun c=>QaE c.toNat)
def QcQ(l:JL):Bool:=Qbi l&&decide ((Qaw l).length<l.length)&&Qep (QbV l)
def QaX(l:JL):JL:=if QcQ l=true then QbV l else []
def Qbc(l:JL):JL:=if QcQ l=true then Qem l else []
def QaT(l:JL):Nat:=if QcQ l=true then 0 else 4
theorem Qr4(l:JL):(Qaw l).length<=l.length:=(List.takeWhile_prefix _).length_le
theorem Qub(l:JL):l.take (Qaw l).length=Qaw l:=(List.prefix_iff_eq_take.1 (List.takeWhile_prefix _)).symm
theorem QCk(l:JL):Go.Lib.index l [58]=if (Qaw l).length<l.length then ((Qaw l).length:Int) else -1:=by
 induction l with
 |nil=>rfl
 |cons c t ih=>
  unfold Go.Lib.index
  by_cases b:c=58
  ·subst b
   have:Qaw (58 :: t) = []:=by unfold Qaw;rw[List.takeWhile_cons_of_neg (by decide)]
   rw[this,JK (by simp[List.isPrefixOf]),JK (by simp)];rfl
  ·have d:Qaw (c :: t)=c :: Qaw t:=by unfold Qaw;rw[List.takeWhile_cons_of_pos (by simpa using b)]
   rw[JJ (by simp[List.isPrefixOf];exact fun h=>b h.symm),ih,d]
   by_cases a:(Qaw t).length<t.length
   ·rw[JK a,JJ (by rw[beq_iff_eq];omega),JK (by simp;omega)];simp
   ·rw[JJ a,JK (by decide),JJ (by simp;omega)]
theorem QDT(l:JL):Go.Lib.cut l [58]=if (Qaw l).length<l.length then (Qaw l,l.drop ((Qaw l).length+1),true) else (l,[],false):=by
 unfold Go.Lib.cut;rw[QCk]
 by_cases a:(Qaw l).length<l.length
 ·rw[JK a,JK (by omega),JK a,Int.toNat_natCast,Qub];rfl
 ·rw[JJ a,JJ (by decide),JJ a]
theorem QuK(c:Nat)(h:c<128):QeI c<128:=by
 unfold QeI;split<;>omega
theorem QsZ(l:JL)(f:Int->Int)(b:∀x:Nat,x<128->f x=(QeI x:Nat)):∀h:(∀c∈l,c.toNat<128),Go.Lib.mapD f l=l.map QeJ:=by
 induction l with
 |nil=>intro _;rfl
 |cons c t ih=>
  intro h;have a:c.toNat<128:=h c (JF ..);have g:=QuK _ a;rw[Go.Lib.mapD_step f _ (by simp),Go.Lib.decodeL_ascii c t a,b _ a,JK (by omega)]
  have e:Go.Lib.encodeRune ((QeI c.toNat:Nat):Int) = [QeJ c]:=by
   unfold Go.Lib.encodeRune;rw[Go.Lib.encodeRuneZ_one (by omega) (by omega)]
   rfl
  rw[e];show QeJ c :: Go.Lib.mapD f t=_;rw[ih (fun d hd=>h d (JY _ hd))];rfl
theorem Qvv(n:Nat)(h:QaE n=true):n<128:=by
 unfold QaE at h;simp only[Bool.or_eq_true,beq_iff_eq,JD,qO] at h;omega
theorem Qpt(l:JL)(h:Qbi l=true):∀c∈l,c.toNat<128:=fun c hc=>Qvv _ (List.all_eq_true.1 h c hc)
theorem QxD(l:JL)(c:UInt8)(h:c∈Qaw l):c∈l:=(List.takeWhile_subset _) h
theorem QD1(s:JA)(w:World)(d:s.size<=1000000)(a:EnvW w)(A V:JA)(B:Bool)
  (h:Go.Lib.cut s.data.toList [58]=(A.data.toList,V.data.toList,B)) :
  Calls prog 265 #[Jt s,Jt ⟨#[58]⟩] w (JB (.tuple #[Jt A,Jt V,.bool B]) w):=by
 obtain⟨m,hm⟩:=a.m;have b:=Tryz.strings_Cut s ⟨#[58]⟩ m w (by omega) hm
 refine b.mono ?_;rintro e w' ⟨rfl,n,rfl⟩;refine⟨?_,(fun n=>by induction n with|zero=>exact qF _ _|succ n ih=>exact ih.drew:∀n,Jw w (w.drewN n)) n⟩
 have c:Go.Lib.cut s.data.toList (ByteArray.mk #[58]).data.toList=(A.data.toList,V.data.toList,B):=h;rw[c]
theorem QtS(s:JA)(w:World)(d:s.size<=1000000)(b:EnvW w)(a:∀c∈s.data.toList,c.toNat<128) :
  Calls prog 319 #[.func (.func 320) #[] #[],Jt s] w (JB (Jt (bs (s.data.toList.map QeJ))) w):=by
 have h:=Tryz.strings_Map_grows 320 #[] (enters_of func320 (by kernel_rfl) rfl) (fun x=>(QeI x.toNat:Nat)) s w (by omega)
  (fun W x hx _=>(Qog x W hx).mono fun e w' ⟨he,hw⟩=>⟨he,hw ▸ qF _ _⟩)
  (fun x hx=>by unfold QeI;rw[Int.toNat_natCast];split<;>constructor<;>omega) b.tabs
 rw[QsZ s.data.toList _ (fun x hx=>by rw[Int.toNat_natCast]) a] at h
 exact h
theorem QAS(s:JA)(w:World)(a:s.size<=1000000) :
  Calls prog 199 #[Jt s,Jt ⟨#[32,9]⟩] w (JB (Jt (bs (Go.Lib.trimS s.data.toList QjN))) w):=
 Any.strings_Trim_laid Tryz.lays160 (by kernel_rfl) s ⟨#[32,9]⟩ w (by omega) (by decide) (Go.Proofs.ascii_of_all (by decide))
structure Two(w:World)(b:Nat)(x y:Value):Prop where
 c0:w.cell? (Ja b 0)=some x
 c1:w.cell? (Ja b 1)=some y
 f0:w.frozen? (Ja b 0)=false
 f1:w.frozen? (Ja b 1)=false
theorem Qcx{w:World}{b:Nat}{x y:Value}{t:JT}(h:w.heap[b]?=some (.cells #[x,y] t (0,0))):Two w b x y:=
 ⟨by unfold World.cell?;rw[h];rfl,by unfold World.cell?;rw[h];rfl,by unfold World.frozen?;rw[h];rfl,by unfold World.frozen?;rw[h];rfl⟩
theorem Qbb{w a:World}{x y:Value}{t:JT}(b:Below (w.alloc (.cells #[x,y] t)).heap.size (w.alloc (.cells #[x,y] t)) a):a.heap[w.heap.size]?=some (.cells #[x,y] t (0,0)):=
 (b.block _ (by simp)).trans (JI w _)
theorem QbU{fn:Func}{R:Ending->World->Prop}{a:Act}{w:World}{b:Nat}{x y E:Value}{p u:Tmp}{g:JT}(d:fn.results=#[.cell p g,.tmp u])
  (f:(loadVar g (Ja b 0)).run prog w=.ok (.agg #[x,y]) w)
  (h:a.tmps.getD p undef = Jp b) (i:a.tmps.getD u undef=E) (c:a.defers = [])
  (j:R (.returned (.tuple #[.agg #[x,y],E])) w):bodyPost prog fn R .ret a w:=by
 refine bodyPost_ret_by (v:=.tuple #[.agg #[x,y],E]) ?_ c j;rw[results_cell_tmp d,h,i];simp[asAddr,f,Result.andThen]
theorem Qiw(w:World)(b:Nat)(t:JT)(x y:Value)(h:w.heap[b]?=some (.cells #[x,y] t (0,0))):(loadVar 403 (Ja b 0)).run prog w=.ok (.agg #[x,y]) w:=
 run_loadVar_row w b t 403 #[x,y] (0,0) _ h underlying403 rfl (by kernel_rfl)
theorem Qbv{w:World}{b:Nat}{x y:Value}{t:JT}(h:w.heap[b]?=some (.cells #[x,y] t (0,0)))(a c:Value) :
  ((w.setCell (Ja b 0) a).setCell (Ja b 1) c).heap[b]?=some (.cells #[a,c] t (0,0)):=by
 simp[World.setCell,J6,h]
theorem QaY{B:Nat}{w0 w:World}(h:Below B w0 w)(b:Nat)(a:B<=b)(c d:Value):Below B w0 ((w.setCell (Ja b 0) c).setCell (Ja b 1) d):=
 (h.setCell (p:=(Ja b 0)) a _).setCell (p:=(Ja b 1)) a _
theorem QgL(s:JA)(w:World)(L:s.size<=1000000)(v:EnvW w) :
  Calls prog 295 #[Jt s] w (JB (.tuple #[.agg #[Jt (bs (QaX s.data.toList)),Jt (bs (Qbc s.data.toList))],Ji (QaT s.data.toList)]) w):=by
 have E:=Z v;clear v
 by_cases f:(Qaw s.data.toList).length<s.data.toList.length
 ·have hcut:=QDT s.data.toList
  rw[JK f] at hcut;obtain⟨A,hA⟩:∃A,A=bs (Qaw s.data.toList):=⟨_,rfl⟩;obtain⟨V,hV⟩:∃V,V=bs (s.data.toList.drop ((Qaw s.data.toList).length+1)):=⟨_,rfl⟩;have G:=Z (fun w v=>QD1 s w L v A V true (by rw[hcut,hA,hV,Qai,Qai]))
  have B:=Qab s;have q:A.size<=1000000:=by rw[hA,Qaq];have:=Qr4 s.data.toList;omega
  have r:V.size<=1000000:=by rw[hV,Qaq,JC];omega
  cases d:Qbi s.data.toList with
  |false=>
   have j:Hi (QaX s.data.toList = []/\Qbc s.data.toList = []/\QaT s.data.toList=4):=Z (by
    have:QcQ s.data.toList=false:=by unfold QcQ;rw[d];rfl
    unfold QaX Qbc QaT;rw[this];exact⟨rfl,rfl,rfl⟩)
   have g:=fun w=>Qff s w (by omega)
   rw[show (s.data.toList.all (fun c=>QaE c.toNat))=false from d] at g
   have t:=Z g;clear f hcut d g B hA hV q r;go_enter func295,ntmps295;go_wp2_with fail;refine (G.o _ (E.o.below ((qF _ _).alloc (qC _) _))).mono ?_;rintro e K ⟨rfl,a⟩;obtain⟨k0,k1,f0,f1⟩:=Qcx (Qbb a);go_wp2_with (go_at_call 305;refine (t.o _).mono ?_;rintro e w' ⟨rfl,rfl⟩);refine QbU (b:=w.heap.size) (x:=Jt ⟨#[]⟩) (y:=Jt ⟨#[]⟩) rfl (Qiw _ _ _ _ _ (Qbv (Qbb a) _ _)) rfl rfl rfl ?_;refine⟨?_,QaY (((qF _ _).alloc (qC _) _).trans (a.mono (by simp))) _ (qC _) _ _⟩
   rw[j.o.1,j.o.2.1,j.o.2.2];rfl
  |true=>
   have g:=fun w=>Qff s w (by omega)
   rw[show (s.data.toList.all (fun c=>QaE c.toNat))=true from d] at g
   have t:=Z g;have z:∀c∈A.data.toList,c.toNat<128:=by
    rw[hA,Qai];intro c P;exact Qpt _ d c (QxD _ c P)
   have n:=fun w v=>QtS A w q v z
   rw[show A.data.toList.map QeJ=QbV s.data.toList by rw[hA,Qai];rfl] at n
   have p:=Z n;have i:=Z (fun w=>QjP (bs (QbV s.data.toList)) w)
   have J:=Z (fun w=>QAS V w r)
   have D:bs (Go.Lib.trimS V.data.toList QjN)=bs (Qem s.data.toList):=by rw[hV,Qai];rfl
   rw[D] at J;rw[Qai] at i;cases k:Qep (QbV s.data.toList) with
   |false=>
    have j:Hi (QaX s.data.toList = []/\Qbc s.data.toList = []/\QaT s.data.toList=4):=Z (by
     have:QcQ s.data.toList=false:=by unfold QcQ;rw[k,Bool.and_false]
     unfold QaX Qbc QaT;rw[this];exact⟨rfl,rfl,rfl⟩)
    rw[k] at i;obtain⟨N,hN⟩:∃N,N=bs (QbV s.data.toList):=⟨_,rfl⟩;rw[<-hN] at p i;clear f hcut d g B hA hV q r z n D k hN J;go_enter func295,ntmps295;go_wp2_with fail;refine (G.o _ (E.o.below ((qF _ _).alloc (qC _) _))).mono ?_;rintro e K ⟨rfl,a⟩;have C:=Z ((E.o.below ((qF _ _).alloc (qC _) _)).below a);go_wp2_with (go_at_call 305;refine (t.o _).mono ?_;rintro e w' ⟨rfl,rfl⟩);refine (p.o _ C.o).mono ?_;rintro e O ⟨rfl,l⟩;go_wp2_with fail;refine (i.o _).mono ?_;rintro e M ⟨rfl,m⟩;have h:=Qaa a (Qaa l m);clear a l m;obtain⟨k0,k1,f0,f1⟩:=Qcx (Qbb h);go_wp2_with fail;refine QbU (b:=w.heap.size) (x:=Jt ⟨#[]⟩) (y:=Jt ⟨#[]⟩) rfl (Qiw _ _ _ _ _ (Qbv (Qbb h) _ _)) rfl rfl rfl ?_;refine⟨?_,QaY (((qF _ _).alloc (qC _) _).trans (h.mono (by simp))) _ (qC _) _ _⟩
    rw[j.o.1,j.o.2.1,j.o.2.2];rfl
   |true=>
    have j:Hi (QaX s.data.toList=QbV s.data.toList/\Qbc s.data.toList=Qem s.data.toList/\QaT s.data.toList=0):=Z (by
     have:QcQ s.data.toList=true:=by unfold QcQ;rw[k,d,qA f];rfl
     unfold QaX Qbc QaT;rw[this];exact⟨rfl,rfl,rfl⟩)
    rw[k] at i;obtain⟨N,hN⟩:∃N,N=bs (QbV s.data.toList):=⟨_,rfl⟩;obtain⟨T,hT⟩:∃T,T=bs (Qem s.data.toList):=⟨_,rfl⟩;rw[<-hN] at p i;rw[<-hT] at J;have H:=Z (qE hN hT);clear f hcut d g B hA hV q r z n D k hN hT;go_enter func295,ntmps295;go_wp2_with fail;refine (G.o _ (E.o.below ((qF _ _).alloc (qC _) _))).mono ?_;rintro e K ⟨rfl,a⟩;have C:=Z ((E.o.below ((qF _ _).alloc (qC _) _)).below a);go_wp2_with (go_at_call 305;refine (t.o _).mono ?_;rintro e w' ⟨rfl,rfl⟩);refine (p.o _ C.o).mono ?_;rintro e O ⟨rfl,l⟩;go_wp2_with fail;refine (i.o _).mono ?_;rintro e M ⟨rfl,m⟩;go_wp2_with fail;refine (J.o _).mono ?_;rintro e R ⟨rfl,I⟩;have h:=Qaa a (Qaa l (Qaa m I));clear a l m I;obtain⟨k0,k1,f0,f1⟩:=Qcx (Qbb h);go_wp2_with fail;refine QbU (b:=w.heap.size) (x:=Jt N) (y:=Jt T) rfl (Qiw _ _ _ _ _ (Qbv (Qbb h) _ _)) rfl rfl rfl ?_;refine⟨?_,QaY (((qF _ _).alloc (qC _) _).trans (h.mono (by simp))) _ (qC _) _ _⟩
    rw[j.o.1,j.o.2.1,j.o.2.2,<-H.o.1,<-H.o.2];rfl
 ·have hcut:=QDT s.data.toList
  rw[JJ f] at hcut;have G:=Z (fun w v=>QD1 s w L v s ⟨#[]⟩ false hcut)
  have j:Hi (QaX s.data.toList = []/\Qbc s.data.toList = []/\QaT s.data.toList=4):=Z (by
   have:QcQ s.data.toList=false:=by unfold QcQ;rw[qB f,Bool.and_false,Bool.false_and]
   unfold QaX Qbc QaT;rw[this];exact⟨rfl,rfl,rfl⟩)
  clear f hcut;go_enter func295,ntmps295;go_wp2_with fail;refine (G.o _ (E.o.below ((qF _ _).alloc (qC _) _))).mono ?_;rintro e K ⟨rfl,a⟩;obtain⟨k0,k1,f0,f1⟩:=Qcx (Qbb a);go_wp2_with fail;refine QbU (b:=w.heap.size) (x:=Jt ⟨#[]⟩) (y:=Jt ⟨#[]⟩) rfl (Qiw _ _ _ _ _ (Qbv (Qbb a) _ _)) rfl rfl rfl ?_;refine⟨?_,QaY (((qF _ _).alloc (qC _) _).trans (a.mono (by simp))) _ (qC _) _ _⟩
  rw[j.o.1,j.o.2.1,j.o.2.2];rfl
theorem Qh1(s:JA)(w:World)(a:s.size<=1000000)(b:EnvF w) :
  Calls prog 295 #[Jt s] w (JB (.tuple #[.agg #[Jt (bs (QaX s.data.toList)),Jt (bs (Qbc s.data.toList))],Ji (QaT s.data.toList)]) w):=QgL s w a b.weak
def HoldsF(w:World)(v:Value)(fs:List (List UInt8×JL)):Prop:=
 ∃a c,v=.slice a fs.length c/\fs.length<=c/\(fs≠[]->∃b o,a=some (Ja b o)/\b<w.heap.size/\∀j (hj:j<fs.length),w.cell? (Ja b (o+j*2))=some (Jt (bs fs[j].1))/\w.cell? (Ja b (o+j*2+1))=some (Jt (bs fs[j].2)))
theorem HoldsF.below{w w':World}{v:Value}{f:List (List UInt8×JL)}(h:HoldsF w v f)(d:Jw w w'):HoldsF w' v f:=by
 obtain⟨a,c,hv,hc,hx⟩:=h;refine⟨a,c,hv,hc,fun hne=>?_⟩
 obtain⟨b,o,ha,hlt,Qak⟩:=hx hne;exact⟨b,o,ha,qK hlt d.size,fun j hj=>⟨(d.cell (p:=(Ja b (o+j*2))) hlt).trans (Qak j hj).1,(d.cell (p:=(Ja b (o+j*2+1))) hlt).trans (Qak j hj).2⟩⟩
theorem HoldsF.nil(w:World)(a:Option Addr)(c:Nat):HoldsF w (.slice a 0 c) []:=⟨a,c,rfl,qL _,fun h=>JN rfl h⟩
def QaB:List (List UInt8×JL)->JV
 |[]=>[]
 |f :: t=>Jt (bs f.1) :: Jt (bs f.2) :: QaB t
theorem QbG(a:List (List UInt8×JL)):(QaB a).length=a.length*2:=by
 induction a with
 |nil=>rfl
 |cons f t ih=>show (QaB t).length+1+1=(t.length+1)*2;omega
theorem Qdr(a:List (List UInt8×JL))(j:Nat)(b:j<a.length):(QaB a)[j*2]?=some (Jt (bs a[j].1))/\(QaB a)[j*2+1]?=some (Jt (bs a[j].2)):=by
 induction a generalizing j with
 |nil=>exact JN b (JH _)
 |cons f t ih=>
  cases j with
  |zero=>exact⟨rfl,rfl⟩
  |succ j=>
   have:=ih j (by simp at b;omega)
   rw[show (j+1)*2=j*2+1+1 by omega]
   exact this
theorem QgO(a b:List (List UInt8×JL)):QaB (a++b)=QaB a++QaB b:=by
 induction a with
 |nil=>rfl
 |cons f t ih=>show _ :: _ :: QaB (t++b)=_;rw[ih];rfl
theorem HoldsF.of_own{w:World}{base n:Nat}{e:JT}{v:Value}{a:List (List UInt8×JL)}(h:w.ownsRow base e 2 v n (QaB a)):HoldsF w v a:=by
 have f:a.length=n:=by have:=h.1;rw[QbG] at this;omega
 subst f;rcases h.2 with⟨rfl,h0⟩|⟨g,cap,cur,rfl,hb,hg,hle,hm,hs,ht⟩
 ·have:a = []:=List.eq_nil_of_length_eq_zero h0
  subst this;exact HoldsF.nil w none 0
 ·refine⟨_,cap,rfl,hle,fun _=>⟨g,0,rfl,(gsi hg).1,fun j hj=>?_⟩⟩
  have c:=h.cells (g:=g) rfl (j*2) _ (Qdr a j hj).1;have b:=h.cells (g:=g) rfl (j*2+1) _ (Qdr a j hj).2;have d:∀k,((Ja g 0):Addr).add k=(Ja g (0+k)):=fun k=>by unfold Addr.add;split<;>simp_all
  rw[d] at c b;exact⟨c,b⟩
def QfI(fs:List (List UInt8×JL))(n:JL):JM:=(fs.filter (fun f=>f.1==n)).map (·.2)
def Qde(fs:List (List UInt8×JL))(n:JL):Nat:=match QfI fs n with|[]=>6|[_]=>0|_=>22
def QbB(fs:List (List UInt8×JL))(n:JL):JL:=match QfI fs n with|[v]=>v|_=>[]
theorem Qn7(a:List (List UInt8×JL))(n:JL)(k:Nat)(h:k<a.length):QfI (a.take (k+1)) n=QfI (a.take k) n++(if a[k].1=n then [a[k].2] else []):=by
 unfold QfI;rw[qV h,List.filter_append,qY]
 congr 1
 by_cases e:a[k].1=n
 ·rw[JK e];simp[e]
 ·rw[JJ e];simp[e]
theorem Qp4(a:List (List UInt8×JL))(n:JL)(k:Nat):∃t,QfI a n=QfI (a.take k) n++t:=by
 refine⟨QfI (a.drop k) n,?_⟩;unfold QfI;rw[<-qY,<-List.filter_append,List.take_append_drop]
def QxL(fs:List (List UInt8×JL))(n:JL)(k:Nat)(x e:Value):Prop:=
 (QfI (fs.take k) n = []/\x = Jt ⟨#[]⟩/\e = Ji 6)\/∃v,QfI (fs.take k) n = [v]/\x = Jt (bs v)/\e = Ji 0
theorem QCs(a:List (List UInt8×JL))(n:JL)(k:Nat)(b:a.length<=k)(x e:Value)(h:QxL a n k x e):x = Jt (bs (QbB a n))/\e = Ji (Qde a n):=by
 have c:a.take k=a:=qX b;unfold QxL at h;rw[c] at h;unfold QbB Qde;rcases h with⟨h,hx,he⟩|⟨v,h,hx,he⟩
 ·rw[h];exact⟨hx,he⟩
 ·rw[h];exact⟨hx,he⟩
theorem QwG(a:List (List UInt8×JL))(n:JL)(k:Nat)(b:k<a.length)(v:JL)(h:QfI (a.take k) n = [v])(c:a[k].1=n):QbB a n = []/\Qde a n=22:=by
 obtain⟨t,ht⟩:=Qp4 a n (k+1);rw[Qn7 a n k b,h,JK c] at ht;unfold QbB Qde;rw[ht];exact⟨rfl,rfl⟩
theorem Qu3{x y a b:Value}(h:x=a)(c:y=b):Ending.returned (.tuple #[x,y])=.returned (.tuple #[a,b]):=by rw[h,c]
theorem Qll(v:Value)(d:List (List UInt8×JL))(n:JA)(w:World)(z:HoldsF w v d)(hlen:d.length<=1000000) :
  Calls prog 239 #[v,Jt n] w (JB (.tuple #[Jt (bs (QbB d n.data.toList)),Ji (Qde d n.data.toList)]) w):=by
 obtain⟨a,c,rfl,hc,hx⟩:=z;have l:=Z hx;clear hx;obtain⟨m,rfl⟩:∃m,n=bs m:=⟨n.data.toList,(Qb1 n).symm⟩;rw[Qai];go_enter func239,ntmps239;go_wp2_with fail;go_loopw [6,7,12] (fun x e i wr=>∃k:Nat,k<=d.length/\i = Ji k/\Jw w wr/\QxL d m k x e) (fun _ _ i _=>d.length-(intOf i).toNat)
 case atStart=>exact⟨0,by omega,rfl,qF _ _,.inl ⟨rfl,rfl,rfl⟩⟩
 case round=>
  obtain⟨k,hk,rfl,hb,hst⟩:=hrel
  by_cases g:k<d.length
  ·obtain⟨b,o,rfl,hbl,Qak⟩:=l.o (fun e=>by rw[e] at g;exact JN g (JH _))
   have r:=(hb.cell (p:=(Ja b (o+k*2))) hbl).trans (Qak k g).1;have A:=(hb.cell (p:=(Ja b (o+k*2+1))) hbl).trans (Qak k g).2;have f:=Qn7 d m k g;have h:=QAT d[k].1 m;clear Qak
   by_cases j:d[k].1=m
   ·rw[JK j] at f
    rw[qA j] at h;rcases hst with⟨h0,rfl,rfl⟩|⟨v,h1,rfl,rfl⟩
    ·have t:Hi (QfI (d.take (k+1)) m = [d[k].2]):=Z (by rw[f,h0];rfl)
     have B:Hi (d=d):=Z rfl;clear f h0 j l;obtain⟨X,hX⟩:∃X,X=bs d[k].1:=⟨_,rfl⟩;obtain⟨y,hy⟩:∃y,y=d[k].2:=⟨_,rfl⟩;rw[<-hX] at r h;rw[<-hy] at A t;clear hX hy;go_wp2_with fail;go_roundw
     case rel=>exact⟨k+1,by omega,by go_num,hb.trans (((qF _ _).alloc (qC _) _).mono hb.size),.inr ⟨y,t.o,rfl,rfl⟩⟩
     case measure=>simp[intOf];omega
    ·have s:=Z (QwG d m k g v h1 j)
     clear f h1 j l;obtain⟨X,hX⟩:∃X,X=bs d[k].1:=⟨_,rfl⟩;rw[<-hX] at r h;clear hX;go_wp2;go_ret2;exact⟨Qu3 (by rw[s.o.1];rfl) (by rw[s.o.2];rfl),hb.trans (((qF _ _).alloc (qC _) _).mono hb.size)⟩
   ·rw[JJ j,qT] at f
    rw[qB j] at h;have q:Hi (QxL d m (k+1) u6 u7):=Z (by unfold QxL at hst ⊢;rw[f];exact hst)
    clear f hst j l;obtain⟨X,hX⟩:∃X,X=bs d[k].1:=⟨_,rfl⟩;rw[<-hX] at r h;clear hX;go_wp2_with fail;go_roundw
    case rel=>exact⟨k+1,by omega,by go_num,hb.trans (((qF _ _).alloc (qC _) _).mono hb.size),q.o⟩
    case measure=>simp[intOf];omega
  ·have H:=Z (QCs d m k (by omega) _ _ hst)
   clear hst;go_wp2;go_ret2;exact⟨Qu3 H.out.1 H.out.2,hb⟩
theorem Qdj(n:Nat)(h:n<18446744073709551616):(Go.Lib.decDigits n).length<=20:=by
 rw[Go.Lib.decDigits_length];have a:=Go.Lib.numDigits_eq n;rcases Nat.eq_zero_or_pos n with h0|h0
 ·subst h0;rw[Go.Lib.nDigits_small (by decide)];decide
 ·obtain⟨h2,h3⟩:=a h0 h
  rw[<-h2];split<;>omega
theorem Qzc(n:Int)(b : -9223372036854775808<=n)(a:n<=9223372036854775807):(Go.Lib.itoa n).length<=21:=by
 unfold Go.Lib.itoa;split
 ·have:=Qdj n.natAbs (by omega);simp;omega
 ·have:=Qdj n.toNat (by omega);omega
theorem QpX(n:Int)(h:0<=n):Go.Lib.itoa n=Go.Lib.decDigits n.toNat:=by
 unfold Go.Lib.itoa;rw[JJ (by omega)]
theorem Qld:(prog.info? 403).map (fun i=>(i.zero,i.size,i.bytes))=some (some (.agg #[Jt ByteArray.empty,Jt ByteArray.empty]),2,32):=by kernel_rfl
theorem Qbu{B:Nat}{w wr w':World}{base:Nat}{e:JT}{size:Nat}{v:Value}{n:Nat}{xs:JV}(d:Below B w wr)(f:wr.grownBy w' v.ownBlock)(b:wr.ownsRow base e size v n xs)(c:B<=base)(a:B<=wr.heap.size):Below B w w':=
 d.grown f a fun k hk=>qD c (b.lt k hk).1
theorem Qb4(a b:Int)(w:World) :
  Calls prog 100 #[.agg #[Ji a,Ji b]] w (JB (Ji (QdK a b:Nat)) w):=by
 by_cases d:a<0
 ·have H:Hi (QdK a b=8):=Z (JK (.inl d))
  have j:decide (a<0)=true:=qA d;go_enter func100,ntmps100;go_wp2;go_ret;exact⟨by rw[H.out];rfl,(qF _ _).alloc (qC _) _⟩
 have j:decide (a<0)=false:=qB d
 by_cases c:b<a
 ·have H:Hi (QdK a b=8):=Z (JK (.inr (.inl c)))
  have g:decide (a>b)=true:=qA c;go_enter func100,ntmps100;go_wp2;go_ret;exact⟨by rw[H.out];rfl,(qF _ _).alloc (qC _) _⟩
 have g:decide (a>b)=false:=qB c
 by_cases f:9007199254740990<b
 ·have H:Hi (QdK a b=8):=Z (JK (.inr (.inr f)))
  have i:decide (b>9007199254740990)=true:=qA f;go_enter func100,ntmps100;go_wp2;go_ret;exact⟨by rw[H.out];rfl,(qF _ _).alloc (qC _) _⟩
 ·have H:Hi (QdK a b=0):=Z (JJ (fun h=>h.elim d (fun h=>h.elim c f)))
  have i:decide (b>9007199254740990)=false:=qB f;go_enter func100,ntmps100;go_wp2;go_ret;exact⟨by rw[H.out];rfl,(qF _ _).alloc (qC _) _⟩
theorem QAV(w:World)(x y:Value)(t:JT):(w.alloc (.cells #[x,y] t)).cell? (Ja w.heap.size 0)=some x/\(w.alloc (.cells #[x,y] t)).cell? (Ja w.heap.size 1)=some y:=by
 have a:=JI w (.cells #[x,y] t);constructor<;>(unfold World.cell?;rw[a];rfl)
theorem QeA(n:Int)(a:n<=9223372036854775807):(QeB n).length<=20:=by
 unfold QeB;split
 ·exact qL _
 ·exact Qdj _ (by omega)
theorem Qjh(a b:Int)(w:World)(h:EnvF w)(l : -9223372036854775808<=a)(t:a<=9223372036854775807)(g : -9223372036854775808<=b)(r:b<=9223372036854775807) :
  Calls prog 236 #[.agg #[Ji a,Ji b]] w (JB (Jt (bs (QfX a b))) w):=by
 have HA:=Z (fun w h=>Qdi a l t w h)
 have s:=Z (fun w h=>Qdi b g r w h)
 obtain⟨X,hX⟩:∃X,bs (QeB a)=X:=⟨_,rfl⟩;obtain⟨Y,hY⟩:∃Y,bs (QeB b)=Y:=⟨_,rfl⟩;have y:X.size<=20:=by rw[<-hX,Qaq];exact QeA a t
 have x:Y.size<=20:=by rw[<-hY,Qaq];exact QeA b r
 have v:Hi ((X++⟨#[45]⟩)++Y=bs (QfX a b)):=Z (by
  rw[<-hX,<-hY,show (⟨#[45]⟩:JA)=bs [45] from rfl,Qeh,Qeh];unfold QfX;simp)
 rw[hX] at HA;rw[hY] at s;have k:=fun w=>run_string_add_sum (P:=prog) w X ⟨#[45]⟩ (by show _+1<=_;omega)
 have q:=fun w=>run_string_add_sum (P:=prog) w (X++⟨#[45]⟩) Y (by rw[ByteArray.size_append];show _+1+_<=_;omega)
 have d:=QAV w (Ji a) (Ji b) 140;have c:Jw w (w.alloc (.cells #[Ji a,Ji b] 140)):=(qF _ _).alloc (qC _) _;have f:w.heap.size<(w.alloc (.cells #[Ji a,Ji b] 140)).heap.size:=by simp
 have n:=Z (h.below c);clear h hX hY;go_enter func236,ntmps236;go_wp2_with fail;generalize j:w.alloc (.cells #[Ji a,Ji b] 140)=W0 at d c f n ⊢;clear j;have A:∀p:BelowOf W0,Jx p.world w.heap.size 0 (Ji a):=fun p=>QaD p f d.1
 have z:∀p:BelowOf W0,Jx p.world w.heap.size 1 (Ji b):=fun p=>QaD p f d.2
 have g:=Z c;clear d c;refine Qae (by kernel_rfl) (by kernel_rfl) ?_
 repeat (go_big_quiet_step ((first
  |(go_at_call 262;exact QaA (HA.o _ (n.o.below (BelowOf.below _))))
  |(go_at_call 262;exact QaA (s.o _ (n.o.below (BelowOf.below _))))
  |fail)))
 refine wpQuiet_nil ?_;intro B i;have m:=QaQ i;clear i;go_wp2;go_ret;exact⟨by rw[<-v.o];rfl,Qaa g.o m⟩
theorem Qbj{B:Nat}{e:JT}{k:Nat}{v:Value}{n:Nat}{xs:JV}{w w':World}(h:w.ownsRow B e k v n xs)(a:Jw w w'):w'.ownsRow B e k v n xs:=by
 refine⟨h.1,?_⟩;rcases h.2 with h0|⟨g,cap,cur,e1,e2,e3,e4⟩
 ·exact .inl h0
 ·exact .inr ⟨g,cap,cur,e1,e2,(a.block g (gsi e3).1).trans e3,e4⟩
def QgD(ns:List Nat):JV:=ns.map fun (n:Nat)=>Ji (n:Int)
theorem Qn0(a:List Nat):(QgD a).length=a.length:=by simp[QgD]
theorem Qn1(a b:List Nat):QgD (a++b)=QgD a++QgD b:=by simp[QgD]
def HoldsI(B:Nat)(w:World)(v:Value)(ns:List Nat):Prop:=
 ∃b c,v = Jl b ns.length c/\B<=b/\b<w.heap.size/\ns.length<=c/\∀j (hj:j<ns.length),w.cell? (Ja b j)=some (Ji (ns[j]:Int))
theorem HoldsI.of_own{w:World}{base n:Nat}{e:JT}{v:Value}{a:List Nat}(h:w.ownsRow base e 1 v n (QgD a))(hne:a≠[]):HoldsI base w v a:=by
 have c:a.length=n:=by have:=h.1;rw[Qn0,Nat.mul_one] at this;exact this
 subst c;rcases h.2 with⟨rfl,h0⟩|⟨g,cap,cur,rfl,hb,hg,hle,hm,hs,ht⟩
 ·exact JN (List.eq_nil_of_length_eq_zero h0) hne
 ·refine⟨g,cap,rfl,hb,(gsi hg).1,hle,fun j hj=>?_⟩
  have:=h.cells (g:=g) rfl j (Ji (a[j]:Int)) (by unfold QgD;rw[List.getElem?_map,qU hj];rfl)
  have b:((Ja g 0):Addr).add j=(Ja g j):=by unfold Addr.add;split<;>simp_all
  rwa[b] at this
theorem Qrr:(prog.info? 3).map (fun i=>(i.zero,i.size,i.bytes))=some (some (Ji 0),1,8):=by kernel_rfl
theorem Qt8{d:Array Oper}{b:List Oper}{o:Oper}{a:Act}{Q:Exit->Act->World->Prop}(w0:World)(i:o.guard=none)(s x:Operand)
  (l:o.op=.call { callee:=.builtin .append,args:=#[s,x],argTypes:=#[284,284] })
  (base:Nat) (v:Value) (c:List Nat) (r:a.eval s=v) (j:w0.ownsRow base 3 1 v c.length (QgD c))
  (m:Nat) (hx:a.eval x = Jl w0.heap.size 1 1) (t:c.length<2147483648) (q:base<=w0.heap.size)
  (h:∀f w',w'.ownsRow base 3 1 f (c++[m]).length (QgD (c++[m]))->w0.grownBy w' v.ownBlock->f≠.slice none 0 0->wpList prog d Q b (a.put o.dst f) w') :
  wpList prog d Q (o :: b) a (w0.alloc (.cells #[Ji (m:Int)] 3)):=by
 obtain⟨i0,hi,hz0,hz1,hz2⟩:=info_parts Qrr;refine wpList_append_own _ i s x 284 l base 3 i0 _ 1 8 underlying284 hi hz0 hz1 hz2 rfl (by decide) v c.length (QgD c) r (j.alloc _) (Ja w0.heap.size 0) 1 1 [Ji (m:Int)] hx rfl (cell_one_new w0 _ _) (by simp[Value.oneCell']) (by unfold maxLen;omega) (by omega) (by simp;omega) ?_
 intro f w' n g p;refine h f w' ?_ ?_ (fun e=>by have:=(p.1 e).2;omega)
 ·rw[qG,Qn1];simpa[QgD] using n
 ·exact⟨g.os,g.tape,g.output,qD (by simp) g.size,fun k hk hne=>(g.block k (by simp;omega) hne).trans (J5 w0 _ hk)⟩
def Qe6:JM->Nat
 |[]=>0
 |l :: t=>if Qc2 l≠0 then Qc2 l else Qe6 t
theorem Qk4(xs:JM):∀k,(∀j (a:j<xs.length),j<k->Qc2 xs[j]=0)->Qe6 xs=Qe6 (xs.drop k):=by
 induction xs with
 |nil=>intro k _;simp
 |cons x t ih=>
  intro k h;cases k with
  |zero=>rfl
  |succ k=>
   have b:=h 0 (by simp) (by omega)
   show (if Qc2 x≠0 then Qc2 x else Qe6 t)=Qe6 (t.drop k)
   rw[JJ (fun hh=>hh b)]
   exact ih k (fun j a hk=>h (j+1) (by simp;omega) (by omega))
theorem QyM(xs:JM)(k:Nat)(a:k<xs.length)(h:∀j (c:j<xs.length),j<k->Qc2 xs[j]=0)(b:Qc2 xs[k]≠0):Qe6 xs=Qc2 xs[k]:=by
 rw[Qk4 xs k h,List.drop_eq_getElem_cons a];exact JK b
theorem QvT(xs:JM)(h:∀j (a:j<xs.length),Qc2 xs[j]=0):Qe6 xs=0:=by
 rw[Qk4 xs xs.length (fun j a _=>h j a),List.drop_length];rfl
def QAy(xs:JM)(w:World)(e:Ending)(w':World):Prop:=∃v,e=.returned (.tuple #[v,Ji (Qe6 xs:Nat)])/\(Qe6 xs=0->HoldsI w.heap.size w' v (xs.map QcK))/\Jw w w'
theorem QfO(v:Value)(xs:JM)(w:World)(N:HoldsS w v xs)(hne:xs≠[])(hlen:xs.length<=1000)(hx:∀x∈xs,x.length<=1000000)(y:EnvF w) :
  Calls prog 266 #[v] w (QAy xs w):=by
 obtain⟨a,c,rfl,hc,hh⟩:=N;obtain⟨b,o,rfl,hbl,Qak⟩:=hh hne;have M:=Z Qak;have O:=Z y;have P:=Z hx;clear hh Qak y hx;go_enter func266,ntmps266;go_wp2_with fail;go_loopw [4,11] (fun u i wr=>∃k:Nat,k<=xs.length/\i = Ji k/\wr.ownsRow w.heap.size 3 1 u ((xs.take k).map QcK).length (QgD ((xs.take k).map QcK))/\Jw w wr/\Hi (∀j (q:j<xs.length),j<k->Qc2 xs[j]=0)) (fun _ i _=>xs.length-(intOf i).toNat)
 case atStart=>exact⟨0,by omega,rfl,by rw[List.take_zero];exact JZ _ _ _ _,qF _ _,Z (fun j q h=>JN h (JH _))⟩
 case round=>
  obtain⟨k,hk,rfl,QE2,hb,HK⟩:=hrel
  by_cases f:k<xs.length
  ·have J:=(hb.cell (p:=(Ja b (o+k))) hbl).trans (M.o k f)
   obtain⟨S,hS⟩:∃S,bs xs[k]=S:=⟨_,rfl⟩;have m:S.data.toList=xs[k]:=by rw[<-hS,Qai]
   have D:S.size<=1000000:=by rw[<-hS,Qaq];exact P.o _ (JG f)
   rw[hS] at J;have z:=Z (fun w y=>QgM S w D y)
   rw[m] at z;have B:((xs.take k).map QcK).length<2147483648:=by rw[qQ,qW];omega
   have L:decide ((k:Int)<(xs.length:Int))=true:=qA (by omega)
   have r:=Z (O.o.below hb)
   by_cases n:Qc2 xs[k]=0
   ·rw[n] at z
    have H:Hi (∀j (q:j<xs.length),j<k+1->Qc2 xs[j]=0):=Z (fun j q h=>by
     by_cases e:j=k
     ·subst e;exact n
     ·exact HK.o j q (by omega))
    have E:Hi ((xs.take (k+1)).map QcK=(xs.take k).map QcK++[QcK xs[k]]):=Z (by rw[qV f,qY];rfl)
    clear n hS m HK;go_wp2_with fail;refine (z.o _ r.o).mono ?_;rintro e A ⟨rfl,g⟩;have s:A.ownsRow w.heap.size 3 1 _ ((xs.take k).map QcK).length (QgD ((xs.take k).map QcK)):=Qbj QE2 g;have d:=Qaa hb g;clear QE2 J;go_wp2_with (at_builtin;go_loud (refine Qt8 A (by rfl) _ _ (by rfl) w.heap.size _ ((xs.take k).map QcK) (by rfl) s (QcK xs[k]) (by rfl) B d.size ?_);intro R U C G K)
    go_roundw
    case rel=>exact⟨k+1,by omega,by go_num,by rw[E.o];exact C,Qbu d G s (qC _) d.size,H⟩
    case measure=>simp[intOf];omega
   ·have t:Hi (Qe6 xs=Qc2 xs[k]):=Z (QyM xs k f HK.o n)
    have T:((Qc2 xs[k]:Int) != 0)=true:=by rw[bne_iff_ne];omega
    have I:Hi (Qc2 xs[k]≠0):=Z n;clear n hS m HK;go_wp2_with fail;refine (z.o _ r.o).mono ?_;rintro e A ⟨rfl,g⟩;have d:=Qaa hb g;clear J QE2;go_wp2;go_ret2;exact⟨_,by rw[t.o];rfl,fun h=>JN (t.o ▸ h) I.out,d⟩
  ·have l:xs.take k=xs:=qX (by omega)
   have t:Hi (Qe6 xs=0):=Z (QvT xs (fun j q=>HK.o j q (by omega)))
   rw[l] at QE2;have L:decide ((k:Int)<(xs.length:Int))=false:=qB (by omega)
   clear l HK;go_wp2;go_ret2;exact⟨_,by rw[t.o];rfl,fun _=>HoldsI.of_own QE2 (by simpa using hne),hb⟩
theorem QbA(w:World)(b:Nat)(t:JT)(x y:Value)(h:w.heap[b]?=some (.cells #[x,y] t (0,0))):(loadVar 140 (Ja b 0)).run prog w=.ok (.agg #[x,y]) w:=
 run_loadVar_row w b t 140 #[x,y] (0,0) _ h underlying140 rfl (by kernel_rfl)
theorem QqB(s:JA)(c:UInt8)(w:World)(f:s.size<=1000000)(a:EnvF w) :
  Calls prog 265 #[Jt s,Jt ⟨#[c]⟩] w (JB (.tuple #[Jt (bs (if QiE c s.data.toList=true then QfD c s.data.toList else s.data.toList)),Jt (bs (if QiE c s.data.toList=true then Qbp c s.data.toList else [])),.bool (QiE c s.data.toList)]) w):=by
 obtain⟨m,hm⟩:=a.m;refine (Tryz.strings_Cut s ⟨#[c]⟩ m w (by omega) hm).mono ?_
 rintro e w' ⟨rfl,n,rfl⟩;refine⟨?_,(fun n=>by induction n with|zero=>exact qF _ _|succ n ih=>exact ih.drew:∀n,Jw w (w.drewN n)) n⟩
 have b:=QCI c s.data.toList;have d:Go.Lib.cut s.data.toList (ByteArray.mk #[c]).data.toList=Go.Lib.cut s.data.toList [c]:=rfl;rw[d,b];cases QiE c s.data.toList<;>rfl
theorem QrT(s p:JA)(w:World) :
  Calls prog 198 #[Jt s,Jt p] w (JS (.tuple #[Jt (bs (Lib.trimPrefix s.data.toList p.data.toList)),.bool (p.data.toList.isPrefixOf s.data.toList)]) w):=Tryz.strings_CutPrefix s p w
theorem Qrd(l:JL):QcK l<=9007199254740991:=by
 unfold QcK;split
 ·rename_i h
  unfold Qc2 at h;split at h
  ·exact JN h (by decide)
  ·split at h
   ·exact JN h (by decide)
   ·omega
 ·exact qL _
theorem Qm7(a b:JL):Qe6 [a,b]=Qsf a b:=by
 show (if Qc2 a≠0 then Qc2 a else if Qc2 b≠0 then Qc2 b else 0)=_
 unfold Qsf;split
 ·rfl
 ·split<;>omega
theorem Qt2(l:JL):Qkf l=(Qfn.isPrefixOf l&&QiE 45 (if Qfn.isPrefixOf l=true then l.drop 6 else l)):=by
 unfold Qkf;cases h:Qfn.isPrefixOf l<;>simp
theorem Qnu(s:JA)(w:World)(hs:s.size<=1000000)(V:EnvF w) :
  Calls prog 329 #[Jt s] w (JB (.tuple #[.agg #[Ji (Qc9 s.data.toList),Ji (Qc8 s.data.toList)],Ji (QbW s.data.toList:Nat)]) w):=by
 obtain⟨L,hL⟩:∃L,s.data.toList=L:=⟨_,rfl⟩;have qh:L.length<=1000000:=by rw[<-hL,Qab];exact hs
 have A:=Z (fun w=>QrT s ⟨#[98,121,116,101,115,61]⟩ w)
 rw[hL] at A;rw[hL];obtain⟨R,hR⟩:∃R,bs (Lib.trimPrefix L (ByteArray.mk #[98,121,116,101,115,61]).data.toList)=R:=⟨_,rfl⟩;have f:R.data.toList=if Qfn.isPrefixOf L=true then L.drop 6 else L:=by rw[<-hR,Qai];rfl
 have qf:R.size<=1000000:=by rw[<-Qab,f];split<;>(try rw[JC])<;>omega
 rw[hR,show (ByteArray.mk #[98,121,116,101,115,61]).data.toList=Qfn from rfl] at A;have j:=Z (fun w V=>QqB R 45 w qf V)
 have I:=Z (V.below ((qF _ _).alloc (qC _) (.cells #[Ji 0,Ji 0] 140)));have d:=Qt2 L;rw[<-f] at d;clear V hR;cases H:Qfn.isPrefixOf L with
 |false=>
  rw[H] at A d;have HA:Hi (QbW L=4/\Qc9 L=0/\Qc8 L=0):=Z (by
   have:QbW L=4:=by unfold QbW;rw[d];rfl
   unfold Qc9 Qc8;rw[this];exact⟨rfl,rfl,rfl⟩)
  generalize bs (if QiE 45 R.data.toList=true then QfD 45 R.data.toList else R.data.toList)=X at j
  generalize bs (if QiE 45 R.data.toList=true then Qbp 45 R.data.toList else [])=Y at j
  generalize QiE 45 R.data.toList=B at j;clear d H f;go_enter func329,ntmps329;go_wp2_with fail;refine (A.o _).mono ?_;rintro e w' ⟨rfl,rfl⟩;go_wp2_with fail;refine (j.o _ I.o).mono ?_;rintro e l ⟨rfl,a⟩;obtain⟨k0,k1,f0,f1⟩:=Qcx (Qbb a);go_wp2_with fail;refine QbU (b:=w.heap.size) (x:=Ji 0) (y:=Ji 0) rfl (QbA _ _ _ _ _ (Qbv (Qbb a) _ _)) rfl rfl rfl ?_;refine⟨?_,QaY (((qF _ _).alloc (qC _) _).trans (a.mono (by simp))) _ (qC _) _ _⟩
  rw[HA.o.1,HA.o.2.1,HA.o.2.2];rfl
 |true=>
  rw[H] at A d;rw[H,JK rfl] at f;rw[f] at j;rw[f] at d;cases W:QiE 45 (L.drop 6) with
  |false=>
   rw[W] at j d;have HA:Hi (QbW L=4/\Qc9 L=0/\Qc8 L=0):=Z (by
    have:QbW L=4:=by unfold QbW;rw[d];rfl
    unfold Qc9 Qc8;rw[this];exact⟨rfl,rfl,rfl⟩)
   rw[JJ (by decide),JJ (by decide)] at j
   generalize bs (L.drop 6)=X at j;generalize bs []=Y at j;clear d H f W;go_enter func329,ntmps329;go_wp2_with fail;refine (A.o _).mono ?_;rintro e w' ⟨rfl,rfl⟩;go_wp2_with fail;refine (j.o _ I.o).mono ?_;rintro e l ⟨rfl,a⟩;obtain⟨k0,k1,f0,f1⟩:=Qcx (Qbb a);go_wp2_with fail;refine QbU (b:=w.heap.size) (x:=Ji 0) (y:=Ji 0) rfl (QbA _ _ _ _ _ (Qbv (Qbb a) _ _)) rfl rfl rfl ?_;refine⟨?_,QaY (((qF _ _).alloc (qC _) _).trans (a.mono (by simp))) _ (qC _) _ _⟩
   rw[HA.o.1,HA.o.2.1,HA.o.2.2];rfl
  |true=>
   rw[W] at j d;rw[JK rfl,JK rfl] at j;obtain⟨F,hF⟩:∃F,QfD 45 (L.drop 6)=F:=⟨_,rfl⟩;obtain⟨T,hT⟩:∃T,Qbp 45 (L.drop 6)=T:=⟨_,rfl⟩;have qk:F.length<=1000000:=by rw[<-hF];have:=QoZ 45 (L.drop 6);rw[JC] at this;omega
   have qi:T.length<=1000000:=by rw[<-hT];unfold Qbp;rw[JC,JC];omega
   have HA:Hi (QbW L=if Qsf F T≠0 then Qsf F T else QdK (QcK F:Nat) (QcK T:Nat)):=Z (by
    unfold QbW;rw[d];rw[JJ (by decide)]
    unfold Qh8 Qh7;rw[hF,hT])
   have p:Hi (Qh8 L=QcK F/\Qh7 L=QcK T):=Z (by unfold Qh8 Qh7;rw[hF,hT];exact⟨rfl,rfl⟩)
   rw[hF,hT] at j;have U:=QfO (xs:=[F,T]) (hne:=by simp) (hlen:=by simp) (hx:=by intro x hx;simp at hx;rcases hx with rfl|rfl<;>assumption)
   have HN:=Z U;clear d H f W hF hT U
   by_cases E:Qsf F T=0
   ·have n:Hi (Qe6 [F,T]=0/\QbW L=QdK (QcK F:Nat) (QcK T:Nat)):=Z ⟨(Qm7 F T).trans E,by rw[HA.o,JJ (fun h=>h E)]⟩
    have HF:Hi (∀b,QcK b<=9007199254740991):=Z Qrd;obtain⟨P,hP⟩:∃P,QcK F=P:=⟨_,rfl⟩;obtain⟨Q,hQ⟩:∃Q,QcK T=Q:=⟨_,rfl⟩;have qd:=HF.o F;have qe:=HF.o T;rw[hP] at n p qd;rw[hQ] at n p qe;have HI:Hi ([F,T].map QcK = [P,Q]):=Z (by rw[<-hP,<-hQ];rfl)
    have qb:=Z (fun w=>Qb4 (P:Int) (Q:Int) w)
    clear E HA HF hP hQ;go_enter func329,ntmps329;go_wp2_with fail;refine (A.o _).mono ?_;rintro e w' ⟨rfl,rfl⟩;go_wp2_with fail;refine (j.o _ I.o).mono ?_;rintro e l ⟨rfl,a⟩;have q:=Z a;have qa:w.heap.size<l.heap.size:=by have:=a.size;simp at this;omega
    clear a;go_wp2_with fail;have O:HoldsS (l.alloc (.cells #[Jt (bs F),Jt (bs T)] 9)) (Jl l.heap.size 2 2) [F,T]:=HoldsS.of_block (JI _ _) rfl rfl;have i:Jw l (l.alloc (.cells #[Jt (bs F),Jt (bs T)] 9)):=(qF _ _).alloc (qC _) _;refine (HN.o _ _ O ((I.o.below q.out).below i)).mono ?_;rintro e m ⟨v,rfl,hI,r⟩;rw[n.o.1];have J:=hI n.o.1;rw[HI.o] at J;obtain⟨g,c,hv,-,hg,-,Qak⟩:=J;have c0:=Qak 0 (by simp)
    have c1:=Qak 1 (by simp)
    have qc:v = Jl g 2 c:=hv;clear Qak hv hI;subst qc;have k:Below (w.alloc (.cells #[Ji 0,Ji 0] 140)).heap.size (w.alloc (.cells #[Ji 0,Ji 0] 140)) m:=Qaa q.out (Qaa i r);clear r i O;have qg:=Z k;have qj:w.heap.size<m.heap.size:=by have:=k.size;simp at this;omega
    clear k;change m.cell? (Ja g 0)=some (Ji (P:Int)) at c0;change m.cell? (Ja g 1)=some (Ji (Q:Int)) at c1;go_wp2_with fail;go_region
    all_goals go_wp2_with fail
    have K:Jw m (m.alloc (.cells #[Ji (P:Int),Ji (Q:Int)] 140)).drew:=((qF _ _).alloc (qC _) _).drew;have S:(m.alloc (.cells #[Ji (P:Int),Ji (Q:Int)] 140)).drew.heap[m.heap.size]?=some (.cells #[Ji (P:Int),Ji (Q:Int)] 140 (0,0)):=JI m _;have M:m.heap.size<(m.alloc (.cells #[Ji (P:Int),Ji (Q:Int)] 140)).drew.heap.size:=by simp
    refine (qb.o _).mono ?_;rintro e w3 ⟨rfl,G⟩;obtain⟨j0,j1,-,-⟩:=Qcx ((G.block _ M).trans S);have C:Below (w.alloc (.cells #[Ji 0,Ji 0] 140)).heap.size (w.alloc (.cells #[Ji 0,Ji 0] 140)) w3:=Qaa qg.o (Qaa K G);obtain⟨k0,k1,f0,f1⟩:=Qcx (Qbb C);clear G K S M c0 c1;have z:=Z C;clear C
    by_cases N:QdK (P:Int) (Q:Int)=0
    ·have D:Hi (QbW L=0/\Qc9 L=(P:Int)/\Qc8 L=(Q:Int)):=Z (by
      have t:QbW L=0:=by rw[n.o.2,N]
      refine⟨t,?_,?_⟩
      ·unfold Qc9;rw[JK t,p.o.1]
      ·unfold Qc8;rw[JK t,p.o.2])
     rw[N];clear N;go_wp2_with fail;refine QbU (b:=w.heap.size) (x:=Ji (P:Int)) (y:=Ji (Q:Int)) rfl (QbA _ _ _ _ _ (Qbv (Qbb z.o) _ _)) rfl rfl rfl ?_;refine⟨?_,QaY (((qF _ _).alloc (qC _) _).trans (z.o.mono (by simp))) _ (qC _) _ _⟩
     rw[D.o.1,D.o.2.1,D.o.2.2];rfl
    ·have h8:=(Qji _ _ N).1
     have D:Hi (QbW L=8/\Qc9 L=0/\Qc8 L=0):=Z (by
      have t:QbW L=8:=by rw[n.o.2,h8]
      refine⟨t,?_,?_⟩
      ·unfold Qc9;rw[t,JJ (by decide)]
      ·unfold Qc8;rw[t,JJ (by decide)])
     rw[h8];clear N h8;go_wp2_with fail;refine QbU (b:=w.heap.size) (x:=Ji 0) (y:=Ji 0) rfl (QbA _ _ _ _ _ (Qbv (Qbb z.o) _ _)) rfl rfl rfl ?_;refine⟨?_,QaY (((qF _ _).alloc (qC _) _).trans (z.o.mono (by simp))) _ (qC _) _ _⟩
     rw[D.o.1,D.o.2.1,D.o.2.2];rfl
   ·have n:Hi (Qe6 [F,T]=Qsf F T/\QbW L=Qsf F T/\Qc9 L=0/\Qc8 L=0):=Z (by
     have t:QbW L=Qsf F T:=by rw[HA.o,JK E]
     refine⟨Qm7 F T,t,?_,?_⟩
     ·unfold Qc9;rw[t,JJ E]
     ·unfold Qc8;rw[t,JJ E])
    have tz:((Qsf F T:Int) != 0)=true:=by rw[bne_iff_ne];omega
    generalize Qsf F T=Zq at n tz;clear E HA p;go_enter func329,ntmps329;go_wp2_with fail;refine (A.o _).mono ?_;rintro e w' ⟨rfl,rfl⟩;go_wp2_with fail;refine (j.o _ I.o).mono ?_;rintro e l ⟨rfl,a⟩;have q:=Z a;have qa:w.heap.size<l.heap.size:=by have:=a.size;simp at this;omega
    clear a;go_wp2_with fail;have O:HoldsS (l.alloc (.cells #[Jt (bs F),Jt (bs T)] 9)) (Jl l.heap.size 2 2) [F,T]:=HoldsS.of_block (JI _ _) rfl rfl;have i:Jw l (l.alloc (.cells #[Jt (bs F),Jt (bs T)] 9)):=(qF _ _).alloc (qC _) _;refine (HN.o _ _ O ((I.o.below q.out).below i)).mono ?_;rintro e m ⟨v,rfl,-,r⟩;rw[n.o.1];have k:Below (w.alloc (.cells #[Ji 0,Ji 0] 140)).heap.size (w.alloc (.cells #[Ji 0,Ji 0] 140)) m:=Qaa q.out (Qaa i r);obtain⟨k0,k1,f0,f1⟩:=Qcx (Qbb k);clear r i O;go_wp2_with fail;refine QbU (b:=w.heap.size) (x:=Ji 0) (y:=Ji 0) rfl (QbA _ _ _ _ _ (Qbv (Qbb k) _ _)) rfl rfl rfl ?_;refine⟨?_,QaY (((qF _ _).alloc (qC _) _).trans (k.mono (by simp))) _ (qC _) _ _⟩
    rw[n.o.2.1,n.o.2.2.1,n.o.2.2.2];rfl
theorem QiS(a b:Int)(c:a<=9223372036854775807)(d:b<=9223372036854775807):(QfX a b).length<=41:=by
 unfold QfX;have f:=QeA a c;have g:=QeA b d;rw[qG,qH];omega
theorem QCU{w a:World}{x y:Value}{t:JT}(b:Below (w.alloc (.cells #[x,y] t)).heap.size (w.alloc (.cells #[x,y] t)) a):a.cell? (Ja w.heap.size 0)=some x/\a.cell? (Ja w.heap.size 1)=some y:=
 ⟨(Qcx (Qbb b)).c0,(Qcx (Qbb b)).c1⟩
theorem QbD(w:World)(x y:Value)(t:JT):Jw w (w.alloc (.cells #[x,y] t)):=(qF _ _).alloc (qC _) _
theorem QD4(a b:Int)(h:QdK a b=0)(X:JA)(c:bs (QfX a b)=X):(⟨#[98,121,116,101,115,61]⟩:JA)++X=bs (QhF a b):=by
 unfold QhF;rw[JK h,<-c];exact Qeh Qfn (QfX a b)
theorem QsF(a b:Int)(w:World)(f:EnvF w)(i : -9223372036854775808<=a)(q:a<=9223372036854775807)(h : -9223372036854775808<=b)(r:b<=9223372036854775807) :
  Calls prog 210 #[.agg #[Ji a,Ji b]] w (JB (.tuple #[Jt (bs (QhF a b)),Ji (QdK a b:Nat)]) w):=by
 have g:=Z (fun w=>Qb4 a b w)
 have n:=Z (fun w f=>Qjh a b w f i q h r)
 have v:=Z (f.below (QbD w (Ji a) (Ji b) 140));clear f
 by_cases d:QdK a b=0
 ·obtain⟨X,hX⟩:∃X,bs (QfX a b)=X:=⟨_,rfl⟩
  have t:X.size<=41:=by rw[<-hX,Qaq];exact QiS a b q r
  have m:=Z (QD4 a b d X hX);rw[hX] at n;have p:=fun w=>run_string_add_sum (P:=prog) w ⟨#[98,121,116,101,115,61]⟩ X (by show 6+_<=_;omega)
  rw[d];rw[d] at g;clear d hX;go_enter func210,ntmps210;go_wp2_with fail;refine (g.o _).mono ?_;rintro e s ⟨rfl,c⟩;obtain⟨c0,c1⟩:=QCU c;have l:=Z (v.o.below c);have j:=Qaa (QbD w _ _ _) c;clear c;go_wp2_with fail;refine (n.o _ l.o).mono ?_;rintro e x ⟨rfl,k⟩;go_wp2;go_ret2;exact⟨by rw[<-m.o];rfl,Qaa j k⟩
 ·obtain⟨h8,-⟩:=Qji _ _ d
  have m:Hi (QhF a b = []):=Z (by unfold QhF;rw[JJ d])
  rw[h8];rw[h8] at g;clear d h8 n;go_enter func210,ntmps210;go_wp2_with fail;refine (g.o _).mono ?_;rintro e s ⟨rfl,c⟩;go_wp2;go_ret2;exact⟨by rw[m.o];rfl,Qaa (QbD w _ _ _) c⟩
def Qd7(x:Nat):Bool:=decide (33<=x)&&decide (x<=126)
def QfF(l:JL):Bool:=[47].isPrefixOf l&&decide (l.length<=64)&&l.all (fun c=>Qd7 c.toNat)
def QfH(x:Nat):Bool:=Qkp x||Qfg x||x==45||x==46
def Qfb(l:JL):Bool:=!l.isEmpty&&decide (l.length<=32)&&l.all (fun c=>QfH c.toNat)
theorem Qyz(x:Nat)(h:128<=x):Qd7 x=false:=by unfold Qd7;rw[qB (show ¬x<=126 by omega),Bool.and_false]
theorem Qzn(x:Nat)(h:128<=x):QfH x=false:=by
 unfold QfH Qkp Qfg;rw[qB (show ¬x<=122 by omega),qB (show ¬x<=57 by omega),beq_eq_false_iff_ne.2 (show x≠45 by omega),beq_eq_false_iff_ne.2 (show x≠46 by omega),Bool.and_false,Bool.and_false];rfl
theorem QEv(x:Nat)(w:World):Calls prog 153 #[.int .i32 (x:Int)] w (JS (.bool (!Qd7 x)) w):=by
 by_cases d:x<=32
 ·have H:Hi (Qd7 x=false):=Z (by unfold Qd7;rw[qB (by omega)];rfl)
  have b:decide ((x:Int)<=32)=true:=qA (by omega)
  go_enter func153,ntmps153;go_wp2;go_ret;exact⟨by rw[H.out];rfl,rfl⟩
 have b:decide ((x:Int)<=32)=false:=qB (by omega)
 by_cases c:126<x
 ·have H:Hi (Qd7 x=false):=Z (by unfold Qd7;rw[qB (show ¬x<=126 by omega),Bool.and_false])
  have a:decide ((x:Int)>126)=true:=qA (by omega)
  go_enter func153,ntmps153;go_wp2;go_ret;exact⟨by rw[H.out];rfl,rfl⟩
 ·have H:Hi (Qd7 x=true):=Z (by unfold Qd7;rw[qA (show x<=126 by omega),qA (show 33<=x by omega)];rfl)
  have a:decide ((x:Int)>126)=false:=qB (by omega)
  go_enter func153,ntmps153;go_wp2;go_ret;exact⟨by rw[H.out];rfl,rfl⟩
theorem Qzm(x:Nat)(a b c d e f:Bool)(j:decide (97<=x)=a)(h:decide (x<=122)=b)(l:decide (48<=x)=c)(i:decide (x<=57)=d)(k:(x==45)=e)(g:(x==46)=f):QfH x=((a&&b)||(c&&d)||e||f):=by
 unfold QfH Qkp Qfg;rw[j,h,l,i,k,g]
theorem QrL(x k:Nat)(a:Bool)(h:decide (k<=x)=a):decide ((x:Int)>=(k:Int))=a:=by
 rw[<-h];exact decide_eq_decide.2 (by omega)
theorem Qou(x k:Nat)(a:Bool)(h:decide (x<=k)=a):decide ((x:Int)<=(k:Int))=a:=by
 rw[<-h];exact decide_eq_decide.2 (by omega)
theorem Qr0(x k:Nat)(a:Bool)(h:(x==k)=a):((x:Int)==(k:Int))=a:=by
 rw[<-h,qN,beq_iff_eq,beq_iff_eq];omega
theorem QEL(x:Nat)(w:World):Calls prog 155 #[.int .i32 (x:Int)] w (JS (.bool (!QfH x)) w):=by
 cases d:decide (97<=x)<;>cases b:decide (x<=122)<;>cases g:decide (48<=x)<;>cases c:decide (x<=57)<;>cases f:(x==45)<;>cases a:(x==46)
 all_goals
  have H:=Z (Qzm x _ _ _ _ _ _ d b g c f a);have j:decide ((x:Int)>=97)=_:=QrL x 97 _ d;have h:decide ((x:Int)<=122)=_:=Qou x 122 _ b;have i:decide ((x:Int)>=48)=_:=QrL x 48 _ g;have k:decide ((x:Int)<=57)=_:=Qou x 57 _ c;have l:((x:Int)==45)=_:=Qr0 x 45 _ f;have m:((x:Int)==46)=_:=Qr0 x 46 _ a;clear d b g c f a;go_enter func155,ntmps155;go_wp2;go_ret;exact⟨by rw[H.out];rfl,rfl⟩
theorem Qzi(s:JA)(w:World) :
  Calls prog 154 #[Jt s,.func (.func 153) #[] #[]] w (JB (Ji (Lib.idxFunc (fun x=>!Qd7 x) true s)) w):=
 Tryz.strings_IndexFunc_grows 153 #[] (enters_of func153 (by kernel_rfl) rfl) (fun x=>!Qd7 x) s w
  (fun W x _ _=>(QEv x W).mono fun e w' ⟨he,hw⟩=>⟨he,hw ▸ qF _ _⟩)
theorem Qzj(s:JA)(w:World) :
  Calls prog 154 #[Jt s,.func (.func 155) #[] #[]] w (JB (Ji (Lib.idxFunc (fun x=>!QfH x) true s)) w):=
 Tryz.strings_IndexFunc_grows 155 #[] (enters_of func155 (by kernel_rfl) rfl) (fun x=>!QfH x) s w
  (fun W x _ _=>(QEL x W).mono fun e w' ⟨he,hw⟩=>⟨he,hw ▸ qF _ _⟩)
theorem QqG(s:JA):decide (Lib.idxFunc (fun x=>!Qd7 x) true s<0)=s.data.toList.all (fun c=>Qd7 c.toNat):=by
 rw[QmB _ (fun x h=>by rw[Qyz x h];rfl)];simp
theorem QqH(s:JA):decide (Lib.idxFunc (fun x=>!QfH x) true s<0)=s.data.toList.all (fun c=>QfH c.toNat):=by
 rw[QmB _ (fun x h=>by rw[Qzn x h];rfl)];simp
theorem QtT(s:JA)(w:World):Calls prog 75 #[Jt s,Jt ⟨#[47]⟩] w (JS (.bool ([47].isPrefixOf s.data.toList)) w):=Tryz.strings_HasPrefix s ⟨#[47]⟩ w
theorem Qkd(s:JA)(w:World) :
  Calls prog 98 #[Jt s] w (JB (.bool (QfF s.data.toList)) w):=by
 have b:=Z (fun w=>QtT s w)
 have a:Hi (QfF s.data.toList=([47].isPrefixOf s.data.toList&&decide (s.size<=64)&&s.data.toList.all (fun c=>Qd7 c.toNat))):=Z (by unfold QfF;rw[Qab])
 have h:=Z (fun w=>Qzi s w)
 have HA:=Z (QqG s);generalize s.data.toList.all (fun c=>Qd7 c.toNat)=A at HA a
 generalize Lib.idxFunc (fun x=>!Qd7 x) true s=i at HA h
 cases d : [47].isPrefixOf s.data.toList with
 |false=>
  rw[d] at b a;clear d;go_enter func98,ntmps98;go_wp2_with fail;refine (b.o _).mono ?_;rintro e w' ⟨rfl,rfl⟩;go_wp2;go_ret;exact⟨by rw[a.o];rfl,qF _ _⟩
 |true=>
  rw[d] at b a;clear d
  by_cases g:s.size<=64
  ·rw[qA g] at a
   have j:decide ((s.size:Int)<=64)=true:=qA (by omega)
   go_enter func98,ntmps98;go_wp2_with fail;refine (b.o _).mono ?_;rintro e w' ⟨rfl,rfl⟩;go_wp2_with fail;refine (h.o _).mono ?_;rintro e k ⟨rfl,f⟩;go_wp2;go_ret;exact⟨by rw[a.o,<-HA.o];rfl,f⟩
  ·rw[qB g] at a
   have j:decide ((s.size:Int)<=64)=false:=qB (by omega)
   go_enter func98,ntmps98;go_wp2_with fail;refine (b.o _).mono ?_;rintro e w' ⟨rfl,rfl⟩;go_wp2;go_ret;exact⟨by rw[a.o];rfl,qF _ _⟩
theorem Qke(s:JA)(w:World) :
  Calls prog 99 #[Jt s] w (JB (.bool (Qfb s.data.toList)) w):=by
 have a:Hi (Qfb s.data.toList=(!s.toList.isEmpty&&decide (s.size<=32)&&s.data.toList.all (fun c=>QfH c.toNat))):=Z (by unfold Qfb;rw[Qab,J7])
 have g:=Z (fun w=>Qzj s w)
 have HA:=Z (QqH s);generalize s.data.toList.all (fun c=>QfH c.toNat)=A at HA a
 generalize Lib.idxFunc (fun x=>!QfH x) true s=i at HA g
 cases d:s.toList.isEmpty with
 |true=>
  rw[d] at a;go_enter func99,ntmps99;go_wp2;go_ret;exact⟨by rw[a.o];rfl,qF _ _⟩
 |false=>
  rw[d] at a
  by_cases f:s.size<=32
  ·rw[qA f] at a
   have h:decide ((s.size:Int)<=32)=true:=qA (by omega)
   go_enter func99,ntmps99;go_wp2_with fail;refine (g.o _).mono ?_;rintro e j ⟨rfl,b⟩;go_wp2;go_ret;exact⟨by rw[a.o,<-HA.o];rfl,b⟩
  ·rw[qB f] at a
   have h:decide ((s.size:Int)<=32)=false:=qB (by omega)
   go_enter func99,ntmps99;go_wp2;go_ret;exact⟨by rw[a.o];rfl,qF _ _⟩
theorem QEB{W a:World}(c:Jw W a):(∀b o,b<W.heap.size->a.cell? (Ja b o)=W.cell? (Ja b o))/\(∀b o,b<W.heap.size->a.frozen? (Ja b o)=W.frozen? (Ja b o)):=
 ⟨fun b o h=>c.cell (p:=(Ja b o)) h,fun b o h=>c.frozen (p:=(Ja b o)) h⟩
theorem Qel{fn:Func}{R:Ending->World->Prop}{a:Act}{w:World}{A:Addr}{V:Value}{p:Tmp}{g:JT}(d:fn.results=#[.cell p g])
  (f:(loadVar g A).run prog w=.ok V w)
  (h:a.tmps.getD p undef=.pointer (some A)) (c:a.defers = [])
  (i:R (.returned V) w):bodyPost prog fn R .ret a w:=by
 refine bodyPost_ret_by (v:=V) ?_ c i;have b:a.tmps[p]?.getD undef=.pointer (some A):=by simpa using h
 simp[results,d,b,asAddr,f]
theorem Qns{fn:Func}{R:Ending->World->Prop}{a:Act}{w:World}{A:Addr}{V E:Value}{p u:Tmp}{f:JT}(c:fn.results=#[.cell p f,.tmp u])
  (d:(loadVar f A).run prog w=.ok V w)
  (g:a.tmps.getD p undef=.pointer (some A)) (h:a.tmps.getD u undef=E) (b:a.defers = [])
  (i:R (.returned (.tuple #[V,E])) w):bodyPost prog fn R .ret a w:=by
 refine bodyPost_ret_by (v:=.tuple #[V,E]) ?_ b i;rw[results_cell_tmp c,g,h];simp[asAddr,d,Result.andThen]
theorem QaW{fn:Func}{R:Ending->World->Prop}{a:Act}{w:World}{A:Addr}{V E F:Value}{p u v:Tmp}{i:JT}(g:fn.results=#[.cell p i,.tmp u,.tmp v])
  (h:(loadVar i A).run prog w=.ok V w)
  (j:a.tmps.getD p undef=.pointer (some A)) (k:a.tmps.getD u undef=E) (m:a.tmps.getD v undef=F) (f:a.defers = [])
  (l:R (.returned (.tuple #[V,E,F])) w):bodyPost prog fn R .ret a w:=by
 refine bodyPost_ret_by (v:=.tuple #[V,E,F]) ?_ f l;have b:a.tmps[p]?.getD undef=.pointer (some A):=by simpa using j
 have c:a.tmps[u]?.getD undef=E:=by simpa using k
 have d:a.tmps[v]?.getD undef=F:=by simpa using m
 simp[results,g,b,c,d,asAddr,h,Result.andThen]
def Qg7(p h:JL)(a b:Int):Nat:=if QfF p=false\/Qfb h=false then 2 else QdK a b
theorem QAU(w:World)(x y z u:Value)(t:JT):(w.alloc (.cells #[x,y,z,u] t)).cell? (Ja w.heap.size 0)=some x/\(w.alloc (.cells #[x,y,z,u] t)).cell? (Ja w.heap.size 1)=some y/\(w.alloc (.cells #[x,y,z,u] t)).cell? (Ja w.heap.size 2)=some z/\(w.alloc (.cells #[x,y,z,u] t)).cell? (Ja w.heap.size 3)=some u:=by
 have a:=JI w (.cells #[x,y,z,u] t);refine⟨?_,?_,?_,?_⟩<;>(unfold World.cell?;rw[a];rfl)
theorem QbC(w:World)(x y z u:Value)(t:JT):Jw w (w.alloc (.cells #[x,y,z,u] t)):=(qF _ _).alloc (qC _) _
theorem QgX{w f:World}{x y z u:Value}{t:JT}(g:Below (w.alloc (.cells #[x,y,z,u] t)).heap.size (w.alloc (.cells #[x,y,z,u] t)) f):f.cell? (Ja w.heap.size 0)=some x/\f.cell? (Ja w.heap.size 1)=some y/\f.cell? (Ja w.heap.size 2)=some z/\f.cell? (Ja w.heap.size 3)=some u:=by
 obtain⟨a,b,c,d⟩:=QAU w x y z u t;exact⟨(g.cell (p:=(Ja w.heap.size 0)) (by simp)).trans a,(g.cell (p:=(Ja w.heap.size 1)) (by simp)).trans b,(g.cell (p:=(Ja w.heap.size 2)) (by simp)).trans c,(g.cell (p:=(Ja w.heap.size 3)) (by simp)).trans d⟩
theorem QdU(p h:JA)(a b:Int)(w:World) :
  Calls prog 53 #[.agg #[Jt p,Jt h,Ji a,Ji b]] w (JB (Ji (Qg7 p.data.toList h.data.toList a b:Nat)) w):=by
 have k:=Z (fun w=>Qkd p w)
 have m:=Z (fun w=>Qke h w)
 have s:=Z (fun w=>Qb4 a b w)
 cases f:QfF p.data.toList with
 |false=>
  have j:Hi (Qg7 p.data.toList h.data.toList a b=2):=Z (JK (.inl f));rw[f] at k;clear f;go_enter func53,ntmps53;go_wp2_with fail;refine (k.o _).mono ?_;rintro e q ⟨rfl,c⟩;go_wp2;go_ret;exact⟨by rw[j.o];rfl,Qaa (QbC w _ _ _ _ _) c⟩
 |true=>
  rw[f] at k;cases i:Qfb h.data.toList with
  |false=>
   have j:Hi (Qg7 p.data.toList h.data.toList a b=2):=Z (JK (.inr i));rw[i] at m;clear f i;go_enter func53,ntmps53;go_wp2_with fail;refine (k.o _).mono ?_;rintro e q ⟨rfl,c⟩;obtain⟨c0,c1,c2,c3⟩:=QgX c;have g:=Z (Qaa (QbC w _ _ _ _ _) c);clear c;go_wp2_with fail;refine (m.o _).mono ?_;rintro e r ⟨rfl,d⟩;go_wp2;go_ret;exact⟨by rw[j.o];rfl,Qaa g.o d⟩
  |true=>
   have j:Hi (Qg7 p.data.toList h.data.toList a b=QdK a b):=Z (JJ (fun e=>e.elim (fun e=>by rw[f] at e;exact JN e (by decide)) (fun e=>by rw[i] at e;exact JN e (by decide))))
   rw[i] at m;clear f i;go_enter func53,ntmps53;go_wp2_with fail;refine (k.o _).mono ?_;rintro e q ⟨rfl,c⟩;obtain⟨c0,c1,c2,c3⟩:=QgX c;have g:=Z c;clear c;go_wp2_with fail;refine (m.o _).mono ?_;rintro e r ⟨rfl,d⟩;have l:=Z (Qaa g.o d);obtain⟨c0,c1,c2,c3⟩:=QgX l.o;clear d;go_wp2_with fail;refine (s.o _).mono ?_;rintro e t ⟨rfl,n⟩;go_wp2;go_ret;exact⟨by rw[j.o];rfl,Qaa (QbC w _ _ _ _ _) (Qaa l.o n)⟩
theorem Qft(w:World)(b:Nat)(t:JT)(x y z u:Value)(h:w.heap[b]?=some (.cells #[x,y,z,u] t (0,0))):(loadVar 142 (Ja b 0)).run prog w=.ok (.agg #[x,y,z,u]) w:=
 run_loadVar_row w b t 142 #[x,y,z,u] (0,0) _ h underlying142 rfl (by kernel_rfl)
theorem Qfv{w:World}{b:Nat}{x y z u:Value}{t:JT}(h:w.heap[b]?=some (.cells #[x,y,z,u] t (0,0)))(a f d c:Value) :
  ((((w.setCell (Ja b 0) a).setCell (Ja b 1) f).setCell (Ja b 2) d).setCell (Ja b 3) c).heap[b]?=some (.cells #[a,f,d,c] t (0,0)):=by
 simp[World.setCell,J6,h]
theorem Qdq{B:Nat}{w0 w:World}(h:Below B w0 w)(b:Nat)(a:B<=b)(d c g f:Value):Below B w0 ((((w.setCell (Ja b 0) d).setCell (Ja b 1) c).setCell (Ja b 2) g).setCell (Ja b 3) f):=
 (((h.setCell (p:=(Ja b 0)) a _).setCell (p:=(Ja b 1)) a _).setCell (p:=(Ja b 2)) a _).setCell (p:=(Ja b 3)) a _
end
section
def Qc3:JL->JM
 |[]=>[[]]
 |c :: r=>if c=32 then [] :: Qc3 r else match Qc3 r with
  |w :: ws=>(c :: w) :: ws
  |[]=>[[c]]
open Go.Lib in
theorem Qdo(c:UInt8)(r:JL):index (c :: r) [32]=if c=32 then 0 else if index r [32] == -1 then -1 else index r [32]+1:=by
 by_cases h:c=32
 ·subst h
  unfold index;simp
 ·rw[JJ h]
  have a : [(32:UInt8)].isPrefixOf (c :: r)=false:=by simp[List.isPrefixOf];exact fun e=>h e.symm
  rw[index.eq_def];simp only[a];rfl
open Go.Lib in
theorem Qo9(l:JL):split l [32]=Qc3 l:=by
 induction l with
 |nil=>rfl
 |cons c r ih=>
  by_cases d:c=32
  ·have a:index (c :: r) [32]=(0:Nat):=by rw[Qdo,JK d];rfl
   unfold split;rw[count_hit (by simp) a,Nat.add_comm,splitK,JJ (by rw[a];decide),a,Qc3,JK d,<-ih]
   rfl
  ·rw[Qc3,JJ d]
   rcases index_spec r [32] with⟨hm,_⟩|⟨i,a,_⟩
   ·have b:index (c :: r) [32] = -1:=by rw[Qdo,JJ d,hm];rfl
    have f:split (c :: r) [32] = [c :: r]:=by unfold split;rw[count_miss b];rfl
    have g:split r [32] = [r]:=by unfold split;rw[count_miss hm];rfl
    rw[f,<-ih,g]
   ·have b:index (c :: r) [32]=((i+1:Nat):Int):=by
     rw[Qdo,JJ d,a,JJ (by simp<;>omega)];rfl
    have f:split (c :: r) [32]=(c :: r.take i) :: splitK [32] 0 (count (r.drop (i+1)) [32]) (r.drop (i+1)):=by
     unfold split;rw[count_hit (by simp) b,Nat.add_comm,splitK,JJ (by rw[b];simp<;>omega),b]
     rfl
    have g:split r [32]=(r.take i) :: splitK [32] 0 (count (r.drop (i+1)) [32]) (r.drop (i+1)):=by
     unfold split;rw[count_hit (by simp) a,Nat.add_comm,splitK,JJ (by rw[a];simp<;>omega),a]
     rfl
    rw[f,<-ih,g]
open Go.Lib in
theorem QhK(s:JA):(splitB ⟨#[32]⟩ 0 (countB s ⟨#[32]⟩) s).map Value.string=QfY (Qc3 s.data.toList):=by
 have h:=splitB_data ⟨#[32]⟩ 0 (countB s ⟨#[32]⟩) s;have a:splitK (⟨#[32]⟩:JA).data.toList 0 (countB s ⟨#[32]⟩) s.data.toList=Qc3 s.data.toList:=Qo9 s.data.toList;rw[a] at h;unfold QfY;rw[<-h,List.map_map];apply List.map_congr_left;intro x _;simp only[Function.comp_apply,Qb1]
open Go.Lib in
theorem Qh4(s:JA):countB s ⟨#[32]⟩+1=(Qc3 s.data.toList).length:=by
 have h:=QhK s;have k:=congrArg List.length h;rw[Qdu,qQ] at k;rw[<-k];have q:=splitB_data ⟨#[32]⟩ 0 (countB s ⟨#[32]⟩) s;have key:∀l:JL,(split l [32]).length=count l [32]+1:=by
  intro l
  induction l with
  |nil=>rfl
  |cons c r ih=>
   rcases index_spec (c :: r) [32] with⟨hm,_⟩|⟨i,hi,_⟩
   ·have d:split (c :: r) [32] = [c :: r]:=by unfold split;rw[count_miss hm];rfl
    rw[d,count_miss hm];rfl
   ·by_cases f:c=32
    ·have a:index (c :: r) [32]=(0:Nat):=by rw[Qdo,JK f];rfl
     have g:split (c :: r) [32] = [] :: split r [32]:=by
      unfold split;rw[count_hit (by simp) a,Nat.add_comm,splitK,JJ (by rw[a];decide),a];rfl
     rw[g,count_hit (by simp) a,qH,ih]
     show _=1+count r [32]+1;omega
    ·rcases index_spec r [32] with⟨hm,_⟩|⟨j,hj,_⟩
     ·have b:index (c :: r) [32] = -1:=by rw[Qdo,JJ f,hm];rfl
      rw[b] at hi;omega
     ·have b:index (c :: r) [32]=((j+1:Nat):Int):=by
       rw[Qdo,JJ f,hj,JJ (by simp<;>omega)];rfl
      have d:split (c :: r) [32]=(c :: r.take j) :: splitK [32] 0 (count (r.drop (j+1)) [32]) (r.drop (j+1)):=by
       unfold split;rw[count_hit (by simp) b,Nat.add_comm,splitK,JJ (by rw[b];simp<;>omega),b]
       rfl
      have g:split r [32]=(r.take j) :: splitK [32] 0 (count (r.drop (j+1)) [32]) (r.drop (j+1)):=by
       unfold split;rw[count_hit (by simp) hj,Nat.add_comm,splitK,JJ (by rw[hj];simp<;>omega),hj]
       rfl
      have n:count (c :: r) [32]=count r [32]:=by
       rw[count_hit (by simp) b,count_hit (by simp) hj];rfl
      rw[d,n,<-ih,g];rfl
 have p:=key s.data.toList;have m:=congrArg List.length q;rw[qQ] at m;rw[m];exact p.symm
end
section
def Qc6:Nat->JA->Int->JM->JM×Int×Nat
 |0,_,_,_=>([],0,21)
 |f+1,s,a,xs=>if Qbe s a≠0 then ([],0,Qbe s a) else if (QaH s a).toList.isEmpty=true then (xs,Qbd s a,0)
   else if xs.length=17 then ([],0,21) else Qc6 f s (Qbd s a) (xs++[(QaH s a).data.toList])
def Qaf(s:JA):JM×Int×Nat:=Qc6 18 s 0 []
theorem Qfd(f:Nat)(s:JA)(a:Int)(xs:JM)(h:Qbe s a≠0):Qc6 (f+1) s a xs=([],0,Qbe s a):=by rw[Qc6,JK h]
theorem QgI(f:Nat)(s:JA)(a:Int)(xs:JM)(h:Qbe s a=0)(b:(QaH s a).toList.isEmpty=true):Qc6 (f+1) s a xs=(xs,Qbd s a,0):=by
 rw[Qc6,JJ (by simp[h]),JK b]
theorem Qle(f:Nat)(s:JA)(a:Int)(xs:JM)(h:Qbe s a=0)(b:(QaH s a).toList.isEmpty=false)(c:xs.length=17):Qc6 (f+1) s a xs=([],0,21):=by
 rw[Qc6,JJ (by simp[h]),JJ (by simp[b]),JK c]
theorem Qea(f:Nat)(s:JA)(a:Int)(xs:JM)(h:Qbe s a=0)(b:(QaH s a).toList.isEmpty=false)(c:xs.length≠17):Qc6 (f+1) s a xs=Qc6 f s (Qbd s a) (xs++[(QaH s a).data.toList]):=by
 rw[Qc6,JJ (by simp[h]),JJ (by simp[b]),JJ c]
def QfC(s:JA)(w:World)(e:Ending)(w':World):Prop:=
 ∃v,e=.returned (.tuple #[v,Ji (Qaf s).2.1,Ji (Qaf s).2.2])/\w'.ownsRow w.heap.size 9 1 v (Qaf s).1.length (QfY (Qaf s).1)/\Jw w w'
def QC5(s:JA)(w:World)(v j:Value)(wr:World):Prop:=
 ∃(a:Int) (xs:JM),xs.length<=17/\j = Ji a/\wr.ownsRow w.heap.size 9 1 v xs.length (QfY xs)/\Jw w wr/\Qc6 (18-xs.length) s a xs=Qaf s
theorem QmE(s:JA)(w w':World)(v:Value)(n:Int)(e:Nat)(xs:JM)(h:Qaf s=(xs,n,e))(a:w'.ownsRow w.heap.size 9 1 v xs.length (QfY xs))(b:Jw w w') :
  QfC s w (.returned (.tuple #[v,Ji n,Ji e])) w':=by
 unfold QfC;rw[h];exact⟨v,rfl,a,b⟩
theorem Qat{w:World}{base n:Nat}{e:JT}{size:Nat}{v:Value}{xs:JV}(h:w.ownsRow base e size v n xs):∃a c,v=.slice a n c:=by
 rcases h.2 with⟨rfl,rfl⟩|⟨g,cap,cur,rfl,_⟩
 ·exact⟨_,_,rfl⟩
 ·exact⟨_,_,rfl⟩
def QDB(v:Value):Nat:=match v with
 | .slice _ n _=>18-n
 |_=>0
theorem Qhr(s:JA)(w:World)(h:s.size<=9223372036854775807) :
  Calls prog 248 #[Jt s] w (QfC s w):=by
 go_enter func248,ntmps248;go_wp2_with fail;go_loopw [2,5] (fun v j wr=>QC5 s w v j wr) (fun v _ _=>QDB v)
 case atStart=>exact⟨0,[],by simp,rfl,JZ _ _ _ _,qF _ _,rfl⟩
 case round=>
  obtain⟨a,xs,hx,rfl,QE2,hb,hr⟩:=hrel;obtain⟨av,cv,rfl⟩:=Qat QE2;obtain⟨f,hf⟩:∃f,18-xs.length=f+1:=⟨17-xs.length,by omega⟩
  rw[hf] at hr
  by_cases c:Qbe s a=0
  ·have m:((Qbe s a:Nat):Int)=0:=by omega
   by_cases k:(QaH s a).toList.isEmpty=true
   ·have H:=Z ((QgI f s a xs c k).symm.trans hr)
    have i:=Z hf;clear hr hf c;go_wp2_with (go_at_call 284;refine (Qd9 _ _ _ h).mono ?_;rintro e w' ⟨rfl,rfl⟩);go_ret3;exact QmE s w _ _ _ 0 xs H.out.symm QE2 hb
   ·have d:(QaH s a).toList.isEmpty=false:=by simpa using k
    clear k
    by_cases b:xs.length=17
    ·have H:=Z ((Qle f s a xs c d b).symm.trans hr)
     have i:=Z hf;have q:16<xs.length:=by omega
     have x:=Z b;clear hr hf c b;go_wp2_with (go_at_call 284;refine (Qd9 _ _ _ h).mono ?_;rintro e w' ⟨rfl,rfl⟩);go_ret3;exact QmE s w _ _ _ 21 [] H.out.symm (JZ _ _ _ _) hb
    ·have H:=Z ((Qea f s a xs c d b).symm.trans hr)
     have i:=Z hf;have q:xs.length<17:=by omega
     have r:xs.length<=16:=by omega
     clear hr hf c b;have t:=Z (Qb1 (QaH s a)).symm;go_wp2_with (first
      |(go_at_call 284;refine (Qd9 _ _ _ h).mono ?_;rintro e w' ⟨rfl,rfl⟩)
      |(at_builtin;refine Qt7 _ (by rfl) _ _ (by rfl) w.heap.size _ xs (by rfl) QE2 (QaH s a) (QaH s a).data.toList t.o (by rfl) (by omega) hb.size ?_;intro z y g n p))
     have l:=QgY hb n QE2 (qC _) hb.size;have hlen:(xs++[(QaH s a).data.toList]).length=xs.length+1:=by simp
     obtain⟨av',cv',rfl⟩:=Qat g;go_roundw
     case rel=>exact⟨Qbd s a,xs++[(QaH s a).data.toList],by omega,rfl,g,l,by rw[<-H.out,hlen];congr 1;have:=i.o;omega⟩
     case measure=>simp[QDB];omega
  ·have m:(((Qbe s a:Nat):Int) != 0)=true:=by rw[bne_iff_ne];omega
   have H:=Z ((Qfd f s a xs c).symm.trans hr);have i:=Z hf;clear hr hf c;go_wp2_with (go_at_call 284;refine (Qd9 _ _ _ h).mono ?_;rintro e w' ⟨rfl,rfl⟩);go_ret3;exact QmE s w _ _ _ _ [] H.out.symm (JZ _ _ _ _) hb
end
end Go.Proofs.YtlpecalodphalaaGreatDoor
