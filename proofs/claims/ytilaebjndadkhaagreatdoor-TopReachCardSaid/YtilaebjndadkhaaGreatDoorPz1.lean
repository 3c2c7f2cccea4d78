/- What parts of the program compute: packed for TopReach. Conditions: none. -/
import Derived.Deep.Draws
import Derived.Test.YtilaebjndadkhaaGreatDoorProg
import Derived.WalkKit
import Derived.Below
import Derived.Deep.RegionHeld3
import Derived.BigRegion
import Derived.BigQuiet
import Derived.Outline
import Derived.Lib.Hide
import Derived.WalkMore
import Derived.Scope
import Derived.ScopeJumps
import Derived.OwnWalk
import Derived.WalkSpells
import Derived.WalkLawsBesides
import Derived.Lib.Split
import Derived.Laws.AppendOwn
import Derived.Maps.AppendAt
import GoSem.Claims
import Derived.Deep.AppendLies
import Derived.Laws.OwnMore
import Derived.Lib.TrimUEq
import Derived.Shelf.GgClosure.StringsIndexFunc
import Derived.Shelf.Strings.Builder1
import Derived.Shelf.Strings.Builder2
import Derived.Shelf.Strings.OnBuilder
import Derived.Shelf.Strings.Trim
import Derived.Shelf.Small.Utf8
import Derived.Shelf.Small.Bits
import Derived.Shelf.Small.Strs
import Derived.Shelf.Small.Wraps
import Derived.Shelf.Strings.BuilderF
import Derived.Shelf.Strings.BuilderK
import Derived.Shelf.Strings.BuilderRune
import Derived.Shelf.Strings.Builder2Cap
import Derived.Shelf.Strconv.Atoi
import Derived.Shelf.Strconv.Itoa0
import Derived.Shelf.Strconv.Itoa1
import Derived.Shelf.LaysM
import Derived.Shelf.Strconv.Itoa2
import Derived.Shelf.Strconv.Itoa3
import Derived.Shelf.Strconv.AtoiErrFast
import Derived.Shelf.Strconv.ParseIntEmpty
import Derived.Shelf.Strconv.AtoiFail
import Derived.Shelf.Strconv.Clone
import Derived.Shelf.Strconv.SyntaxError
import Derived.Shelf.LaysC
import Derived.Shelf.Strconv.ToError
import Derived.Shelf.Strconv.Lower
import Derived.Shelf.Strconv.ParseUint10
import Derived.Shelf.Strconv.ParseUint10Empty
import Derived.Shelf.Strconv.ParseUint10Any
import Derived.Shelf.Strconv.ParseInt10
import Derived.Shelf.Strconv.AtoiLong
import Derived.Shelf.Strconv.AtoiInnerAll
import Derived.Shelf.Strconv.RangeError
import Derived.Shelf.Strconv.ToErrorRange
import Derived.Shelf.Strconv.AtoiAll
import Derived.Shelf.Strings.Search1
import Derived.Shelf.Strings.Search2
import Derived.Shelf.Strings.Search3
import Derived.Shelf.Strings.Cut
import Derived.Shelf.Strings.Count
import Derived.Shelf.Strings.Shaped
import Derived.Ground.GgwProg
import Derived.Shelf.GgClosure.StringsIndexFuncTop
import Derived.Shelf.Strings.Prefix
import Derived.Shelf.Strings.Split
import Derived.Shelf.Strings.SplitShaped
import Derived.Shelf.Strings.Runes
import Derived.Shelf.Strings.IndexAny
import Derived.Shelf.Strings.AsciiSet
import Derived.Shelf.Strings.IndexAnyAll
import Derived.Shelf.Unicode.DecodeSlow
import Derived.Shelf.Unicode.DecodeAny
import Derived.Shelf.Unicode.DecodeLast
import Derived.Shelf.Strings.MapAny
import Derived.Shelf.Strings.FuncGrows
import Derived.Shelf.Strings.BuilderCap
import Derived.Shelf.Strings.MapGrows
import Derived.Lib.AtoiAll
import Derived.Lib.ItoaNum
import Derived.KernelRfl
import Derived.Lib.LaidTab
import Derived.WalkSmall
import Derived.Sort.Grow
import Derived.Lib.AtoiErrMem
import Derived.Lib.IndexMore
import Derived.OneCell
import Derived.Deep.LoopGhost
import Derived.Deep.DeepMust
import Derived.Deep.DeepFit
import Derived.Deep.DeepCutAuto
import Derived.Lib.SlTrimSet
import Derived.Lib.MapLaws
import Derived.Lib.TrimAscii
import Derived.Shelf.Strings.SlTrimAscii
import Derived.Laws.ResultCell
import Derived.Laws.Rows
import Derived.Laws.NewBlocks
import Derived.Deep.RegionWith
import Derived.Lib.AppendStr
import Derived.RangeFuncNested
import Derived.RangeFuncBound
import Derived.RangeFuncCalls
import Derived.RangeFuncLeaves
import Derived.Shelf.Abstract
import Derived.Shelf.RegionOpen
import Derived.OwnWalkIn
import Derived.TacticsInMore
import Derived.LoopNIn
import Derived.LoopIn
import Derived.Maps.OwnSet
import Derived.Laws.StructEq
import Derived.Laws.MakeOwn
import Derived.StillTailTactics
import Derived.Maps.GroupsBeside
import Derived.Laws.IdiomStrings
import Derived.Deep.RegionLaw
import Derived.Lib.SlBytesConst
import Derived.Lib.AppendZeros
import Derived.ArgAppend
import Derived.Deep.MidRow
import Derived.Sort.QuietTacIn
import Derived.Sort.BigQuietIn
import Derived.Laws.EntriesVeiled
import Derived.Defers
import Derived.Tactics
import Derived.Tactics2
import Derived.Laws.Pointers
import Derived.Laws.LoneSync
import Derived.RegionTactic
import Derived.RegionCalls
import Derived.ChangeAlike
import Derived.Deep.OwnRows
import Derived.LoopN
import Derived.Laws.Tables
import Derived.Deep.WholeRow
import Derived.Lib.LazyBuf
import Derived.Lib.Atoi
import Derived.Lib.SmallJoins
import Derived.Lib.SlBytesRow
import Derived.Shelf.SlicesQ.Equal
import Derived.Shelf.SlicesE.Clone
import Derived.Shelf.SlicesQ.IndexFunc
import Derived.Ground.SlgqProg
import Derived.Ground.SlgnProg
import Derived.Ground.SlgfProg
import Derived.Laws.IdiomCopy
import Derived.Laws.CopyOwn
import Derived.Shelf.Spec.SlicesInsert
import Derived.Test.YtilaebjndadkhaaGreatDoorChecked
import Derived.LaidEql
import Derived.Stop.Asserts
import Derived.RowKitTokens
import Derived.Elder7
import Derived.Lib.Walk
import Derived.Lib.Overlaps
import Derived.Lib.AppendZerosOnto
import Derived.Shelf.RegionOpenPlain
import Derived.Lib.SplitLaws
import Derived.Deep.Slices
import Derived.Deep.Fields
import Derived.ChangeSame
import Derived.Test.YtilaebjndadkhaaGreatDoorRows
import Derived.OpenShut
import Derived.MakeChecks
import Derived.Stop.LaidErr
import Derived.PinnedBridge
import Derived.Lib.LaidU8T
import Derived.LaidHandle
import Derived.Lay
import Derived.WideShapes
import Derived.SevenTiedAt
set_option linter.all false
set_option maxRecDepth 100000
set_option maxHeartbeats 8000000
open Go.Lib (hid)
namespace Go.Proofs.YtilaebjndadkhaaGreatDoor
theorem gsi{α : Type}{xs : Array α}{i : Nat}{a : α}(h : xs[i]? = some a) : ∃ h : i < xs.size, xs[i] = a := Array.getElem?_eq_some_iff.1 h
end Go.Proofs.YtilaebjndadkhaaGreatDoor
namespace Go.Proofs.YtilaebjndadkhaaGreatDoor
section
def Qaz(c:Nat):Bool:=c==9||(decide (32≤c)&&decide (c≤126))
def scan:List UInt8→Nat→Nat×Nat
 |[],n=>(n,3)
 |c :: r,n=>if c=13∧r = [] then (n,3) else if c=13∧r.head?=some 10 then (n,0)
   else if Qaz c.toNat=false then (n,4) else if n=256 then (n,5) else scan r (n+1)
def Qcb(l:List UInt8)(i:Nat)(n:Nat):Nat×Nat:=scan (l.drop i) n
theorem QpP(l:List UInt8)(i n:Nat)(h:l.length≤i):Qcb l i n=(n,3):=by
 unfold Qcb;rw [List.drop_eq_nil_of_le h];rfl
theorem Qnb(l:List UInt8)(i n:Nat)(h:i<l.length):Qcb l i n =
  if l[i]=13∧i+1=l.length then (n,3) else if l[i]=13∧l[i+1]?=some 10 then (n,0)
   else if Qaz l[i].toNat=false then (n,4) else if n=256 then (n,5) else Qcb l (i+1) (n+1):=by
 unfold Qcb;rw [List.drop_eq_getElem_cons h,scan];have e1:(l.drop (i+1) = [])↔i+1=l.length:=by rw [List.drop_eq_nil_iff];omega
 have e2:(l.drop (i+1)).head?=l[i+1]?:=by rw [List.head?_drop]
 rw [e2];simp only [e1]
theorem QyT(l:List UInt8):∀ n,n≤256→n≤(scan l n).1∧(scan l n).1≤n+l.length∧(scan l n).1≤256∧(scan l n).2≤5:=by
 induction l with
 |nil=>intro n h;simp [scan];omega
 |cons c r ih=>
  intro n h;rw [scan];split
  ·simp;omega
  ·split
   ·simp;omega
   ·split
    ·simp;omega
    ·split
     ·simp;omega
     ·have:=ih (n+1) (by omega)
      simp only [List.length_cons];omega
theorem QrL(l:List UInt8):∀ n,(scan l n).2=0→(scan l n).1+2≤n+l.length:=by
 induction l with
 |nil=>intro n h;simp [scan] at h
 |cons c r ih=>
  intro n;rw [scan];split
  ·simp
  ·split
   ·rename_i h
    cases r with
    |nil=>simp at h
    |cons d t=>simp
   ·split
    ·simp
    ·split
     ·simp
     ·intro h
      have:=ih (n+1) h;simp only [List.length_cons];omega
def Qbg(s:ByteArray)(at_:Int):Nat:=if at_<0∨(s.size:Int)<at_ then 2 else (Qcb s.data.toList at_.toNat 0).2
def QaL(s:ByteArray)(at_:Int):ByteArray:=if Qbg s at_=0 then s.extract at_.toNat (at_.toNat+(Qcb s.data.toList at_.toNat 0).1) else ⟨#[]⟩
def Qbj(s:ByteArray)(at_:Int):Int:=if Qbg s at_=0 then at_+(Qcb s.data.toList at_.toNat 0).1+2 else at_
theorem Qhv(s:ByteArray)(at_:Int)(h:at_<0∨(s.size:Int)<at_):Qbg s at_=2:=if_pos h
theorem QeB(s:ByteArray)(i:Nat)(h:i≤s.size):Qbg s (i:Int)=(Qcb s.data.toList i 0).2:=by
 unfold Qbg;rw [if_neg (by omega)];rfl
def Qa0(l:List UInt8):Nat:=if l.all (fun c=>Qaz c.toNat)=false then 4 else if 256<l.length then 5 else 0
end
section
open Go.RowKit
theorem Qse(c:Nat)(h:c<32)(h9:c≠9):Qaz c=false:=by
 unfold Qaz;simp;omega
theorem Qsf(c:Nat)(h:32≤c):Qaz c=decide ((c:Int)≤126):=by
 unfold Qaz;have h9:(c==9)=false:=by simp;omega
 rw [h9,decide_eq_true h,Bool.false_or,Bool.true_and]
 by_cases h2:c≤126
 ·rw [decide_eq_true h2,decide_eq_true (by omega)]
 ·rw [decide_eq_false h2,decide_eq_false (by omega)]
theorem QaE{a b:Bool}(h:a=b):Ending.returned (.bool a) = .returned (.bool b):=by rw [h]
theorem Qct(c:Nat)(w:World)(h:c<256) :
  Calls Tryz.prog 211 #[.int .u8 c] w fun e w'=>e = .returned (.bool (Qaz c))∧w'=w:=by
 by_cases h9:c=9
 ·subst h9
  go_enter Tryz.func211,Tryz.ntmps211;go_wp2;go_ret;exact ⟨QaE rfl,rfl⟩
 ·have k9:((c:Int)==9)=false:=by rw [beq_eq_false_iff_ne];omega
  by_cases hlo:c<32
  ·have H:=hid (Qse c hlo h9)
   go_enter Tryz.func211,Tryz.ntmps211;go_wp2;go_ret;exact ⟨QaE H.out.symm,rfl⟩
  ·have H:=hid (Qsf c (by omega))
   go_enter Tryz.func211,Tryz.ntmps211;go_wp2;go_ret;exact ⟨QaE H.out.symm,rfl⟩
def Exit.jumps(J:Nat→Act→World→Prop)(Q:Exit→Act→World→Prop):Exit→Act→World→Prop
 | .goto l,a,w=>J l a w
 |e,a,w=>Q e a w
theorem QjS{P:Program}{a:Act}{w:World}{Q:Exit→Act→World→Prop}{c:Code}(J:Nat→Act→World→Prop)(μ:Nat→Act→World→Nat)
  (pass:∀ l a w,J l a w→∃ y,findLabel c l=some (.seq .skip y)∧y.wp P (Exit.jumps (fun l' a' w'=>J l' a' w'∧μ l' a' w'<μ l a w) Q) a w)
  (first:(∀ l a w y,J l a w→findLabel c l=some (.seq .skip y)→y.wp P (Exit.jumps J Q) a w)→c.wp P (Exit.jumps J Q) a w):(Code.scope c).wp P Q a w:=by
 intro b k cs;have first':=first fun l a w y hJ hf=>by
  obtain ⟨y',hf',hp⟩:=pass l a w hJ;obtain rfl:y'=y:=by have:=hf'.symm.trans hf;simpa using this
  refine wp_mono hp ?_;intro e a' w' h;cases e<;>first|exact h|exact h.1
 have hg:∀ l rest,findLabel c l=some rest→gotoIn l (.inScope c :: k)=some (.code rest :: .inScope c :: k):=fun l rest hf=>by simp [gotoIn,hf]
 have key:∀ n l a w,μ l a w=n→J l a w→∀ rest,findLabel c l=some rest→∃ e a' w',Q e a' w'∧Arrives P (lone (b.at a (.code rest :: .inScope c :: k)) cs w) b k cs e a' w':=by
  intro n
  induction n using Nat.strongRecOn with
  |_ n ih=>
   intro l a w hn hJ rest hf;obtain ⟨y',hf',hp'⟩:=pass l a w hJ;obtain rfl:(Code.seq .skip y')=rest:=Option.some.inj (hf'.symm.trans hf);have hp:=wp_seq (x:=.skip) (y:=y') (wp_skip (Q:=Exit.then (y'.wp P _) _) hp');obtain ⟨e,a₁,w₁,hq,QAS⟩:=hp b (.inScope c :: k) cs;cases e with
   |normal=>exact ⟨.normal,a₁,w₁,hq,Steps.trans QAS (.one step_inScope)⟩
   |exit id=>exact ⟨.exit id,a₁,w₁,hq,fun k' hk=>QAS k' (by simp [exitTo,hk])⟩
   |goto l'=>
    obtain ⟨hJ',hlt⟩:=hq;obtain ⟨r2,hf2,_⟩:=pass l' a₁ w₁ hJ';obtain ⟨e₂,a₂,w₂,hq₂,harr₂⟩:=ih _ (by omega) l' a₁ w₁ rfl hJ' _ hf2
    exact ⟨e₂,a₂,w₂,hq₂,.of_steps (QAS _ (hg l' _ hf2)) harr₂⟩
   |ret=>exact ⟨_,a₁,w₁,hq,QAS⟩
   |panic ch=>exact ⟨_,a₁,w₁,hq,QAS⟩
   |outgrown=>exact ⟨_,a₁,w₁,hq,QAS⟩
 obtain ⟨e,a₁,w₁,hq,QAS⟩:=first' b (.inScope c :: k) cs;cases e with
 |normal=>exact ⟨.normal,a₁,w₁,hq,.head step_scope (Steps.trans QAS (.one step_inScope))⟩
 |exit id=>exact ⟨.exit id,a₁,w₁,hq,fun k' hk=>.head step_scope (QAS k' (by simp [exitTo,hk]))⟩
 |goto l'=>
  obtain ⟨r2,hf2,_⟩:=pass l' a₁ w₁ hq;obtain ⟨e₂,a₂,w₂,hq₂,harr₂⟩:=key _ l' a₁ w₁ rfl hq _ hf2;exact ⟨e₂,a₂,w₂,hq₂,.of_steps (.head step_scope (QAS _ (hg l' _ hf2))) harr₂⟩
 |ret=>exact ⟨_,a₁,w₁,hq,.of_steps (.one step_scope) QAS⟩
 |panic ch=>exact ⟨_,a₁,w₁,hq,.of_steps (.one step_scope) QAS⟩
 |outgrown=>exact ⟨_,a₁,w₁,hq,.of_steps (.one step_scope) QAS⟩
theorem QyY(x y:UInt8)(h:x≠y):((x.toNat:Int)==(y.toNat:Int))=false:=by
 rw [beq_eq_false_iff_ne];intro h';exact h (UInt8.toNat_inj.1 (by omega))
theorem Qrz(s:ByteArray)(i E:Nat)(hi:i≤s.size)(h0:E≠0)(h:E=(Qcb s.data.toList i 0).2) :
  Value.tuple #[.string ⟨#[]⟩,.int .i64 i,.int .i64 E]=Value.tuple #[.string (QaL s i),.int .i64 (Qbj s i),.int .i64 (Qbg s i)]:=by
 have e:=QeB s i hi;rw [←h] at e;unfold QaL Qbj;rw [e,if_neg h0,if_neg h0]
theorem QuB(s:ByteArray)(i:Int)(h:i<0∨(s.size:Int)<i) :
  Value.tuple #[.string ⟨#[]⟩,.int .i64 i,.int .i64 2]=Value.tuple #[.string (QaL s i),.int .i64 (Qbj s i),.int .i64 (Qbg s i)]:=by
 unfold QaL Qbj;rw [Qhv s i h,if_neg (by decide),if_neg (by decide)];rfl
theorem Qw4(s:ByteArray)(i k:Nat)(hi:i≤s.size)(h:Qcb s.data.toList i 0=(k,0)) :
  Value.tuple #[.string (s.extract i (i+k)),.int .i64 (i+k+2),.int .i64 0]=Value.tuple #[.string (QaL s i),.int .i64 (Qbj s i),.int .i64 (Qbg s i)]:=by
 have e:=QeB s i hi;rw [h] at e;unfold QaL Qbj;rw [e,if_pos rfl,if_pos rfl];show _=Value.tuple #[.string (s.extract i (i+(Qcb s.data.toList i 0).1)),.int .i64 ((i:Int)+(Qcb s.data.toList i 0).1+2),.int .i64 ((0:Nat):Int)];rw [h];rfl
def QzU(s:ByteArray)(i:Nat)(w:World)(l:Nat)(a':Act)(w':World):Prop:=
 w'=w∧((l=1∧∃ (k:Nat) (u8 u9 u10 u11 u12 u13 u14 u15 u16 u17 u18 u19 u20 u21 u22 u23 u24 u25 u26 u27 u28 u29 u30 u31 u32 u33 u34 u35 u36 u37 u38 u39 u40 u41 u42 u43 u44 u45 u46 u47 u48 u49 u50 u51 u52 u53 u54 u55 u56 u57 u58 u59 u60 u61 u62 u63 u64:Value),a' = { tmps:=#[.string s,.int .i64 i,undef,undef,.string ⟨#[]⟩,.int .i64 0,.int .i64 3,.int .i64 ((i+k:Nat):Int),u8,u9,u10,u11,u12,u13,u14,u15,u16,u17,u18,u19,u20,u21,u22,u23,u24,u25,u26,u27,u28,u29,u30,u31,u32,u33,u34,u35,u36,u37,u38,u39,u40,u41,u42,u43,u44,u45,u46,u47,u48,u49,u50,u51,u52,u53,u54,u55,u56,u57,u58,u59,u60,u61,u62,u63,u64],defers:=[] }∧k≤256∧i+k≤s.size∧Qcb s.data.toList (i+k) k=Qcb s.data.toList i 0)∨(l=0∧∃ (E:Nat) (u7 u8 u9 u10 u11 u12 u13 u14 u15 u16 u17 u18 u19 u20 u21 u22 u23 u24 u25 u26 u27 u28 u29 u30 u31 u32 u33 u34 u35 u36 u37 u38 u39 u40 u41 u42 u43 u44 u45 u46 u47 u48 u49 u50 u51 u52 u53 u54 u55 u56 u57 u58 u59 u60 u61 u62 u63 u64:Value),a' = { tmps:=#[.string s,.int .i64 i,undef,undef,.string ⟨#[]⟩,.int .i64 0,.int .i64 (E:Int),u7,u8,u9,u10,u11,u12,u13,u14,u15,u16,u17,u18,u19,u20,u21,u22,u23,u24,u25,u26,u27,u28,u29,u30,u31,u32,u33,u34,u35,u36,u37,u38,u39,u40,u41,u42,u43,u44,u45,u46,u47,u48,u49,u50,u51,u52,u53,u54,u55,u56,u57,u58,u59,u60,u61,u62,u63,u64],defers:=[] }∧E≠0∧E=(Qcb s.data.toList i 0).2))
def Qm3(s:ByteArray)(l:Nat)(a':Act)(_:World):Nat:=if l=0 then 0 else 1+(s.size-(intOf (a'.tmps.getD 7 undef)).toNat)
theorem QeG(s:ByteArray)(at_:Int)(w:World)(hs:s.size≤9223372036854775807) :
  Calls Tryz.prog 265 #[.string s,.int .i64 at_] w fun e w'=>e = .returned (.tuple #[.string (QaL s at_),.int .i64 (Qbj s at_),.int .i64 (Qbg s at_)])∧w'=w:=by
 by_cases ho:at_<0∨(s.size:Int)<at_
 ·have Ho:=hid (QuB s at_ ho)
  rcases ho with ho|ho
  all_goals
   go_enter Tryz.func265,Tryz.ntmps265;go_wp2_with fail;go_step3;go_wp2_with fail
   try rw [Exit.noGoto_ret]
   go_ret3;exact ⟨congrArg Ending.returned Ho.out,rfl⟩
 ·obtain ⟨i,rfl⟩:=Int.eq_ofNat_of_zero_le (show 0≤at_ by omega)
  have hi:i≤s.size:=by omega
  clear ho;go_enter Tryz.func265,Tryz.ntmps265;go_wp2_with fail;refine QjS (QzU s i w) (Qm3 s) ?_ ?_
  ·rintro l a' w' ⟨rfl,⟨rfl,k,u8,u9,u10,u11,u12,u13,u14,u15,u16,u17,u18,u19,u20,u21,u22,u23,u24,u25,u26,u27,u28,u29,u30,u31,u32,u33,u34,u35,u36,u37,u38,u39,u40,u41,u42,u43,u44,u45,u46,u47,u48,u49,u50,u51,u52,u53,u54,u55,u56,u57,u58,u59,u60,u61,u62,u63,u64,rfl,hk,hik,hsc⟩|⟨rfl,E,u7,u8,u9,u10,u11,u12,u13,u14,u15,u16,u17,u18,u19,u20,u21,u22,u23,u24,u25,u26,u27,u28,u29,u30,u31,u32,u33,u34,u35,u36,u37,u38,u39,u40,u41,u42,u43,u44,u45,u46,u47,u48,u49,u50,u51,u52,u53,u54,u55,u56,u57,u58,u59,u60,u61,u62,u63,u64,rfl,hE0,hE⟩⟩
   ·refine ⟨_,rfl,?_⟩
    by_cases QBr:i+k=s.size
    ·have hE:=QpP s.data.toList (i+k) k (by simp;omega)
     have H:=hid (hsc.symm.trans hE);clear hE hsc;have ht:((i:Int)+(k:Int)==(s.size:Int))=true:=by rw [beq_iff_eq];omega
     clear QBr;go_wp2_with fail;go_step3;refine And.intro (And.intro rfl (.inr (And.intro rfl ?_))) ?_
     ·refine ⟨3,?_⟩
      (repeat apply Exists.intro)
      exact ⟨rfl,by decide,by rw [H.out]⟩
     ·simp [Qm3];omega
    ·have hlt:i+k<s.size:=by omega
     have ht:((i:Int)+(k:Int)==(s.size:Int))=false:=by rw [beq_eq_false_iff_ne];omega
     have QAr:=Qnb s.data.toList (i+k) k (by simpa using hlt)
     have hc:s.data.toList[i+k]'(by simpa using hlt)=s[i+k]:=rfl
     rw [hc] at QAr;clear hc QBr;have hcb:s[i+k].toNat<256:=s[i+k].toNat_lt
     by_cases h13:s[i+k]=13
     ·have h13':s[i+k].toNat=13:=by rw [h13];rfl
      by_cases hl2:i+k+1=s.size
      ·rw [if_pos ⟨h13,by simpa using hl2⟩] at QAr
       have H:=hid (hsc.symm.trans QAr);clear QAr hsc h13;have ht2:((i:Int)+(k:Int)+1==(s.size:Int))=true:=by rw [beq_iff_eq];omega
       clear hl2;go_wp2_with fail;go_step3;refine And.intro (And.intro rfl (.inr (And.intro rfl ?_))) ?_
       ·refine ⟨3,?_⟩
        (repeat apply Exists.intro)
        exact ⟨rfl,by decide,by rw [H.out]⟩
       ·simp [Qm3];omega
      ·have hl3:i+k+1<s.size:=by omega
       have ht2:((i:Int)+(k:Int)+1==(s.size:Int))=false:=by rw [beq_eq_false_iff_ne];omega
       rw [if_neg (by simp;omega)] at QAr
       have h10e:s.data.toList[i+k+1]?=some s[i+k+1]:=by rw [List.getElem?_eq_getElem (by simpa using hl3)];rfl
       rw [h10e] at QAr;clear h10e hl2
       by_cases h10:s[i+k+1]=10
       ·rw [if_pos ⟨h13,by rw [h10]⟩] at QAr
        have h10':s[i+k+1].toNat=10:=by rw [h10];rfl
        have H:=hid (hsc.symm.trans QAr);clear QAr hsc h13 h10;go_wp2_with fail;simp only [Exit.jumps];go_ret3;exact ⟨congrArg Ending.returned (Qw4 s i k hi H.out),rfl⟩
       ·have h10':((s[i+k+1].toNat:Int)==10)=false:=by
         exact QyY _ _ h10
        rw [if_neg (by rintro ⟨_,h⟩;exact h10 (by simpa using h)),h13,if_pos (by decide)] at QAr
        have hpl:Qaz 13=false:=by decide
        have H:=hid (hsc.symm.trans QAr);clear QAr hsc h13 h10;go_wp2_with (go_at_call 211;refine (Qct _ _ (by decide)).mono ?_;rintro e w' ⟨rfl,rfl⟩)
        go_step3;refine And.intro (And.intro rfl (.inr (And.intro rfl ?_))) ?_
        ·refine ⟨4,?_⟩
         (repeat apply Exists.intro)
         exact ⟨rfl,by decide,by rw [H.out]⟩
        ·simp [Qm3];omega
     ·have h13':((s[i+k].toNat:Int)==13)=false:=by
       exact QyY _ _ h13
      rw [if_neg (by simp [h13]),if_neg (by simp [h13])] at QAr
      by_cases hpl:Qaz s[i+k].toNat=false
      ·rw [if_pos hpl] at QAr
       have H:=hid (hsc.symm.trans QAr);clear QAr hsc h13;go_wp2_with (go_at_call 211;refine (Qct _ _ hcb).mono ?_;rintro e w' ⟨rfl,rfl⟩);go_step3;refine And.intro (And.intro rfl (.inr (And.intro rfl ?_))) ?_
       ·refine ⟨4,?_⟩
        (repeat apply Exists.intro)
        exact ⟨rfl,by decide,by rw [H.out]⟩
       ·simp [Qm3];omega
      ·rw [if_neg hpl] at QAr
       have hpl':Qaz s[i+k].toNat=true:=by simpa using hpl
       clear hpl
       by_cases QBy:k=256
       ·rw [if_pos QBy] at QAr
        have H:=hid (hsc.symm.trans QAr);clear QAr hsc h13;subst QBy;go_wp2_with (go_at_call 211;refine (Qct _ _ hcb).mono ?_;rintro e w' ⟨rfl,rfl⟩);go_step3;refine And.intro (And.intro rfl (.inr (And.intro rfl ?_))) ?_
        ·refine ⟨5,?_⟩
         (repeat apply Exists.intro)
         exact ⟨rfl,by decide,by rw [H.out]⟩
        ·simp [Qm3];omega
       ·rw [if_neg QBy] at QAr
        have H:=hid (QAr.symm.trans hsc);clear QAr hsc h13;have hk2:k<256:=by omega
        have ht3:((k:Int)==256)=false:=by rw [beq_eq_false_iff_ne];omega
        clear QBy;go_wp2_with (go_at_call 211;refine (Qct _ _ hcb).mono ?_;rintro e w' ⟨rfl,rfl⟩);go_step3;refine And.intro (And.intro rfl (.inl (And.intro rfl ?_))) ?_
        ·refine ⟨k+1,?_⟩
         (repeat apply Exists.intro)
         exact ⟨rfl,by omega,by omega,by rw [←Nat.add_assoc];exact H.out⟩
        ·simp [Qm3,intOf];omega
   ·refine ⟨_,rfl,?_⟩
    have He:=hid hE;clear hE;go_wp2_with fail;simp only [Exit.jumps];go_ret3;exact ⟨congrArg Ending.returned (Qrz s i E hi hE0 He.out),rfl⟩
  ·intro H
   go_wp2_with fail;go_step3
   rename_i K hK
   refine hK _ _ (H 1 _ _ _ ?_ rfl);refine ⟨rfl,.inl ⟨rfl,0,?_⟩⟩
   (repeat apply Exists.intro)
   exact ⟨rfl,by omega,by omega,rfl⟩
theorem QuP(l:List UInt8)(k:Nat)(c:UInt8)(h:l[k]?=some c)(hp:Qaz c.toNat=false):Qa0 l=4:=by
 unfold Qa0;rw [if_pos];rw [List.all_eq_false];exact ⟨c,List.mem_of_getElem? h,by simp [hp]⟩
theorem Qr6(l:List UInt8)(h:∀ k (hk:k<l.length),Qaz l[k].toNat=true):Qa0 l=if 256<l.length then 5 else 0:=by
 unfold Qa0;rw [if_neg];simp only [Bool.not_eq_false,List.all_eq_true];intro c hc;obtain ⟨k,hk,rfl⟩:=List.getElem_of_mem hc;exact h k hk
def Qeh(s:ByteArray):ByteArray:=if Qa0 s.data.toList=0 then s++⟨#[13,10]⟩ else ⟨#[]⟩
theorem Qow(s:ByteArray)(E:Nat)(h0:E≠0)(h:Qa0 s.data.toList=E):Value.tuple #[.string ⟨#[]⟩,.int .i64 E]=Value.tuple #[.string (Qeh s),.int .i64 (Qa0 s.data.toList)]:=by
 unfold Qeh;rw [h,if_neg h0]
theorem QyV(s:ByteArray)(h:Qa0 s.data.toList=0):Value.tuple #[.string (s++⟨#[13,10]⟩),.int .i64 0]=Value.tuple #[.string (Qeh s),.int .i64 (Qa0 s.data.toList)]:=by
 unfold Qeh;rw [h,if_pos rfl];rfl
theorem QiV(s:ByteArray)(k:Nat)(h:∀ j,j<k→∀ hj:j<s.size,Qaz (s[j]'hj).toNat=true)(hk:k<s.size)(hp:Qaz s[k].toNat=true):∀ j,j<k+1→∀ hj:j<s.size,Qaz (s[j]'hj).toNat=true:=by
 intro j hj hjs
 by_cases e:j=k
 ·subst e;exact hp
 ·exact h j (by omega) hjs
theorem QfE(s:ByteArray)(w:World)(hs:s.size≤9223372036854775807) :
  Calls Tryz.prog 181 #[.string s] w fun e w'=>e = .returned (.tuple #[.string (Qeh s),.int .i64 (Qa0 s.data.toList)])∧w'=w:=by
 go_enter Tryz.func181,Tryz.ntmps181;go_wp2_with fail;go_loop [7] (fun j=>∃ k:Nat,k≤s.size∧j = .int .i64 k∧∀ j,j<k→∀ hj:j<s.size,Qaz (s[j]'hj).toNat=true) (fun j=>s.size-(intOf j).toNat)
 case atStart=>exact ⟨0,by omega,rfl,fun j hj=>by omega⟩
 case round=>
  obtain ⟨k,hk,rfl,hall⟩:=hrel;have Hall:=hid hall;clear hall
  by_cases hlt:k<s.size
  ·have hcb:s[k].toNat<256:=s[k].toNat_lt
   by_cases hpl:Qaz s[k].toNat=false
   ·have H:=hid (QuP s.data.toList k s[k] (by rw [List.getElem?_eq_getElem (by simpa using hlt)];rfl) hpl)
    go_wp2_with (go_at_call 211;refine (Qct _ _ hcb).mono ?_;rintro e w' ⟨rfl,rfl⟩);go_ret2;exact ⟨congrArg Ending.returned (Qow s 4 (by decide) H.out),rfl⟩
   ·have hpl':Qaz s[k].toNat=true:=by simpa using hpl
    clear hpl;have H:=hid (QiV s k Hall.out hlt hpl');go_wp2_with (go_at_call 211;refine (Qct _ _ hcb).mono ?_;rintro e w' ⟨rfl,rfl⟩);go_round
    case rel=>exact ⟨k+1,by omega,by go_num,H.out⟩
    case measure=>simp [intOf];omega
  ·have h:=Qr6 s.data.toList (fun j hj=>Hall.out j (by simp at hj;omega) (by simpa using hj))
   have hsz:s.data.toList.length=s.size:=by simp
   by_cases QBy:256<s.size
   ·rw [hsz,if_pos QBy] at h
    have H:=hid h;clear h hsz;go_wp2_with fail;go_ret2;exact ⟨congrArg Ending.returned (Qow s 5 (by decide) H.out),rfl⟩
   ·rw [hsz,if_neg QBy] at h
    have H:=hid h;clear h hsz;go_wp2_with fail;go_ret2;exact ⟨congrArg Ending.returned (QyV s H.out),rfl⟩
end
section
open Go.RowKit
def bs(l:List UInt8):ByteArray:=⟨l.toArray⟩
theorem Qaj(l:List UInt8):(bs l).data.toList=l:=by simp [bs]
theorem QaC(l:List UInt8):(bs l).size=l.length:=by simp [bs,ByteArray.size]
theorem Qcx(s:ByteArray):bs s.data.toList=s:=by cases s;simp [bs]
theorem Qab(s:ByteArray):s.data.toList.length=s.size:=by simp
def Qe4(xs:List (List UInt8)):List Value:=xs.map fun l=>.string (bs l)
theorem QcY(xs:List (List UInt8)):(Qe4 xs).length=xs.length:=by simp [Qe4]
theorem Qj5(xs:List (List UInt8))(j:Nat)(hj:j<xs.length):(Qe4 xs)[j]?=some (.string (bs xs[j])):=by
 unfold Qe4;rw [List.getElem?_map,List.getElem?_eq_getElem hj];rfl
theorem Qhz(xs ys:List (List UInt8)):Qe4 (xs++ys)=Qe4 xs++Qe4 ys:=by simp [Qe4]
theorem Qj4(l:List UInt8):Qe4 [l] = [.string (bs l)]:=rfl
def HoldsS(w:World)(v:Value)(xs:List (List UInt8)):Prop:=
 ∃ a c,v = .slice a xs.length c∧xs.length≤c∧(xs≠[]→∃ b o,a=some ⟨b,o,none⟩∧b<w.heap.size∧∀ j (hj:j<xs.length),w.cell? ⟨b,o+j,none⟩=some (.string (bs xs[j])))
theorem HoldsS.empty(w:World)(a:Option Addr)(c:Nat):HoldsS w (.slice a 0 c) []:=⟨a,c,rfl,Nat.zero_le _,fun h=>absurd rfl h⟩
theorem HoldsS.of_own{w:World}{base n:Nat}{e:TypeId}{v:Value}{xs:List (List UInt8)}(h:w.ownsRow base e 1 v n (Qe4 xs)):HoldsS w v xs:=by
 have hn:xs.length=n:=by have:=h.1;rw [QcY,Nat.mul_one] at this;exact this
 subst hn;rcases h.2 with ⟨rfl,h0⟩|⟨g,cap,cur,rfl,hb,hg,hle,hm,hs,ht⟩
 ·have:xs = []:=List.eq_nil_of_length_eq_zero h0
  subst this;exact HoldsS.empty w none 0
 ·refine ⟨_,cap,rfl,hle,fun _=>⟨g,0,rfl,(gsi hg).1,fun j hj=>?_⟩⟩
  have:=h.cells (g:=g) rfl j _ (Qj5 xs j hj);have e0:(⟨g,0,none⟩:Addr).add j=⟨g,0+j,none⟩:=by unfold Addr.add;split<;>simp_all
  rwa [e0] at this
theorem HoldsS.of_block{w:World}{b:Nat}{C:Array Value}{t:TypeId}{xs:List (List UInt8)}{n:Nat}(hb:w.heap[b]?=some (.cells C t (0,0)))(hC:C.toList=Qe4 xs)(hn:n=xs.length):HoldsS w (.slice (some ⟨b,0,none⟩) n n) xs:=by
 subst hn;refine ⟨_,_,rfl,Nat.le_refl _,fun _=>⟨b,0,rfl,(gsi hb).1,fun j hj=>?_⟩⟩
 rw [cell_of_row w b (0+j) C t (0,0) hb];rw [←Array.getElem?_toList,hC,Nat.zero_add];exact Qj5 xs j hj
theorem Qa4(w:World)(o:Obj):(w.alloc o).heap[w.heap.size]?=some o:=by
 show (w.heap.push o)[w.heap.size]?=_;simp
theorem Qaa{w0 w w':World}(h:Below w0.heap.size w0 w)(k:Below w.heap.size w w'):Below w0.heap.size w0 w':=h.trans (k.mono h.size)
theorem QbE{k:IntKind}{a b:Int}(h:a=b):Ending.returned (.int k a) = .returned (.int k b):=by rw [h]
theorem QdF{a b:ByteArray}(h:a=b):Ending.returned (.string a) = .returned (.string b):=by rw [h]
theorem Qcw(s:ByteArray)(a b:Nat):s.extract a b=bs ((s.data.toList.take b).drop a):=by
 have h:(s.extract a b).data.toList=(s.data.toList.take b).drop a:=by
  rw [Go.Lib.extract_data,List.drop_take]
 rw [←h,Qcx]
theorem QoU:(Tryz.prog.info? 9).map (fun i=>(i.zero,i.size,i.bytes))=some (some (.string ByteArray.empty),1,16):=by kernel_rfl
theorem Qra{ops:Array Oper}{rest:List Oper}{o:Oper}{a:Act}{Q:Exit→Act→World→Prop}(w0:World)(hgd:o.guard=none)(s x:Operand)
  (ho:o.op = .call { callee:=.builtin .append,args:=#[s,x],argTypes:=#[171,171] })
  (base:Nat) (v:Value) (xs:List (List UInt8)) (hs:a.eval s=v) (QAq:w0.ownsRow base 9 1 v xs.length (Qe4 xs))
  (b:ByteArray) (l:List UInt8) (hbl:b=bs l) (hx:a.eval x = .slice (some ⟨w0.heap.size,0,none⟩) 1 1) (hn:xs.length<2147483648) (QAv:base≤w0.heap.size)
  (h:∀ v' w',w'.ownsRow base 9 1 v' (xs++[l]).length (Qe4 (xs++[l]))→w0.grownBy w' v.ownBlock→v'≠.slice none 0 0→wpList Tryz.prog ops Q rest (a.put o.dst v') w') :
  wpList Tryz.prog ops Q (o :: rest) a (w0.alloc (.cells #[.string b] 9)):=by
 obtain ⟨i0,hi,hz0,hz1,hz2⟩:=info_parts QoU;subst hbl;refine wpList_append_own _ hgd s x 171 ho base 9 i0 _ 1 16 Tryz.underlying171 hi hz0 hz1 hz2 rfl (by decide) v xs.length (Qe4 xs) hs (QAq.alloc _) ⟨w0.heap.size,0,none⟩ 1 1 [.string (bs l)] hx rfl (cell_one_new w0 _ _) (by simp [Value.oneCell']) (by unfold maxLen;omega) (by omega) (by simp;omega) ?_
 intro v' w' h2 h3 h4;refine h v' w' ?_ ?_ (fun e=>by have:=(h4.1 e).2;omega)
 ·rw [List.length_append,Qhz,Qj4];exact h2
 ·exact ⟨h3.os,h3.tape,h3.output,Nat.le_trans (by simp) h3.size,fun k hk hne=>(h3.block k (by simp;omega) hne).trans (heap_alloc_old w0 _ hk)⟩
theorem Qf0{B:Nat}{w wr w':World}{base:Nat}{e:TypeId}{size:Nat}{v:Value}{n:Nat}{xs:List Value}(hb:Below B w wr)(hg:wr.grownBy w' v.ownBlock)(QAq:wr.ownsRow base e size v n xs)(hB:B≤base)(hB2:B≤wr.heap.size):Below B w w':=
 hb.grown hg hB2 fun k hk=>Nat.le_trans hB (QAq.lt k hk).1
theorem Qsn(w:World)(xs:List (List UInt8))(n:Nat)(hn:n=xs.length)(hm:xs.length≤maxLen) :
  (w.alloc (.cells (Qe4 xs).toArray 9)).ownsRow w.heap.size 9 1 (.slice (some ⟨w.heap.size,0,none⟩) n n) xs.length (Qe4 xs):=by
 subst hn;refine ⟨by rw [QcY,Nat.mul_one],.inr ⟨w.heap.size,_,_,rfl,Nat.le_refl _,Qa4 w _,Nat.le_refl _,hm,?_,?_⟩⟩
 ·rw [List.size_toArray,QcY,Nat.mul_one]
 ·rw [Nat.mul_one];exact List.take_of_length_le (by rw [QcY];exact Nat.le_refl _)
theorem QwO(x y:List UInt8):((bs x).toList==(bs y).toList)=decide (x=y):=by
 rw [ByteArray.toList_eq,ByteArray.toList_eq,Qaj,Qaj]
 by_cases h:x=y
 ·subst h;simp
 ·simp [h]
end
section
open Go.RowKit
theorem QdD(a b:List UInt8):bs a++bs b=bs (a++b):=by
 have:(bs a++bs b).data.toList=a++b:=by simp [bs]
 rw [←this,Qcx]
theorem Qpg(a b:ByteArray):(a++b).data.toList=a.data.toList++b.data.toList:=by simp
end
section
open Go.RowKit
structure BelowOf(w:World) where
 world:World
 below:Below w.heap.size w world
instance (w:World):Inhabited (BelowOf w):=⟨⟨w,Below.refl _ _⟩⟩
theorem Qac{P:Program}{id:Nat}{Q:Exit→Act→World→Prop}{a:Act}{w:World}{l:List Oper}(hm:P.follows .mixedOrders=true)(hB:Region.lexB .any l.toArray=true)
  (h:wpQuiet P l.toArray (fun w'=>∃ p:BelowOf w,w'=p.world) (fun a'=>∀ w',(∃ p:BelowOf w,w'=p.world)→Q .normal a' w') l a):(Code.region id l.toArray true).wp P Q a w:=
 wp_region_quiet (C:=fun w'=>∃ p:BelowOf w,w'=p.world) hm hB ⟨⟨w.drew,(Below.refl _ _).drew⟩,rfl⟩ (by simpa using h)
theorem Qav{P:Program}{f:FuncId}{args:Array Value}{w:World}{p:BelowOf w}{v:Value}
  (h:Calls P f args p.world fun e w'=>e = .returned v∧Below p.world.heap.size p.world w'):Calls P f args p.world fun e w''=>e = .returned v∧∃ q:BelowOf w,w''=q.world:=
 h.mono fun _ _ ⟨he,hb⟩=>⟨he,⟨_,Qaa p.below hb⟩,rfl⟩
theorem QeN{P:Program}{f:FuncId}{args:Array Value}{w:World}{p:BelowOf w}{v:Value}
  (h:Calls P f args p.world fun e w'=>e = .returned v∧w'=p.world):Calls P f args p.world fun e w''=>e = .returned v∧∃ q:BelowOf w,w''=q.world:=
 h.mono fun _ _ ⟨he,hw⟩=>⟨he,p,hw⟩
theorem QaN{w:World}(p:BelowOf w){a:Addr}{v:Value}(hb:a.block<w.heap.size)(h:w.cell? a=some v):p.world.cell? a=some v:=(p.below.cell hb).trans h
theorem QaM{w W:World}(h:∃ p:BelowOf w,W=p.world):Below w.heap.size w W:=let ⟨p,hp⟩:=h;hp ▸ p.below
end
section
abbrev Ent:=Nat×Nat×Nat×Nat
def Qwg:Nat:=6004799503160661
def Qdr:Nat:=1099511627776
def QcF(e:Ent):Nat:=if e.2.2.1=0 then 2 else if Qwg-max 1 e.2.2.2<e.1 then 8 else if Qdr<e.2.1∨Qdr<e.2.1+e.2.2.1 then 8 else 0
def QlO(e:Ent):Nat:=if QcF e=0 then e.1+max 1 e.2.2.2-1 else 0
def Qy8(e:Ent)(id:Nat):Bool:=QcF e==0&&(decide (0<e.2.2.2)&&(decide (e.1≤id)&&decide (id≤QlO e)))
def QmM:Nat→List Ent→Nat
 |_,[]=>0
 |free,e :: r=>if QcF e≠0 then QcF e else if e.1<free then 10 else QmM (QlO e+1) r
def QeC(l:List Ent):Nat:=if 4096<l.length then 21 else QmM 0 l
def Qbl(e:Ent):Prop:=e.1<18446744073709551616∧e.2.1<18446744073709551616∧e.2.2.1<4294967296∧e.2.2.2<4294967296
def vK(t:List UInt8):Nat:=(t.takeWhile fun b=>decide (128≤b.toNat)).length
def QmK:List UInt8→Nat
 |[]=>0
 |b :: r=>b.toNat%128+128*QmK r
def vN(t:List UInt8):Nat:=vK t+1
def vE(t:List UInt8):Nat:=
 if 10≤vK t then 11 else if vK t=t.length then 3 else if vK t=9∧1<(t.getD 9 0).toNat then 11 else if 0<vK t∧(t.getD (vK t) 0).toNat=0 then 4 else 0
def vX(t:List UInt8):Nat:=QmK (t.take (vN t))
def QdN(e:Ent):Nat:=(e.2.1+e.2.2.1)%18446744073709551616
def Qd5(c i:Nat)(Qaq e:Ent)(x:Nat):Nat×Ent:=
 if c=0 then ((if (Qaq.1+x)%18446744073709551616<x then 11 else 0),((Qaq.1+x)%18446744073709551616,e.2.1,e.2.2.1,e.2.2.2))
 else if c=1 then ((if 4294967296≤x then 11 else 0),(e.1,e.2.1,e.2.2.1,x))
 else if c=2 then ((if 4294967296≤x then 11 else 0),(e.1,e.2.1,x,e.2.2.2))
 else ((if (i=0∧x=0)∨(0<i∧0<x∧x-1=QdN Qaq) then 4 else 0),(e.1,(if x=0 then QdN Qaq else x-1),e.2.2.1,e.2.2.2))
def QfT(c:Nat):Nat→Ent→List Ent→List UInt8→Nat×List Ent×List UInt8
 |_,_,[],t=>(0,[],t)
 |i,Qaq,e :: r,t=>
  if vE t≠0 then (vE t,[],[])
  else if (Qd5 c i Qaq e (vX t)).1≠0 then ((Qd5 c i Qaq e (vX t)).1,[],[])
  else ((QfT c (i+1) (Qd5 c i Qaq e (vX t)).2 r (t.drop (vN t))).1,(Qd5 c i Qaq e (vX t)).2 :: (QfT c (i+1) (Qd5 c i Qaq e (vX t)).2 r (t.drop (vN t))).2.1,(QfT c (i+1) (Qd5 c i Qaq e (vX t)).2 r (t.drop (vN t))).2.2)
def QaZ:Ent:=(0,0,0,0)
def QdY:Nat→Nat→List Ent→List UInt8→Nat×List Ent
 |0,_,l,t=>if t≠[] then (4,[]) else if QeC l≠0 then (QeC l,[]) else (0,l)
 |k+1,c,l,t=>if (QfT c 0 QaZ l t).1≠0 then ((QfT c 0 QaZ l t).1,[]) else QdY k (c+1) (QfT c 0 QaZ l t).2.1 (QfT c 0 QaZ l t).2.2
def Qc4(s:List UInt8):Nat×List Ent:=
 if 65536<s.length then (5,[]) else if vE s≠0 then (vE s,[]) else if 4096<vX s then (21,[])
 else QdY 4 0 (List.replicate (vX s) QaZ) (s.drop (vN s))
def Qnz(k c i:Nat)(Qaq:Ent)(D r:List Ent)(t:List UInt8):Nat×List Ent:=
 if (QfT c i Qaq r t).1≠0 then ((QfT c i Qaq r t).1,[]) else QdY k (c+1) (D++(QfT c i Qaq r t).2.1) (QfT c i Qaq r t).2.2
theorem Qwb(k c:Nat)(l:List Ent)(t:List UInt8):QdY (k+1) c l t=Qnz k c 0 QaZ [] l t:=by
 unfold Qnz;rw [List.nil_append];rfl
theorem QxE(k c i:Nat)(Qaq:Ent)(D:List Ent)(t:List UInt8):Qnz k c i Qaq D [] t=QdY k (c+1) D t:=by
 unfold Qnz QfT;rw [if_neg (fun h=>h rfl),List.append_nil]
theorem Qwf(c i:Nat)(Qaq e:Ent)(r:List Ent)(t:List UInt8)(h:vE t≠0):QfT c i Qaq (e :: r) t=(vE t,[],[]):=by
 conv=>lhs;unfold QfT
 exact if_pos h
theorem Qwe(c i:Nat)(Qaq e:Ent)(r:List Ent)(t:List UInt8)(h:vE t=0)(hs:(Qd5 c i Qaq e (vX t)).1≠0):QfT c i Qaq (e :: r) t=((Qd5 c i Qaq e (vX t)).1,[],[]):=by
 conv=>lhs;unfold QfT
 rw [if_neg (fun h1=>h1 h),if_pos hs]
theorem QtN(c i:Nat)(Qaq e:Ent)(r:List Ent)(t:List UInt8)(h:vE t=0)(hs:(Qd5 c i Qaq e (vX t)).1=0):QfT c i Qaq (e :: r) t=((QfT c (i+1) (Qd5 c i Qaq e (vX t)).2 r (t.drop (vN t))).1,(Qd5 c i Qaq e (vX t)).2 :: (QfT c (i+1) (Qd5 c i Qaq e (vX t)).2 r (t.drop (vN t))).2.1,(QfT c (i+1) (Qd5 c i Qaq e (vX t)).2 r (t.drop (vN t))).2.2):=by
 conv=>lhs;unfold QfT
 rw [if_neg (fun h1=>h1 h),if_neg (fun h1=>h1 hs)]
theorem QxG(k c i:Nat)(Qaq:Ent)(D:List Ent)(e:Ent)(r:List Ent)(t:List UInt8)(h:vE t≠0):Qnz k c i Qaq D (e :: r) t=(vE t,[]):=by
 unfold Qnz;rw [Qwf c i Qaq e r t h];exact if_pos h
theorem Quz(k c i:Nat)(Qaq:Ent)(D:List Ent)(e:Ent)(r:List Ent)(t:List UInt8)(h:vE t=0)(hs:(Qd5 c i Qaq e (vX t)).1≠0):Qnz k c i Qaq D (e :: r) t=((Qd5 c i Qaq e (vX t)).1,[]):=by
 unfold Qnz;rw [Qwe c i Qaq e r t h hs];exact if_pos hs
theorem Qvb(k c i:Nat)(Qaq:Ent)(D:List Ent)(e:Ent)(r:List Ent)(t:List UInt8)(h:vE t=0)(hs:(Qd5 c i Qaq e (vX t)).1=0):Qnz k c i Qaq D (e :: r) t=Qnz k c (i+1) (Qd5 c i Qaq e (vX t)).2 (D++[(Qd5 c i Qaq e (vX t)).2]) r (t.drop (vN t)):=by
 unfold Qnz;rw [QtN c i Qaq e r t h hs,List.append_assoc];rfl
theorem QyO(t:List UInt8)(h:vE t=0):vK t<10∧vK t<t.length∧(vK t=9→(t.getD 9 0).toNat≤1):=by
 have hle:vK t≤t.length:=(List.takeWhile_prefix _).length_le;unfold vE at h;split at h
 ·cases h
 ·split at h
  ·cases h
  ·split at h
   ·cases h
   ·rename_i h1 h2 h3
    exact ⟨by omega,by omega,fun h4=>by
     have:=fun h5=>h3 ⟨h4,h5⟩
     omega⟩
theorem QyM(t:List UInt8)(h:vE t=0):vN t≤t.length:=(QyO t h).2.1
theorem Qj3(l:List UInt8):QmK l<128 ^ l.length:=by
 induction l with
 |nil=>decide
 |cons b r ih=>
  unfold QmK;rw [List.length_cons,Nat.pow_succ];have:b.toNat%128<128:=Nat.mod_lt _ (by decide)
  omega
theorem Qhy(l:List UInt8)(b:UInt8):QmK (l++[b])=QmK l+b.toNat%128*128 ^ l.length:=by
 induction l with
 |nil=>simp [QmK]
 |cons a r ih=>
  rw [List.cons_append];unfold QmK;rw [ih,List.length_cons,Nat.pow_succ,Nat.mul_add,←Nat.add_assoc,Nat.mul_comm 128 (b.toNat%128*128 ^ r.length),Nat.mul_assoc (b.toNat%128)]
theorem Qw1(t:List UInt8)(h:vE t=0):vX t<18446744073709551616:=by
 obtain ⟨h1,h2,h3⟩:=QyO t h;unfold vX vN
 by_cases h9:vK t=9
 ·have hb:=h3 h9
  have e:t.take (vK t+1)=t.take (vK t)++[t.getD (vK t) 0]:=by
   rw [List.take_succ_eq_append_getElem h2,List.getD_eq_getElem?_getD,List.getElem?_eq_getElem h2];rfl
  rw [e,Qhy,List.length_take,Nat.min_eq_left (Nat.le_of_lt h2)];have hs:=Qj3 (t.take (vK t));rw [List.length_take,Nat.min_eq_left (Nat.le_of_lt h2)] at hs;rw [h9] at hs ⊢;have:(t.getD 9 0).toNat%128≤1:=Nat.le_trans (Nat.mod_le _ _) hb;have h5:(128:Nat) ^ 9=9223372036854775808:=by decide
  rw [h5] at hs ⊢;have:(t.getD 9 0).toNat%128*9223372036854775808≤1*9223372036854775808:=Nat.mul_le_mul_right _ this;omega
 ·have hs:=Qj3 (t.take (vK t+1))
  rw [List.length_take,Nat.min_eq_left h2] at hs;have:(128:Nat) ^ (vK t+1)≤128 ^ 9:=Nat.pow_le_pow_right (by decide) (by omega)
  have h5:(128:Nat) ^ 9=9223372036854775808:=by decide
  omega
theorem QrI(c i:Nat)(Qaq e:Ent)(x:Nat)(ha:Qbl Qaq)(he:Qbl e)(hx:x<18446744073709551616)(h:(Qd5 c i Qaq e x).1=0):Qbl (Qd5 c i Qaq e x).2:=by
 unfold Qd5 at h ⊢;split
 ·exact ⟨Nat.mod_lt _ (by decide),he.2.1,he.2.2.1,he.2.2.2⟩
 ·rename_i h0
  rw [if_neg h0] at h;split
  ·rename_i h1
   rw [if_pos h1] at h;refine ⟨he.1,he.2.1,he.2.2.1,?_⟩;dsimp only at h ⊢;split at h
   ·cases h
   ·omega
  ·rename_i h1
   rw [if_neg h1] at h;split
   ·rename_i h2
    rw [if_pos h2] at h;refine ⟨he.1,he.2.1,?_,he.2.2.2⟩;dsimp only at h ⊢;split at h
    ·cases h
    ·omega
   ·refine ⟨he.1,?_,he.2.2.1,he.2.2.2⟩
    dsimp only;split
    ·exact Nat.mod_lt _ (by decide)
    ·omega
theorem QjR:Qbl QaZ:=by unfold Qbl QaZ;exact ⟨by decide,by decide,by decide,by decide⟩
theorem Qyo(c:Nat)(l:List Ent):∀ (i:Nat) (Qaq:Ent) (t:List UInt8),Qbl Qaq→(∀ e∈l,Qbl e)→(QfT c i Qaq l t).1=0→(∀ e∈(QfT c i Qaq l t).2.1,Qbl e)∧(QfT c i Qaq l t).2.1.length=l.length:=by
 induction l with
 |nil=>
  intro i Qaq t _ _ _;unfold QfT;exact ⟨fun e he=>(by cases he),rfl⟩
 |cons e r ih=>
  intro i Qaq t ha hl h;unfold QfT at h ⊢
  by_cases hv:vE t=0
  ·rw [if_neg (fun h1=>h1 hv)] at h ⊢
   by_cases hs:(Qd5 c i Qaq e (vX t)).1=0
   ·rw [if_neg (fun h1=>h1 hs)] at h ⊢
    have h0:=QrI c i Qaq e (vX t) ha (hl e List.mem_cons_self) (Qw1 t hv) hs;obtain ⟨g1,g2⟩:=ih (i+1) _ (t.drop (vN t)) h0 (fun x hx=>hl x (List.mem_cons_of_mem _ hx)) h
    refine ⟨fun x hx=>?_,by rw [List.length_cons,List.length_cons,g2]⟩
    rcases List.mem_cons.1 hx with rfl|hx
    ·exact h0
    ·exact g1 x hx
   ·rw [if_pos hs] at h
    exact absurd h hs
  ·rw [if_pos hv] at h
   exact absurd h hv
theorem Qwc(k:Nat):∀ (c:Nat) (l:List Ent) (t:List UInt8),(∀ e∈l,Qbl e)→(QdY k c l t).1=0→(∀ e∈(QdY k c l t).2,Qbl e)∧(QdY k c l t).2.length=l.length∧QeC (QdY k c l t).2=0:=by
 induction k with
 |zero=>
  intro c l t hl h;unfold QdY at h ⊢
  by_cases ht:t = []
  ·rw [if_neg (fun h1=>h1 ht)] at h ⊢
   by_cases hr:QeC l=0
   ·rw [if_neg (fun h1=>h1 hr)]
    exact ⟨hl,rfl,hr⟩
   ·rw [if_pos hr] at h;exact absurd h hr
  ·rw [if_pos ht] at h;cases h
 |succ k ih=>
  intro c l t hl h;unfold QdY at h ⊢
  by_cases hc:(QfT c 0 QaZ l t).1=0
  ·rw [if_neg (fun h1=>h1 hc)] at h ⊢
   obtain ⟨g1,g2⟩:=Qyo c l 0 QaZ t QjR hl hc;obtain ⟨f1,f2,f3⟩:=ih (c+1) _ _ g1 h;exact ⟨f1,f2.trans g2,f3⟩
  ·rw [if_pos hc] at h;exact absurd h hc
theorem Qn8(s:List UInt8)(h:(Qc4 s).1=0):(∀ e∈(Qc4 s).2,Qbl e)∧(Qc4 s).2.length≤4096∧QeC (Qc4 s).2=0:=by
 unfold Qc4 at h ⊢;split
 ·rename_i h1;rw [if_pos h1] at h;cases h
 ·rename_i h1
  rw [if_neg h1] at h;split
  ·rename_i h2;rw [if_pos h2] at h;exact absurd h h2
  ·rename_i h2
   rw [if_neg h2] at h;split
   ·rename_i h3;rw [if_pos h3] at h;cases h
   ·rename_i h3
    rw [if_neg h3] at h;obtain ⟨g1,g2,g3⟩:=Qwc 4 0 _ _ (fun e he=>by rw [List.eq_of_mem_replicate he];exact QjR) h
    rw [List.length_replicate] at g2;exact ⟨g1,by omega,g3⟩
theorem Qkg:∀ (l:List Ent) (free:Nat),QmM free l=0→∀ e∈l,QcF e=0
 |[],_,_=>fun e he=>by cases he
 |x :: r,free,h=>fun e he=>by
  unfold QmM at h
  by_cases hc:QcF x=0
  ·rw [if_neg (fun h1=>h1 hc)] at h
   by_cases hf:x.1<free
   ·rw [if_pos hf] at h;cases h
   ·rw [if_neg hf] at h
    rcases List.mem_cons.1 he with rfl|he
    ·exact hc
    ·exact Qkg r _ h e he
  ·rw [if_pos hc] at h;exact absurd h hc
theorem Qot(l:List Ent)(h:QeC l=0):∀ e∈l,QcF e=0:=by
 unfold QeC at h;split at h
 ·cases h
 ·exact Qkg l 0 h
theorem Qix(e:Ent)(h:QcF e=0):0<e.2.2.1∧e.2.1+e.2.2.1≤Qdr∧e.1≤Qwg-max 1 e.2.2.2:=by
 unfold QcF at h;split at h
 ·cases h
 ·split at h
  ·cases h
  ·split at h
   ·cases h
   ·rename_i h1 h2 h3
    exact ⟨by omega,Classical.byContradiction fun h4=>h3 (.inr (by omega)),by omega⟩
def bsM(l:List Ent)(key:Nat):Nat→Nat→Nat→Nat
 |0,a,_=>a
 |n+1,a,b=>if a<b then (if (l.getD ((a+b)/2) QaZ).1≤key then bsM l key n ((a+b)/2+1) b else bsM l key n a ((a+b)/2)) else a
theorem Qt2(l:List Ent)(key:Nat):∀ (n a b:Nat),a≤b→bsM l key n a b≤b
 |0,a,b,h=>h
 |n+1,a,b,h=>by
  unfold bsM;split
  ·split
   ·exact Qt2 l key n _ b (by omega)
   ·exact Nat.le_trans (Qt2 l key n a _ (by omega)) (by omega)
  ·exact h
theorem Qwm(l:List Ent)(key n a b:Nat)(h:b≤a):bsM l key n a b=a:=by
 cases n with
 |zero=>rfl
 |succ n=>unfold bsM;rw [if_neg (by omega)]
def Qcc(l:List Ent)(key:Nat):Nat:=bsM l key l.length 0 l.length
theorem QhV(l:List Ent)(key:Nat):Qcc l key≤l.length:=Qt2 l key _ _ _ (Nat.zero_le _)
def QeU(l:List Ent)(key:Nat):Option Ent:=
 if QeC l≠0∨Qcc l key=0 then none
 else if 0<(l.getD (Qcc l key-1) QaZ).2.2.2∧Qy8 (l.getD (Qcc l key-1) QaZ) key=false then none
 else some (l.getD (Qcc l key-1) QaZ)
theorem Qtu(l:List Ent)(key:Nat)(e:Ent)(h:QeU l key=some e):e∈l∧QcF e=0:=by
 unfold QeU at h;split at h
 ·cases h
 ·split at h
  ·cases h
  ·rename_i h1 _
   have hp:=QhV l key;have h2:Qcc l key-1<l.length:=by
    have:Qcc l key≠0:=fun e=>h1 (.inr e)
    omega
   have hm:l.getD (Qcc l key-1) QaZ∈l:=by
    rw [List.getD_eq_getElem?_getD,List.getElem?_eq_getElem h2];exact List.getElem_mem h2
   injection h with h
   subst h;exact ⟨hm,Qot l (Classical.byContradiction fun e=>h1 (.inl e)) _ hm⟩
end
section
open Go.RowKit
theorem QcN(w:World)(x y z u:Value)(t:TypeId):(w.alloc (.cells #[x,y,z,u] t)).cell? ⟨w.heap.size,0,none⟩=some x∧(w.alloc (.cells #[x,y,z,u] t)).cell? ⟨w.heap.size,1,none⟩=some y∧(w.alloc (.cells #[x,y,z,u] t)).cell? ⟨w.heap.size,2,none⟩=some z∧(w.alloc (.cells #[x,y,z,u] t)).cell? ⟨w.heap.size,3,none⟩=some u:=by
 have h:=heap_alloc_new w (.cells #[x,y,z,u] t);refine ⟨?_,?_,?_,?_⟩<;>(unfold World.cell?;rw [h];rfl)
theorem QaJ(w:World)(x y z u:Value)(t:TypeId):Below w.heap.size w (w.alloc (.cells #[x,y,z,u] t)):=(Below.refl _ _).alloc (Nat.le_refl _) _
theorem QjI(i o n r:Nat)(w:World)(hr:r<4294967296) :
  Calls Tryz.prog 140 #[.agg #[.int .u64 i,.int .u64 o,.int .u32 n,.int .u32 r]] w fun e w'=>e = .returned (.int .u64 ((max 1 r:Nat):Int))∧Below w.heap.size w w':=by
 obtain ⟨c0,c1,c2,c3⟩:=QcN w (.int .u64 i) (.int .u64 o) (.int .u32 n) (.int .u32 r) 86;go_enter Tryz.func140,Tryz.ntmps140;go_wp2_with fail
 all_goals
  go_ret;exact ⟨QbE (by omega),QaJ w _ _ _ _ _⟩
theorem QtH(i o n r:Nat)(w:World)(ho:o≤Qdr)(hn:n<4294967296) :
  Calls Tryz.prog 168 #[.agg #[.int .u64 i,.int .u64 o,.int .u32 n,.int .u32 r]] w fun e w'=>e = .returned (.int .u64 ((o+n:Nat):Int))∧Below w.heap.size w w':=by
 obtain ⟨c0,c1,c2,c3⟩:=QcN w (.int .u64 i) (.int .u64 o) (.int .u32 n) (.int .u32 r) 86;unfold Qdr at ho;go_enter Tryz.func168,Tryz.ntmps168;go_wp2_with fail;go_ret;exact ⟨QbE (by omega),QaJ w _ _ _ _ _⟩
theorem Qw9(i o n r:Nat)(w:World) :
  Calls Tryz.prog 90 #[.agg #[.int .u64 i,.int .u64 o,.int .u32 n,.int .u32 r]] w fun e w'=>e = .returned (.int .u64 (i:Int))∧Below w.heap.size w w':=by
 obtain ⟨c0,c1,c2,c3⟩:=QcN w (.int .u64 i) (.int .u64 o) (.int .u32 n) (.int .u32 r) 86;go_enter Tryz.func90,Tryz.ntmps90;go_wp2_with fail;go_ret;exact ⟨rfl,QaJ w _ _ _ _ _⟩
theorem Qmi(i o n r:Nat)(w:World)(hn:n<4294967296) :
  Calls Tryz.prog 170 #[.agg #[.int .u64 i,.int .u64 o,.int .u32 n,.int .u32 r]] w fun e w'=>e = .returned (.int .u64 (QdN (i,o,n,r):Nat))∧Below w.heap.size w w':=by
 obtain ⟨c0,c1,c2,c3⟩:=QcN w (.int .u64 i) (.int .u64 o) (.int .u32 n) (.int .u32 r) 86;go_enter Tryz.func170,Tryz.ntmps170;go_wp2_with fail;go_ret;exact ⟨QbE (by unfold QdN;simp only [IntKind.wrap_u64];omega),QaJ w _ _ _ _ _⟩
end
section
def leN:List UInt8→Nat
 |[]=>0
 |b :: r=>b.toNat+256*leN r
theorem QwH(l:List UInt8):leN l<256 ^ l.length:=by
 induction l with
 |nil=>decide
 |cons b r ih=>
  unfold leN;rw [List.length_cons,Nat.pow_succ];have:b.toNat<256:=b.toNat_lt;omega
theorem Qvo(l:List UInt8)(b:UInt8):leN (l++[b])=leN l+b.toNat*256 ^ l.length:=by
 induction l with
 |nil=>simp [leN]
 |cons a r ih=>
  rw [List.cons_append];unfold leN;rw [ih,List.length_cons,Nat.pow_succ,Nat.mul_add,←Nat.add_assoc,Nat.mul_comm 256 (b.toNat*256 ^ r.length),Nat.mul_assoc b.toNat]
def atN(s:List UInt8)(a n:Nat):Nat:=leN ((s.drop a).take n)
theorem Qpl(s:List UInt8)(a n:Nat):atN s a n<256 ^ n:=by
 unfold atN;refine Nat.lt_of_lt_of_le (QwH _) (Nat.pow_le_pow_right (by decide) ?_)
 rw [List.length_take];exact Nat.min_le_left _ _
def QiL(x:Nat):Int:=if x<2147483648 then (x:Int) else (x:Int)-4294967296
structure Hdr where
 rf:Nat
 rl:Nat
 mf:Nat
 ml:Nat
 lf:Nat
 ll:Nat
 df:Nat
 dl:Nat
 ad:Nat
 en:Nat
 co:Nat
 cl:Bool
 inn:Nat
 out:Nat
 kd:Nat
 z0:Int
 z1:Int
 x0:Int
 y0:Int
 x1:Int
 y1:Int
 zo:Int
 lo:Int
 la:Int
def Qel:List UInt8:=[80,77,84,105,108,101,115]
def QmO(s:List UInt8):Hdr:=
 { rf:=atN s 8 8,rl:=atN s 16 8,mf:=atN s 24 8,ml:=atN s 32 8,lf:=atN s 40 8,ll:=atN s 48 8,df:=atN s 56 8,dl:=atN s 64 8,ad:=atN s 72 8,en:=atN s 80 8,co:=atN s 88 8,cl:=decide (atN s 96 1=1),inn:=atN s 97 1,out:=atN s 98 1,kd:=atN s 99 1,z0:=(atN s 100 1:Nat),z1:=(atN s 101 1:Nat),x0:=QiL (atN s 102 4),y0:=QiL (atN s 106 4),x1:=QiL (atN s 110 4),y1:=QiL (atN s 114 4),zo:=(atN s 118 1:Nat),lo:=QiL (atN s 119 4),la:=QiL (atN s 123 4) }
def Qw0:Hdr:=⟨0,0,0,0,0,0,0,0,0,0,0,false,0,0,0,0,0,0,0,0,0,0,0,0⟩
def QmL(f l:Nat):Bool:=decide (f≤Qdr)&&(decide (l≤Qdr)&&decide (f+l≤Qdr))
def Qd6(h:Hdr):Bool:=QmL h.rf h.rl&&(QmL h.mf h.ml&&(QmL h.lf h.ll&&QmL h.df h.dl))
def inB(lo hi x:Int):Bool:=decide (lo≤x)&&decide (x≤hi)
def QjM(h:Hdr):Nat:=
 if Qd6 h=false then 8
 else if 4<h.inn∨4<h.out∨5<h.kd then 14
 else if (inB 0 26 h.z0&&(inB 0 26 h.z1&&inB 0 26 h.zo))=false∨h.z1<h.z0 then 8
 else if (inB (-1800000000) 1800000000 h.x0&&(inB (-1800000000) 1800000000 h.x1&&inB (-1800000000) 1800000000 h.lo))=false∨h.x1<h.x0 then 8
 else if (inB (-900000000) 900000000 h.y0&&(inB (-900000000) 900000000 h.y1&&inB (-900000000) 900000000 h.la))=false∨h.y1<h.y0 then 8
 else 0
def Qfj(s:List UInt8):Nat:=if s.length<127 then 3 else if s.take 7≠Qel then 12 else if (s.getD 7 0).toNat≠3 then 13 else if 1<atN s 96 1 then 4 else QjM (QmO s)
def QnY(h:Hdr)(n:Nat):Nat:=
 if h.inn≠1∨h.out≠1 then 14 else if n<h.rf+h.rl∨n<h.mf+h.ml∨n<h.lf+h.ll∨n<h.df+h.dl then 8 else if 16384<h.rf+h.rl then 8 else 0
theorem Qiw(h:Hdr)(hc:QjM h=0):Qd6 h=true:=by
 unfold QjM at hc;split at hc
 ·cases hc
 ·rename_i hs
  cases hh:Qd6 h
  ·exact absurd hh hs
  ·rfl
theorem Qkd(f l:Nat)(h:QmL f l=true):f≤Qdr∧l≤Qdr∧f+l≤Qdr:=by
 unfold QmL at h;rw [Bool.and_eq_true,Bool.and_eq_true,decide_eq_true_eq,decide_eq_true_eq,decide_eq_true_eq] at h;exact h
theorem Qkc(h:Hdr)(hs:Qd6 h=true):(h.rf≤Qdr∧h.rl≤Qdr∧h.rf+h.rl≤Qdr)∧(h.mf≤Qdr∧h.ml≤Qdr∧h.mf+h.ml≤Qdr)∧(h.lf≤Qdr∧h.ll≤Qdr∧h.lf+h.ll≤Qdr)∧(h.df≤Qdr∧h.dl≤Qdr∧h.df+h.dl≤Qdr):=by
 unfold Qd6 at hs;rw [Bool.and_eq_true,Bool.and_eq_true,Bool.and_eq_true] at hs;exact ⟨Qkd _ _ hs.1,Qkd _ _ hs.2.1,Qkd _ _ hs.2.2.1,Qkd _ _ hs.2.2.2⟩
def Qep(f:List UInt8):List UInt8:=f.take 16384
def Qb6(f:List UInt8):Hdr:=QmO (Qep f)
def Qd8(f:List UInt8)(a n:Nat):List UInt8:=(f.drop a).take n
def Qg1(f:List UInt8):Nat:=if f.length<127 then 3 else if Qfj (Qep f)≠0 then Qfj (Qep f) else QnY (Qb6 f) f.length
def Qdw(f:List UInt8):List UInt8:=Qd8 f (Qb6 f).rf (Qb6 f).rl
def Qcn(f:List UInt8):Nat:=if Qg1 f≠0 then Qg1 f else (Qc4 (Qdw f)).1
theorem QoE(f:List UInt8)(h:Qg1 f=0):127≤f.length∧Qfj (Qep f)=0∧QnY (Qb6 f) f.length=0∧Qd6 (Qb6 f)=true:=by
 unfold Qg1 at h
 by_cases h1:f.length<127
 ·rw [if_pos h1] at h;cases h
 rw [if_neg h1] at h
 by_cases h2:Qfj (Qep f)=0
 ·rw [if_neg (fun e=>e h2)] at h
  refine ⟨by omega,h2,h,?_⟩
  unfold Qfj at h2;split at h2
  ·cases h2
  ·split at h2
   ·cases h2
   ·split at h2
    ·cases h2
    ·split at h2
     ·cases h2
     ·exact Qiw _ h2
 ·rw [if_pos h2] at h;exact absurd h h2
theorem QnX(h:Hdr)(n:Nat)(hf:QnY h n=0):h.rf+h.rl≤n∧h.mf+h.ml≤n∧h.lf+h.ll≤n∧h.df+h.dl≤n∧h.rf+h.rl≤16384:=by
 unfold QnY at hf;split at hf
 ·cases hf
 ·split at hf
  ·cases hf
  ·split at hf
   ·cases hf
   ·omega
theorem QpQ(f:List UInt8)(h:Qg1 f=0):Qdw f=Qd8 (Qep f) (Qb6 f).rf (Qb6 f).rl:=by
 obtain ⟨-,-,h3,-⟩:=QoE f h;obtain ⟨-,-,-,-,g⟩:=QnX _ _ h3;unfold Qdw Qd8 Qep;rw [List.drop_take,List.take_take,Nat.min_eq_left (by omega)]
def Qda(l:Nat)(most:Nat)(x:Ent):Nat:=if l<x.2.1+x.2.2.1 then 8 else if most<x.2.2.1 then 5 else 0
theorem Qoz(l most:Nat)(x:Ent)(h:Qda l most x=0):x.2.1+x.2.2.1≤l∧x.2.2.1≤most:=by
 unfold Qda at h;split at h
 ·cases h
 ·split at h
  ·cases h
  ·omega
def Qop(f:List UInt8)(id:Nat):Nat→List Ent→Nat×List UInt8×Bool
 |d,l=>
  match QeU l id with
  |none=>(0,[],false)
  |some x=>
   if 0<x.2.2.2 then
    (if Qda (Qb6 f).dl 65536 x≠0 then (Qda (Qb6 f).dl 65536 x,[],false) else (0,Qd8 f ((Qb6 f).df+x.2.1) x.2.2.1,true))
   else match d with
    |0=>(20,[],false)
    |d+1=>
     if Qda (Qb6 f).ll 65536 x≠0 then (Qda (Qb6 f).ll 65536 x,[],false)
     else if (Qc4 (Qd8 f ((Qb6 f).lf+x.2.1) x.2.2.1)).1≠0 then ((Qc4 (Qd8 f ((Qb6 f).lf+x.2.1) x.2.2.1)).1,[],false)
     else Qop f id d (Qc4 (Qd8 f ((Qb6 f).lf+x.2.1) x.2.2.1)).2
def QpE(f:List UInt8)(id:Nat):Nat×List UInt8×Bool:=
 if Qcn f≠0 then (Qcn f,[],false) else Qop f id 2 (Qc4 (Qdw f)).2
theorem Qur(f:List UInt8)(id d:Nat)(l:List Ent)(h:QeU l id=none):Qop f id d l=(0,[],false):=by
 unfold Qop;rw [h]
theorem Quq(f:List UInt8)(id d:Nat)(l:List Ent)(x:Ent)(h:QeU l id=some x)(hr:0<x.2.2.2):Qop f id d l=(if Qda (Qb6 f).dl 65536 x≠0 then (Qda (Qb6 f).dl 65536 x,[],false) else (0,Qd8 f ((Qb6 f).df+x.2.1) x.2.2.1,true)):=by
 unfold Qop;rw [h];exact if_pos hr
theorem Qus(f:List UInt8)(id:Nat)(l:List Ent)(x:Ent)(h:QeU l id=some x)(hr:x.2.2.2=0):Qop f id 0 l=(20,[],false):=by
 unfold Qop;rw [h];exact if_neg (by omega)
theorem QyL(f:List UInt8)(id d:Nat)(l:List Ent)(x:Ent)(h:QeU l id=some x)(hr:x.2.2.2=0):Qop f id (d+1) l=(if Qda (Qb6 f).ll 65536 x≠0 then (Qda (Qb6 f).ll 65536 x,[],false)
     else if (Qc4 (Qd8 f ((Qb6 f).lf+x.2.1) x.2.2.1)).1≠0 then ((Qc4 (Qd8 f ((Qb6 f).lf+x.2.1) x.2.2.1)).1,[],false)
     else Qop f id d (Qc4 (Qd8 f ((Qb6 f).lf+x.2.1) x.2.2.1)).2):=by
 conv=>lhs;unfold Qop
 rw [h];exact if_neg (by omega)
end
section
def Qcl:Nat→Nat→List UInt8
 |0,x=>[UInt8.ofNat x]
 |k+1,x=>if x<128 then [UInt8.ofNat x] else UInt8.ofNat (x%128+128) :: Qcl k (x/128)
def Qe6(x:Nat):List UInt8:=Qcl 9 x
theorem Qji(k:Nat):∀ x,x<128 ^ (k+1)→(∀ r,vK (Qcl k x++r)+1=(Qcl k x).length)∧QmK (Qcl k x)=x∧(Qcl k x).length≤k+1∧
  (∀ r,(((Qcl k x)++r).getD ((Qcl k x).length-1) 0).toNat=x/128 ^ ((Qcl k x).length-1))∧x/128 ^ ((Qcl k x).length-1)<128∧(1<(Qcl k x).length→x/128 ^ ((Qcl k x).length-1)≠0):=by
 have one:∀ x,x<128→(∀ r,vK ([UInt8.ofNat x]++r)+1 = [UInt8.ofNat x].length)∧QmK [UInt8.ofNat x]=x∧(∀ r,(([UInt8.ofNat x]++r).getD ([UInt8.ofNat x].length-1) 0).toNat=x/128 ^ ([UInt8.ofNat x].length-1))∧x/128 ^ ([UInt8.ofNat x].length-1)<128:=by
  intro x hx;have ht:(UInt8.ofNat x).toNat=x:=by rw [UInt8.toNat_ofNat'];omega
  refine ⟨fun r=>?_,?_,fun r=>?_,?_⟩
  ·unfold vK
   rw [List.singleton_append,List.takeWhile_cons,ht,decide_eq_false (by omega)];rfl
  ·unfold QmK QmK
   rw [ht];omega
  ·show (UInt8.ofNat x).toNat=x/128 ^ 0
   rw [ht,Nat.pow_zero,Nat.div_one]
  ·show x/128 ^ 0<128
   rw [Nat.pow_zero,Nat.div_one];exact hx
 induction k with
 |zero=>
  intro x hx;obtain ⟨h1,h2,h3,h4⟩:=one x (by simpa using hx)
  unfold Qcl;exact ⟨h1,h2,Nat.le_refl _,h3,h4,fun h=>by simp at h⟩
 |succ k ih=>
  intro x hx;unfold Qcl
  by_cases hl:x<128
  ·rw [if_pos hl]
   obtain ⟨h1,h2,h3,h4⟩:=one x hl;exact ⟨h1,h2,by simp,h3,h4,fun h=>by simp at h⟩
  ·rw [if_neg hl]
   have hq:x/128<128 ^ (k+1):=by
    rw [Nat.div_lt_iff_lt_mul (by decide),←Nat.pow_succ];exact hx
   obtain ⟨h1,h2,h3,h4,h5,h6⟩:=ih (x/128) hq;have ht:(UInt8.ofNat (x%128+128)).toNat=x%128+128:=by rw [UInt8.toNat_ofNat'];omega
   have QAU:0<(Qcl k (x/128)).length:=by have:=h1 [];omega
   have hL:(UInt8.ofNat (x%128+128) :: Qcl k (x/128)).length-1=(Qcl k (x/128)).length-1+1:=by rw [List.length_cons];omega
   have hdiv:x/128 ^ ((Qcl k (x/128)).length-1+1)=x/128/128 ^ ((Qcl k (x/128)).length-1):=by
    rw [Nat.pow_succ,Nat.mul_comm,Nat.div_div_eq_div_mul]
   refine ⟨fun r=>?_,?_,by rw [List.length_cons];omega,fun r=>?_,?_,fun _=>?_⟩
   ·have:=h1 r
    unfold vK at this ⊢;rw [List.cons_append,List.takeWhile_cons,ht,decide_eq_true (by omega),if_pos rfl,List.length_cons,List.length_cons]
    omega
   ·unfold QmK
    rw [ht,h2];omega
   ·rw [hL,hdiv,List.cons_append]
    exact h4 r
   ·rw [hL,hdiv];exact h5
   ·rw [hL,hdiv]
    by_cases QAA:1<(Qcl k (x/128)).length
    ·exact h6 QAA
    ·have:(Qcl k (x/128)).length-1=0:=by omega
     rw [this,Nat.pow_zero,Nat.div_one];omega
theorem Qlr(x:Nat)(hx:x<18446744073709551616)(r:List UInt8):vE (Qe6 x++r)=0∧vX (Qe6 x++r)=x∧vN (Qe6 x++r)=(Qe6 x).length∧(Qe6 x++r).drop (vN (Qe6 x++r))=r:=by
 have hp:x<128 ^ (9+1):=Nat.lt_of_lt_of_le hx (by decide)
 obtain ⟨h1,h2,h3,h4,h5,h6⟩:=Qji 9 x hp;have h1:=h1 r;have h4:=h4 r;have hn:vN (Qe6 x++r)=(Qe6 x).length:=by unfold vN;exact h1
 have hk:vK (Qe6 x++r)=(Qcl 9 x).length-1:=by unfold Qe6;omega
 refine ⟨?_,?_,hn,by rw [hn,List.drop_left]⟩
 ·unfold vE
  rw [if_neg (by rw [hk];omega),if_neg (by rw [hk,List.length_append];unfold Qe6;omega),if_neg,if_neg]
  ·rintro ⟨g1,g2⟩
   rw [hk] at g1 g2;unfold Qe6 at g2;rw [h4] at g2;exact h6 (by omega) g2
  ·rintro ⟨g1,g2⟩
   rw [hk] at g1;rw [g1] at h4;unfold Qe6 at g2;rw [h4] at g2;have:x/128 ^ 9≤1:=by
    have h9:(128:Nat) ^ 9=9223372036854775808:=by decide
    rw [h9];omega
   omega
 ·unfold vX
  rw [hn,List.take_left];exact h2
theorem Qox(x:Nat)(hx:x<18446744073709551616):0<(Qe6 x).length∧(Qe6 x).length≤10:=by
 have hp:x<128 ^ (9+1):=Nat.lt_of_lt_of_le hx (by decide)
 obtain ⟨h1,h2,h3,-⟩:=Qji 9 x hp;have h1:=h1 [];unfold Qe6;omega
def Qnv(c i:Nat)(Qaq e:Ent):Nat:=
 if c=0 then e.1-Qaq.1 else if c=1 then e.2.2.2 else if c=2 then e.2.2.1 else if 0<i∧e.2.1=QdN Qaq then 0 else e.2.1+1
def Qdp(c:Nat):Nat→Ent→List Ent→List Nat
 |_,_,[]=>[]
 |i,Qaq,e :: r=>Qnv c i Qaq e :: Qdp c (i+1) e r
def Qej(l:List Ent):List Nat:=l.length :: (Qdp 0 0 QaZ l++Qdp 1 0 QaZ l++Qdp 2 0 QaZ l++Qdp 3 0 QaZ l)
def QaX(l:List Nat):List UInt8:=l.flatMap Qe6
def QfQ(l:List Ent):List UInt8:=QaX (Qej l)
theorem Qcd(a b:List Nat):QaX (a++b)=QaX a++QaX b:=by unfold QaX;rw [List.flatMap_append]
theorem Qc5(c:Nat)(l:List Ent):∀ (i:Nat) (Qaq:Ent),(Qdp c i Qaq l).length=l.length:=by
 induction l with
 |nil=>intro i Qaq;rfl
 |cons e r ih=>intro i Qaq;unfold Qdp;rw [List.length_cons,ih,List.length_cons]
theorem QlB(l:List Ent):(Qej l).length=1+4*l.length:=by
 unfold Qej;rw [List.length_cons,List.length_append,List.length_append,List.length_append,Qc5,Qc5,Qc5,Qc5];omega
def Qrf(c:Nat)(e0 e:Ent):Ent:=
 if c=0 then (e.1,e0.2.1,e0.2.2.1,e0.2.2.2) else if c=1 then (e0.1,e0.2.1,e0.2.2.1,e.2.2.2) else if c=2 then (e0.1,e0.2.1,e.2.2.1,e0.2.2.2) else (e0.1,e.2.1,e0.2.2.1,e0.2.2.2)
def QpR:Nat→List Ent→Prop
 |_,[]=>True
 |a,e :: r=>a≤e.1∧QpR e.1 r
theorem Qki:∀ (l:List Ent) (free a:Nat),a≤free→QmM free l=0→QpR a l
 |[],_,_,_,_=>trivial
 |e :: r,free,a,ha,h=>by
  unfold QmM at h
  by_cases hc:QcF e=0
  ·rw [if_neg (fun x=>x hc)] at h
   by_cases hf:e.1<free
   ·rw [if_pos hf] at h;cases h
   ·rw [if_neg hf] at h
    refine ⟨by omega,Qki r _ _ ?_ h⟩
    unfold QlO;rw [if_pos hc];have:1≤max 1 e.2.2.2:=Nat.le_max_left _ _;omega
  ·rw [if_pos hc] at h;exact absurd h hc
theorem Qhl(c:Nat)(l:List Ent):∀ (i:Nat) (ah ah':Ent) (L0:List Ent) (rest:List UInt8),L0.length=l.length→(∀ e∈l,Qbl e∧QcF e=0)→c<4→ah.1=ah'.1∨c≠0→(c=3→∀ j,(L0.getD j QaZ).2.2.1=(l.getD j QaZ).2.2.1)→(c=3→0<i→QdN ah=QdN ah')→QpR ah'.1 l∨c≠0→
  QfT c i ah L0 (QaX (Qdp c i ah' l)++rest)=(0,List.zipWith (Qrf c) L0 l,rest):=by
 induction l with
 |nil=>
  intro i ah ah' L0 rest hl _ _ _ _ _ _;cases L0 with
  |nil=>rfl
  |cons _ _=>cases hl
 |cons e r ih=>
  intro i ah ah' L0 rest hl hok hc h0 h3 hn hr;cases L0 with
  |nil=>cases hl
  |cons e0 L0=>
   obtain ⟨⟨o1,o2,o3,o4⟩,hck⟩:=hok e List.mem_cons_self;obtain ⟨k1,k2,k3⟩:=Qix e hck;have QAK:Qdr=1099511627776:=rfl;have hx:Qnv c i ah' e<18446744073709551616:=by
    unfold Qnv;split
    ·omega
    ·split
     ·omega
     ·split
      ·omega
      ·split<;>omega
   unfold Qdp;have hla:QaX (Qnv c i ah' e :: Qdp c (i+1) e r)=Qe6 (Qnv c i ah' e)++QaX (Qdp c (i+1) e r):=by unfold QaX;rw [List.flatMap_cons]
   rw [hla,List.append_assoc];obtain ⟨g1,g2,g3,g4⟩:=Qlr (Qnv c i ah' e) hx (QaX (Qdp c (i+1) e r)++rest);have QAX:Qd5 c i ah e0 (Qnv c i ah' e)=(0,Qrf c e0 e):=by
    unfold Qd5 Qrf Qnv
    by_cases c0:c=0
    ·rw [if_pos c0,if_pos c0,if_pos c0]
     have e1:=h0.resolve_right (fun x=>x c0)
     have e2:=(hr.resolve_right (fun x=>x c0)).1
     have e3:(ah.1+(e.1-ah'.1))%18446744073709551616=e.1:=by rw [e1];omega
     rw [e3,if_neg (by omega)]
    ·rw [if_neg c0,if_neg c0,if_neg c0]
     by_cases c1:c=1
     ·rw [if_pos c1,if_pos c1,if_pos c1,if_neg (by omega)]
     ·rw [if_neg c1,if_neg c1,if_neg c1]
      by_cases c2:c=2
      ·rw [if_pos c2,if_pos c2,if_pos c2,if_neg (by omega)]
      ·rw [if_neg c2,if_neg c2,if_neg c2]
       have c3:c=3:=by omega
       by_cases hz:0<i∧e.2.1=QdN ah'
       ·rw [if_pos hz,if_neg (by omega),if_pos rfl,hn c3 hz.1,←hz.2]
       ·have hcond:¬((i=0∧e.2.1+1=0)∨(0<i∧0<e.2.1+1∧e.2.1+1-1=QdN ah)):=by
         rintro (h|⟨h1,-,h2⟩)
         ·omega
         ·rw [Nat.add_sub_cancel] at h2
          exact hz ⟨h1,by rw [h2];exact hn c3 h1⟩
        rw [if_neg hz,if_neg hcond,if_neg (by omega),Nat.add_sub_cancel]
   unfold QfT;rw [g1,if_neg (fun x=>x rfl),g2,QAX,if_neg (fun x=>x rfl),g4]
   have hih:=ih (i+1) (Qrf c e0 e) e L0 rest (by simpa using hl) (fun x hx=>hok x (List.mem_cons_of_mem _ hx)) hc ?_ ?_ ?_ ?_
   ·rw [hih];rfl
   ·by_cases c0:c=0
    ·left;unfold Qrf;rw [if_pos c0]
    ·exact .inr c0
   ·intro c3 j
    exact h3 c3 (j+1)
   ·intro c3 _
    have hl0:=h3 c3 0;have hl0':e0.2.2.1=e.2.2.1:=hl0;unfold QdN Qrf;rw [if_neg (by omega),if_neg (by omega),if_neg (by omega)]
    show (e.2.1+e0.2.2.1)%_=_;rw [hl0']
   ·rcases hr with hr|hr
    ·exact .inl hr.2
    ·exact .inr hr
theorem QwY(l:List Ent):∀ (L0:List Ent),L0.length=l.length→List.zipWith (Qrf 3) (List.zipWith (Qrf 2) (List.zipWith (Qrf 1) (List.zipWith (Qrf 0) L0 l) l) l) l=l:=by
 induction l with
 |nil=>intro L0 h;cases L0 with
  |nil=>rfl
  |cons _ _=>cases h
 |cons e r ih=>intro L0 h;cases L0 with
  |nil=>cases h
  |cons e0 L0=>
   rw [List.zipWith_cons_cons,List.zipWith_cons_cons,List.zipWith_cons_cons,List.zipWith_cons_cons,ih L0 (by simpa using h)]
   rfl
theorem QmS(c:Nat)(l L0:List Ent)(h:L0.length=l.length):(List.zipWith (Qrf c) L0 l).length=l.length:=by rw [List.length_zipWith,h,Nat.min_self]
theorem QwX(l:List Ent):∀ (L0:List Ent) (j:Nat),L0.length=l.length→((List.zipWith (Qrf 2) L0 l).getD j QaZ).2.2.1=(l.getD j QaZ).2.2.1:=by
 induction l with
 |nil=>intro L0 j h;cases L0 with
  |nil=>rfl
  |cons _ _=>cases h
 |cons e r ih=>intro L0 j h;cases L0 with
  |nil=>cases h
  |cons e0 L0=>
   cases j with
   |zero=>rfl
   |succ j=>exact ih L0 j (by simpa using h)
theorem Qyk(l:List Ent)(hr:QeC l=0)(hok:∀ e∈l,Qbl e)(hl:(QfQ l).length≤65536):Qc4 (QfQ l)=(0,l):=by
 have hn:l.length≤4096:=by
  unfold QeC at hr;split at hr
  ·cases hr
  ·omega
 have QAB:QmM 0 l=0:=by
  unfold QeC at hr;rw [if_neg (by omega)] at hr
  exact hr
 have hck:=Qkg l 0 QAB;have hall:∀ e∈l,Qbl e∧QcF e=0:=fun e he=>⟨hok e he,hck e he⟩
 have QAY:=Qki l 0 0 (Nat.le_refl _) QAB;have QBI:QfQ l=Qe6 l.length++(QaX (Qdp 0 0 QaZ l)++(QaX (Qdp 1 0 QaZ l)++(QaX (Qdp 2 0 QaZ l)++(QaX (Qdp 3 0 QaZ l)++[])))):=by
  unfold QfQ Qej;show Qe6 l.length++QaX _=_;rw [Qcd,Qcd,Qcd,List.append_nil,List.append_assoc,List.append_assoc]
 obtain ⟨g1,g2,g3,g4⟩:=Qlr l.length (by omega) (QaX (Qdp 0 0 QaZ l)++(QaX (Qdp 1 0 QaZ l)++(QaX (Qdp 2 0 QaZ l)++(QaX (Qdp 3 0 QaZ l)++[]))))
 rw [←QBI] at g1 g2 g3 g4;unfold Qc4;rw [if_neg (by omega),if_neg (fun x=>x g1),g2,if_neg (by omega),g4]
 have l0:(List.replicate l.length QaZ).length=l.length:=List.length_replicate;have l1:=QmS 0 l _ l0;have l2:=QmS 1 l _ l1;have l3:=QmS 2 l _ l2;have c0:=Qhl 0 l 0 QaZ QaZ (List.replicate l.length QaZ) (QaX (Qdp 1 0 QaZ l)++(QaX (Qdp 2 0 QaZ l)++(QaX (Qdp 3 0 QaZ l)++[]))) l0 hall (by decide) (.inl rfl) (fun h=>by cases h) (fun h=>by cases h) (.inl QAY)
 have c1:=Qhl 1 l 0 QaZ QaZ _ (QaX (Qdp 2 0 QaZ l)++(QaX (Qdp 3 0 QaZ l)++[])) l1 hall (by decide) (.inl rfl) (fun h=>by cases h) (fun h=>by cases h) (.inr (by decide))
 have c2:=Qhl 2 l 0 QaZ QaZ _ (QaX (Qdp 3 0 QaZ l)++[]) l2 hall (by decide) (.inl rfl) (fun h=>by cases h) (fun h=>by cases h) (.inr (by decide))
 have c3:=Qhl 3 l 0 QaZ QaZ _ [] l3 hall (by decide) (.inl rfl) (fun _ j=>QwX l _ j l2) (fun _ h=>absurd h (by decide)) (.inr (by decide))
 unfold QdY;rw [c0,if_neg (fun x=>x rfl)]
 unfold QdY;rw [c1,if_neg (fun x=>x rfl)]
 unfold QdY;rw [c2,if_neg (fun x=>x rfl)]
 unfold QdY;rw [c3,if_neg (fun x=>x rfl)]
 unfold QdY;rw [if_neg (fun x=>x rfl),QwY l _ l0,if_neg (fun x=>x hr)]
end
section
open Go.RowKit
def E4(W:World)(b i o n r:Nat):Prop:=W.cell? ⟨b,0,none⟩=some (.int .u64 (i:Int))∧W.cell? ⟨b,1,none⟩=some (.int .u64 (o:Int))∧W.cell? ⟨b,2,none⟩=some (.int .u32 (n:Int))∧W.cell? ⟨b,3,none⟩=some (.int .u32 (r:Int))
theorem Qpd(w:World)(i o n r:Nat)(t:TypeId):E4 (w.alloc (.cells #[.int .u64 i,.int .u64 o,.int .u32 n,.int .u32 r] t)) w.heap.size i o n r:=QcN w _ _ _ _ t
theorem Qdk{W W':World}{b i o n r:Nat}(h:E4 W b i o n r)(hl:b<W.heap.size)(hb:Below W.heap.size W W'):E4 W' b i o n r:=
 ⟨(hb.cell (p:=⟨b,0,none⟩) hl).trans h.1,(hb.cell (p:=⟨b,1,none⟩) hl).trans h.2.1,(hb.cell (p:=⟨b,2,none⟩) hl).trans h.2.2.1,(hb.cell (p:=⟨b,3,none⟩) hl).trans h.2.2.2⟩
theorem QAj(i o n r:Nat)(h:n=0):QcF (i,o,n,r)=2:=by unfold QcF;exact if_pos h
theorem QAi(i o n r:Nat)(h:n≠0)(h2:Qwg-max 1 r<i):QcF (i,o,n,r)=8:=by unfold QcF;rw [if_neg h,if_pos h2]
theorem Qzl(i o n r:Nat)(h:n≠0)(h2:¬Qwg-max 1 r<i)(h3:Qdr<o∨Qdr<o+n):QcF (i,o,n,r)=8:=by unfold QcF;rw [if_neg h,if_neg h2,if_pos h3]
theorem QAh(i o n r:Nat)(h:n≠0)(h2:¬Qwg-max 1 r<i)(h3:¬(Qdr<o∨Qdr<o+n)):QcF (i,o,n,r)=0:=by unfold QcF;rw [if_neg h,if_neg h2,if_neg h3]
theorem Qr1{w W0 W1:World}(h0:Below w.heap.size w W0)(h:∃ p:BelowOf W0,W1=p.world):Below w.heap.size w W1:=Qaa h0 (QaM h)
theorem Qim(i o n r:Nat)(w:World)(hi:i<18446744073709551616)(ho:o<18446744073709551616)(hn:n<4294967296)(hr:r<4294967296) :
  Calls Tryz.prog 117 #[.agg #[.int .u64 i,.int .u64 o,.int .u32 n,.int .u32 r]] w fun e w'=>e = .returned (.int .i64 (QcF (i,o,n,r):Nat))∧Below w.heap.size w w':=by
 have hA:=Qpd w i o n r 86;have hB0:=QaJ w (.int .u64 i) (.int .u64 o) (.int .u32 n) (.int .u32 r) 86;have HB0:=hid hB0;have HW:=hid (fun W=>QjI i o n r W hr)
 have HE:=hid (fun W h=>QtH i o n r W h hn)
 have hsz:w.heap.size<(w.alloc (.cells #[.int .u64 i,.int .u64 o,.int .u32 n,.int .u32 r] 86)).heap.size:=by simp
 by_cases h1:n=0
 ·have h:=QAj i o n r h1
  obtain ⟨c0,c1,c2,c3⟩:=hA;have t1:((n:Int)==0)=true:=by rw [h1];rfl
  rw [h];clear h h1 hB0;go_enter Tryz.func117,Tryz.ntmps117;go_wp2_with fail;go_ret;exact ⟨rfl,HB0.out⟩
 have t1:((n:Int)==0)=false:=by rw [beq_eq_false_iff_ne];omega
 obtain ⟨M,hM⟩:∃ M,max 1 r=M:=⟨_,rfl⟩;have hM1:1≤M∧M<4294967296:=by omega
 have hw0:IntKind.u64.wrap (6004799503160661-(M:Int))=((6004799503160661-M:Nat):Int):=by rw [IntKind.wrap_u64];omega
 by_cases h2:Qwg-max 1 r<i
 ·have h:=QAi i o n r h1 h2
  rw [hM] at h2 HW;unfold Qwg at h2;have t2:decide (6004799503160661-M<i)=true:=decide_eq_true (by omega)
  rw [h];have HA:=hid (fun (p:BelowOf (w.alloc (.cells #[.int .u64 i,.int .u64 o,.int .u32 n,.int .u32 r] 86)))=>Qdk hA hsz p.below)
  obtain ⟨c0,c1,c2,c3⟩:=hA;clear h h1 h2 hB0 hM hsz;go_enter Tryz.func117,Tryz.ntmps117;go_wp2_with fail;generalize w.alloc (.cells #[.int .u64 i,.int .u64 o,.int .u32 n,.int .u32 r] 86)=W0 at HA HB0 c0 c1 c2 c3 ⊢;have k0:=fun p=>(HA.out p).1
  have k1:=fun p=>(HA.out p).2.1
  have k2:=fun p=>(HA.out p).2.2.1
  have k3:=fun p=>(HA.out p).2.2.2
  refine Qac (by kernel_rfl) (by kernel_rfl) ?_
  repeat (go_big_quiet_step ((go_at_call 140;exact Qav (HW.out _))))
  refine wpQuiet_nil ?_;intro W1 hw';have HQ:=hid (Qr1 HB0.out hw');clear hw';go_wp2_with fail;go_ret;exact ⟨rfl,HQ.out⟩
 ·have h3':=h2
  rw [hM] at h2 HW;unfold Qwg at h2;have t2:decide (6004799503160661-M<i)=false:=decide_eq_false (by omega)
  have HA:=hid (fun W (hW:Below (w.alloc (.cells #[.int .u64 i,.int .u64 o,.int .u32 n,.int .u32 r] 86)).heap.size (w.alloc (.cells #[.int .u64 i,.int .u64 o,.int .u32 n,.int .u32 r] 86)) W)=>Qdk hA hsz hW)
  obtain ⟨c0,c1,c2,c3⟩:=hA
  by_cases h4:Qdr<o
  ·have h:=Qzl i o n r h1 h3' (.inl h4)
   unfold Qdr at h4;have t3:decide ((o:Int)>1099511627776)=true:=decide_eq_true (by omega)
   rw [h];clear h h1 h2 h3' h4 hB0 hM hsz;go_enter Tryz.func117,Tryz.ntmps117;go_wp2_with fail;generalize w.alloc (.cells #[.int .u64 i,.int .u64 o,.int .u32 n,.int .u32 r] 86)=W0 at HA HB0 c0 c1 c2 c3 ⊢;have k0:=fun (p:BelowOf W0)=>(HA.out _ p.below).1
   have k1:=fun (p:BelowOf W0)=>(HA.out _ p.below).2.1
   have k2:=fun (p:BelowOf W0)=>(HA.out _ p.below).2.2.1
   have k3:=fun (p:BelowOf W0)=>(HA.out _ p.below).2.2.2
   refine Qac (by kernel_rfl) (by kernel_rfl) ?_
   repeat (go_big_quiet_step ((go_at_call 140;exact Qav (HW.out _))))
   refine wpQuiet_nil ?_;intro W1 hw';have HQ:=hid (QaM hw');clear hw' k0 k1 k2 k3;obtain ⟨d0,d1,d2,d3⟩:=HA.out _ HQ.out;go_wp2_with fail;go_ret;exact ⟨rfl,Qaa HB0.out HQ.out⟩
  ·have h4':o≤Qdr:=by omega
   have HE1:=hid (fun W=>HE.out W h4')
   by_cases h5:Qdr<o+n
   ·have h:=Qzl i o n r h1 h3' (.inr h5)
    unfold Qdr at h4 h5;have t3:decide ((o:Int)>1099511627776)=false:=decide_eq_false (by omega)
    have t4:decide (((o+n:Nat):Int)>1099511627776)=true:=decide_eq_true (by omega)
    rw [h];clear h h1 h2 h3' h4 h4' h5 hB0 hM hsz HE;generalize o+n=S at HE1 t4;go_enter Tryz.func117,Tryz.ntmps117;go_wp2_with fail;generalize w.alloc (.cells #[.int .u64 i,.int .u64 o,.int .u32 n,.int .u32 r] 86)=W0 at HA HB0 c0 c1 c2 c3 ⊢;have k0:=fun (p:BelowOf W0)=>(HA.out _ p.below).1
    have k1:=fun (p:BelowOf W0)=>(HA.out _ p.below).2.1
    have k2:=fun (p:BelowOf W0)=>(HA.out _ p.below).2.2.1
    have k3:=fun (p:BelowOf W0)=>(HA.out _ p.below).2.2.2
    refine Qac (by kernel_rfl) (by kernel_rfl) ?_
    repeat (go_big_quiet_step ((go_at_call 140;exact Qav (HW.out _))))
    refine wpQuiet_nil ?_;intro W1 hw';have HQ:=hid (QaM hw');clear hw' k0 k1 k2 k3;obtain ⟨d0,d1,d2,d3⟩:=HA.out _ HQ.out;go_wp2_with fail;refine (HE1.out _).mono ?_;rintro e w2 ⟨rfl,hb2⟩;have HQ2:=hid (Qaa HQ.out hb2);clear hb2;go_wp2_with fail;go_ret;exact ⟨rfl,Qaa HB0.out HQ2.out⟩
   ·have h:=QAh i o n r h1 h3' (by rintro (q|q)<;>omega)
    unfold Qdr at h4 h5;have t3:decide ((o:Int)>1099511627776)=false:=decide_eq_false (by omega)
    have t4:decide (((o+n:Nat):Int)>1099511627776)=false:=decide_eq_false (by omega)
    rw [h];clear h h1 h2 h3' h4 h4' h5 hB0 hM hsz HE;generalize o+n=S at HE1 t4;go_enter Tryz.func117,Tryz.ntmps117;go_wp2_with fail;generalize w.alloc (.cells #[.int .u64 i,.int .u64 o,.int .u32 n,.int .u32 r] 86)=W0 at HA HB0 c0 c1 c2 c3 ⊢;have k0:=fun (p:BelowOf W0)=>(HA.out _ p.below).1
    have k1:=fun (p:BelowOf W0)=>(HA.out _ p.below).2.1
    have k2:=fun (p:BelowOf W0)=>(HA.out _ p.below).2.2.1
    have k3:=fun (p:BelowOf W0)=>(HA.out _ p.below).2.2.2
    refine Qac (by kernel_rfl) (by kernel_rfl) ?_
    repeat (go_big_quiet_step ((go_at_call 140;exact Qav (HW.out _))))
    refine wpQuiet_nil ?_;intro W1 hw';have HQ:=hid (QaM hw');clear hw' k0 k1 k2 k3;obtain ⟨d0,d1,d2,d3⟩:=HA.out _ HQ.out;go_wp2_with fail;refine (HE1.out _).mono ?_;rintro e w2 ⟨rfl,hb2⟩;have HQ2:=hid (Qaa HQ.out hb2);clear hb2;go_wp2_with fail;go_ret;exact ⟨rfl,Qaa HB0.out HQ2.out⟩
end
section
open Go.RowKit
def HoldsR(k:Nat)(w:World)(v:Value)(n:Nat)(cs:List Value):Prop:=
 cs.length=n*k∧∃ a c,v = .slice a n c∧n≤c∧(n≠0→∃ b o,a=some ⟨b,o,none⟩∧b<w.heap.size∧∀ i u,cs[i]?=some u→w.cell? ⟨b,o+i,none⟩=some u)
section
variable {k n:Nat} {w w':World} {v:Value} {cs:List Value}
theorem HoldsR.below(h:HoldsR k w v n cs)(hb:Below w.heap.size w w'):HoldsR k w' v n cs:=by
 obtain ⟨h0,a,c,hv,hc,hx⟩:=h;refine ⟨h0,a,c,hv,hc,fun hne=>?_⟩
 obtain ⟨b,o,ha,hlt,Qao⟩:=hx hne;exact ⟨b,o,ha,Nat.lt_of_lt_of_le hlt hb.size,fun i u hu=>(hb.cell (p:=⟨b,o+i,none⟩) hlt).trans (Qao i u hu)⟩
theorem HoldsR.empty(k:Nat)(w:World)(a:Option Addr)(c:Nat):HoldsR k w (.slice a 0 c) 0 []:=⟨by simp,a,c,rfl,Nat.zero_le _,fun h=>absurd rfl h⟩
theorem HoldsR.len(h:HoldsR k w v n cs):∃ a c,v = .slice a n c∧n≤c:=let ⟨_,a,c,h1,h2,_⟩:=h;⟨a,c,h1,h2⟩
theorem HoldsR.of_own{base:Nat}{e:TypeId}(h:w.ownsRow base e k v n cs):HoldsR k w v n cs:=by
 refine ⟨h.1,?_⟩;rcases id h.2 with ⟨rfl,h0⟩|⟨g,cap,cur,rfl,hb,hg,hle,hm,hs,ht⟩
 ·exact ⟨none,0,by rw [h0],by omega,fun hne=>absurd h0 hne⟩
 ·refine ⟨_,cap,rfl,hle,fun _=>⟨g,0,rfl,(gsi hg).1,fun i u hu=>?_⟩⟩
  have:=h.cells (g:=g) rfl i u hu;have e0:(⟨g,0,none⟩:Addr).add i=⟨g,0+i,none⟩:=by unfold Addr.add;split<;>simp_all
  rwa [e0] at this
theorem HoldsR.at(h:HoldsR k w v n cs)(hn:n≠0):∃ b o c,v = .slice (some ⟨b,o,none⟩) n c∧n≤c∧b<w.heap.size∧∀ i u,cs[i]?=some u→w.cell? ⟨b,o+i,none⟩=some u:=by
 obtain ⟨-,a,c,rfl,hc,hx⟩:=h;obtain ⟨b,o,rfl,hlt,Qao⟩:=hx hn;exact ⟨b,o,c,rfl,hc,hlt,Qao⟩
end
def QzJ(e:Ent):List Value:=[.int .u64 (e.1:Nat),.int .u64 (e.2.1:Nat),.int .u32 (e.2.2.1:Nat),.int .u32 (e.2.2.2:Nat)]
def Qay(l:List Ent):List Value:=l.flatMap QzJ
theorem QbD(l:List Ent):(Qay l).length=l.length*4:=by
 induction l with
 |nil=>rfl
 |cons x r ih=>
  unfold Qay at ih ⊢;rw [List.flatMap_cons,List.length_append,ih,List.length_cons];simp [QzJ];omega
theorem Qer(a b:List Ent):Qay (a++b)=Qay a++Qay b:=by unfold Qay;rw [List.flatMap_append]
theorem QfP(l:List Ent)(j:Nat)(h:j<l.length):(Qay l)[j*4]?=some (.int .u64 (l[j].1:Nat))∧(Qay l)[j*4+1]?=some (.int .u64 (l[j].2.1:Nat))∧(Qay l)[j*4+2]?=some (.int .u32 (l[j].2.2.1:Nat))∧(Qay l)[j*4+3]?=some (.int .u32 (l[j].2.2.2:Nat)):=by
 have hsp:l=l.take j++l[j] :: l.drop (j+1):=by rw [←List.drop_eq_getElem_cons h,List.take_append_drop]
 have hlen:(Qay (l.take j)).length=j*4:=by rw [QbD,List.length_take,Nat.min_eq_left (Nat.le_of_lt h)]
 have e:Qay l=Qay (l.take j)++(QzJ l[j]++Qay (l.drop (j+1))):=by
  conv=>lhs;rw [hsp]
  rw [Qer];rfl
 rw [e];refine ⟨?_,?_,?_,?_⟩
 ·rw [List.getElem?_append_right (by omega),hlen,Nat.sub_self];rfl
 ·rw [List.getElem?_append_right (by omega),hlen,Nat.add_sub_cancel_left];rfl
 ·rw [List.getElem?_append_right (by omega),hlen,Nat.add_sub_cancel_left];rfl
 ·rw [List.getElem?_append_right (by omega),hlen,Nat.add_sub_cancel_left];rfl
theorem QtF(l:List Ent):∀ v∈Qay l,v.oneCell'=true:=by
 intro v hv;unfold Qay at hv;obtain ⟨x,-,hx⟩:=List.mem_flatMap.1 hv;simp only [QzJ,List.mem_cons,List.not_mem_nil,or_false] at hx;rcases hx with rfl|rfl|rfl|rfl<;>rfl
def HoldsE(w:World)(v:Value)(l:List Ent):Prop:=HoldsR 4 w v l.length (Qay l)
theorem HoldsE.at{w:World}{v:Value}{l:List Ent}(h:HoldsE w v l)(hn:l≠[]):∃ b o c,v = .slice (some ⟨b,o,none⟩) l.length c∧l.length≤c∧b<w.heap.size∧∀ j (hj:j<l.length),w.cell? ⟨b,o+j*4,none⟩=some (.int .u64 (l[j].1:Nat))∧w.cell? ⟨b,o+j*4+1,none⟩=some (.int .u64 (l[j].2.1:Nat))∧w.cell? ⟨b,o+j*4+2,none⟩=some (.int .u32 (l[j].2.2.1:Nat))∧w.cell? ⟨b,o+j*4+3,none⟩=some (.int .u32 (l[j].2.2.2:Nat)):=by
 obtain ⟨b,o,c,h1,h2,h3,h4⟩:=HoldsR.at h (fun e=>hn (List.length_eq_zero_iff.1 e))
 refine ⟨b,o,c,h1,h2,h3,fun j hj=>?_⟩
 obtain ⟨x,y,z,u⟩:=QfP l j hj;exact ⟨h4 _ _ x,h4 _ _ y,h4 _ _ z,h4 _ _ u⟩
theorem Qez{ops:Array Oper}{rest:List Oper}{o:Oper}{a:Act}{Q:Exit→Act→World→Prop}(t e:TypeId)(z:Value)(k b:Nat)(hu:Tryz.prog.underlying t=some (.slice e))(QBp:(Tryz.prog.info? e).map (fun i=>(i.zero,i.size,i.bytes))=some (some z,k,b))(hz:z.cells.size=k)(hk:0<k)(hb:b≤64)
  (w0:World) (cs:List Value) (hck:cs.length=k) (h1:∀ u∈cs,u.oneCell'=true) (hgd:o.guard=none) (s x:Operand) (ho:o.op = .call { callee:=.builtin .append,args:=#[s,x],argTypes:=#[t,t] })
  (base:Nat) (v:Value) (n:Nat) (xs:List Value) (hs:a.eval s=v) (QAq:w0.ownsRow base e k v n xs) (hx:a.eval x = .slice (some ⟨w0.heap.size,0,none⟩) 1 1) (hn:n<2147483648) (QAv:base≤w0.heap.size)
  (h:∀ g cap w',w'.ownsRow base e k (.slice (some ⟨g,0,none⟩) (n+1) cap) (n+1) (xs++cs)→w0.grownBy w' v.ownBlock→(v.ownBlock=some g∨w0.heap.size≤g)→wpList Tryz.prog ops Q rest (a.put o.dst (.slice (some ⟨g,0,none⟩) (n+1) cap)) w') :
  wpList Tryz.prog ops Q (o :: rest) a (w0.alloc (.cells cs.toArray e)):=by
 obtain ⟨i0,hi,hz0,hz1,hz2⟩:=info_parts QBp;have hbn:(n+1)*b≤2147483648*64:=Nat.mul_le_mul (by omega) hb
 refine wpList_append_lies _ hgd s x t ho base e i0 z k b hu hi hz0 hz1 hz2 hz hk v n xs hs (QAq.alloc _) ⟨w0.heap.size,0,none⟩ 1 1 cs hx (by rw [hck,Nat.one_mul]) (World.news_of_block (heap_alloc_new w0 _)) h1 (by decide) (by unfold maxLen;omega) (by omega) (by simp;omega) _ rfl ?_
 intro g cap w' k2 k3 k4 k5;refine h g cap w' k2 ⟨k3.os,k3.tape,k3.output,Nat.le_trans (by simp) k3.size,fun i hi hne=>(k3.block i (by simp;omega) hne).trans (heap_alloc_old w0 _ hi)⟩ ?_
 rcases k4 with k4|k4
 ·exact .inl k4
 ·exact .inr (by rw [k4];simp)
end
section
open Go.RowKit
theorem Qil(i o n r:Nat)(b:Bool)(hb:((QcF (i,o,n,r):Int)==0)=b)(w:World)(hi:i<18446744073709551616)(ho:o<18446744073709551616)(hn:n<4294967296)(hr:r<4294967296) :
  Calls Tryz.prog 91 #[.agg #[.int .u64 i,.int .u64 o,.int .u32 n,.int .u32 r]] w fun e w'=>e = .returned (.bool b)∧Below w.heap.size w w':=by
 obtain ⟨c0,c1,c2,c3⟩:=QcN w (.int .u64 i) (.int .u64 o) (.int .u32 n) (.int .u32 r) 86;have HB0:=hid (QaJ w (.int .u64 i) (.int .u64 o) (.int .u32 n) (.int .u32 r) 86);have HC:=hid (fun W=>Qim i o n r W hi ho hn hr)
 generalize QcF (i,o,n,r)=c at hb HC;go_enter Tryz.func91,Tryz.ntmps91;go_wp2_with fail;refine (HC.out _).mono ?_;rintro e w1 ⟨rfl,hb1⟩;have HB1:=hid (Qaa HB0.out hb1);clear hb1 c0 c1 c2 c3;go_wp2_with fail;go_ret;exact ⟨rfl,HB1.out⟩
theorem QjJ(i o n r:Nat)(hc:QcF (i,o,n,r)=0)(w:World)(hi:i<18446744073709551616)(ho:o<18446744073709551616)(hn:n<4294967296)(hr:r<4294967296) :
  Calls Tryz.prog 92 #[.agg #[.int .u64 i,.int .u64 o,.int .u32 n,.int .u32 r]] w fun e w'=>e = .returned (.int .u64 ((i+max 1 r-1:Nat):Int))∧Below w.heap.size w w':=by
 have hA:=Qpd w i o n r 86;have HB0:=hid (QaJ w (.int .u64 i) (.int .u64 o) (.int .u32 n) (.int .u32 r) 86);have HM:=hid (fun W=>Qil i o n r true (by rw [hc];rfl) W hi ho hn hr)
 have HW:=hid (fun W=>QjI i o n r W hr)
 have hsz:w.heap.size<(w.alloc (.cells #[.int .u64 i,.int .u64 o,.int .u32 n,.int .u32 r] 86)).heap.size:=by simp
 obtain ⟨M,hM⟩:∃ M,max 1 r=M:=⟨_,rfl⟩;have hM1:1≤M∧M<4294967296:=by omega
 obtain ⟨-,-,hk⟩:=Qix _ hc;simp only [hM,Qwg] at hk;rw [hM] at HW ⊢;have hw0:IntKind.u64.wrap ((i:Int)+(M:Int))=(i:Int)+(M:Int):=by rw [IntKind.wrap_u64];omega
 have hw1:IntKind.u64.wrap ((i:Int)+(M:Int)-1)=(i:Int)+(M:Int)-1:=by rw [IntKind.wrap_u64];omega
 have HF:Hid ((i:Int)+(M:Int)-1=((i+M-1:Nat):Int)):=hid (by omega)
 have HA:=hid (fun W (hW:Below (w.alloc (.cells #[.int .u64 i,.int .u64 o,.int .u32 n,.int .u32 r] 86)).heap.size (w.alloc (.cells #[.int .u64 i,.int .u64 o,.int .u32 n,.int .u32 r] 86)) W)=>Qdk hA hsz hW)
 have HSz:=hid hsz;obtain ⟨c0,c1,c2,c3⟩:=hA;clear hc hM hk hsz;go_enter Tryz.func92,Tryz.ntmps92;go_wp2_with fail;generalize w.alloc (.cells #[.int .u64 i,.int .u64 o,.int .u32 n,.int .u32 r] 86)=W0 at HA HB0 HSz c0 c1 c2 c3 ⊢;refine (HM.out _).mono ?_;rintro e w1 ⟨rfl,hb1⟩;have HB1:=hid hb1;have k0:=fun (p:BelowOf w1)=>(HA.out _ (Qaa HB1.out p.below)).1
 have k1:=fun (p:BelowOf w1)=>(HA.out _ (Qaa HB1.out p.below)).2.1
 have k2:=fun (p:BelowOf w1)=>(HA.out _ (Qaa HB1.out p.below)).2.2.1
 have k3:=fun (p:BelowOf w1)=>(HA.out _ (Qaa HB1.out p.below)).2.2.2
 clear hb1 c0 c1 c2 c3;go_wp2_with fail;refine Qac (by kernel_rfl) (by kernel_rfl) ?_
 repeat (go_big_quiet_step ((go_at_call 140;exact Qav (HW.out _))))
 refine wpQuiet_nil ?_;intro W1 hw';have HQ:=hid (QaM hw');clear hw' k0 k1 k2 k3;go_wp2_with fail;go_ret;exact ⟨QbE HF.out,Qaa HB0.out (Qaa HB1.out HQ.out)⟩
theorem Qmg(i o n r id:Nat)(hc:QcF (i,o,n,r)=0)(h0:0<r)(b:Bool)(hb:Qy8 (i,o,n,r) id=b)(w:World)(hi:i<18446744073709551616)(ho:o<18446744073709551616)(hn:n<4294967296)(hr:r<4294967296) :
  Calls Tryz.prog 49 #[.agg #[.int .u64 i,.int .u64 o,.int .u32 n,.int .u32 r],.int .u64 id] w fun e w'=>e = .returned (.bool b)∧Below w.heap.size w w':=by
 have hA:=Qpd w i o n r 86;have HB0:=hid (QaJ w (.int .u64 i) (.int .u64 o) (.int .u32 n) (.int .u32 r) 86);have HM:=hid (fun W=>Qil i o n r true (by rw [hc];rfl) W hi ho hn hr)
 have HL:=hid (fun W=>QjJ i o n r hc W hi ho hn hr)
 have hsz:w.heap.size<(w.alloc (.cells #[.int .u64 i,.int .u64 o,.int .u32 n,.int .u32 r] 86)).heap.size:=by simp
 have hl:QlO (i,o,n,r)=i+max 1 r-1:=by unfold QlO;rw [if_pos hc]
 unfold Qy8 at hb;rw [hc,hl] at hb;have HA:=hid (fun W (hW:Below (w.alloc (.cells #[.int .u64 i,.int .u64 o,.int .u32 n,.int .u32 r] 86)).heap.size (w.alloc (.cells #[.int .u64 i,.int .u64 o,.int .u32 n,.int .u32 r] 86)) W)=>Qdk hA hsz hW)
 generalize i+max 1 r-1=N at HL hb;have t0:decide ((r:Int)>0)=true:=decide_eq_true (by omega)
 have t0':decide (0<r)=true:=decide_eq_true h0;simp only [t0',beq_self_eq_true,Bool.true_and] at hb
 by_cases h1:i≤id
 ·have t1:decide (i≤id)=true:=decide_eq_true h1
  simp only [t1,Bool.true_and] at hb
  by_cases h2:id≤N
  ·have t2:decide (id≤N)=true:=decide_eq_true h2
   rw [t2] at hb;subst hb;obtain ⟨c0,c1,c2,c3⟩:=hA;clear h1 h2 h0 hc hl;go_enter Tryz.func49,Tryz.ntmps49;go_wp2_with fail;refine (HM.out _).mono ?_;rintro e w1 ⟨rfl,hb1⟩;have HB1:=hid hb1;clear hb1 c0 c1 c2 c3;obtain ⟨c0,c1,c2,c3⟩:=HA.out _ HB1.out;go_wp2_with fail;refine (HL.out _).mono ?_;rintro e w2 ⟨rfl,hb2⟩;have HB2:=hid hb2;clear hb2;go_wp2_with fail;go_ret;exact ⟨rfl,Qaa HB0.out (Qaa HB1.out HB2.out)⟩
  ·have t2:decide (id≤N)=false:=decide_eq_false h2
   rw [t2] at hb;subst hb;obtain ⟨c0,c1,c2,c3⟩:=hA;clear h1 h2 h0 hc hl;go_enter Tryz.func49,Tryz.ntmps49;go_wp2_with fail;refine (HM.out _).mono ?_;rintro e w1 ⟨rfl,hb1⟩;have HB1:=hid hb1;clear hb1 c0 c1 c2 c3;obtain ⟨c0,c1,c2,c3⟩:=HA.out _ HB1.out;go_wp2_with fail;refine (HL.out _).mono ?_;rintro e w2 ⟨rfl,hb2⟩;have HB2:=hid hb2;clear hb2;go_wp2_with fail;go_ret;exact ⟨rfl,Qaa HB0.out (Qaa HB1.out HB2.out)⟩
 ·have t1:decide (i≤id)=false:=decide_eq_false h1
  simp only [t1,Bool.false_and] at hb;subst hb;obtain ⟨c0,c1,c2,c3⟩:=hA;clear h1 h0 hc hl;go_enter Tryz.func49,Tryz.ntmps49;go_wp2_with fail;refine (HM.out _).mono ?_;rintro e w1 ⟨rfl,hb1⟩;have HB1:=hid hb1;clear hb1 c0 c1 c2 c3;obtain ⟨c0,c1,c2,c3⟩:=HA.out _ HB1.out;go_wp2_with fail;go_ret;exact ⟨rfl,Qaa HB0.out HB1.out⟩
theorem Qc3(v:Value)(l:List Ent)(w:World)(hv:HoldsE w v l)(hok:∀ e∈l,Qbl e)(hlen:l.length<2147483647) :
  Calls Tryz.prog 62 #[v] w fun e w'=>e = .returned (.int .i64 (QeC l:Nat))∧Below w.heap.size w w':=by
 obtain ⟨a,c,rfl,hc⟩:=HoldsR.len hv;have HX:=hid (fun hn=>HoldsE.at hv hn)
 have HOk:=hid hok;clear hv hok
 by_cases hb:4096<l.length
 ·have h:QeC l=21:=by unfold QeC;exact if_pos hb
  have t1:decide ((l.length:Int)>4096)=true:=decide_eq_true (by omega)
  rw [h];clear h hb;go_enter Tryz.func62,Tryz.ntmps62;go_wp2_with fail;go_ret;exact ⟨rfl,Below.refl _ _⟩
 have h:QeC l=QmM 0 l:=by unfold QeC;exact if_neg hb
 have t1:decide ((l.length:Int)>4096)=false:=decide_eq_false (by omega)
 rw [h];obtain ⟨R,hR⟩:∃ R,QmM 0 l=R:=⟨_,rfl⟩;rw [hR];have HR:=hid hR;clear h hb hR;go_enter Tryz.func62,Tryz.ntmps62;go_wp2_with fail;go_loopw [3,12] (fun u i wr=>∃ (k free:Nat),k≤l.length∧i = .int .i64 k∧u = .int .u64 free∧free<18446744073709551616∧Hid (QmM free (l.drop k)=R)∧Below w.heap.size w wr) (fun _ i _=>l.length-(intOf i).toNat)
 case atStart=>exact ⟨0,0,by omega,rfl,rfl,by decide,HR,Below.refl _ _⟩
 case round=>
  obtain ⟨k,free,hk,rfl,rfl,hfree,HRk,hbw⟩:=hrel
  by_cases hlt:k<l.length
  ·obtain ⟨b,o,c',hvv,-,hbl,Qao⟩:=HX.out (fun e=>by rw [e] at hlt;exact absurd hlt (Nat.not_lt_zero _))
   injection hvv with e1 e2 e3
   subst e1 e3;obtain ⟨y0,y1,y2,y3⟩:=Qao k hlt;have c0:=(hbw.cell (p:=⟨b,o+k*4,none⟩) hbl).trans y0;have c1:=(hbw.cell (p:=⟨b,o+k*4+1,none⟩) hbl).trans y1;have c2:=(hbw.cell (p:=⟨b,o+k*4+2,none⟩) hbl).trans y2;have c3:=(hbw.cell (p:=⟨b,o+k*4+3,none⟩) hbl).trans y3;have hX:=HOk.out l[k] (List.getElem_mem hlt);have QAr:QmM free (l.drop k)=(if QcF l[k]≠0 then QcF l[k] else if l[k].1<free then 10 else QmM (QlO l[k]+1) (l.drop (k+1))):=by
    rw [List.drop_eq_getElem_cons hlt];rfl
   have hRk:=HRk.out;rw [QAr] at hRk;obtain ⟨X,hXe⟩:∃ X,l[k]=X:=⟨_,rfl⟩;rw [hXe] at c0 c1 c2 c3 hX hRk;obtain ⟨x1,x2,x3,x4⟩:=X;obtain ⟨o1,o2,o3,o4⟩:x1<18446744073709551616∧x2<18446744073709551616∧x3<4294967296∧x4<4294967296:=hX;have HC:=hid (fun W=>Qim x1 x2 x3 x4 W o1 o2 o3 o4)
   have HB:=hid hbw;have HB4:=hid (QaJ wr (.int .u64 x1) (.int .u64 x2) (.int .u32 x3) (.int .u32 x4) 86);have HE4:=hid (Qpd wr x1 x2 x3 x4 86);have HSz:Hid (wr.heap.size<(wr.alloc (.cells #[.int .u64 x1,.int .u64 x2,.int .u32 x3,.int .u32 x4] 86)).heap.size):=hid (by simp)
   obtain ⟨d0,d1,d2,d3⟩:=HE4.out;clear Qao HX y0 y1 y2 y3 hXe QAr HRk hbw
   by_cases hck:QcF (x1,x2,x3,x4)=0
   ·rw [if_neg (fun h=>h hck)] at hRk
    have HL:=hid (fun W=>QjJ x1 x2 x3 x4 hck W o1 o2 o3 o4)
    have hla:QlO (x1,x2,x3,x4)=x1+max 1 x4-1:=by unfold QlO;rw [if_pos hck]
    have hlb:x1≤6004799503160661-max 1 x4:=(Qix _ hck).2.2;rw [hck] at HC;rw [hla] at hRk;obtain ⟨N,hN⟩:∃ N,x1+max 1 x4-1=N:=⟨_,rfl⟩;have hN1:N<6004799503160661:=by omega
    rw [hN] at HL hRk;have HRx:=hid hRk;clear hck hRk hla hlb hN
    by_cases hf:x1<free
    ·have tf:decide (x1<free)=true:=decide_eq_true hf
     have HR10:Hid (R=10):=hid (by have:=HRx.out;simp only at this;rw [if_pos hf] at this;exact this.symm)
     clear hf;go_wp2_with fail;refine (HC.out _).mono ?_;rintro e w1 ⟨rfl,hb1⟩;have HB1:=hid hb1;clear hb1 d0 d1 d2 d3;obtain ⟨d0,d1,d2,d3⟩:=Qdk HE4.out HSz.out HB1.out;go_wp2_with fail;go_ret;exact ⟨by rw [HR10.out]<;>rfl,Qaa HB.out (Qaa HB4.out HB1.out)⟩
    ·have tf:decide (x1<free)=false:=decide_eq_false hf
     have HRn:Hid (QmM (N+1) (l.drop (k+1))=R):=hid (by have:=HRx.out;simp only at this;rw [if_neg hf] at this;exact this)
     clear hf;go_wp2_with fail;refine (HC.out _).mono ?_;rintro e w1 ⟨rfl,hb1⟩;have HB1:=hid hb1;clear hb1 d0 d1 d2 d3;obtain ⟨d0,d1,d2,d3⟩:=Qdk HE4.out HSz.out HB1.out;go_wp2_with fail;refine (HL.out _).mono ?_;rintro e w2 ⟨rfl,hb2⟩;have HB2:=hid hb2;clear hb2;go_wp2_with fail;go_roundw
     case rel=>exact ⟨k+1,N+1,by omega,by go_num,by go_num,by omega,HRn,Qaa HB.out (Qaa HB4.out (Qaa HB1.out HB2.out))⟩
     case measure=>simp [intOf];omega
   ·rw [if_pos hck] at hRk
    have hcz:((QcF (x1,x2,x3,x4):Int)==0)=false:=by rw [beq_eq_false_iff_ne];omega
    have hcn:((QcF (x1,x2,x3,x4):Int) != 0)=true:=by rw [bne_iff_ne];omega
    rw [hRk] at HC hcz hcn;clear hRk hck;go_wp2_with fail;refine (HC.out _).mono ?_;rintro e w1 ⟨rfl,hb1⟩;have HB1:=hid hb1;clear hb1;go_wp2_with fail;go_ret;exact ⟨rfl,Qaa HB.out (Qaa HB4.out HB1.out)⟩
  ·obtain rfl:k=l.length:=by omega
   have HR0:Hid (R=0):=hid (by have:=HRk.out;rw [List.drop_length] at this;exact this.symm)
   clear HRk;go_wp2_with fail;go_ret;exact ⟨by rw [HR0.out]<;>rfl,hbw⟩
end
section
open Go.RowKit
theorem Qeb{fn:Func}{R:Ending→World→Prop}{a:Act}{w:World}{A:Addr}{V:Value}{p:Tmp}{ty:TypeId}(QAH:fn.results=#[.cell p ty])
  (QAy:(loadVar ty A).run Tryz.prog w = .ok V w)
  (hp:a.tmps.getD p undef = .pointer (some A)) (QAN:a.defers = [])
  (hR:R (.returned V) w):bodyPost Tryz.prog fn R .ret a w:=by
 refine bodyPost_ret_by (v:=V) ?_ QAN hR;have hp':a.tmps[p]?.getD undef = .pointer (some A):=by simpa using hp
 simp [results,QAH,hp',asAddr,QAy]
theorem QaD{fn:Func}{R:Ending→World→Prop}{a:Act}{w:World}{A:Addr}{V E:Value}{p u:Tmp}{ty:TypeId}(QAH:fn.results=#[.cell p ty,.tmp u])
  (QAy:(loadVar ty A).run Tryz.prog w = .ok V w)
  (hp:a.tmps.getD p undef = .pointer (some A)) (hE:a.tmps.getD u undef=E) (QAN:a.defers = [])
  (hR:R (.returned (.tuple #[V,E])) w):bodyPost Tryz.prog fn R .ret a w:=by
 refine bodyPost_ret_by (v:=.tuple #[V,E]) ?_ QAN hR;rw [results_cell_tmp QAH,hp,hE];simp [asAddr,QAy,Result.andThen]
theorem QaS{fn:Func}{R:Ending→World→Prop}{a:Act}{w:World}{A:Addr}{V E:Value}{p u:Tmp}{ty:TypeId}(QAH:fn.results=#[.tmp u,.cell p ty])
  (QAy:(loadVar ty A).run Tryz.prog w = .ok V w)
  (hp:a.tmps.getD p undef = .pointer (some A)) (hE:a.tmps.getD u undef=E) (QAN:a.defers = [])
  (hR:R (.returned (.tuple #[E,V])) w):bodyPost Tryz.prog fn R .ret a w:=by
 refine bodyPost_ret_by (v:=.tuple #[E,V]) ?_ QAN hR;have hp':a.tmps[p]?.getD undef = .pointer (some A):=by simpa using hp
 have hE':a.tmps[u]?.getD undef=E:=by simpa using hE
 simp [results,QAH,hp',hE',asAddr,QAy,Result.andThen]
theorem Qhf(w:World)(b:Nat)(t:TypeId)(x0 x1 x2 x3:Value)(h:w.heap[b]?=some (.cells #[x0,x1,x2,x3] t (0,0))):(loadVar 86 ⟨b,0,none⟩).run Tryz.prog w = .ok (.agg #[x0,x1,x2,x3]) w:=
 run_loadVar_row w b t 86 #[x0,x1,x2,x3] (0,0) _ h Tryz.underlying86 rfl (by kernel_rfl)
theorem QaF{w:World}{b:Nat}{x0 x1 x2 x3:Value}{t:TypeId}(k:w.heap[b]?=some (.cells #[x0,x1,x2,x3] t (0,0))) :
  (w.cell? ⟨b,0,none⟩=some x0∧w.cell? ⟨b,1,none⟩=some x1∧w.cell? ⟨b,2,none⟩=some x2∧w.cell? ⟨b,3,none⟩=some x3)∧w.frozen? ⟨b,0,none⟩=false∧w.frozen? ⟨b,1,none⟩=false∧w.frozen? ⟨b,2,none⟩=false∧w.frozen? ⟨b,3,none⟩=false:=by
 refine ⟨⟨?_,?_,?_,?_⟩,?_,?_,?_,?_⟩
 all_goals first
  |(unfold World.cell?;rw [k];rfl)
  |(unfold World.frozen?;rw [k];rfl)
theorem QdB{w:World}{b:Nat}{x0 x1 x2 x3:Value}{t:TypeId}(k:w.heap[b]?=some (.cells #[x0,x1,x2,x3] t (0,0)))(y0 y1 y2 y3:Value):((((w.setCell ⟨b,0,none⟩ y0).setCell ⟨b,1,none⟩ y1).setCell ⟨b,2,none⟩ y2).setCell ⟨b,3,none⟩ y3).heap[b]?=some (.cells #[y0,y1,y2,y3] t (0,0)):=by
 simp [World.setCell,Array.getElem?_modify,k]
theorem Qc6{w W:World}{b:Nat}(h:Below w.heap.size w W)(hb:w.heap.size≤b)(y0 y1 y2 y3:Value):Below w.heap.size w ((((W.setCell ⟨b,0,none⟩ y0).setCell ⟨b,1,none⟩ y1).setCell ⟨b,2,none⟩ y2).setCell ⟨b,3,none⟩ y3):=
 (((h.setCell (p:=⟨b,0,none⟩) hb _).setCell (p:=⟨b,1,none⟩) hb _).setCell (p:=⟨b,2,none⟩) hb _).setCell (p:=⟨b,3,none⟩) hb _
end
end Go.Proofs.YtilaebjndadkhaaGreatDoor
