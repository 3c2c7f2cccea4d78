/- The map of a fork while it is being made. -/
import Derived.Test.YtjeeedbbdgjgeaaPoolClone
import Derived.Maps.RangeWalk
import Derived.Maps.Ext
import Derived.OpenShut
namespace Go.Proofs.Ytjeeedbbdgjgeaa
open Go.RowKit Go.Maps PoolPlain
open Go.WideElems (rg rd_key rd_val rg_of)

theorem atKey_entry {P : Program} {k : TypeId} {R : Value → Option (DataW Unit × List MemPlace)} {es : Array MapEntry} {clock : Nat} (w : World) (K : Keyed P k) (F : Go.WideElems.Fit P k R es clock) {t E : TypeId} (ht : P.underlying t = some (.map k E)) {z : Value} (hz : ∀ w, (zeroValue E).run P w = .ok z w)
    {b : Nat} (hb : w.heap[b]? = some (.map es clock)) {x : MapEntry} (hx : x ∈ es.toList) {kl : Lit} (hk : keyOf P k x.key = some kl) : ∃ y, R x.val = some y ∧ ∀ zd, (DataW.map ((es.toList.map (rg P k R)).foldr DataW.insert [])).atKey kl zd = y.1 := by
  rcases fit_look false K ht (hz w) hb F hk with ⟨-, hno, -⟩ | ⟨e0, y, hm, h3, -, hR, hat, -⟩
  · exact absurd rfl (hno x hx)
  · obtain rfl := entry_one F hx hm h3.symm
    exact ⟨y, hR, hat⟩
/-- the map of a fork: it reads as D; the rows of the keys that are no longer to come are new ones, no two of them one -/
def ForkMap (w : World) (b base : Nat) (D : DataW Unit) (left : Lit → Bool) : Prop :=
  ∃ es clock, w.heap[b]? = some (.map es clock) ∧ Go.WideElems.Fit Try.prog 22 (rowElem (H := Unit) w 0 3 .i64) es clock ∧ D = .map ((es.toList.map (rg Try.prog 22 (rowElem w 0 3 .i64))).foldr DataW.insert []) ∧
    (∀ x ∈ es.toList, ∀ kl, keyOf Try.prog 22 x.key = some kl → left kl = true ∨ ∀ g, x.val.ownBlock = some g → base ≤ g) ∧
    ∀ x ∈ es.toList, ∀ y ∈ es.toList, x.key ≠ y.key → ∀ kx ky, keyOf Try.prog 22 x.key = some kx → keyOf Try.prog 22 y.key = some ky → left kx = true ∨ left ky = true ∨ x.val.ownBlock = none ∨ x.val.ownBlock ≠ y.val.ownBlock
theorem ForkMap.owned {w : World} {es : Array MapEntry} {clock : Nat} {base : Nat} (F : Go.WideElems.Fit Try.prog 22 (rowElem (H := Unit) w base 3 .i64) es clock) {x : MapEntry} (hx : x ∈ es.toList) : ∃ zs, w.ownsInts base 3 .i64 x.val zs := by
  obtain ⟨y, hy⟩ := F.reads x hx
  obtain ⟨z, hz, -⟩ := rd_val hy
  obtain ⟨zs, ho, -⟩ := rowElem_inv hz
  exact ⟨zs, ho⟩
theorem ints_base {w : World} {base base' : Nat} {e : TypeId} {q : IntKind} {v : Value} {zs : List Int} (h : w.ownsInts base e q v zs) (hb : ∀ g, v.ownBlock = some g → base' ≤ g) : w.ownsInts base' e q v zs := by
  refine ⟨⟨h.1.1, ?_⟩, h.2⟩
  rcases h.1.2 with hn | ⟨g, cap, cur, h1, h2, h3⟩
  · exact .inl hn
  · exact .inr ⟨g, cap, cur, h1, hb g (by rw [h1]; rfl), h3⟩
/-- it stays while its block and its rows stay -/
theorem ForkMap.keep {w w' : World} {b base : Nat} {D : DataW Unit} {left : Lit → Bool} (h : ForkMap w b base D left) (hb : w'.heap[b]? = w.heap[b]?) (hr : ∀ g, g < w.heap.size → (∃ cur, w.heap[g]? = some (.cells cur 3 (0, 0))) → w'.heap[g]? = w.heap[g]?) : ForkMap w' b base D left := by
  obtain ⟨es, clock, hbk, F, rfl, h1, h2⟩ := h
  have hst0 : ∀ x ∈ es.toList, ∀ zs, w.ownsInts 0 3 .i64 x.val zs → w'.ownsInts 0 3 .i64 x.val zs := fun x hx zs ho => ⟨own_of_block ho.1 (fun g hg => hr g (ho.1.lt g hg).2 (own_tag ho.1 g hg)), ho.2⟩
  have hst : ∀ x ∈ es.toList, ∀ z, rowElem (H := Unit) w 0 3 .i64 x.val = some z → rowElem w' 0 3 .i64 x.val = some z := fun x hx z hz => by
    obtain ⟨zs, ho, rfl⟩ := rowElem_inv hz
    exact rowElem_mk (hst0 x hx zs ho)
  obtain ⟨F1, hmap, -⟩ := F.stay hst
  exact ⟨es, clock, hb.trans hbk, F1, by rw [hmap], h1, h2⟩
theorem ForkMap.below {w w' : World} {b base : Nat} {D : DataW Unit} {left : Lit → Bool} (h : ForkMap w b base D left) (hb : Below w.heap.size w w') : ForkMap w' b base D left := by
  have hlt : b < w.heap.size := by obtain ⟨es, clock, hbk, -⟩ := h; exact (Array.getElem?_eq_some_iff.1 hbk).1
  exact h.keep (hb.block b hlt) (fun g hg _ => hb.block g hg)
theorem ForkMap.owns {w : World} {b base : Nat} {D : DataW Unit} {left : Lit → Bool} (h : ForkMap w b base D left) : ∃ n, w.ownsMap Try.prog 22 (rowElem (H := Unit) w 0 3 .i64) b n D := by
  obtain ⟨es, clock, hbk, F, rfl, -, -⟩ := h
  exact ⟨es.size, es, clock, hbk, F, Nat.le_refl _, rfl⟩
/-- the start: what maps.Clone leaves -/
theorem ForkMap.start {w : World} {b' : Nat} {base : Nat} {es : Array MapEntry} {clock : Nat} {D : DataW Unit} (hb : w.heap[b']? = some (.map es clock)) (F : Go.WideElems.Fit Try.prog 22 (rowElem (H := Unit) w 0 3 .i64) es clock)
    (hD : D = .map ((es.toList.map (rg Try.prog 22 (rowElem w 0 3 .i64))).foldr DataW.insert [])) : ForkMap w b' base D (Maps.has D) := by
  have key : ∀ x ∈ es.toList, ∀ kl, keyOf Try.prog 22 x.key = some kl → Maps.has D kl = true := fun x hx kl hk => by
    obtain ⟨y, -, hat⟩ := atKey_entry w kU64 F Try.underlying59 zeroInts hb hx hk
    rw [← hD] at hat
    exact has_true_of_atKey hat
  exact ⟨es, clock, hb, F, hD, fun x hx kl hk => .inl (key x hx kl hk), fun x hx y hy hne kx ky hkx hky => .inl (key x hx kx hkx)⟩
/-- a store of what is there -/
theorem put_same {D : DataW Unit} {kl : Lit} {d : DataW Unit} (c : Canon D) (c1 : Canon (D.put kl d)) (hk : WideAt.IsKeyLit kl) (hat : ∀ zd, D.atKey kl zd = d) : D.put kl d = D := by
  have hm : IsMap D := by obtain ⟨es, rfl, -⟩ := c; exact ⟨es, rfl⟩
  have hh := has_true_of_atKey hat
  refine Maps.ext c1 c (fun k => ?_) (fun k z h => ?_)
  · by_cases e : k = kl
    · subst e; rw [has_put_same hm hk, hh]
    · rw [has_put_other e]
  · by_cases e : k = kl
    · subst e; rw [atKey_put_same hm hk, hat]
    · rw [atKey_put_other e]
/-- a store of a new row at the key that has come -/
theorem ForkMap.store {w w1 : World} {b base : Nat} {D : DataW Unit} {left : Lit → Bool} (h : ForkMap w b base D left) (hb : Below w.heap.size w w1) (hbase : base ≤ w.heap.size) {x : Nat} (hx : x < 18446744073709551616) {v' : Value} {zs : List Int} (ho : w1.ownsInts w.heap.size 3 .i64 v' zs) (hroom : ∃ n, n < maxLen ∧ ∀ es clock, w.heap[b]? = some (.map es clock) → es.size ≤ n)
    (hat : ∀ zd, D.atKey (.int .u64 (x : Int)) zd = rowDatum .i64 v' zs) :
    ∃ w2, (Instr.mapUpdate 59 (.map (some b)) (.int .u64 (x : Int)) v').run Try.prog w1 = .ok () w2 ∧ w1.grownBy w2 (some b) ∧ ForkMap w2 b base D (fun z => left z && !z.sameKey (.int .u64 (x : Int))) := by
  have h1 := h.below hb
  obtain ⟨es, clock, hbk, F, hD, hl, hp⟩ := h1
  obtain ⟨es0, clock0, hbk0, F0, -, -, -⟩ := id h
  have hlt : b < w.heap.size := (Array.getElem?_eq_some_iff.1 hbk0).1
  have hsame : es0 = es := by
    have := hb.block b hlt
    rw [hbk, hbk0] at this
    exact (show es0 = es ∧ clock0 = clock by simpa using this.symm).1
  subst hsame
  have hkey := key_u64 x hx
  have ho0 : w1.ownsInts 0 3 .i64 v' zs := ints_base ho (fun g _ => Nat.zero_le _)
  have hro : es0.size < maxLen := by
    obtain ⟨n, hn, hle⟩ := hroom
    exact Nat.lt_of_le_of_lt (hle es0 clock0 hbk0) hn
  obtain ⟨es', clock', hrun, F', hput, -, -, hwho⟩ := fit_store (R' := rowElem (H := Unit) w1 0 3 .i64) kU64 Try.underlying59 hbk F hro (fun _ _ _ _ hz => hz) hkey (rowElem_mk ho0)
  have hg : w1.grownBy (Go.ChangeMaps.setBlock w1 b (.map es' clock')) (some b) := ⟨rfl, rfl, rfl, by simp [Go.ChangeMaps.setBlock], fun i _ hi => Go.ChangeMaps.heap_setBlock_other hbk _ (fun e => hi (by rw [e]))⟩
  refine ⟨_, hrun, hg, ?_⟩
  have hb2 := Go.ChangeMaps.heap_setBlock_same hbk (.map es' clock')
  -- what it reads as
  have hDput : D.put (.int .u64 (x : Int)) (rowDatum .i64 v' zs) = .map ((es'.toList.map (rg Try.prog 22 (rowElem (H := Unit) w1 0 3 .i64))).foldr DataW.insert []) := by rw [hD, DataW.put_eq, hput]
  have hc0 : Canon D := by
    have : w1.ownsMap Try.prog 22 (rowElem (H := Unit) w1 0 3 .i64) b es0.size D := ⟨es0, clock, hbk, F, Nat.le_refl _, hD⟩
    exact this.canon kU64
  have hc1 : Canon (D.put (.int .u64 (x : Int)) (rowDatum .i64 v' zs)) := by
    have : (Go.ChangeMaps.setBlock w1 b (.map es' clock')).ownsMap Try.prog 22 (rowElem (H := Unit) w1 0 3 .i64) b es'.size (D.put (.int .u64 (x : Int)) (rowDatum .i64 v' zs)) := ⟨es', clock', hb2, F', Nat.le_refl _, hDput⟩
    exact this.canon kU64
  have hDD := put_same hc0 hc1 (kU64.key hkey) hat
  -- its rows stay behind the store
  have hst : ∀ y ∈ es'.toList, ∀ z, rowElem (H := Unit) w1 0 3 .i64 y.val = some z → rowElem (Go.ChangeMaps.setBlock w1 b (.map es' clock')) 0 3 .i64 y.val = some z := fun y hy z hz => by
    obtain ⟨ys, hoy, rfl⟩ := rowElem_inv hz
    exact rowElem_mk ⟨own_of_block hoy.1 (fun g hg2 => hg.block g (hoy.1.lt g hg2).2 (fun e => own_not_map hoy.1 hbk (by rw [hg2, e]))), hoy.2⟩
  obtain ⟨F2, hmap, -⟩ := F'.stay hst
  have left_other : ∀ y kl, keyOf Try.prog 22 y = some kl → y ≠ .int .u64 (x : Int) → (kl.sameKey (.int .u64 (x : Int))) = false := fun y kl hk hne => Maps.sameKey_ne (fun e => hne (kU64.inj (by rw [← e]; exact hk) hkey))
  have old_row : ∀ y ∈ es0.toList, ∀ g, y.val.ownBlock = some g → g < w.heap.size := fun y hy g hg2 => by
    obtain ⟨ys, hoy⟩ := ForkMap.owned F0 hy
    exact (hoy.1.lt g hg2).2
  have new_row : ∀ g, v'.ownBlock = some g → w.heap.size ≤ g := fun g hg2 => (ho.1.lt g hg2).1
  refine ⟨es', clock', hb2, F2, by rw [hmap, ← hDput, hDD], fun y hy kl hk => ?_, fun y hy z hz hne ky kz hky hkz => ?_⟩
  · rcases hwho y hy with ⟨hy0, hyk⟩ | ⟨hyk, hyv⟩
    · rcases hl y hy0 kl hk with h | h
      · left; simp only [h, left_other y.key kl hk hyk, Bool.not_false, Bool.and_self]
      · exact .inr h
    · right
      intro g hg2
      rw [hyv] at hg2
      exact Nat.le_trans hbase (new_row g hg2)
  · rcases hwho y hy with ⟨hy0, hyk⟩ | ⟨hyk, hyv⟩ <;> rcases hwho z hz with ⟨hz0, hzk⟩ | ⟨hzk, hzv⟩
    · rcases hp y hy0 z hz0 hne ky kz hky hkz with h | h | h | h
      · left; simp only [h, left_other y.key ky hky hyk, Bool.not_false, Bool.and_self]
      · right; left; simp only [h, left_other z.key kz hkz hzk, Bool.not_false, Bool.and_self]
      · exact .inr (.inr (.inl h))
      · exact .inr (.inr (.inr h))
    · right; right
      cases hyo : y.val.ownBlock with
      | none => exact .inl rfl
      | some g =>
        refine .inr (fun e => ?_)
        rw [hzv] at e
        have h1 := old_row y hy0 g hyo
        have h2 := new_row g e.symm
        omega
    · right; right
      cases hyo : y.val.ownBlock with
      | none => exact .inl rfl
      | some g =>
        refine .inr (fun e => ?_)
        have h1 := old_row z hz0 g e.symm
        rw [hyv] at hyo
        have h2 := new_row g hyo
        omega
    · exact absurd (hyk.trans hzk.symm) hne
/-- the end: no key is to come -/
theorem ForkMap.finish {w : World} {b : Nat} {D : DataW Unit} {left : Lit → Bool} {l : List (List UInt8)} (h : ForkMap w b (b + 1) D left) (hleft : ∀ kl, left kl = false) (hG : Groups D l) (hsize : ∀ L, D = .map L → L.length ≤ l.length) :
    w.ownsGroups Try.prog 22 (b + 1) 3 .i64 b l.length D ∧ w.Shuns b (fun g => ¬ (b < g ∧ g < w.heap.size)) := by
  obtain ⟨es, clock, hbk, F, hD, hl, hp⟩ := h
  have hrow : ∀ x ∈ es.toList, ∀ g, x.val.ownBlock = some g → b + 1 ≤ g := fun x hx g hg => by
    obtain ⟨y, hy⟩ := F.reads x hx
    have hk := rd_key hy
    rcases hl x hx _ hk with h | h
    · rw [hleft] at h; cases h
    · exact h g hg
  have hst : ∀ x ∈ es.toList, ∀ z, rowElem (H := Unit) w 0 3 .i64 x.val = some z → rowElem w (b + 1) 3 .i64 x.val = some z := fun x hx z hz => by
    obtain ⟨zs, ho, rfl⟩ := rowElem_inv hz
    exact rowElem_mk (ints_base ho (hrow x hx))
  obtain ⟨F1, hmap, -⟩ := F.stay hst
  have hsz : es.size ≤ l.length := by
    have := hsize _ hD
    rw [length_sorted] at this
    simpa using this
  refine ⟨⟨es, clock, hbk, F1, hsz, by rw [hmap]; exact hD, Nat.lt_succ_self _, fun x hx zs ho => ?_, fun x hx y hy hne => ?_⟩, fun es2 c2 he x hx g hg hn => ?_⟩
  · obtain ⟨y, hy⟩ := F.reads x hx
    have hk := rd_key hy
    obtain ⟨m, hkm, hlm, hwf⟩ := Maps.keyOf_int_inv Try.underlying22 hk
    obtain ⟨z, hz, hat⟩ := atKey_entry w kU64 F Try.underlying59 zeroInts hbk hx hk
    have ho0 : w.ownsInts 0 3 .i64 x.val zs := ints_base ho (fun g _ => Nat.zero_le _)
    rw [rowElem_mk ho0] at hz
    rw [← hD, hlm] at hat
    have hb := bounds_u64 hwf
    obtain ⟨m', rfl⟩ := Int.eq_ofNat_of_zero_le hb.1
    have h1 := hat .nil
    rw [hG m' (by omega), ← Option.some.inj hz] at h1
    have h2 := row_grp ho0 h1.symm
    rw [h2]
    unfold grpZ
    rw [List.length_map]
    exact grp_length l _
  · obtain ⟨kx, hkx⟩ := F.reads x hx
    obtain ⟨ky, hky⟩ := F.reads y hy
    rcases hp x hx y hy hne _ _ (rd_key hkx) (rd_key hky) with h | h | h | h
    · rw [hleft] at h; cases h
    · rw [hleft] at h; cases h
    · exact .inl h
    · exact .inr h
  · obtain ⟨rfl, rfl⟩ : es = es2 ∧ clock = c2 := by rw [hbk] at he; simpa using he
    obtain ⟨zs, ho⟩ := ForkMap.owned F hx
    exact hn ⟨hrow x hx g hg, (ho.1.lt g hg).2⟩
end Go.Proofs.Ytjeeedbbdgjgeaa
