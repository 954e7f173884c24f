/- A machine of values: other names; calls by contract. -/
import Derived.Test.YtfkneafghcndfaaPk
namespace Go.Pm
open Go.RowKit
set_option linter.unusedVariables false
set_option linter.unusedSimpArgs false

/- The names that stand in a value. -/
mutual
def AV.names : AV → List Nat
  | .v _ => []
  | .own n _ _ _ _ _ => [n]
  | .ptr n _ _ => [n]
  | .sl _ xs _ _ => namesL xs
  | .at_ xs => namesL xs
  | .agg xs => namesL xs
  | .tup xs => namesL xs
  | .fn _ xs ys => namesL xs ++ namesL ys
  | .mp n _ => [n]
  | .ip n _ => [n]
  | .ents _ _ xs => namesL xs
  | .itr x _ _ _ => x.names
def namesL : List AV → List Nat
  | [] => []
  | x :: xs => x.names ++ namesL xs
end
/- No name, nothing in memory. -/
mutual
def AV.shut : AV → Bool
  | .v _ => true
  | .own _ _ _ _ _ _ => false
  | .ptr _ _ _ => false
  | .sl _ xs _ _ => shutL xs
  | .at_ xs => shutL xs
  | .agg xs => shutL xs
  | .tup xs => shutL xs
  | .fn _ xs ys => shutL xs && shutL ys
  | .mp _ _ => false
  | .ip _ _ => false
  | .ents _ _ _ => false
  | .itr _ _ _ _ => false
def shutL : List AV → Bool
  | [] => true
  | x :: xs => x.shut && shutL xs
end
/- A value under other names and versions; none where a name is not there, or where it holds other memory's cells. -/
mutual
def AV.ren (f : Nat → Nat → Option (Nat × Nat)) : AV → Option AV
  | .v x => some (.v x)
  | .own n ver off len sz r => (f n ver).map fun p => .own p.1 p.2 off len sz r
  | .ptr n ver off => (f n ver).map fun p => .ptr p.1 p.2 off
  | .sl nn xs len cap => match xs with | [] => some (.sl nn [] len cap) | _ => none
  | .at_ xs => match xs with | [] => some (.at_ []) | _ => none
  | .agg xs => (renL f xs).map .agg
  | .tup xs => (renL f xs).map .tup
  | .fn g xs ys => (renL f xs).bind fun xs' => (renL f ys).map fun ys' => .fn g xs' ys'
  | .mp n ver => (f n ver).map fun p => .mp p.1 p.2
  | .ip n ver => (f n ver).map fun p => .ip p.1 p.2
  | .ents q clk xs => (renL f xs).map (.ents q clk)
  | .itr x a b d => (x.ren f).map fun x' => .itr x' a b d
def renL (f : Nat → Nat → Option (Nat × Nat)) : List AV → Option (List AV)
  | [] => some []
  | x :: xs => (x.ren f).bind fun x' => (renL f xs).map fun xs' => x' :: xs'
end

theorem shutL_get {xs : List AV} : shutL xs = true → ∀ (i : Nat) x, xs[i]? = some x → x.shut = true := by
  induction xs with
  | nil => intro _ i x h; simp at h
  | cons y xs ih =>
    intro h i x hx
    simp only [shutL, Bool.and_eq_true] at h
    cases i with
    | zero => simp at hx; subst hx; exact h.1
    | succ i => exact ih h.2 i x (by simpa using hx)
theorem renL_get {f : Nat → Nat → Option (Nat × Nat)} : ∀ {xs ys : List AV}, renL f xs = some ys → xs.length = ys.length ∧ ∀ (i : Nat) y, ys[i]? = some y → ∃ x, xs[i]? = some x ∧ x.ren f = some y := by
  intro xs
  induction xs with
  | nil => intro ys h; simp only [renL, Option.some.injEq] at h; subst h; exact ⟨rfl, fun i y h => by simp at h⟩
  | cons x xs ih =>
    intro ys h
    simp only [renL] at h
    obtain ⟨x', h1, h⟩ := Option.bind_eq_some_iff.1 h
    obtain ⟨xs', h2, rfl⟩ := Option.map_eq_some_iff.1 h
    obtain ⟨e1, e2⟩ := ih h2
    refine ⟨by simp [e1], fun i y hy => ?_⟩
    cases i with
    | zero => simp at hy; subst hy; exact ⟨x, rfl, h1⟩
    | succ i => obtain ⟨z, a, b⟩ := e2 i y (by simpa using hy); exact ⟨z, by simpa using a, b⟩

/-- The empty state of names. -/
def noneAt (w : World) : Ctx := ⟨fun _ => none, fun _ => none, w⟩
theorem Rel.bare {c : Ctx} {x : AV} {v : Value} (h : Rel c x v) : x.shut = true → Rel (noneAt c.w) x v := by
  induction h with
  | v => intro _; exact .v
  | own => intro h; simp [AV.shut] at h
  | ptr => intro h; simp [AV.shut] at h
  | mp => intro h; simp [AV.shut] at h
  | ip => intro h; simp [AV.shut] at h
  | sl f hl hm hc hn ha hx hr ih =>
    intro h
    refine .sl f hl hm hc hn ha (fun i x hi => ?_) (fun i x hi => ih i x hi (shutL_get h i x hi))
    obtain ⟨b, o, e1, e2, e3⟩ := hx i x hi
    exact ⟨b, o, e1, (fun ⟨n, k, h, _⟩ => by cases h), e3⟩
  | at_ f hx hr ih =>
    intro h
    exact .at_ f (fun i x hi => ⟨(fun ⟨n, k, h, _⟩ => by cases h), (hx i x hi).2⟩) (fun i x hi => ih i x hi (shutL_get h i x hi))
  | agg f hl hx hr ih => intro h; exact .agg f hl hx (fun i x hi => ih i x hi (shutL_get h i x hi))
  | tup f hl hx hr ih => intro h; exact .tup f hl hx (fun i x hi => ih i x hi (shutL_get h i x hi))
  | fn p q hl hx hr hl2 hx2 hr2 ih ih2 =>
    intro h
    simp only [AV.shut, Bool.and_eq_true] at h
    exact .fn p q hl hx (fun i x hi => ih i x hi (shutL_get h.1 i x hi)) hl2 hx2 (fun i x hi => ih2 i x hi (shutL_get h.2 i x hi))

/-- Other names for the same blocks. -/
def Names (c c1 : Ctx) (f : Nat → Nat → Option (Nat × Nat)) : Prop :=
  ∀ n ver n' v', f n ver = some (n', v') → ∀ k, c.m n = some k → k.ver = ver ∧ ∃ k', c1.m n' = some k' ∧ k'.ver = v' ∧ k'.cells.length = k.cells.length ∧ c1.ι n' = c.ι n
theorem Rel.ren {c c1 : Ctx} {f : Nat → Nat → Option (Nat × Nat)} (H : Names c c1 f) (hw : c1.w = c.w) {x : AV} {v : Value} (h : Rel c x v) : ∀ y, x.ren f = some y → Rel c1 y v := by
  induction h with
  | v => intro y hy; simp only [AV.ren, Option.some.injEq] at hy; subst hy; exact .v
  | own hk hv hl hm hn ha =>
    intro y hy
    simp only [AV.ren] at hy
    obtain ⟨⟨n', v'⟩, hf, rfl⟩ := Option.map_eq_some_iff.1 hy
    obtain ⟨e1, k', e2, e3, e4, e5⟩ := H _ _ _ _ hf _ hk
    show Rel c1 (.own n' v' _ _ _ _) _
    refine .own e2 (by omega) hl hm hn fun _ => (ha e1.symm).mono e5 e4 (fun b cs t _ hb => ⟨cs, by rw [hw]; exact hb, rfl⟩)
  | ptr hk hv ha =>
    intro y hy
    simp only [AV.ren] at hy
    obtain ⟨⟨n', v'⟩, hf, rfl⟩ := Option.map_eq_some_iff.1 hy
    obtain ⟨e1, k', e2, e3, e4, e5⟩ := H _ _ _ _ hf _ hk
    obtain ⟨g, cs, t, g1, g2, g3⟩ := ha e1.symm
    show Rel c1 (.ptr n' v' _) _
    exact .ptr e2 (by omega) fun _ => ⟨g, cs, t, e5.trans g1, g2, by rw [hw]; exact g3⟩
  | mp hk hv ha =>
    intro y hy
    simp only [AV.ren] at hy
    obtain ⟨⟨n', v'⟩, hf, rfl⟩ := Option.map_eq_some_iff.1 hy
    obtain ⟨e1, k', e2, e3, e4, e5⟩ := H _ _ _ _ hf _ hk
    show Rel c1 (.mp n' v') _
    exact .mp e2 (by omega) fun _ => e5.trans (ha e1.symm)
  | ip hk hv ha =>
    intro y hy
    simp only [AV.ren] at hy
    obtain ⟨⟨n', v'⟩, hf, rfl⟩ := Option.map_eq_some_iff.1 hy
    obtain ⟨e1, k', e2, e3, e4, e5⟩ := H _ _ _ _ hf _ hk
    show Rel c1 (.ip n' v') _
    exact .ip e2 (by omega) fun _ => e5.trans (ha e1.symm)
  | @sl nn xs len cap a cp f hl hm hc hn ha hx hr ih =>
    intro y hy
    cases xs with
    | nil => simp only [AV.ren, Option.some.injEq] at hy; subst hy; exact .sl f hl hm hc hn ha (fun i x hi => by simp at hi) (fun i x hi => by simp at hi)
    | cons => simp [AV.ren] at hy
  | @at_ xs b o f hx hr ih =>
    intro y hy
    cases xs with
    | nil => simp only [AV.ren, Option.some.injEq] at hy; subst hy; exact .at_ f (fun i x hi => by simp at hi) (fun i x hi => by simp at hi)
    | cons => simp [AV.ren] at hy
  | agg g hl hx hr ih =>
    intro y hy
    simp only [AV.ren] at hy
    obtain ⟨xs', h1, rfl⟩ := Option.map_eq_some_iff.1 hy
    obtain ⟨e1, e2⟩ := renL_get h1
    exact .agg g (by omega) (fun i x hi => by obtain ⟨z, a, b⟩ := e2 i x hi; exact hx i z a) (fun i x hi => by obtain ⟨z, a, b⟩ := e2 i x hi; exact ih i z a x b)
  | tup g hl hx hr ih =>
    intro y hy
    simp only [AV.ren] at hy
    obtain ⟨xs', h1, rfl⟩ := Option.map_eq_some_iff.1 hy
    obtain ⟨e1, e2⟩ := renL_get h1
    exact .tup g (by omega) (fun i x hi => by obtain ⟨z, a, b⟩ := e2 i x hi; exact hx i z a) (fun i x hi => by obtain ⟨z, a, b⟩ := e2 i x hi; exact ih i z a x b)
  | fn p q hl hx hr hl2 hx2 hr2 ih ih2 =>
    intro y hy
    simp only [AV.ren] at hy
    obtain ⟨xs', h1, hy⟩ := Option.bind_eq_some_iff.1 hy
    obtain ⟨ys', h2, rfl⟩ := Option.map_eq_some_iff.1 hy
    obtain ⟨e1, e2⟩ := renL_get h1
    obtain ⟨e3, e4⟩ := renL_get h2
    exact .fn p q (by omega) (fun i x hi => by obtain ⟨z, a, b⟩ := e2 i x hi; exact hx i z a) (fun i x hi => by obtain ⟨z, a, b⟩ := e2 i x hi; exact ih i z a x b)
      (by omega) (fun i x hi => by obtain ⟨z, a, b⟩ := e4 i x hi; exact hx2 i z a) (fun i x hi => by obtain ⟨z, a, b⟩ := e4 i x hi; exact ih2 i z a x b)

theorem EntsL.ren {c c1 : Ctx} {f : Nat → Nat → Option (Nat × Nat)} (H : Names c c1 f) (hw : c1.w = c.w) {q : Option (Bool × List KT)} {xs : List AV} {es : List MapEntry} (h : EntsL c q xs es) : ∀ ys, renL f xs = some ys → EntsL c1 q ys es := by
  induction h with
  | nil => intro ys hy; cases hy; exact .nil
  | @cons y e xs es hk hr _ ih =>
    intro ys hy
    simp only [renL] at hy
    obtain ⟨x', h1, hy⟩ := Option.bind_eq_some_iff.1 hy
    obtain ⟨xs', h2, rfl⟩ := Option.map_eq_some_iff.1 hy
    simp only [AV.ren, renL, Option.bind_some] at h1
    obtain ⟨zs, h3, rfl⟩ := Option.map_eq_some_iff.1 h1
    obtain ⟨z1, h4, rfl⟩ := Option.map_eq_some_iff.1 h3
    obtain ⟨y', h5, h6⟩ := Option.bind_eq_some_iff.1 h4
    simp only [Option.map_some, Option.some.injEq] at h6
    subst h6
    exact .cons hk (hr.ren H hw _ h5) (ih _ h2)
theorem ObjOk.ren {c c1 : Ctx} {f : Nat → Nat → Option (Nat × Nat)} (H : Names c c1 f) (hw : c1.w = c.w) {xs ys : List AV} (h : renL f xs = some ys) {o : Option Obj} (ho : ObjOk c xs o) : ObjOk c1 ys o := by
  rcases ho with ⟨cs, t, h1, h2⟩ | ⟨es, clk, q, zs, h1, rfl, h3⟩ | ⟨x, m, since, seen, st, h1, rfl, h3⟩
  · refine .inl ⟨cs, t, h1, fun i y hy => ?_⟩
    obtain ⟨z, e1, e2⟩ := (renL_get h).2 i y hy
    obtain ⟨u, e3, e4⟩ := h2 i z e1
    exact ⟨u, e3, e4.ren H hw y e2⟩
  · simp only [renL, AV.ren, Option.bind_some] at h
    obtain ⟨x', h4, h⟩ := Option.bind_eq_some_iff.1 h
    obtain ⟨zs', h5, rfl⟩ := Option.map_eq_some_iff.1 h4
    cases h
    exact .inr (.inl ⟨es, clk, q, zs', h1, rfl, h3.1.ren H hw _ h5, h3.2⟩)
  · simp only [renL, AV.ren, Option.bind_some] at h
    obtain ⟨x', h4, h⟩ := Option.bind_eq_some_iff.1 h
    obtain ⟨zs', h5, rfl⟩ := Option.map_eq_some_iff.1 h4
    cases h
    exact .inr (.inr ⟨zs', m, since, seen, st, h1, rfl, h3.ren H hw _ h5⟩)

/-- An argument by its cells, for a call that reads it alone. -/
def closeLeaf (m : Mem) (x : AV) : Option AV :=
  match x with
  | .own n ver off len sz r => (slCells m (.own n ver off len sz r)).bind fun ys => if shutL ys.1 = true then some (.sl (decide (0 < len)) ys.1 len none) else none
  | .ptr n ver off => (ptrCells m (.ptr n ver off)).bind fun ys => if shutL ys = true then some (.at_ ys) else none
  | x => if x.shut = true then some x else none
def closeL (m : Mem) : List AV → Option (List AV)
  | [] => some []
  | x :: xs => (closeLeaf m x).bind fun y => (closeL m xs).map (y :: ·)
def closeArg (m : Mem) (x : AV) : Option AV :=
  match x with
  | .agg xs => (closeL m xs).map .agg
  | x => closeLeaf m x
def closeArgs (m : Mem) : List AV → Option (List AV)
  | [] => some []
  | x :: xs => (closeArg m x).bind fun y => (closeArgs m xs).map (y :: ·)

theorem slCells_own {m : Mem} {n ver off len sz : Nat} {r : Room} {ys : List AV} {q : Nat} (h : slCells m (.own n ver off len sz r) = some (ys, q)) : ∃ k, m n = some k ∧ ver = k.ver ∧ q = len := by
  cases hk : m n with
  | none => simp [slCells, hk] at h
  | some k =>
    simp only [slCells, hk] at h
    split at h
    · rename_i e
      simp only [Option.some.injEq, Prod.mk.injEq] at h
      exact ⟨k, rfl, e, h.2.symm⟩
    · cases h
theorem closeLeaf_sound {c : Ctx} {w0 : World} (M : MemOk c w0) {x y : AV} {v : Value} (h : closeLeaf c.m x = some y) (r : Rel c x v) : Rel (noneAt c.w) y v := by
  have fin : ∀ x : AV, (if x.shut = true then some x else none) = some y → Rel c x v → Rel (noneAt c.w) y v := fun x h r => by
    split at h
    · rename_i hs; cases h; exact r.bare hs
    · cases h
  cases x with
  | own n ver off len sz rm =>
    simp only [closeLeaf] at h
    obtain ⟨⟨ys, n'⟩, hys, h⟩ := Option.bind_eq_some_iff.1 h
    split at h
    case isFalse => cases h
    rename_i hs
    cases h
    obtain ⟨k0, hk0, hver, rfl⟩ := slCells_own hys
    obtain ⟨a, cp, rfl, h1, h2, h3, h4⟩ := slCells_sound M hys r
    have hsp : ∀ p, a = some p → p.spot = none := by
      cases r with
      | @own _ _ _ _ _ _ k _ _ hk hv hl hm hn ha =>
        intro p hp
        rw [hk] at hk0
        cases hk0
        rcases ha hver with ⟨h, _⟩ | ⟨g, o, cs, t, _, h, _⟩
        · rw [h] at hp; cases hp
        · rw [h] at hp; cases hp; rfl
    obtain ⟨vs, rv, hv⟩ := pick_list (Q := fun i z => ∃ b o, a = some (⟨b, o, none⟩ : Addr) ∧ c.w.cell? ⟨b, o + i, none⟩ = some z) (fun i y hy => by obtain ⟨b, o, z, e1, e2, e3⟩ := h4 i y hy; exact ⟨z, ⟨b, o, e1, e2⟩, e3⟩)
    obtain ⟨f, f1, f2⟩ := fun_of rv
    refine .sl f h1 h2 (fun q e => by cases e) (fun e => ⟨by have := h3 e; simp [this.1], (h3 e).2, (h3 e).1⟩) (fun p e _ => hsp p e) (fun i x hi => ?_) (fun i x hi => (f2 i x hi).bare (shutL_get hs i x hi))
    obtain ⟨b, o, e1, e2⟩ := hv i _ (f1 i x hi)
    exact ⟨b, o, e1, (fun ⟨n, k, h, _⟩ => by cases h), e2⟩
  | ptr n ver off =>
    simp only [closeLeaf] at h
    obtain ⟨ys, hys, h⟩ := Option.bind_eq_some_iff.1 h
    split at h
    case isFalse => cases h
    rename_i hs
    cases h
    obtain ⟨b, o, rfl, h4⟩ := ptrCells_sound M hys r
    obtain ⟨vs, rv, hv⟩ := pick_list (Q := fun i z => c.w.cell? ⟨b, o + i, none⟩ = some z) (fun i y hy => by obtain ⟨z, e2, e3⟩ := h4 i y hy; exact ⟨z, e2, e3⟩)
    obtain ⟨f, f1, f2⟩ := fun_of rv
    exact .at_ f (fun i x hi => ⟨(fun ⟨n, k, h, _⟩ => by cases h), hv i _ (f1 i x hi)⟩) (fun i x hi => (f2 i x hi).bare (shutL_get hs i x hi))
  | v x => exact fin (.v x) h r
  | sl nn xs len cap => exact fin (.sl nn xs len cap) h r
  | at_ xs => exact fin (.at_ xs) h r
  | agg xs => exact fin (.agg xs) h r
  | tup xs => exact fin (.tup xs) h r
  | fn f xs ys => exact fin (.fn f xs ys) h r
  | mp n ver => exact fin (.mp n ver) h r
  | ip n ver => exact fin (.ip n ver) h r
  | ents q clk xs => exact fin (.ents q clk xs) h r
  | itr x a b d => exact fin (.itr x a b d) h r
theorem closeL_sound {c : Ctx} {w0 : World} (M : MemOk c w0) : ∀ {xs ys : List AV} {vs : List Value}, closeL c.m xs = some ys → RelL c xs vs → RelL (noneAt c.w) ys vs := by
  intro xs
  induction xs with
  | nil => intro ys vs h r; cases h; rw [r.inv_nil]; exact .nil _
  | cons x xs ih =>
    intro ys vs h r
    simp only [closeL] at h
    obtain ⟨y, h1, h⟩ := Option.bind_eq_some_iff.1 h
    obtain ⟨zs, h2, rfl⟩ := Option.map_eq_some_iff.1 h
    obtain ⟨v, vs', rfl, r1, r2⟩ := r.inv_cons
    exact .cons (closeLeaf_sound M h1 r1) (ih h2 r2)
theorem closeArg_sound {c : Ctx} {w0 : World} (M : MemOk c w0) {x y : AV} {v : Value} (h : closeArg c.m x = some y) (r : Rel c x v) : Rel (noneAt c.w) y v := by
  cases x with
  | agg xs =>
    obtain ⟨ys, h1, rfl⟩ := Option.map_eq_some_iff.1 h
    obtain ⟨cs, rfl, rl⟩ := r.inv_agg
    exact .mkAgg (closeL_sound M h1 rl)
  | v x => exact closeLeaf_sound (x := .v x) M h r
  | own n ver off len sz rm => exact closeLeaf_sound (x := .own n ver off len sz rm) M h r
  | ptr n ver off => exact closeLeaf_sound (x := .ptr n ver off) M h r
  | sl nn xs len cap => exact closeLeaf_sound (x := .sl nn xs len cap) M h r
  | at_ xs => exact closeLeaf_sound (x := .at_ xs) M h r
  | tup xs => exact closeLeaf_sound (x := .tup xs) M h r
  | fn f xs ys => exact closeLeaf_sound (x := .fn f xs ys) M h r
  | mp n ver => exact closeLeaf_sound (x := .mp n ver) M h r
  | ip n ver => exact closeLeaf_sound (x := .ip n ver) M h r
  | ents q clk xs => exact closeLeaf_sound (x := .ents q clk xs) M h r
  | itr x a b d => exact closeLeaf_sound (x := .itr x a b d) M h r
theorem closeArgs_sound {c : Ctx} {w0 : World} (M : MemOk c w0) : ∀ {xs ys : List AV} {vs : List Value}, closeArgs c.m xs = some ys → RelL c xs vs → RelL (noneAt c.w) ys vs := by
  intro xs
  induction xs with
  | nil => intro ys vs h r; cases h; rw [r.inv_nil]; exact .nil _
  | cons x xs ih =>
    intro ys vs h r
    simp only [closeArgs] at h
    obtain ⟨y, h1, h⟩ := Option.bind_eq_some_iff.1 h
    obtain ⟨zs, h2, rfl⟩ := Option.map_eq_some_iff.1 h
    obtain ⟨v, vs', rfl, r1, r2⟩ := r.inv_cons
    exact .cons (closeArg_sound M h1 r1) (ih h2 r2)

/-- A function by its answers: from arguments by their cells to a result, its new blocks by number. -/
abbrev Fun := List AV → Option (AV × List (List AV))
def blkMem (bs : List (List AV)) : Mem := fun n => (bs[n]?).map fun cells => ⟨0, cells⟩
/-- The function makes at most memory, and its results are these. -/
def Pure (P : Program) (f : FuncId) (F : Fun) : Prop :=
  ∀ (w : World) (args : List AV) (vs : Array Value) r bs, RelL (noneAt w) args vs.toList → F args = some (r, bs) →
    Calls P f vs w fun e w' => ∃ v ι, e = .returned v ∧ MemOk ⟨blkMem bs, ι, w'⟩ w ∧ Rel ⟨blkMem bs, ι, w'⟩ r v

/-- New blocks under a place's names. -/
def place (m : Mem) (site : Nat) : Nat → List (List AV) → Mem
  | _, [] => m
  | j, b :: bs => upd (place m site (j + 1) bs) (site * 16 + j) (some ⟨verNext m (site * 16 + j), b⟩)
def siteRen (m : Mem) (site cnt : Nat) (n ver : Nat) : Option (Nat × Nat) := if ver = 0 ∧ n < cnt then some (site * 16 + n, verNext m (site * 16 + n)) else none
def renBlks (f : Nat → Nat → Option (Nat × Nat)) : List (List AV) → Option (List (List AV))
  | [] => some []
  | b :: bs => (renL f b).bind fun b' => (renBlks f bs).map (b' :: ·)

theorem place_at (m : Mem) (site : Nat) : ∀ (bs : List (List AV)) (j n : Nat), place m site j bs n = if site * 16 + j ≤ n ∧ n < site * 16 + j + bs.length then (bs[n - (site * 16 + j)]?).map (fun b => ⟨verNext m n, b⟩) else m n := by
  intro bs
  induction bs with
  | nil => intro j n; simp [place]; intro h1 h2; omega
  | cons b bs ih =>
    intro j n
    simp only [place, upd_at, ih, List.length_cons]
    by_cases h : n = site * 16 + j
    · subst h
      rw [if_pos rfl, if_pos (by omega)]
      simp
    · rw [if_neg h]
      by_cases h2 : site * 16 + (j + 1) ≤ n ∧ n < site * 16 + (j + 1) + bs.length
      · rw [if_pos h2, if_pos (by omega)]
        have : n - (site * 16 + j) = n - (site * 16 + (j + 1)) + 1 := by omega
        rw [this]; simp
      · rw [if_neg h2, if_neg (by omega)]
theorem renBlks_get {f : Nat → Nat → Option (Nat × Nat)} : ∀ {bs cs : List (List AV)}, renBlks f bs = some cs → bs.length = cs.length ∧ ∀ (i : Nat) y, cs[i]? = some y → ∃ x, bs[i]? = some x ∧ renL f x = some y := by
  intro bs
  induction bs with
  | nil => intro cs h; cases h; exact ⟨rfl, fun i y h => by simp at h⟩
  | cons b bs ih =>
    intro cs h
    simp only [renBlks] at h
    obtain ⟨b', h1, h⟩ := Option.bind_eq_some_iff.1 h
    obtain ⟨bs', h2, rfl⟩ := Option.map_eq_some_iff.1 h
    obtain ⟨e1, e2⟩ := ih h2
    refine ⟨by simp [e1], fun i y hy => ?_⟩
    cases i with
    | zero => simp at hy; subst hy; exact ⟨b, rfl, h1⟩
    | succ i => obtain ⟨z, a, b⟩ := e2 i y (by simpa using hy); exact ⟨z, by simpa using a, b⟩

/-- What a call by contract leaves: its result under the place's names. -/
def callBy (F : Fun) (m : Mem) (site : Nat) (args : List AV) : Option (AV × Mem) :=
  (closeArgs m args).bind fun as => (F as).bind fun rb =>
    (rb.1.ren (siteRen m site rb.2.length)).bind fun r => (renBlks (siteRen m site rb.2.length) rb.2).map fun bs => (r, place m site 0 bs)

theorem callBy_sound {P : Program} {f : FuncId} {F : Fun} (hF : Pure P f F) {c : Ctx} {w0 : World} (M : MemOk c w0) {site : Nat} {args : List AV} {vs : Array Value} {r : AV} {m' : Mem} (h : callBy F c.m site args = some (r, m')) (ra : RelL c args vs.toList) :
    Calls P f vs c.w fun e w' => ∃ v ι', e = .returned v ∧ c.le ⟨m', ι', w'⟩ ∧ MemOk ⟨m', ι', w'⟩ w0 ∧ Rel ⟨m', ι', w'⟩ r v := by
  unfold callBy at h
  obtain ⟨as, has, h⟩ := Option.bind_eq_some_iff.1 h
  obtain ⟨⟨r0, bs⟩, hr0, h⟩ := Option.bind_eq_some_iff.1 h
  obtain ⟨r1, hr1, h⟩ := Option.bind_eq_some_iff.1 h
  obtain ⟨bs', hbs, h⟩ := Option.map_eq_some_iff.1 h
  simp only [Prod.mk.injEq] at h
  obtain ⟨rfl, rfl⟩ := h
  simp only at hr1 hbs
  refine (hF c.w as vs r0 bs (closeArgs_sound M has ra) hr0).mono ?_
  rintro e w' ⟨v, ι, rfl, M0, rr⟩
  obtain ⟨hlen, hget⟩ := renBlks_get hbs
  have hb := M0.below
  -- the new state of names
  let isNew : Nat → Prop := fun n => site * 16 ≤ n ∧ n < site * 16 + bs.length
  let ι' : Nat → Option Nat := fun n => if site * 16 ≤ n ∧ n < site * 16 + bs.length then ι (n - site * 16) else c.ι n
  have hm : ∀ n, place c.m site 0 bs' n = if site * 16 ≤ n ∧ n < site * 16 + bs.length then (bs'[n - site * 16]?).map (fun b => ⟨verNext c.m n, b⟩) else c.m n := fun n => by
    have := place_at c.m site bs' 0 n
    simpa [← hlen] using this
  have hnew : ∀ n, isNew n → ∃ x b, bs[n - site * 16]? = some x ∧ bs'[n - site * 16]? = some b ∧ renL (siteRen c.m site bs.length) x = some b ∧ place c.m site 0 bs' n = some ⟨verNext c.m n, b⟩ ∧ ι' n = ι (n - site * 16) := fun n hn => by
    have hlt : n - site * 16 < bs'.length := by have := hn.1; have := hn.2; omega
    obtain ⟨x, a, b⟩ := hget _ _ (List.getElem?_eq_getElem hlt)
    refine ⟨x, _, a, List.getElem?_eq_getElem hlt, b, ?_, if_pos hn⟩
    rw [hm, if_pos hn, List.getElem?_eq_getElem hlt]
    rfl
  have hold : ∀ n, ¬ isNew n → place c.m site 0 bs' n = c.m n ∧ ι' n = c.ι n := fun n hn => ⟨by rw [hm, if_neg hn], if_neg hn⟩
  -- new blocks lie past the old ones
  have hpast : ∀ n g, isNew n → ι' n = some g → c.w.heap.size ≤ g := fun n g hn hg => by
    obtain ⟨x, b, h1, h2, h3, h4, h5⟩ := hnew n hn
    rw [h5] at hg
    rcases M0.blk0 (n - site * 16) ⟨0, x⟩ (by simp [blkMem, h1]) with ⟨h, _⟩ | ⟨g', h, hge, _⟩
    · simp only at h; rw [hg] at h; cases h
    · simp only at h; rw [hg] at h; cases h; exact hge
  have hle : c.le ⟨place c.m site 0 bs', ι', w'⟩ := by
    refine ⟨hb.size, fun n k hk => ?_, fun b hb' hlt => ⟨hb.block b hlt, fun ⟨n, k, h1, h2⟩ => ?_⟩⟩
    · by_cases hn : isNew n
      · obtain ⟨x, b, h1, h2, h3, h4, h5⟩ := hnew n hn
        exact ⟨_, h4, Nat.le_of_lt (verNext_gt hk), fun e => absurd e (by have := verNext_gt hk; simp only; omega)⟩
      · obtain ⟨h1, h2⟩ := hold n hn
        exact ⟨k, h1.trans hk, Nat.le_refl _, fun _ => ⟨h2, rfl, fun b cs t _ hh => ⟨cs, (hb.block b (lt_heap hh)).trans hh, rfl⟩⟩⟩
    · by_cases hn : isNew n
      · have := hpast n b hn h2; omega
      · obtain ⟨e1, e2⟩ := hold n hn
        exact hb' ⟨n, k, e1.symm.trans h1, e2.symm.trans h2⟩
  have hN : Names ⟨blkMem bs, ι, w'⟩ ⟨place c.m site 0 bs', ι', w'⟩ (siteRen c.m site bs.length) := by
    intro n ver n' v' hf k hk
    unfold siteRen at hf
    split at hf
    · rename_i hh
      obtain ⟨rfl, hlt⟩ := hh
      cases hf
      have hn : isNew (site * 16 + n) := ⟨by omega, by omega⟩
      obtain ⟨x, b, h1, h2, h3, h4, h5⟩ := hnew _ hn
      rw [Nat.add_sub_cancel_left] at h1 h2 h5
      simp only [blkMem, h1, Option.map_some, Option.some.injEq] at hk
      subst hk
      exact ⟨rfl, _, h4, rfl, (renL_get h3).1.symm, h5⟩
    · cases hf
  refine ⟨v, ι', rfl, hle, ⟨?_, fun n k hk => ?_, fun n n' k k2 g h1 h2 h3 h4 => ?_⟩, rr.ren hN rfl r1 hr1⟩
  · exact M.below.trans (hb.mono M.below.size)
  · by_cases hn : isNew n
    · obtain ⟨x, b, h1, h2, h3, h4, h5⟩ := hnew n hn
      simp only at hk
      rw [h4] at hk; cases hk
      rcases M0.blk0 (n - site * 16) ⟨0, x⟩ (by simp [blkMem, h1]) with ⟨h, h'⟩ | ⟨g', h, hge, hh⟩
      · refine .inl ⟨h5.trans h, ?_⟩
        simp only at h'
        subst h'
        simp only [renL, Option.some.injEq] at h3
        exact h3.symm
      · exact .inr ⟨g', h5.trans h, by have := M.below.size; omega, hh.ren hN rfl h3⟩
    · obtain ⟨h1, h2⟩ := hold n hn
      simp only at hk
      rw [h1] at hk
      rcases M.blk0 n k hk with ⟨h, h'⟩ | ⟨g, h, hg, hh⟩
      · exact .inl ⟨h2.trans h, h'⟩
      · refine .inr ⟨g, h2.trans h, hg, ?_⟩
        obtain ⟨o, ho⟩ := hh.some_
        have := hb.block g (lt_heap ho)
        show ObjOk _ _ w'.heap[g]?
        rw [this]
        exact hh.mono hle
  · by_cases hn : isNew n <;> by_cases hn' : isNew n'
    · obtain ⟨x, b, a1, a2, a3, a4, a5⟩ := hnew n hn
      obtain ⟨y, d, b1, b2, b3, b4, b5⟩ := hnew n' hn'
      have e := M0.inj (n - site * 16) (n' - site * 16) ⟨0, x⟩ ⟨0, y⟩ g (by simp [blkMem, a1]) (by simp [blkMem, b1]) (a5.symm.trans h3) (b5.symm.trans h4)
      have := hn.1; have := hn'.1
      omega
    · have p := hpast n g hn h3
      obtain ⟨e1, e2⟩ := hold n' hn'
      rcases M.blk0 n' k2 (e1.symm.trans h2) with ⟨h, _⟩ | ⟨g', h, _, hh⟩
      · rw [← e2] at h; simp only at h4; rw [h4] at h; cases h
      · rw [← e2] at h; simp only at h4; rw [h4] at h; cases h; obtain ⟨o, ho⟩ := hh.some_; have := lt_heap ho; omega
    · have p := hpast n' g hn' h4
      obtain ⟨e1, e2⟩ := hold n hn
      rcases M.blk0 n k (e1.symm.trans h1) with ⟨h, _⟩ | ⟨g', h, _, hh⟩
      · rw [← e2] at h; simp only at h3; rw [h3] at h; cases h
      · rw [← e2] at h; simp only at h3; rw [h3] at h; cases h; obtain ⟨o, ho⟩ := hh.some_; have := lt_heap ho; omega
    · obtain ⟨e1, e2⟩ := hold n hn
      obtain ⟨e3, e4⟩ := hold n' hn'
      exact M.inj n n' k k2 g (e1.symm.trans h1) (e3.symm.trans h2) (e2.symm.trans h3) (e4.symm.trans h4)
end Go.Pm
