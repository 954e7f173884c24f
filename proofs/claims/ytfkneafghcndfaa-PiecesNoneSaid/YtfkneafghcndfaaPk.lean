/- A machine of values: one operation. -/
import Derived.Test.YtfkneafghcndfaaPj
import Derived.Test.YtfkneafghcndfaaPt
import Derived.Test.YtfkneafghcndfaaPz
namespace Go.Pm
open Go.RowKit
set_option linter.unusedVariables false
set_option linter.unusedSimpArgs false

def aPick (c a b : AV) : Option AV := match c with | .v (.bool t) => some (if t = true then a else b) | _ => none
def aNilCheck (x : AV) : Option AV := match x with | .ptr n v off => some (.ptr n v off) | .at_ xs => some (.at_ xs) | .fn (.func f) xs ys => some (.fn (.func f) xs ys) | _ => none
noncomputable def aBuiltin (P : Program) (b : Builtin) (ts : List TypeId) (xs : List AV) (m : Mem) (site : Nat) : Option Eff :=
  match b, ts, xs with
  | .len, [t], [.mp n v] => (aMapLen P t (.mp n v) m).map fun y => (y, none)
  | .len, [t], [x] => (aLen P t x).map fun y => (y, none)
  | .delete, [t, _], [x, y] => aDelete P t x y m
  | .cap, [t], [x] => (aCap P t x).map fun y => (y, none)
  | .append, [t, t2], [x, y] => aApp P t t2 x y m site
  | .copy, [t, _], [x, y] => aCopy P t x y m
  | .clear, [t], [x] => aClear P t x m
  | .min, _, [.v (.int k x), .v (.int _ y)] => some (.v (.int k (if y < x then y else x)), none)
  | .max, _, [.v (.int k x), .v (.int _ y)] => some (.v (.int k (if y > x then y else x)), none)
  | _, _, _ => none

/-- An operation that calls no function: its value, the block that turns. -/
noncomputable def absOp (P : Program) (o : Oper) (ρ : Operand → AV) (m : Mem) (site : Nat) : Option Eff :=
  match o.op with
  | .move x | .assign x => some (ρ x, none)
  | .pick c a b => (aPick (ρ c) (ρ a) (ρ b)).map fun y => (y, none)
  | .alloc e => aAlloc P e m site
  | .box e x => some (aNew m site (ρ x).cells)
  | .build t ps => (aBuild P t (ps.toList.map fun p => (p.1, ρ p.2))).map fun y => (y, none)
  | .buildSlice t n ps => aBuildSlice P t n (ps.toList.map fun p => (p.1, ρ p.2)) m site
  | .load t a => (aLoad P t (ρ a) m).map fun y => (y, none)
  | .store t a x => aStore P t (ρ a) (ρ x) m
  | .nilCheck x => (aNilCheck (ρ x)).map fun y => (y, none)
  | .binOp op t x y _ => (aBin P op t (ρ x) (ρ y)).map fun y => (y, none)
  | .unOp op _ x => (aUn op (ρ x)).map fun y => (y, none)
  | .convert s d x => (aConvert P s d (ρ x) m).map fun y => (y, none)
  | .sliceToArrayPointer t x => (aS2A P t (ρ x) m).map fun y => (y, none)
  | .makeFunc f first caps => some (.fn f (first.toList.map ρ) (caps.toList.map ρ), none)
  | .makeSlice t l c => aMakeSlice P t (ρ l) (ρ c) m site
  | .slice t x lo hi mx => (aSlice P t (ρ x) (lo.map ρ) (hi.map ρ) (mx.map ρ) m).map fun y => (y, none)
  | .fieldAddr s x f => (aFieldAddr P s f (ρ x)).map fun y => (y, none)
  | .field t x f => (aField P t (ρ x) f).map fun y => (y, none)
  | .indexAddr t x i => (aIndexAddr P t (ρ x) (ρ i)).map fun y => (y, none)
  | .index t x i => (aIndex P t (ρ x) (ρ i)).map fun y => (y, none)
  | .extract x i => (aExtract (ρ x) i).map fun y => (y, none)
  | .makeMap t r => aMakeMap P t (r.map ρ) m site
  | .range t x => aRange P t (ρ x) m site
  | .next x s => aNext m (ρ x) s
  | .entry x => (aEntry m (ρ x)).map fun y => (y, none)
  | .lookup t x i ok => (aLookup P t (ρ x) (ρ i) ok m).map fun y => (y, none)
  | .mapUpdate t x i y => aMapUpdate P t (ρ x) (ρ i) (ρ y) m
  | .insert t x i y => aMapUpdate P t (ρ x) (ρ i) (ρ y) m
  | .call q => match q.callee with | .builtin b => aBuiltin P b q.argTypes.toList (q.args.toList.map ρ) m site | _ => none
  | _ => none

/-- The run of an operation comes to this effect. -/
def GoodN (P : Program) (c : Ctx) (w0 : World) (s : Sem Next) (e : Eff) : Prop :=
  ∃ n v w' ι', s.run P c.w = .ok n w' ∧ (n = .value v ∨ (n = .skip ∧ v = undef)) ∧ c.le ⟨memOf c.m e.2, ι', w'⟩ ∧ MemOk ⟨memOf c.m e.2, ι', w'⟩ w0 ∧ Rel ⟨memOf c.m e.2, ι', w'⟩ e.1 v
theorem Good.next {P : Program} {c : Ctx} {w0 : World} {s : Sem Value} {e : Eff} (h : Good P c w0 s e) : GoodN P c w0 (do pure (.value (← s))) e := by
  obtain ⟨v, w', ι', h1, h2⟩ := h
  exact ⟨_, v, w', ι', by simp only [Sem.run_bind, h1, Result.andThen_ok, Sem.run_pure], .inl rfl, h2⟩
theorem GoodU.next {P : Program} {c : Ctx} {w0 : World} {s : Sem Unit} {e : Eff} (h : GoodU P c w0 s e) : GoodN P c w0 (do s; pure .skip) e := by
  obtain ⟨w', ι', h1, h2, h3, h4⟩ := h
  refine ⟨_, undef, w', ι', by simp only [Sem.run_bind, h1, Result.andThen_ok, Sem.run_pure], .inr ⟨rfl, rfl⟩, h2, h3, ?_⟩
  rw [h4]; exact .v
theorem GoodN.same {P : Program} {c : Ctx} {w0 : World} {s : Sem Next} {x : AV} {v : Value} (h : s.run P c.w = .ok (.value v) c.w) (M : MemOk c w0) (r : Rel c x v) : GoodN P c w0 s (x, none) :=
  ⟨_, v, c.w, c.ι, h, .inl rfl, .refl c, M, r⟩
theorem GoodN.congr {P : Program} {c : Ctx} {w0 : World} {s s' : Sem Next} {e : Eff} (h : GoodN P c w0 s e) (he : s'.run P c.w = s.run P c.w) : GoodN P c w0 s' e := by
  obtain ⟨n, v, w', ι', h1, h2⟩ := h
  exact ⟨n, v, w', ι', he.trans h1, h2⟩
theorem relL_map {c : Ctx} {ρ : Operand → AV} {a : Act} (R : ∀ x, Rel c (ρ x) (a.eval x)) (xs : List Operand) : RelL c (xs.map ρ) (xs.map a.eval) := by
  induction xs with
  | nil => exact .nil c
  | cons x xs ih => exact .cons (R x) ih

theorem aPick_sound {c : Ctx} {x y z r : AV} {u v q : Value} (h : aPick x y z = some r) (rx : Rel c x u) (ry : Rel c y v) (rz : Rel c z q) : ∃ t, u = .bool t ∧ Rel c r (if t = true then v else q) := by
  unfold aPick at h
  split at h
  · cases h
    obtain ⟨rfl, _⟩ := rx.inv_v
    refine ⟨_, rfl, ?_⟩
    split
    · exact ry
    · exact rz
  · cases h
theorem aNilCheck_sound {c : Ctx} {x r : AV} {u : Value} (h : aNilCheck x = some r) (rx : Rel c x u) : r = x ∧ ((∃ a, u = .pointer (some a)) ∨ ∃ f xs ys, u = .func (.func f) xs ys) := by
  unfold aNilCheck at h
  split at h
  · cases h; cases rx; exact ⟨rfl, .inl ⟨_, rfl⟩⟩
  · cases h; cases rx; exact ⟨rfl, .inl ⟨_, rfl⟩⟩
  · cases h; obtain ⟨cs, ds, rfl, _⟩ := rx.inv_fn; exact ⟨rfl, .inr ⟨_, _, _, rfl⟩⟩
  · cases h
theorem aBuiltin_sound {P : Program} {c : Ctx} {w0 : World} (M : MemOk c w0) {b : Builtin} {ts : Array TypeId} {ty : TypeId} {cs : Array Bool} {xs : List AV} {vs : Array Value} {site : Nat} {e : Eff} (h : aBuiltin P b ts.toList xs c.m site = some e) (r : RelL c xs vs.toList) :
    GoodN P c w0 (builtin b ts ty cs vs) e := by
  obtain ⟨ts⟩ := ts
  obtain ⟨vs⟩ := vs
  unfold aBuiltin at h
  simp only at h r
  split at h
  · obtain ⟨y, hy, rfl⟩ := Option.map_eq_some_iff.1 h
    obtain ⟨v, vs', rfl, r1, r2⟩ := r.inv_cons
    obtain rfl := r2.inv_nil
    exact (aMapLen_sound (ty := ty) M hy r1).next
  · obtain ⟨y, hy, rfl⟩ := Option.map_eq_some_iff.1 h
    obtain ⟨v, vs', rfl, r1, r2⟩ := r.inv_cons
    obtain rfl := r2.inv_nil
    exact (aLen_sound (ty := ty) M hy r1).next
  · obtain ⟨v, vs', rfl, r1, r2⟩ := r.inv_cons
    obtain ⟨u, vs', rfl, r3, r4⟩ := r2.inv_cons
    obtain rfl := r4.inv_nil
    exact (aDelete_sound (ty := ty) M h r1 r3).next
  · obtain ⟨y, hy, rfl⟩ := Option.map_eq_some_iff.1 h
    obtain ⟨v, vs', rfl, r1, r2⟩ := r.inv_cons
    obtain rfl := r2.inv_nil
    exact (aCap_sound (ty := ty) M hy r1).next
  · obtain ⟨v, vs', rfl, r1, r2⟩ := r.inv_cons
    obtain ⟨u, vs', rfl, r3, r4⟩ := r2.inv_cons
    obtain rfl := r4.inv_nil
    exact (aApp_sound (ty := ty) M h r1 r3).next
  · obtain ⟨v, vs', rfl, r1, r2⟩ := r.inv_cons
    obtain ⟨u, vs', rfl, r3, r4⟩ := r2.inv_cons
    obtain rfl := r4.inv_nil
    exact (aCopy_sound (ty := ty) M h r1 r3).next
  · obtain ⟨v, vs', rfl, r1, r2⟩ := r.inv_cons
    obtain rfl := r2.inv_nil
    exact (aClear_sound (ty := ty) M h r1).next
  · rename_i k x k' y
    obtain ⟨v, vs', rfl, r1, r2⟩ := r.inv_cons
    obtain ⟨u, vs', rfl, r3, r4⟩ := r2.inv_cons
    obtain rfl := r4.inv_nil
    cases r1; cases r3; cases h
    exact .same (by show (do pure (.value (← Builtin.min_ _ _ _)) : Sem Next).run P c.w = _; simp [run_min_int2]) M .v
  · rename_i k x k' y
    obtain ⟨v, vs', rfl, r1, r2⟩ := r.inv_cons
    obtain ⟨u, vs', rfl, r3, r4⟩ := r2.inv_cons
    obtain rfl := r4.inv_nil
    cases r1; cases r3; cases h
    exact .same (by show (do pure (.value (← Builtin.max_ _ _ _)) : Sem Next).run P c.w = _; simp [run_max_int2]) M .v
  · cases h

set_option maxHeartbeats 4000000 in
theorem absOp_sound {P : Program} {c : Ctx} {w0 : World} (M : MemOk c w0) {o : Oper} {ρ : Operand → AV} {a : Act} {site : Nat} {e : Eff} (h : absOp P o ρ c.m site = some e) (R : ∀ x, Rel c (ρ x) (a.eval x)) :
    GoodN P c w0 (execOp a.eval o) e := by
  obtain ⟨dst, op, ty, pos, aft, grd⟩ := o
  unfold absOp at h
  simp only [execOp]
  cases op with
  | move x => cases h; exact .same rfl M (R x)
  | assign x => cases h; exact .same rfl M (R x)
  | pick q x y =>
    obtain ⟨z, hz, rfl⟩ := Option.map_eq_some_iff.1 h
    obtain ⟨t, ht, r⟩ := aPick_sound hz (R q) (R x) (R y)
    exact .same (v := if t = true then a.eval x else a.eval y) (by simp [ht, asBool]) M r
  | alloc t => exact (aAlloc_sound M h).next
  | box t x => cases h; exact (aBox_sound M (R x)).next
  | build t ps =>
    obtain ⟨y, hy, rfl⟩ := Option.map_eq_some_iff.1 h
    refine (aBuild_sound (qs := ps.map fun (i, x) => (i, a.eval x)) M hy (by simp [Function.comp_def]) (fun i b hb => ?_)).next
    rw [List.getElem?_map] at hb
    cases e : ps.toList[i]? with
    | none => rw [e] at hb; cases hb
    | some q =>
      rw [e] at hb; cases hb
      exact ⟨(q.1, a.eval q.2), by simp [Array.toList_map, e], R q.2⟩
  | buildSlice t n ps =>
    refine (aBuildSlice_sound (qs := ps.map fun (i, x) => (i, a.eval x)) M h (by simp [Function.comp_def]) (fun i b hb => ?_)).next
    rw [List.getElem?_map] at hb
    cases e : ps.toList[i]? with
    | none => rw [e] at hb; cases hb
    | some q =>
      rw [e] at hb; cases hb
      exact ⟨(q.1, a.eval q.2), by simp [Array.toList_map, e], R q.2⟩
  | load t x =>
    obtain ⟨y, hy, rfl⟩ := Option.map_eq_some_iff.1 h
    exact (aLoad_sound M hy (R x)).next
  | store t x y => exact (aStore_sound M h (R x) (R y)).next
  | nilCheck x =>
    obtain ⟨z, hz, rfl⟩ := Option.map_eq_some_iff.1 h
    have hr := R x
    obtain ⟨rfl, h2⟩ := aNilCheck_sound hz hr
    rcases h2 with ⟨ad, h2⟩ | ⟨f, xs, ys, h2⟩
    · exact .same (v := a.eval x) (by simp only [h2]; rfl) M hr
    · exact .same (v := a.eval x) (by simp only [h2]; rfl) M hr
  | binOp op t x y ty2 =>
    obtain ⟨z, hz, rfl⟩ := Option.map_eq_some_iff.1 h
    exact (aBin_sound M hz (R x) (R y)).next
  | unOp op t x =>
    obtain ⟨z, hz, rfl⟩ := Option.map_eq_some_iff.1 h
    exact (aUn_sound M hz (R x)).next
  | convert s d x =>
    obtain ⟨z, hz, rfl⟩ := Option.map_eq_some_iff.1 h
    exact (aConvert_sound M hz (R x)).next
  | sliceToArrayPointer t x =>
    obtain ⟨z, hz, rfl⟩ := Option.map_eq_some_iff.1 h
    exact (aS2A_sound M hz (R x)).next
  | makeFunc f first caps =>
    cases h
    exact .same (v := .func f (first.map a.eval) (caps.map a.eval)) (by simp [Instr.makeFunc]) M (.mkFn (by rw [Array.toList_map]; exact relL_map R _) (by rw [Array.toList_map]; exact relL_map R _))
  | makeSlice t l q => exact (aMakeSlice_sound M h (R l) (R q)).next
  | slice t x lo hi mx =>
    obtain ⟨z, hz, rfl⟩ := Option.map_eq_some_iff.1 h
    have key : ∀ q : Option Operand, (∀ y, q.map ρ = some y → ∃ u, q.map a.eval = some u ∧ Rel c y u) ∧ (q.map ρ = none → q.map a.eval = none) := fun q => by
      cases q with
      | none => exact ⟨(fun y h => by cases h), fun _ => rfl⟩
      | some q => exact ⟨(fun y h => by cases h; exact ⟨_, rfl, R q⟩), (fun h => by cases h)⟩
    exact (aSlice_sound M hz (R x) (key lo).1 (key lo).2 (key hi).1 (key hi).2 (key mx).1 (key mx).2).next
  | fieldAddr s x f =>
    obtain ⟨z, hz, rfl⟩ := Option.map_eq_some_iff.1 h
    exact (aFieldAddr_sound M hz (R x)).next
  | field t x f =>
    obtain ⟨z, hz, rfl⟩ := Option.map_eq_some_iff.1 h
    exact (aField_sound M hz (R x)).next
  | indexAddr t x i =>
    obtain ⟨z, hz, rfl⟩ := Option.map_eq_some_iff.1 h
    exact (aIndexAddr_sound M hz (R x) (R i)).next
  | index t x i =>
    obtain ⟨z, hz, rfl⟩ := Option.map_eq_some_iff.1 h
    exact (aIndex_sound M hz (R x) (R i)).next
  | extract x i =>
    obtain ⟨z, hz, rfl⟩ := Option.map_eq_some_iff.1 h
    exact (aExtract_sound M hz (R x)).next
  | makeMap t r =>
    refine (aMakeMap_sound M h (v := r.map a.eval) (fun y hy => ?_) (fun hn => ?_)).next
    · cases r with
      | none => cases hy
      | some r => cases hy; exact ⟨_, rfl, R r⟩
    · cases r with
      | none => rfl
      | some r => cases hn
  | lookup t x i ok =>
    obtain ⟨z, hz, rfl⟩ := Option.map_eq_some_iff.1 h
    exact (aLookup_sound M hz (R x) (R i)).next
  | range t x => exact (aRange_sound M h (R x)).next
  | next x s => exact (aNext_sound M h (R x)).next
  | entry x =>
    obtain ⟨z, hz, rfl⟩ := Option.map_eq_some_iff.1 h
    exact (aEntry_sound M hz (R x)).next
  | mapUpdate t x i y => exact (aMapUpdate_sound M h (R x) (R i) (R y)).next
  | insert t x i y => exact (aMapUpdate_sound M h (R x) (R i) (R y)).next
  | call q =>
    obtain ⟨cal, args, ats⟩ := q
    simp only at h
    cases cal with
    | builtin b =>
      have := aBuiltin_sound (ty := ty) (cs := args.map fun | .const _ => true | _ => false) (vs := args.map a.eval) M h (by rw [Array.toList_map]; exact relL_map R _)
      exact this.congr (by simp only [resolve, Sem.run_bind, Sem.run_pure, Result.andThen_ok, invoke]; rfl)
    | _ => cases h
  | _ => cases h
end Go.Pm
