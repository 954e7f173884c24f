/- A machine of values: a step of a region. -/
import Derived.Test.YtfkneafghcndfaaPl
namespace Go.Pm
open Go.RowKit
set_option linter.unusedVariables false
set_option linter.unusedSimpArgs false

structure St where
  t : Nat → AV
  m : Mem
def St.ev (st : St) : Operand → AV
  | .tmp k => st.t k
  | .const v => ofV v
  | .global g => .v (.pointer (some ⟨g, 0, none⟩))
  | .func f => .fn (.func f) [] []
def St.put (nt : Nat) (st : St) (dst : Option Tmp) (v : AV) : Option St :=
  match dst with
  | none => some st
  | some d => if d < nt then some ⟨upd st.t d v, st.m⟩ else none

/-- The state of values is that of the model. -/
def Sim (c0 : Ctx) (w0 : World) (nt : Nat) (st : St) (a : Act) (w : World) : Prop :=
  ∃ ι, c0.le ⟨st.m, ι, w⟩ ∧ MemOk ⟨st.m, ι, w⟩ w0 ∧ a.tmps.size = nt ∧ a.defers = [] ∧ ∀ k, Rel ⟨st.m, ι, w⟩ (st.t k) (a.tmps.getD k undef)
theorem rel_ev {c : Ctx} {st : St} {a : Act} (h : ∀ k, Rel c (st.t k) (a.tmps.getD k undef)) : ∀ x, Rel c (st.ev x) (a.eval x) := by
  intro x
  cases x with
  | tmp k => exact h k
  | const v => exact Rel.ofV c v
  | global g => exact .v
  | func f => exact .mkFn (.nil c) (.nil c)
theorem put_tmps (a : Act) (dst : Option Tmp) (v : Value) (k : Nat) : (a.put dst v).tmps.getD k undef = match dst with | none => a.tmps.getD k undef | some d => if k = d ∧ d < a.tmps.size then v else a.tmps.getD k undef := by
  cases dst with
  | none => rfl
  | some d =>
    simp only [Act.put, Array.getD_eq_getD_getElem?, Array.getElem?_setIfInBounds]
    by_cases h : d = k
    · subst h
      by_cases h2 : d < a.tmps.size
      · simp [h2]
      · simp [h2]
    · have : ¬ (k = d) := fun e => h e.symm
      simp [h, this]
theorem Sim.put {c0 : Ctx} {w0 : World} {nt : Nat} {st st' : St} {a : Act} {w : World} {dst : Option Tmp} {x : AV} {v : Value} {m' : Mem} {ι' : Nat → Option Nat} (hp : St.put nt ⟨st.t, m'⟩ dst x = some st')
    (hle : c0.le ⟨m', ι', w⟩) (hM : MemOk ⟨m', ι', w⟩ w0) (hs : a.tmps.size = nt) (hd : a.defers = []) (hr : ∀ k, Rel ⟨m', ι', w⟩ (st.t k) (a.tmps.getD k undef)) (rx : Rel ⟨m', ι', w⟩ x v) : Sim c0 w0 nt st' (a.put dst v) w := by
  cases dst with
  | none => cases hp; exact ⟨ι', hle, hM, hs, hd, hr⟩
  | some d =>
    simp only [St.put] at hp
    split at hp
    · rename_i hlt
      cases hp
      refine ⟨ι', hle, hM, by simp [Act.put, hs], hd, fun k => ?_⟩
      rw [put_tmps]
      simp only [upd_at]
      by_cases e : k = d
      · rw [if_pos e, if_pos ⟨e, (by rw [hs]; exact hlt : d < a.tmps.size)⟩]; exact rx
      · rw [if_neg e, if_neg (fun h => e h.1)]; exact hr k
    · cases hp

/-- Does an operation's guard let it run? -/
def guardOk (ops : Array Oper) (st : St) (o : Oper) : Option Bool :=
  match o.guard with
  | none => some true
  | some (j, want) => match (ops[j]?).bind (·.dst) with
    | some d => match st.t d with
      | .v (.bool b) => some (b == want)
      | .v (.tuple _) => some false
      | _ => none
    | none => some false
theorem guardOk_sound {ops : Array Oper} {st : St} {o : Oper} {a : Act} {c : Ctx} {nt : Nat} {g : Bool} (h : guardOk ops st o = some g) (hr : ∀ k, Rel c (st.t k) (a.tmps.getD k undef)) : Region.wanted o (yielded ops a.tmps) = g := by
  unfold guardOk at h
  unfold Region.wanted
  cases hg : o.guard with
  | none => rw [hg] at h; cases h; rfl
  | some p =>
    obtain ⟨j, want⟩ := p
    rw [hg] at h
    simp only at h ⊢
    unfold yielded
    cases hd : (ops[j]?).bind (·.dst) with
    | none => rw [hd] at h; cases h; simp
    | some d =>
      rw [hd] at h
      simp only at h
      have r := hr d
      have key : ∀ v, a.tmps.getD d undef = v → v ≠ undef → a.tmps[d]? = some v := fun v e hv => by
        rw [Array.getD_eq_getD_getElem?] at e
        cases e2 : a.tmps[d]? with
        | none => rw [e2] at e; exact absurd e.symm hv
        | some u => rw [e2] at e; simp at e; rw [e]
      split at h
      · rename_i b hb
        cases h
        rw [hb] at r
        have := key _ r.inv_v.1 (by intro h; cases h)
        simp only [Option.bind_some, this]
        cases b <;> cases want <;> rfl
      · rename_i vs hb
        cases h
        rw [hb] at r
        have e := r.inv_v.1
        rw [Array.getD_eq_getD_getElem?] at e
        simp only [Option.bind_some]
        cases e2 : a.tmps[d]? with
        | none => simp
        | some u => rw [e2] at e; simp at e; subst e; simp
      · cases h

/-- A call: the place's number, the function, its arguments, the memory. -/
abbrev CallF := Nat → FuncId → List AV → Mem → Option (AV × Mem)
def CallsOk (P : Program) (call : CallF) : Prop :=
  ∀ px f args m r m', call px f args m = some (r, m') → ∀ (c : Ctx) (w0 : World) (vs : Array Value), c.m = m → MemOk c w0 → RelL c args vs.toList →
    (∃ fn, P.funcs[f]? = some fn ∧ fn.body.isSome = true ∧ (fn.name == "runtime.NumGoroutine") = false) ∧
    Calls P f vs c.w fun e w' => ∃ v ι', e = .returned v ∧ c.le ⟨m', ι', w'⟩ ∧ MemOk ⟨m', ι', w'⟩ w0 ∧ Rel ⟨m', ι', w'⟩ r v

/-- What a call calls. -/
def target (st : St) (q : Call) : Option (FuncId × List AV) :=
  match q.callee with
  | .value f => match st.ev f with
    | .fn (.func g) first caps => some (g, first ++ q.args.toList.map st.ev ++ caps)
    | _ => none
  | _ => none
def isVal (q : Call) : Bool := match q.callee with | .value _ => true | _ => false
noncomputable def doOp (P : Program) (call : CallF) (px : Nat) (o : Oper) (st : St) : Option (AV × Mem) :=
  match o.op with
  | .call q => if isVal q = true then (target st q).bind fun fa => call (px * 4096 + o.dst.getD 4095 + 1) fa.1 fa.2 st.m
      else (absOp P o st.ev st.m (px * 4096 + o.dst.getD 4095)).map fun e => (e.1, memOf st.m e.2)
  | _ => (absOp P o st.ev st.m (px * 4096 + o.dst.getD 4095)).map fun e => (e.1, memOf st.m e.2)
noncomputable def stepOp (P : Program) (call : CallF) (nt px : Nat) (ops : Array Oper) (o : Oper) (st : St) : Option St :=
  (guardOk ops st o).bind fun g => if g = true then (doOp P call px o st).bind fun r => St.put nt ⟨st.t, r.2⟩ o.dst r.1 else St.put nt st o.dst (.v undef)

theorem exec_call {P : Program} {w : World} {a : Act} {o : Oper} {q : Call} (ho : o.op = .call q) {f : Operand} (hf : q.callee = .value f) {g : FuncId} {cs ds : Array Value} (hv : a.eval f = .func (.func g) cs ds)
    {fn : Func} (h1 : P.funcs[g]? = some fn) (h2 : fn.body.isSome = true) (h3 : (fn.name == "runtime.NumGoroutine") = false) : (execOp a.eval o).run P w = .ok (.enter g ((cs ++ q.args.map a.eval) ++ ds)) w := by
  have h4 : fn.body.isNone = false := by cases hb : fn.body <;> simp_all
  simp only [execOp, ho, resolve, hf, hv, Deferred.ofValue, Sem.run_bind, Sem.run_pure, Result.andThen_ok, invoke, callFunc, run_program, h1, h3, Bool.false_eq_true, if_false, h4]

theorem stepOp_sound {P : Program} {call : CallF} (hc : CallsOk P call) {nt px : Nat} {ops : Array Oper} {i : Nat} {o : Oper} (hi : ops[i]? = some o) {Q : Exit → Act → World → Prop} {c0 : Ctx} {w0 : World} {st st' : St} {a : Act} {w : World}
    (h : stepOp P call nt px ops o st = some st') (hS : Sim c0 w0 nt st a w) : wpOp P ops Q i (Sim c0 w0 nt st') a w := by
  obtain ⟨ι, hle, hM, hsz, hd, hr⟩ := hS
  unfold stepOp at h
  obtain ⟨g, hg, h⟩ := Option.bind_eq_some_iff.1 h
  have hw := guardOk_sound (nt := nt) hg hr
  unfold wpOp
  rw [hi]
  simp only [hw]
  cases g with
  | false =>
    simp only [Bool.false_eq_true, if_false] at h ⊢
    exact Sim.put h hle hM hsz hd hr .v
  | true =>
    simp only [if_true] at h ⊢
    obtain ⟨⟨x, m'⟩, hx, hp⟩ := Option.bind_eq_some_iff.1 h
    refine .inl ?_
    unfold Oper.wp
    have R := rel_ev hr
    -- an operation of its own
    have plain : (absOp P o st.ev st.m (px * 4096 + o.dst.getD 4095)).map (fun e => (e.1, memOf st.m e.2)) = some (x, m') → o.upon P a (Sim c0 w0 nt st') Q ((execOp a.eval o).run P w) := by
      intro hx
      obtain ⟨e, he, h2⟩ := Option.map_eq_some_iff.1 hx
      simp only [Prod.mk.injEq] at h2
      obtain ⟨rfl, rfl⟩ := h2
      obtain ⟨n, v, w', ι', hrun, hn, hle', hM', rv⟩ := absOp_sound (c := ⟨st.m, ι, w⟩) hM he R
      have fin := Sim.put (a := a) hp (hle.trans hle') hM' hsz hd (fun k => (hr k).mono hle') rv
      simp only at hrun
      rw [hrun]
      rcases hn with rfl | ⟨rfl, rfl⟩
      · exact fin
      · exact fin
    unfold doOp at hx
    split at hx
    · rename_i q hq
      split at hx
      · rename_i hv
        obtain ⟨⟨f, args⟩, ht, hx⟩ := Option.bind_eq_some_iff.1 hx
        unfold target at ht
        split at ht
        · rename_i f0 hf0
          split at ht
          · rename_i g0 first caps hev
            simp only [Option.some.injEq, Prod.mk.injEq] at ht
            obtain ⟨rfl, rfl⟩ := ht
            have rf := R f0
            rw [hev] at rf
            obtain ⟨cs, ds, hval, r1, r2⟩ := rf.inv_fn
            have ra : RelL ⟨st.m, ι, w⟩ (first ++ q.args.toList.map st.ev ++ caps) ((cs ++ q.args.map a.eval) ++ ds).toList := by
              simp only [Array.toList_append, Array.toList_map]
              exact (r1.append (relL_map R _)).append r2
            obtain ⟨⟨fn, h1, h2, h3⟩, hcall⟩ := hc _ _ _ _ _ _ hx ⟨st.m, ι, w⟩ w0 _ rfl hM ra
            rw [exec_call hq hf0 hval h1 h2 h3]
            simp only [Oper.upon]
            refine hcall.mono ?_
            rintro e w' ⟨v, ι', rfl, hle', hM', rv⟩
            exact Sim.put hp (hle.trans hle') hM' hsz hd (fun k => (hr k).mono hle') rv
          · cases ht
        · cases ht
      · exact plain hx
    · exact plain hx

/-- A region in the text's order. -/
noncomputable def runOps (P : Program) (call : CallF) (nt px : Nat) (ops : Array Oper) : List Oper → St → Option St
  | [], st => some st
  | o :: os, st => (stepOp P call nt px ops o st).bind (runOps P call nt px ops os)
theorem runOps_sound {P : Program} {call : CallF} (hc : CallsOk P call) {nt px : Nat} {ops : Array Oper} {Q : Exit → Act → World → Prop} {c0 : Ctx} {w0 : World} {st' : St} (hQ : ∀ a w, Sim c0 w0 nt st' a w → Q .normal a w) : ∀ (os : List Oper) (k : Nat) (st : St) (a : Act) (w : World),
    ops.toList.drop k = os → runOps P call nt px ops os st = some st' → Sim c0 w0 nt st a w → wpOps P ops Q (List.range' k os.length) a w := by
  intro os
  induction os with
  | nil => intro k st a w hk h hS; cases h; exact hQ a w hS
  | cons o os ih =>
    intro k st a w hk h hS
    simp only [runOps] at h
    obtain ⟨st1, h1, h2⟩ := Option.bind_eq_some_iff.1 h
    have hi : ops[k]? = some o := by
      have : (ops.toList.drop k)[0]? = some o := by rw [hk]; rfl
      rw [List.getElem?_drop] at this
      simpa using this
    have hk' : ops.toList.drop (k + 1) = os := by
      rw [← List.drop_drop, hk]; rfl
    rw [List.length_cons, List.range'_succ, wpOps_cons]
    exact wpOp_mono (fun a w h => ih (k + 1) st1 a w hk' h2 h) (stepOp_sound hc hi h1 hS)
end Go.Pm
