/- A machine of values: a function's text. -/
import Derived.Test.YtfkneafghcndfaaPp
import Derived.LoopN
import Derived.Scope
namespace Go.Pm
open Go.RowKit
set_option linter.unusedVariables false
set_option linter.unusedSimpArgs false

/-- How a piece of text ends. -/
inductive Ex where
  | normal
  | exit (id : Nat)
  | ret
  deriving DecidableEq
def Ex.out : Ex → Exit
  | .normal => .normal
  | .exit id => .exit id
  | .ret => .ret
def iter (f : St → Option (Ex × St)) : Nat → St → Option (Ex × St)
  | 0, _ => none
  | n + 1, st => (f st).bind fun r => match r.1 with | .normal => iter f n r.2 | e => some (e, r.2)
noncomputable def evalC (P : Program) (K : FuncId → Option Con) (call : CallF) (D : Nat → List Nat) (nt px L : Nat) : Code → St → Option (Ex × St)
  | .skip, st => some (.normal, st)
  | .label _, st => some (.normal, st)
  | .region id ops d, st => (if d = true then drawGo P K nt px ops (D id) ops.toList 0 [] st else runOps P call nt px ops ops.toList st).map fun s => (.normal, s)
  | .seq a b, st => (evalC P K call D nt px L a st).bind fun r => match r.1 with | .normal => evalC P K call D nt px L b r.2 | e => some (e, r.2)
  | .cond c a b, st => match st.ev c with | .v (.bool t) => if t = true then evalC P K call D nt px L a st else evalC P K call D nt px L b st | _ => none
  | .block id c, st => (evalC P K call D nt px L c st).map fun r => (if r.1 = .exit id then .normal else r.1, r.2)
  | .loop c, st => iter (evalC P K call D nt px L c) L st
  | .scope c, st => evalC P K call D nt px L c st
  | .exit id, st => some (.exit id, st)
  | .ret, st => some (.ret, st)
  | _, _ => none

/-- The drawn regions of a text. -/
def drawsOf : Code → List (Nat × Array Oper)
  | .region id ops d => if d = true then [(id, ops)] else []
  | .seq a b => drawsOf a ++ drawsOf b
  | .cond _ a b => drawsOf a ++ drawsOf b
  | .block _ c => drawsOf c
  | .loop c => drawsOf c
  | .scope c => drawsOf c
  | _ => []

theorem evalC_sound {P : Program} {K : FuncId → Option Con} (hK : KOk P K) (hm : P.follows .mixedOrders = true) {call : CallF} (hcall : CallsOk P call) {D : Nat → List Nat} {nt px L : Nat} {c0 : Ctx} {w0 : World} : ∀ (code : Code), (∀ p ∈ drawsOf code, DrawOk p.2 (D p.1)) →
    ∀ (st : St) (ex : Ex) (st' : St), evalC P K call D nt px L code st = some (ex, st') → ∀ (a : Act) (w : World), Sim c0 w0 nt st a w → ∀ Q : Exit → Act → World → Prop, (∀ a w, Sim c0 w0 nt st' a w → Q ex.out a w) → code.wp P Q a w := by
  intro code
  induction code with
  | skip => intro _ st ex st' h a w hS Q hQ; cases h; exact wp_skip (hQ a w hS)
  | label l => intro _ st ex st' h a w hS Q hQ; cases h; exact wp_label (hQ a w hS)
  | exit id => intro _ st ex st' h a w hS Q hQ; cases h; exact wp_exit (hQ a w hS)
  | ret => intro _ st ex st' h a w hS Q hQ; cases h; exact wp_ret (hQ a w hS)
  | region id ops d =>
    intro hD st ex st' h a w hS Q hQ
    simp only [evalC] at h
    obtain ⟨s, hs, h2⟩ := Option.map_eq_some_iff.1 h
    simp only [Prod.mk.injEq] at h2
    obtain ⟨rfl, rfl⟩ := h2
    cases d with
    | true =>
      simp only [if_true] at hs
      refine wp_region_any hm ?_
      have hd := hD (id, ops) (by simp [drawsOf])
      obtain ⟨ι, hle, hM, h3⟩ := hS
      obtain ⟨hle', hM'⟩ := step_drawn (w' := { w with drawn := w.drawn + 1 }) hM rfl rfl rfl rfl
      exact draw_sound hK hd hs ⟨ι, hle.trans hle', hM', h3.1, h3.2.1, fun k => (h3.2.2 k).mono hle'⟩ hQ
    | false =>
      simp only [Bool.false_eq_true, if_false] at hs
      have := runOps_sound (Q := Q) hcall hQ ops.toList 0 st a w (by simp) hs hS
      refine wp_region ?_
      rw [List.range_eq_range']
      simpa using this
  | seq x y ihx ihy =>
    intro hD st ex st' h a w hS Q hQ
    simp only [evalC] at h
    obtain ⟨⟨e1, s1⟩, h1, h2⟩ := Option.bind_eq_some_iff.1 h
    refine wp_seq (ihx (fun p hp => hD p (by simp only [drawsOf]; exact List.mem_append_left _ hp)) st e1 s1 h1 a w hS _ fun a1 w1 hS1 => ?_)
    cases e1 with
    | normal => exact ihy (fun p hp => hD p (by simp only [drawsOf]; exact List.mem_append_right _ hp)) s1 ex st' h2 a1 w1 hS1 Q hQ
    | exit id => cases h2; exact hQ a1 w1 hS1
    | ret => cases h2; exact hQ a1 w1 hS1
  | cond c x y ihx ihy =>
    intro hD st ex st' h a w hS Q hQ
    simp only [evalC] at h
    split at h
    · rename_i t ht
      have hv : a.eval c = .bool t := by
        obtain ⟨ι, hle, hM, h1, h2, hr⟩ := hS
        have := rel_ev hr c
        rw [ht] at this
        exact this.inv_v.1
      refine wp_cond hv ?_
      cases t with
      | true => exact ihx (fun p hp => hD p (by simp only [drawsOf]; exact List.mem_append_left _ hp)) st ex st' (by simpa using h) a w hS Q hQ
      | false => exact ihy (fun p hp => hD p (by simp only [drawsOf]; exact List.mem_append_right _ hp)) st ex st' (by simpa using h) a w hS Q hQ
    · cases h
  | block id c ih =>
    intro hD st ex st' h a w hS Q hQ
    simp only [evalC] at h
    obtain ⟨⟨e1, s1⟩, h1, h2⟩ := Option.map_eq_some_iff.1 h
    simp only [Prod.mk.injEq] at h2
    obtain ⟨h2, rfl⟩ := h2
    refine wp_block (ih (fun p hp => hD p (by simpa only [drawsOf] using hp)) st e1 s1 h1 a w hS _ fun a1 w1 hS1 => ?_)
    have := hQ a1 w1 hS1
    cases e1 with
    | normal => rw [if_neg (by intro h; cases h)] at h2; subst h2; exact this
    | ret => rw [if_neg (by intro h; cases h)] at h2; subst h2; exact this
    | exit i =>
      show Exit.inBlock id Q (.exit i) a1 w1
      unfold Exit.inBlock
      by_cases hi : i = id
      · subst hi
        rw [if_pos rfl] at h2
        subst h2
        simp only [if_true]; exact this
      · rw [if_neg (by intro h; cases h; exact hi rfl)] at h2
        subst h2
        simp only [if_neg hi]; exact this
  | loop c ih =>
    intro hD st ex st' h a w hS Q hQ
    simp only [evalC] at h
    refine wp_loop_rounds L ?_
    have key : ∀ (n : Nat) (st : St) (a : Act) (w : World), iter (evalC P K call D nt px L c) n st = some (ex, st') → Sim c0 w0 nt st a w → Code.rounds P c Q n a w := by
      intro n
      induction n with
      | zero => intro st a w h _; cases h
      | succ n ihn =>
        intro st a w h hS
        simp only [iter] at h
        obtain ⟨⟨e1, s1⟩, h1, h2⟩ := Option.bind_eq_some_iff.1 h
        rw [rounds_succ]
        refine ih (fun p hp => hD p (by simpa only [drawsOf] using hp)) st e1 s1 h1 a w hS _ fun a1 w1 hS1 => ?_
        cases e1 with
        | normal => exact ihn s1 a1 w1 h2 hS1
        | exit id => cases h2; exact hQ a1 w1 hS1
        | ret => cases h2; exact hQ a1 w1 hS1
    exact key L st a w h hS
  | scope c ih =>
    intro hD st ex st' h a w hS Q hQ
    refine wp_scope_straight (ih (fun p hp => hD p (by simpa only [drawsOf] using hp)) st ex st' h a w hS _ fun a1 w1 hS1 => ?_)
    have := hQ a1 w1 hS1
    cases ex <;> exact this
  | _ => intro _ st ex st' h; cases h

/-- A function's results. -/
def resVal (P : Program) (st : St) : ResultVar → Option AV
  | .tmp t => some (st.t t)
  | .cell a t => aLoad P t (st.t a) st.m
def resVals (P : Program) (st : St) : List ResultVar → Option (List AV)
  | [] => some []
  | r :: rs => (resVal P st r).bind fun x => (resVals P st rs).map (x :: ·)
def resOf (P : Program) (st : St) (rs : List ResultVar) : Option AV := (resVals P st rs).map fun xs => match xs with | [x] => x | xs => .tup xs

theorem resVals_sound {P : Program} {c : Ctx} {w0 : World} (M : MemOk c w0) {st : St} (hm : st.m = c.m) {a : Act} (hr : ∀ k, Rel c (st.t k) (a.tmps.getD k undef)) : ∀ (rs : List ResultVar) (xs : List AV), resVals P st rs = some xs →
    ∃ vs, (rs.mapM fun r => (match r with | .tmp t => pure (a.tmps.getD t undef) | .cell ad t => do loadVar t (← asAddr (a.tmps.getD ad undef)) : Sem Value)).run P c.w = .ok vs c.w ∧ RelL c xs vs := by
  intro rs
  induction rs with
  | nil => intro xs h; cases h; exact ⟨[], rfl, .nil c⟩
  | cons r rs ih =>
    intro xs h
    simp only [resVals] at h
    obtain ⟨x, h1, h⟩ := Option.bind_eq_some_iff.1 h
    obtain ⟨ys, h2, rfl⟩ := Option.map_eq_some_iff.1 h
    obtain ⟨vs, e1, e2⟩ := ih ys h2
    cases r with
    | tmp t =>
      cases h1
      exact ⟨a.tmps.getD t undef :: vs, by simp only [List.mapM_cons, Sem.run_bind, Sem.run_pure, Result.andThen_ok, e1], .cons (hr t) e2⟩
    | cell ad t =>
      simp only [resVal] at h1
      rw [hm] at h1
      have hx : ∃ p, a.tmps.getD ad undef = .pointer (some p) := by
        unfold aLoad at h1
        obtain ⟨cs, hc, _⟩ := Option.bind_eq_some_iff.1 h1
        obtain ⟨b, o, e, _⟩ := ptrCells_sound M hc (hr ad)
        exact ⟨_, e⟩
      obtain ⟨p, hp⟩ := hx
      obtain ⟨v, g1, g4⟩ := aLoad_same (P := P) M h1 (hr ad)
      rw [hp] at g1
      simp only [Instr.loadAt, Instr.sureAddr, Sem.run_bind, Sem.run_pure, Result.andThen_ok] at g1
      have ha : (asAddr (a.tmps.getD ad undef)).run P c.w = .ok p c.w := by rw [hp]; rfl
      refine ⟨v :: vs, ?_, .cons g4 e2⟩
      simp only [List.mapM_cons, Sem.run_bind, ha, Sem.run_pure, Result.andThen_ok, g1, e1]

theorem resOf_sound {P : Program} {c : Ctx} {w0 : World} (M : MemOk c w0) {st : St} (hm : st.m = c.m) {a : Act} (hr : ∀ k, Rel c (st.t k) (a.tmps.getD k undef)) {fn : Func} {x : AV} (h : resOf P st fn.results.toList = some x) :
    ∃ v, (results fn a.tmps).run P c.w = .ok v c.w ∧ Rel c x v := by
  obtain ⟨xs, hxs, rfl⟩ := Option.map_eq_some_iff.1 h
  obtain ⟨vs, e1, e2⟩ := resVals_sound M hm hr fn.results.toList xs hxs
  have e3 : (fn.results.mapM fun r => (match r with | .tmp t => pure (a.tmps.getD t undef) | .cell ad t => do loadVar t (← asAddr (a.tmps.getD ad undef)) : Sem Value)).run P c.w = .ok vs.toArray c.w := by
    rw [Array.mapM_eq_mapM_toList]
    simp only [Sem.run_map, e1, Result.andThen_ok]
  refine ⟨if h : vs.toArray.size = 1 then vs.toArray[0] else .tuple vs.toArray, ?_, ?_⟩
  · have hcongr : ∀ g : ResultVar → Sem Value, (∀ r, g r = (match r with | .tmp t => pure (a.tmps.getD t undef) | .cell ad t => do loadVar t (← asAddr (a.tmps.getD ad undef)) : Sem Value)) → (fn.results.mapM g).run P c.w = .ok vs.toArray c.w := fun g hg => by
      rw [show g = _ from funext hg]; exact e3
    unfold results
    simp only [Sem.run_bind]
    rw [hcongr _ (fun r => by cases r <;> rfl)]
    rfl
  · match xs, e2 with
    | [], e2 =>
      obtain rfl := e2.inv_nil
      exact .mkTup (.nil c)
    | [x], e2 =>
      obtain ⟨y, ys, rfl, r1, r2⟩ := e2.inv_cons
      obtain rfl := r2.inv_nil
      exact r1
    | x :: y :: xs, e2 =>
      have hl : vs.length = xs.length + 2 := by have := e2.1; simpa using this.symm
      rw [dif_neg (by simp; omega)]
      exact .mkTup e2

/-- A call: by contract, or by the function's own text, to a depth. -/
noncomputable def pvCall (P : Program) (K : FuncId → Option Con) (D : FuncId → Nat → List Nat) (L : Nat) : Nat → CallF
  | 0 => callK K
  | d + 1 => fun px f args m => match K f with
    | some F => conBy F m px args
    | none => match P.funcs[f]? with
      | some fn => match fn.body with
        | some body => if args.length ≤ fn.ntmps ∧ (fn.name == "runtime.NumGoroutine") = false then
            (evalC P K (pvCall P K D L d) (D f) fn.ntmps px L body ⟨fun i => args.getD i (.v undef), m⟩).bind fun r => match r.1 with
              | .normal | .ret => (resOf P r.2 fn.results.toList).map fun x => (x, r.2.m)
              | _ => none
          else none
        | none => none
      | none => none
/-- All drawn regions of the program's functions are as the masks say. -/
def DOk (P : Program) (D : FuncId → Nat → List Nat) : Prop := ∀ (f : Nat) fn body, P.funcs[f]? = some fn → fn.body = some body → ∀ p ∈ drawsOf body, DrawOk p.2 (D f p.1)

theorem args_rel {c : Ctx} {args : List AV} {vs : Array Value} {nt : Nat} (ra : RelL c args vs.toList) (hl : args.length ≤ nt) : ∀ k, Rel c (args.getD k (.v undef)) ((vs ++ Array.replicate (nt - vs.size) undef).getD k undef) := by
  intro k
  have hs : args.length = vs.size := by simpa using ra.1
  rw [Array.getD_eq_getD_getElem?, Array.getElem?_append, List.getD_eq_getElem?_getD]
  by_cases h : k < args.length
  · obtain ⟨y, e1, e2⟩ := ra.2 k _ (List.getElem?_eq_getElem h)
    rw [if_pos (by omega), List.getElem?_eq_getElem h]
    have : vs[k]? = some y := by simpa using e1
    rw [this]
    exact e2
  · rw [if_neg (by omega), List.getElem?_eq_none (by omega), Array.getElem?_replicate]
    split <;> exact .v

theorem body_sound {P : Program} {K : FuncId → Option Con} (hK : KOk P K) (hm : P.follows .mixedOrders = true) {D : FuncId → Nat → List Nat} (hD : DOk P D) {L : Nat} {call : CallF} (hc : CallsOk P call) {px : Nat} {f : FuncId} {fn : Func} {body : Code} (hf : P.funcs[f]? = some fn) (hb : fn.body = some body) {args : List AV} {m : Mem} {e : Ex} {st : St} {x : AV}
    (hl : args.length ≤ fn.ntmps) (he : evalC P K call (D f) fn.ntmps px L body ⟨fun i => args.getD i (.v undef), m⟩ = some (e, st)) (hx : e = .normal ∨ e = .ret) (hr : resOf P st fn.results.toList = some x)
    {c : Ctx} {w0 : World} {vs : Array Value} (hcm : c.m = m) (M : MemOk c w0) (ra : RelL c args vs.toList) :
    Calls P f vs c.w fun e w' => ∃ v ι', e = .returned v ∧ c.le ⟨st.m, ι', w'⟩ ∧ MemOk ⟨st.m, ι', w'⟩ w0 ∧ Rel ⟨st.m, ι', w'⟩ x v := by
  subst hcm
  have hs : args.length = vs.size := by simpa using ra.1
  refine calls_of_wp hf hb ?_
  refine evalC_sound hK hm hc body (hD f fn body hf hb) _ e st he _ _ (⟨c.ι, .refl c, M, by simp; omega, rfl, args_rel ra hl⟩ : Sim c w0 fn.ntmps _ _ _) _ fun a w hS => ?_
  obtain ⟨ι, hle, hM, h1, h2, h3⟩ := hS
  obtain ⟨v, hv, rv⟩ := resOf_sound (c := ⟨st.m, ι, w⟩) hM rfl h3 hr
  rcases hx with rfl | rfl
  · exact ⟨h2, v, hv, v, ι, rfl, hle, hM, rv⟩
  · exact ⟨h2, v, hv, v, ι, rfl, hle, hM, rv⟩

theorem pvCall_ok {P : Program} {K : FuncId → Option Con} (hK : KOk P K) (hm : P.follows .mixedOrders = true) {D : FuncId → Nat → List Nat} (hD : DOk P D) {L : Nat} : ∀ d, CallsOk P (pvCall P K D L d) := by
  intro d
  induction d with
  | zero => exact callK_ok hK
  | succ d ih =>
    intro px f args m r m' h c w0 vs hcm M ra
    simp only [pvCall] at h
    split at h
    · rename_i F hF
      subst hcm
      exact ⟨(hK f F hF).2, conBy_sound (hK f F hF).1 M h ra⟩
    · split at h
      · rename_i fn hfn
        split at h
        · rename_i body hbody
          split at h
          · rename_i hh
            obtain ⟨⟨e, st⟩, he, h⟩ := Option.bind_eq_some_iff.1 h
            refine ⟨⟨fn, hfn, by rw [hbody]; rfl, hh.2⟩, ?_⟩
            have fin : (e = .normal ∨ e = .ret) → (resOf P st fn.results.toList).map (fun x => (x, st.m)) = some (r, m') → Calls P f vs c.w fun e w' => ∃ v ι', e = .returned v ∧ c.le ⟨m', ι', w'⟩ ∧ MemOk ⟨m', ι', w'⟩ w0 ∧ Rel ⟨m', ι', w'⟩ r v := fun hx h => by
              obtain ⟨x, hx2, h⟩ := Option.map_eq_some_iff.1 h
              simp only [Prod.mk.injEq] at h
              obtain ⟨rfl, rfl⟩ := h
              exact body_sound hK hm hD ih hfn hbody hh.1 he hx hx2 hcm M ra
            cases e with
            | normal => exact fin (.inl rfl) h
            | ret => exact fin (.inr rfl) h
            | exit id => cases h
          · cases h
        · cases h
      · cases h
end Go.Pm
