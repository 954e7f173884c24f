/- A machine of values: a region whose order is drawn. -/
import Derived.Test.YtfkneafghcndfaaPn
namespace Go.Pm
open Go.RowKit
set_option linter.unusedVariables false
set_option linter.unusedSimpArgs false

def disj (a b : List Nat) : Bool := a.all fun x => !b.contains x
theorem disj_out {a b : List Nat} (h : disj a b = true) {n : Nat} (ha : n ∈ a) (hb : n ∈ b) : False := by
  have := List.all_eq_true.1 h n ha
  simp at this
  exact this hb

abbrev Eff3 := AV × List (Nat × Blk) × List Nat
def wOf (e : Eff3) : List Nat := e.2.1.map (·.1)
def fOf (e : Eff3) : List Nat := e.2.2 ++ wOf e
abbrev Hist := List (Nat × List Nat × List Nat)
def clear (mask : Nat) (e : Eff3) (h : Nat × List Nat × List Nat) : Bool := mask.testBit h.1 || (disj h.2.2 (fOf e) && disj (wOf e) h.2.1)
/-- A drawn region in the text's order, where no two operations that may change places touch the same block, unless both only look. -/
noncomputable def drawGo (P : Program) (K : FuncId → Option Con) (nt px : Nat) (ops : Array Oper) (masks : List Nat) : List Oper → Nat → Hist → St → Option St
  | [], _, _, st => some st
  | o :: os, j, hist, st =>
    (effD P K px ops o st).bind fun e =>
      if (hist.all (clear (masks.getD j 0) e)) = true then
        (St.put nt ⟨st.t, applyU st.m e.2.1⟩ o.dst e.1).bind (drawGo P K nt px ops masks os (j + 1) (if (fOf e).isEmpty = true then hist else hist ++ [(j, fOf e, wOf e)]))
      else none

theorem clear_nil {mask : Nat} {e : Eff3} {h : Nat × List Nat × List Nat} (hf : (fOf e).isEmpty = true) : clear mask e h = true := by
  have h0 : fOf e = [] := by simpa using hf
  have h1 : wOf e = [] := by
    unfold fOf at h0
    exact (List.append_eq_nil_iff.1 h0).2
  have h2 : disj h.2.2 [] = true := by simp [disj]
  simp [clear, h0, h1, h2, disj]

structure Seq (P : Program) (K : FuncId → Option Con) (nt px : Nat) (ops : Array Oper) (masks : List Nat) (os : List Oper) (j : Nat) (hist : Hist) (sts : Nat → St) (es : Nat → Eff3) : Prop where
  run : ∀ (i : Nat) o, os[i]? = some o → effD P K px ops o (sts (j + i)) = some (es (j + i)) ∧ St.put nt ⟨(sts (j + i)).t, applyU (sts (j + i)).m (es (j + i)).2.1⟩ o.dst (es (j + i)).1 = some (sts (j + i + 1))
  old : ∀ (i : Nat), i < os.length → ∀ h ∈ hist, clear (masks.getD (j + i) 0) (es (j + i)) h = true
  apart : ∀ (i i' : Nat), i < os.length → i' < i → (masks.getD (j + i) 0).testBit (j + i') = true ∨ (disj (wOf (es (j + i'))) (fOf (es (j + i))) = true ∧ disj (wOf (es (j + i))) (fOf (es (j + i'))) = true)

theorem drawGo_seq {P : Program} {K : FuncId → Option Con} {nt px : Nat} {ops : Array Oper} {masks : List Nat} : ∀ (os : List Oper) (j : Nat) (hist : Hist) (st st' : St), drawGo P K nt px ops masks os j hist st = some st' →
    ∃ (sts : Nat → St) (es : Nat → Eff3), sts j = st ∧ sts (j + os.length) = st' ∧ Seq P K nt px ops masks os j hist sts es := by
  intro os
  induction os with
  | nil =>
    intro j hist st st' h
    cases h
    exact ⟨fun _ => st, fun _ => (.v undef, [], []), rfl, rfl, fun i o h => by simp at h, fun i h => by simp at h, fun i i' h => by simp at h⟩
  | cons o os ih =>
    intro j hist st st' h
    simp only [drawGo] at h
    obtain ⟨e, he, h⟩ := Option.bind_eq_some_iff.1 h
    split at h
    case isFalse => cases h
    rename_i hcl
    obtain ⟨st1, hp, h⟩ := Option.bind_eq_some_iff.1 h
    obtain ⟨sts, es, h1, h2, hS⟩ := ih (j + 1) _ st1 st' h
    have e1 : ∀ i, j + (i + 1) = j + 1 + i := fun i => by omega
    have hj : ∀ i, j + 1 + i ≠ j := fun i => by omega
    refine ⟨upd sts j st, upd es j e, upd_eq _ _ _, ?_, fun i q hq => ?_, fun i hi h hh => ?_, fun i i' hi hi' => ?_⟩
    · rw [List.length_cons, e1, upd_ne _ _ (hj _)]; exact h2
    · cases i with
      | zero =>
        simp at hq
        subst hq
        simp only [Nat.add_zero, upd_eq]
        rw [upd_ne _ _ (show j + 1 ≠ j by omega), h1]
        exact ⟨he, hp⟩
      | succ i =>
        rw [e1, upd_ne _ _ (hj _), upd_ne _ _ (hj _), upd_ne _ _ (show j + 1 + i + 1 ≠ j by omega)]
        exact hS.run i q (by simpa using hq)
    · cases i with
      | zero =>
        simp only [Nat.add_zero, upd_eq]
        exact List.all_eq_true.1 hcl h hh
      | succ i =>
        rw [e1, upd_ne _ _ (hj _)]
        refine hS.old i (by simpa using hi) h ?_
        split
        · exact hh
        · exact List.mem_append_left _ hh
    · cases i with
      | zero => omega
      | succ i =>
        cases i' with
        | succ i' =>
          rw [e1 i, e1 i', upd_ne _ _ (hj _), upd_ne _ _ (hj _)]
          exact hS.apart i i' (by simpa using hi) (by omega)
        | zero =>
          rw [e1 i]
          simp only [Nat.add_zero, upd_eq]
          rw [upd_ne es _ (hj _)]
          by_cases hemp : (fOf e).isEmpty = true
          · have h0 : fOf e = [] := by simpa using hemp
            have hw : wOf e = [] := by
              have := h0
              unfold fOf at this
              exact (List.append_eq_nil_iff.1 this).2
            refine .inr ⟨by simp [hw, disj], ?_⟩
            rw [h0]
            simp [disj]
          · have := hS.old i (by simpa using hi) (j, fOf e, wOf e) (by rw [if_neg hemp]; simp)
            unfold clear at this
            simp only [Bool.or_eq_true, Bool.and_eq_true] at this
            exact this

/-- What a region's edges must say. -/
structure DrawOk (ops : Array Oper) (masks : List Nat) : Prop where
  back : ∀ (j : Nat) o e, ops[j]? = some o → e ∈ o.after → Region.binds .any e = true → e.on < j
  edge : ∀ (j k : Nat) o, ops[j]? = some o → (masks.getD j 0).testBit k = true → ∃ e ∈ o.after, Region.binds .any e = true ∧ (k = e.on ∨ (masks.getD e.on 0).testBit k = true)
  tmps : ∀ (i j : Nat) oi oj, i < j → ops[i]? = some oi → ops[j]? = some oj → (masks.getD j 0).testBit i = true ∨ ((∀ d, oi.dst = some d → d ∉ oj.looksAt ops ∧ oj.dst ≠ some d) ∧ (∀ d, oj.dst = some d → d ∉ oi.looksAt ops))

def maskOf (masks : List Nat) : List Edge → Nat
  | [] => 0
  | e :: es => if Region.binds .any e = true then (2 ^ e.on ||| masks.getD e.on 0) ||| maskOf masks es else maskOf masks es
def drawStatic (ops : Array Oper) (masks : List Nat) : Bool :=
  ops.toList.zipIdx.all fun p =>
    p.1.after.toList.all (fun e => !Region.binds .any e || decide (e.on < p.2)) &&
    (masks.getD p.2 0 == maskOf masks p.1.after.toList) &&
    ops.toList.zipIdx.all fun q => !decide (q.2 < p.2) || (masks.getD p.2 0).testBit q.2 ||
      ((match q.1.dst with | none => true | some d => !(p.1.looksAt ops).contains d && !(p.1.dst == some d)) && (match p.1.dst with | none => true | some d => !(q.1.looksAt ops).contains d))
theorem maskOf_bit {masks : List Nat} : ∀ {es : List Edge} {k : Nat}, (maskOf masks es).testBit k = true → ∃ e ∈ es, Region.binds .any e = true ∧ (k = e.on ∨ (masks.getD e.on 0).testBit k = true) := by
  intro es
  induction es with
  | nil => intro k h; simp [maskOf] at h
  | cons e es ih =>
    intro k h
    simp only [maskOf] at h
    split at h
    · rename_i hb
      rw [Nat.testBit_or, Nat.testBit_or, Bool.or_eq_true, Bool.or_eq_true] at h
      rcases h with (h | h) | h
      · rw [Nat.testBit_two_pow] at h
        exact ⟨e, List.mem_cons_self .., hb, .inl (by simpa using h.symm : e.on = k).symm⟩
      · exact ⟨e, List.mem_cons_self .., hb, .inr h⟩
      · obtain ⟨e', h1, h2⟩ := ih h
        exact ⟨e', List.mem_cons_of_mem _ h1, h2⟩
    · obtain ⟨e', h1, h2⟩ := ih h
      exact ⟨e', List.mem_cons_of_mem _ h1, h2⟩
theorem mem_zip {ops : Array Oper} {j : Nat} {o : Oper} (h : ops[j]? = some o) : (o, j) ∈ ops.toList.zipIdx := by
  rw [List.mem_zipIdx_iff_getElem?]
  simpa using h
theorem drawStatic_ok {ops : Array Oper} {masks : List Nat} (h : drawStatic ops masks = true) : DrawOk ops masks := by
  unfold drawStatic at h
  rw [List.all_eq_true] at h
  refine ⟨fun j o e hj he hb => ?_, fun j k o hj hk => ?_, fun i j oi oj hij hi hj => ?_⟩
  · have := h _ (mem_zip hj)
    simp only [Bool.and_eq_true, List.all_eq_true] at this
    have := this.1.1 e (by simpa using he)
    simp only [hb, Bool.not_true, Bool.false_or, decide_eq_true_eq] at this
    exact this
  · have := h _ (mem_zip hj)
    simp only [Bool.and_eq_true, beq_iff_eq] at this
    rw [this.1.2] at hk
    obtain ⟨e, h1, h2⟩ := maskOf_bit hk
    exact ⟨e, by simpa using h1, h2⟩
  · have := h _ (mem_zip hj)
    simp only [Bool.and_eq_true, List.all_eq_true] at this
    have := this.2 _ (mem_zip hi)
    simp only [hij, decide_true, Bool.not_true, Bool.false_or, Bool.or_eq_true, Bool.and_eq_true] at this
    rcases this with h | ⟨h1, h2⟩
    · exact .inl h
    · refine .inr ⟨fun d hd => ?_, fun d hd => ?_⟩
      · rw [hd] at h1
        simp only [Bool.and_eq_true, Bool.not_eq_true'] at h1
        exact ⟨by simpa using h1.1, by simpa using h1.2⟩
      · rw [hd] at h2
        simpa using h2

/-- The last of the first n entries that are in S and write a place. -/
def overF {α : Type} (S : Nat → Bool) (Wr : Nat → Nat → Bool) (val : Nat → Nat → α) (f : Nat → α) : Nat → Nat → α
  | 0, k => f k
  | n + 1, k => if S n && Wr n k then val n k else overF S Wr val f n k
theorem overF_congr {α : Type} {S S' : Nat → Bool} {Wr : Nat → Nat → Bool} {val : Nat → Nat → α} {f : Nat → α} {k : Nat} : ∀ {n : Nat}, (∀ i, i < n → Wr i k = true → S i = S' i) → overF S Wr val f n k = overF S' Wr val f n k := by
  intro n
  induction n with
  | zero => intro _; rfl
  | succ n ih =>
    intro h
    simp only [overF]
    rw [ih fun i hi hw => h i (by omega) hw]
    cases hw : Wr n k with
    | false => simp
    | true => rw [h n (by omega) hw]
theorem overF_text {α : Type} {S : Nat → Bool} {Wr : Nat → Nat → Bool} {val : Nat → Nat → α} {f : Nat → α} {k j : Nat} : ∀ {n : Nat}, j ≤ n → (∀ i, i < n → Wr i k = true → S i = decide (i < j)) → overF S Wr val f n k = overF (fun _ => true) Wr val f j k := by
  intro n
  induction n with
  | zero => intro h _; obtain rfl : j = 0 := by omega
            rfl
  | succ n ih =>
    intro hj h
    by_cases e : j = n + 1
    · subst e
      exact overF_congr fun i hi hw => by rw [h i hi hw]; simp [hi]
    · simp only [overF]
      have hlt : ¬ n < j := by omega
      rw [ih (by omega) fun i hi hw => h i (by omega) hw]
      cases hw : Wr n k with
      | false => simp
      | true => rw [h n (by omega) hw]; simp [hlt]

theorem put_some {nt : Nat} {st st' : St} {dst : Option Tmp} {x : AV} (h : St.put nt st dst x = some st') : st'.m = st.m ∧ (∀ k, st'.t k = if dst = some k then x else st.t k) ∧ ∀ s2 : St, ∃ s3, St.put nt s2 dst x = some s3 := by
  cases dst with
  | none => cases h; exact ⟨rfl, fun k => by simp, fun s2 => ⟨s2, rfl⟩⟩
  | some d =>
    simp only [St.put] at h
    split at h
    · rename_i hlt
      cases h
      refine ⟨rfl, fun k => ?_, fun s2 => ⟨_, by simp only [St.put]; rw [if_pos hlt]⟩⟩
      simp only [upd_at, Option.some.injEq]
      by_cases e : k = d
      · subst e; simp
      · rw [if_neg e, if_neg (fun h => e h.symm)]
    · cases h

/-- Calls by contract alone. -/
def callK (K : FuncId → Option Con) : CallF := fun px f args m => (K f).bind fun F => conBy F m px args
def KOk (P : Program) (K : FuncId → Option Con) : Prop := ∀ f F, K f = some F → ConOk P f F ∧ ∃ fn, P.funcs[f]? = some fn ∧ fn.body.isSome = true ∧ (fn.name == "runtime.NumGoroutine") = false
theorem callK_ok {P : Program} {K : FuncId → Option Con} (hK : KOk P K) : CallsOk P (callK K) := by
  intro px f args m r m' h c w0 vs hm M ra
  obtain ⟨F, hF, h⟩ := Option.bind_eq_some_iff.1 h
  subst hm
  exact ⟨(hK f F hF).2, conBy_sound (hK f F hF).1 M h ra⟩
theorem effD_step {P : Program} {K : FuncId → Option Con} {nt px : Nat} {ops : Array Oper} {o : Oper} {st st' : St} {e : Eff3} (h : effD P K px ops o st = some e) (hp : St.put nt ⟨st.t, applyU st.m e.2.1⟩ o.dst e.1 = some st') : stepOp P (callK K) nt px ops o st = some st' := by
  unfold effD at h
  unfold stepOp
  obtain ⟨g, hg, h⟩ := Option.bind_eq_some_iff.1 h
  rw [hg]
  simp only [Option.bind_some]
  cases g with
  | false =>
    simp only [Bool.false_eq_true, if_false, Option.some.injEq] at h ⊢
    subst h
    exact hp
  | true =>
    simp only [if_true] at h ⊢
    have plain : absE P px o st = some e → (absOp P o st.ev st.m (px * 4096 + o.dst.getD 4095)).map (fun e => (e.1, memOf st.m e.2)) = some (e.1, applyU st.m e.2.1) := by
      intro h
      unfold absE at h
      split at h
      · cases h
      obtain ⟨q, hq, rfl⟩ := Option.map_eq_some_iff.1 h
      rw [hq]
      simp [applyU_memOf]
    have fin : doOp P (callK K) px o st = some (e.1, applyU st.m e.2.1) := by
      unfold doOp
      split at h
      · rename_i q hq
        rw [hq]
        split at h
        · rename_i hv
          simp only [hv, if_true]
          obtain ⟨fa, hfa, h⟩ := Option.bind_eq_some_iff.1 h
          obtain ⟨F, hF, h⟩ := Option.bind_eq_some_iff.1 h
          rw [hfa]
          simp only [Option.bind_some, callK, hF, conBy_of h]
        · rename_i hv
          simp only [hv, Bool.false_eq_true, if_false]
          exact plain h
      · rename_i hne
        split
        · rename_i q hq; exact absurd hq (hne q)
        · exact plain h
    rw [fin]
    exact hp

theorem getD_false {l : Array Bool} {i : Nat} (h : l.getD i true = false) : i < l.size ∧ l[i]? = some false := by
  rw [Array.getD_eq_getD_getElem?] at h
  cases e : l[i]? with
  | none => rw [e] at h; simp at h
  | some b =>
    rw [e] at h
    simp at h
    subst h
    exact ⟨(Array.getElem?_eq_some_iff.1 e).1, rfl⟩
theorem wpAny_inv {P : Program} {md : Region.Mode} {ops : Array Oper} {Q : Exit → Act → World → Prop} (I : Array Bool → Act → World → Prop) (hsz : ∀ l a w, I l a w → l.size = ops.size)
    (hstep : ∀ l a w, I l a w → ∀ i ∈ Region.ready md ops l, wpOp P ops Q i (I (l.setIfInBounds i true)) a w) (hdone : ∀ l a w, I l a w → Region.ready md ops l = [] → Q .normal a w) :
    ∀ (fuel : Nat) (l : Array Bool) (a : Act) (w : World), l.toList.count false ≤ fuel → I l a w → wpAny P md ops Q fuel l a w := by
  intro fuel
  induction fuel with
  | zero =>
    intro l a w hc hI
    have hr : Region.ready md ops l = [] := by
      rw [List.eq_nil_iff_forall_not_mem]
      intro i hi
      rw [mem_ready] at hi
      have hcf : l.toList.count false = 0 := by omega
      have hni : false ∉ l.toList := List.count_eq_zero.1 hcf
      exact hni (List.mem_of_getElem? (by rw [Array.getElem?_toList]; exact (getD_false hi.1).2))
    exact ⟨hr, hdone l a w hI hr⟩
  | succ fuel ih =>
    intro l a w hc hI
    refine ⟨hdone l a w hI, fun i hi => wpOp_mono (fun a' w' h => ih _ a' w' ?_ h) (hstep l a w hI i hi)⟩
    rw [mem_ready] at hi
    obtain ⟨hlt, hf'⟩ := getD_false hi.1
    have hf : l[i] = false := by rw [Array.getElem?_eq_getElem hlt] at hf'; simpa using hf'
    have hcount : (l.toList.set i true).count false + 1 = l.toList.count false := by
      have := List.count_set (l := l.toList) (a := true) (b := false) (i := i) (by simpa using hlt)
      rw [this]
      have hpos : 0 < l.toList.count false := List.count_pos_iff.2 (by
        have : l.toList[i]? = some false := by rw [Array.getElem?_toList, Array.getElem?_eq_getElem hlt, hf]
        exact List.mem_of_getElem? this)
      have e1 : (l.toList[i]'(by simpa using hlt) == false) = true := by rw [Array.getElem_toList, hf]; rfl
      rw [if_pos e1, if_neg (by decide)]
      omega
    rw [Array.toList_setIfInBounds]
    omega
end Go.Pm
