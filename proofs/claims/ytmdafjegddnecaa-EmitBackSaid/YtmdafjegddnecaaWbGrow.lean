/- A region that draws its order, whose operations only read, reckon, make memory, and call what only makes memory, but for its last one: each operation is shown once. No program in sight. -/
import Derived.WalkKit
import Derived.Below
import Derived.Orders
namespace Go.Wb
open Go.RowKit

/-- What an operation of such a region comes to: a value of its kind, and new memory alone. -/
def StepOK (P : Program) (w : World) (φ : Value → World → Prop) : Result Next → Prop
  | .ok (.value v) w' => φ v w' ∧ Below w.heap.size w w'
  | .ok (.enter f args) w' => Below w.heap.size w w' ∧ Calls P f args w' (fun e w'' => ∃ v, e = .returned v ∧ φ v w'' ∧ Below w'.heap.size w' w'')
  | _ => False

abbrev Kind := Value → World → Prop

/-- What an operation reads of the frame. -/
def Reads (Φ : List Kind) (a0 : Act) : List (Tmp × Option Nat) → Act → World → Prop
  | [], _, _ => True
  | (t, some j) :: r, a, w => (∃ v, a.tmps[t]? = some v ∧ (Φ.getD j (fun _ _ => False)) v w) ∧ Reads Φ a0 r a w
  | (t, none) :: r, a, w => a.tmps[t]? = a0.tmps[t]? ∧ Reads Φ a0 r a w

/-- One operation, in whatever world that has grown. -/
def StepAt (P : Program) (ops : Array Oper) (C : World → Prop) (Φ : List Kind) (a0 : Act) (o : Oper) (r : List (Tmp × Option Nat)) (φ : Kind) : Prop :=
  ∀ a w, C w → Reads Φ a0 r a w → if Region.wanted o (yielded ops a.tmps) = true then StepOK P w φ ((execOp a.eval o).run P w) else φ undef w
theorem step_plain {P : Program} {ops : Array Oper} {C : World → Prop} {Φ : List Kind} {a0 : Act} {o : Oper} {r : List (Tmp × Option Nat)} {φ : Kind} (hg : o.guard = none)
    (h : ∀ a w, C w → Reads Φ a0 r a w → StepOK P w φ ((execOp a.eval o).run P w)) : StepAt P ops C Φ a0 o r φ := fun a w hc hr => by
  rw [if_pos (by simp [Region.wanted, hg])]; exact h a w hc hr
def Steps (P : Program) (ops : Array Oper) (C : World → Prop) (Φ : List Kind) (a0 : Act) : List Oper → List (List (Tmp × Option Nat)) → List Kind → Prop
  | [], _, _ => True
  | o :: os, r :: rs, φ :: φs => StepAt P ops C Φ a0 o r φ ∧ Steps P ops C Φ a0 os rs φs
  | _, _, _ => False

def Grow (R : Act → World → Prop) : List Oper → List Kind → Act → World → Prop
  | o :: os, φ :: φs, a, w => ∀ v, φ v w → Grow R os φs (a.put o.dst v) w
  | _, _, a, w => R a w

def putAll : List Oper → List Value → Act → Act
  | o :: os, v :: vs, a => putAll os vs (a.put o.dst v)
  | _, _, a => a

/-- What is asked of the region's text: the operations' own slots; what is read lies behind an edge, or is written later on; edges point back. -/
def growB (l : List Oper) (tail : Oper) (W : List (List (Tmp × Option Nat))) (m : Nat) : Bool :=
  let at_ (i : Nat) : Option Oper := l[i]?
  (List.range l.length).all (fun i => match l[i]?, W[i]? with
    | some o, some r =>
      (match o.dst with | some d => decide (d < m) && (List.range l.length).all (fun j => j == i || (match l[j]? with | some o' => o'.dst != some d | none => true)) | none => false) &&
      o.after.all (fun e => decide (e.on < i)) &&
      r.all (fun x => match x with
        | (t, some j) => decide (j < i) && (match at_ j with | some o' => o'.dst == some t | none => false) && o.after.any (fun e => Region.binds .any e && e.on == j)
        | (t, none) => (List.range l.length).all (fun k => match l[k]? with | some o' => o'.dst != some t || o'.after.any (fun e => Region.binds .any e && e.on == i) | none => true))
    | _, _ => false) &&
  (List.range l.length).all (fun i => tail.after.any (fun e => Region.binds .any e && e.on == i)) &&
  tail.after.all (fun e => decide (e.on < l.length))

theorem Below.up {x y : World} (h : Below x.heap.size x y) {w0 : World} (h0 : Below w0.heap.size w0 x) : Below w0.heap.size w0 y := h0.trans (h.mono h0.size)

section
variable {P : Program} {Q : Exit → Act → World → Prop}

theorem putAll_defers : ∀ (l : List Oper) (vs : List Value) (a : Act), (putAll l vs a).defers = a.defers
  | [], _, _ => rfl
  | _ :: _, [], _ => rfl
  | o :: l, v :: vs, a => by
    rw [putAll, putAll_defers l vs]
    cases o.dst <;> rfl
theorem putAll_other {t : Tmp} : ∀ (l : List Oper) (vs : List Value) (a : Act), (∀ o ∈ l, o.dst ≠ some t) → (putAll l vs a).tmps[t]? = a.tmps[t]?
  | [], _, _, _ => rfl
  | _ :: _, [], _, _ => rfl
  | o :: l, v :: vs, a, h => by
    rw [putAll, putAll_other l vs _ (fun x hx => h x (List.mem_cons_of_mem _ hx))]
    have h0 := h o (List.mem_cons_self ..)
    cases hd : o.dst with
    | none => rfl
    | some d =>
      have hne : d ≠ t := fun e => h0 (by rw [hd, e])
      simp [Act.put, Array.getElem?_setIfInBounds_ne hne]
theorem putAll_at {d : Tmp} {v : Value} : ∀ (l : List Oper) (vs : List Value) (a : Act) (i : Nat) (o : Oper), l[i]? = some o → o.dst = some d → vs[i]? = some v → d < a.tmps.size → (∀ j o', l[j]? = some o' → j ≠ i → o'.dst ≠ some d) → (putAll l vs a).tmps[d]? = some v
  | [], _, _, i, o, h, _, _, _, _ => by simp at h
  | _ :: _, [], _, i, o, _, _, h, _, _ => by simp at h
  | o1 :: l, v1 :: vs, a, 0, o, h, hd, hv, hs, hn => by
    simp only [List.getElem?_cons_zero, Option.some.injEq] at h hv
    subst h; subst hv
    rw [putAll, putAll_other l vs _ (fun x hx => by
      obtain ⟨j, hj⟩ := List.getElem?_of_mem hx
      exact hn (j + 1) x (by simpa using hj) (by omega))]
    rw [hd]
    simp [Act.put, hs]
  | o1 :: l, v1 :: vs, a, i + 1, o, h, hd, hv, hs, hn => by
    rw [putAll]
    refine putAll_at l vs _ i o (by simpa using h) hd (by simpa using hv) ?_ (fun j o' hj hne => hn (j + 1) o' (by simpa using hj) (by omega))
    cases o1.dst <;> simpa [Act.put] using hs

theorem grow_run {R : Act → World → Prop} {w : World} : ∀ (l : List Oper) (Φ : List Kind) (vs : List Value) (a : Act), Grow R l Φ a w → Φ.length = l.length → vs.length = l.length → (∀ (i : Nat) (φ : Kind) (v : Value), Φ[i]? = some φ → vs[i]? = some v → φ v w) → R (putAll l vs a) w
  | [], Φ, vs, a, h, hΦ, hv, _ => by
    cases Φ with
    | nil => exact h
    | cons _ _ => simp at hΦ
  | o :: l, [], vs, a, h, hΦ, hv, _ => by simp at hΦ
  | o :: l, φ :: Φ, [], a, h, hΦ, hv, _ => by simp at hv
  | o :: l, φ :: Φ, v :: vs, a, h, hΦ, hv, hh => by
    rw [putAll]
    exact grow_run l Φ vs _ (h v (hh 0 φ v rfl rfl)) (by simpa using hΦ) (by simpa using hv) (fun i φ' v' h1 h2 => hh (i + 1) φ' v' (by simpa using h1) (by simpa using h2))

theorem steps_at {ops : Array Oper} {C : World → Prop} {Φ : List Kind} {a0 : Act} : ∀ {l : List Oper} {W : List (List (Tmp × Option Nat))} {Ψ : List Kind}, Steps P ops C Φ a0 l W Ψ → ∀ (i : Nat) (o : Oper) (r : List (Tmp × Option Nat)), l[i]? = some o → W[i]? = some r →
    ∃ φ, Ψ[i]? = some φ ∧ StepAt P ops C Φ a0 o r φ
  | [], _, _, _, i, o, r, h, _ => by simp at h
  | _ :: _, [], _, _, i, o, r, _, h => by simp at h
  | _ :: _, _ :: _, [], h, _, _, _, _, _ => by simp [Steps] at h
  | o1 :: l, r1 :: W, φ1 :: Ψ, h, 0, o, r, h1, h2 => by
    simp only [List.getElem?_cons_zero, Option.some.injEq] at h1 h2
    subst h1; subst h2
    exact ⟨φ1, rfl, h.1⟩
  | o1 :: l, r1 :: W, φ1 :: Ψ, h, i + 1, o, r, h1, h2 => by
    obtain ⟨φ, h3, h4⟩ := steps_at h.2 i o r (by simpa using h1) (by simpa using h2)
    exact ⟨φ, by simpa using h3, h4⟩

theorem count_set {n i : Nat} (p q : Nat → Bool) (hi : i < n) (hp : p i = true) (hq : q i = false) (he : ∀ j, j ≠ i → q j = p j) : (List.range n).countP q + 1 = (List.range n).countP p := by
  induction n with
  | zero => omega
  | succ n ih =>
    rw [List.range_succ, List.countP_append, List.countP_append]
    rcases Nat.lt_or_ge i n with h | h
    · have := ih h
      have e : List.countP q [n] = List.countP p [n] := by simp [List.countP_cons, he n (by omega)]
      omega
    · obtain rfl : i = n := by omega
      have e : List.countP q (List.range i) = List.countP p (List.range i) := by
        refine List.countP_congr fun j hj => ?_
        rw [he j (by have := List.mem_range.1 hj; omega)]
      simp [hp, hq, e]

/-- What holds on the way. -/
structure GInv (l : List Oper) (tail : Oper) (Φ : List Kind) (C : World → Prop) (a0 : Act) (listed : Array Bool) (a : Act) (w : World) : Prop where
  c : C w
  size : listed.size = l.length + 1
  tail : listed.getD l.length false = false
  defers : a.defers = a0.defers
  tsize : a.tmps.size = a0.tmps.size
  closed : ∀ (k : Nat) (o : Oper), l[k]? = some o → listed.getD k false = true → ∀ e ∈ o.after, Region.binds .any e = true → listed.getD e.on false = true
  done : ∀ (i : Nat) (o : Oper) d φ, l[i]? = some o → listed.getD i false = true → o.dst = some d → Φ[i]? = some φ → ∃ v, a.tmps[d]? = some v ∧ φ v w
  other : ∀ t, (∀ (i : Nat) (o : Oper), l[i]? = some o → listed.getD i false = true → o.dst ≠ some t) → a.tmps[t]? = a0.tmps[t]?

/-- What the check says of an operation. -/
theorem growB_at {l : List Oper} {tail : Oper} {W : List (List (Tmp × Option Nat))} {m : Nat} (h : growB l tail W m = true) (i : Nat) (o : Oper) (ho : l[i]? = some o) :
    ∃ r d, W[i]? = some r ∧ o.dst = some d ∧ d < m ∧ (∀ (j : Nat) (o' : Oper), l[j]? = some o' → j ≠ i → o'.dst ≠ some d) ∧ (∀ e ∈ o.after, e.on < i) ∧
      (∀ x ∈ r, match x with
        | (t, some j) => j < i ∧ (∃ o', l[j]? = some o' ∧ o'.dst = some t) ∧ ∃ e ∈ o.after, Region.binds .any e = true ∧ e.on = j
        | (t, none) => ∀ (k : Nat) (o' : Oper), l[k]? = some o' → o'.dst = some t → ∃ e ∈ o'.after, Region.binds .any e = true ∧ e.on = i) := by
  have hi : i < l.length := (List.getElem?_eq_some_iff.1 ho).1
  simp only [growB, Bool.and_eq_true, List.all_eq_true, List.mem_range] at h
  have h1 := h.1.1 i hi
  rw [ho] at h1
  cases hr : W[i]? with
  | none => simp [hr] at h1
  | some r =>
    simp only [hr] at h1
    cases hd : o.dst with
    | none => simp [hd] at h1
    | some d =>
      simp only [hd, Bool.and_eq_true, decide_eq_true_eq, List.all_eq_true, List.mem_range, Array.all_eq_true_iff_forall_mem] at h1
      obtain ⟨⟨⟨h2, h3⟩, h4⟩, h5⟩ := h1
      refine ⟨r, d, rfl, rfl, h2, fun j o' hj hne => ?_, h4, fun x hx => ?_⟩
      · have := h3 j (List.getElem?_eq_some_iff.1 hj).1
        rw [hj] at this
        simpa [hne] using this
      · have h6 := h5 x hx
        obtain ⟨t, j⟩ := x
        cases j with
        | some j =>
          simp only [Bool.and_eq_true, decide_eq_true_eq] at h6
          obtain ⟨⟨h7, h8⟩, h9⟩ := h6
          refine ⟨h7, ?_, ?_⟩
          · cases hj : l[j]? with
            | none => simp [hj] at h8
            | some o' => exact ⟨o', rfl, by simpa [hj] using h8⟩
          · obtain ⟨e, he, hb⟩ := Array.any_eq_true'.1 h9
            simp only [Bool.and_eq_true, beq_iff_eq] at hb
            exact ⟨e, he, hb.1, hb.2⟩
        | none =>
          simp only [List.all_eq_true, List.mem_range] at h6
          intro k o' hk hdk
          have h7 := h6 k (List.getElem?_eq_some_iff.1 hk).1
          rw [hk] at h7
          simp only [Bool.or_eq_true, bne_iff_ne, ne_eq, hdk, not_true_eq_false, false_or] at h7
          obtain ⟨e, he, hb⟩ := Array.any_eq_true'.1 h7
          simp only [Bool.and_eq_true, beq_iff_eq] at hb
          exact ⟨e, he, hb.1, hb.2⟩

theorem growB_tail {l : List Oper} {tail : Oper} {W : List (List (Tmp × Option Nat))} {m : Nat} (h : growB l tail W m = true) :
    (∀ i, i < l.length → ∃ e ∈ tail.after, Region.binds .any e = true ∧ e.on = i) ∧ ∀ e ∈ tail.after, e.on < l.length := by
  simp only [growB, Bool.and_eq_true, List.all_eq_true, List.mem_range, Array.all_eq_true_iff_forall_mem, decide_eq_true_eq] at h
  refine ⟨fun i hi => ?_, h.2⟩
  obtain ⟨e, he, hb⟩ := Array.any_eq_true'.1 (h.1.2 i hi)
  simp only [Bool.and_eq_true, beq_iff_eq] at hb
  exact ⟨e, he, hb.1, hb.2⟩

theorem reads_of {l : List Oper} {tail : Oper} {Φ : List Kind} {C : World → Prop} {a0 : Act} {listed : Array Bool} {a : Act} {w : World} (h : GInv l tail Φ C a0 listed a w) (hΦ : Φ.length = l.length) {i : Nat} {o : Oper} (ho : l[i]? = some o) (hun : listed.getD i true = false)
    (hdeps : ∀ e ∈ o.after, Region.binds .any e = true → listed.getD e.on false = true) :
    ∀ (r : List (Tmp × Option Nat)), (∀ x ∈ r, match x with
        | (t, some j) => j < i ∧ (∃ o', l[j]? = some o' ∧ o'.dst = some t) ∧ ∃ e ∈ o.after, Region.binds .any e = true ∧ e.on = j
        | (t, none) => ∀ (k : Nat) (o' : Oper), l[k]? = some o' → o'.dst = some t → ∃ e ∈ o'.after, Region.binds .any e = true ∧ e.on = i) → Reads Φ a0 r a w
  | [], _ => trivial
  | (t, some j) :: r, hx => by
    obtain ⟨h1, ⟨o', h2, h3⟩, e, h4, h5, h6⟩ := hx _ (List.mem_cons_self ..)
    refine ⟨?_, reads_of h hΦ ho hun hdeps r (fun x hx' => hx x (List.mem_cons_of_mem _ hx'))⟩
    have hj : listed.getD j false = true := by rw [← h6]; exact hdeps e h4 h5
    have hl : j < Φ.length := by rw [hΦ]; exact (List.getElem?_eq_some_iff.1 h2).1
    obtain ⟨v, hv, hφ⟩ := h.done j o' t Φ[j] h2 hj h3 (List.getElem?_eq_getElem hl)
    refine ⟨v, hv, ?_⟩
    rw [List.getD_eq_getElem?_getD, List.getElem?_eq_getElem hl]
    exact hφ
  | (t, none) :: r, hx => by
    have h1 := hx _ (List.mem_cons_self ..)
    refine ⟨h.other t fun k o' hk hl hd => ?_, reads_of h hΦ ho hun hdeps r (fun x hx' => hx x (List.mem_cons_of_mem _ hx'))⟩
    obtain ⟨e, he, hb, hi⟩ := h1 k o' hk hd
    have := h.closed k o' hk hl e he hb
    rw [hi] at this
    have hlt : i < listed.size := by rw [h.size]; have := (List.getElem?_eq_some_iff.1 ho).1; omega
    simp [hlt] at this hun
    rw [this] at hun
    cases hun

/-- **EACH OPERATION ONCE**: a region that asks the tape: its last operation waits for all others; each of the others, in whatever world that has grown out of the first, leaves a value of its kind and new memory alone: then what stands behind is asked at one frame, whose values are of those kinds, in a world that has grown. -/
theorem region_grow {id : Nat} {a0 : Act} {w0 : World} {l : List Oper} {tail : Oper} {ops : Array Oper} (W : List (List (Tmp × Option Nat))) (Φ : List Kind) (hm : P.follows .mixedOrders = true) (hops : ops = (l ++ [tail]).toArray)
    (hB : growB l tail W a0.tmps.size = true) (hΦ : Φ.length = l.length) (hst : ∀ φ ∈ Φ, ∀ v w w', φ v w → Below w.heap.size w w' → φ v w')
    (hsteps : Steps P ops (fun w => Below w0.heap.size w0 w) Φ a0 l W Φ)
    (hlast : ∀ w, Below w0.heap.size w0 w → Grow (fun a w => if Region.wanted tail (yielded ops a.tmps) = true then tail.wp P a w (Q .normal) Q else Q .normal (a.put tail.dst undef) w) l Φ a0 w) :
    (Code.region id ops true).wp P Q a0 w0 := by
  refine wp_region_any hm ?_
  have hat : ∀ (i : Nat) (o : Oper), l[i]? = some o → ops[i]? = some o := fun i o h => by
    subst hops
    rw [List.getElem?_toArray, List.getElem?_append_left (List.getElem?_eq_some_iff.1 h).1]; exact h
  have htail : ops[l.length]? = some tail := by subst hops; simp
  have hN : ops.size = l.length + 1 := by subst hops; simp
  have main : ∀ (fuel : Nat) (listed : Array Bool) (a : Act) (w : World), GInv l tail Φ (fun w => Below w0.heap.size w0 w) a0 listed a w → (List.range (l.length + 1)).countP (fun i => !listed.getD i false) = fuel → wpAny P .any ops Q fuel listed a w := by
    intro fuel
    induction fuel with
    | zero =>
      intro listed a w h hc
      rw [List.countP_eq_zero] at hc
      have := hc l.length (by simp)
      simp [h.tail] at this
    | succ fuel ih =>
      intro listed a w h hc
      refine ⟨fun hr => ?_, fun i hi => ?_⟩
      · -- something is ready: the first that has not come
        exfalso
        have ex : ∀ n, n ≤ l.length + 1 → (∀ i, i < n → listed.getD i false = true) ∨ ∃ i, i < n ∧ listed.getD i false = false ∧ ∀ j, j < i → listed.getD j false = true := by
          intro n
          induction n with
          | zero => intro _; exact .inl fun i hi => by omega
          | succ n ihn =>
            intro hn
            rcases ihn (by omega) with h1 | ⟨i, h1, h2⟩
            · cases hb : listed.getD n false
              · exact .inr ⟨n, by omega, hb, h1⟩
              · refine .inl fun i hi => ?_
                rcases Nat.lt_or_ge i n with h' | h'
                · exact h1 i h'
                · obtain rfl : i = n := by omega
                  exact hb
            · exact .inr ⟨i, by omega, h2⟩
        rcases ex (l.length + 1) (Nat.le_refl _) with h1 | ⟨i, hi, hu, hlt⟩
        · have := h1 l.length (by omega); rw [h.tail] at this; cases this
        · have hmem : i ∈ Region.ready .any ops listed := by
            have hun : listed.getD i true = false := by
              have : i < listed.size := by rw [h.size]; omega
              simp [this] at hu ⊢; exact hu
            rw [mem_ready]
            rcases Nat.lt_or_ge i l.length with h' | h'
            · have ho : l[i]? = some l[i] := List.getElem?_eq_getElem h'
              obtain ⟨r, d, h1, h2, h3, h4, h5, h6⟩ := growB_at hB i _ ho
              exact ⟨hun, _, hat i _ ho, fun e he _ => hlt e.on (h5 e he)⟩
            · obtain rfl : i = l.length := by omega
              exact ⟨hun, tail, htail, fun e he _ => hlt e.on ((growB_tail hB).2 e he)⟩
          rw [hr] at hmem
          cases hmem
      · have hready := mem_ready.1 hi
        obtain ⟨hun, o, ho, hdeps⟩ := hready
        have hilt : i < l.length + 1 := by rw [← hN]; exact (Array.getElem?_eq_some_iff.1 ho).1
        have hisz : i < listed.size := by rw [h.size]; exact hilt
        rcases Nat.lt_or_ge i l.length with hil | hil
        · -- one of those ahead of the last
          have hol : l[i]? = some o := by
            have := hat i l[i] (List.getElem?_eq_getElem hil)
            rw [this] at ho
            rw [List.getElem?_eq_getElem hil]; exact ho
          obtain ⟨r, d, h1, h2, h3, h4, h5, h6⟩ := growB_at hB i o hol
          obtain ⟨φ, hφ, hstep⟩ := steps_at hsteps i o r hol h1
          have hstab := hst φ (List.mem_of_getElem? hφ)
          have hs := hstep a w h.c (reads_of h hΦ hol hun hdeps r h6)
          -- what holds behind it
          have after : ∀ v w', φ v w' → Below w.heap.size w w' → wpAny P .any ops Q fuel (listed.setIfInBounds i true) (a.put o.dst v) w' := by
            intro v w' hv hb
            have hcount : (List.range (l.length + 1)).countP (fun j => !(listed.setIfInBounds i true).getD j false) = fuel := by
              have := count_set (n := l.length + 1) (i := i) (fun j => !listed.getD j false) (fun j => !(listed.setIfInBounds i true).getD j false) hilt (by
                simp [hisz] at hun ⊢; exact hun) (by simp [hisz]) (fun j hj => by simp [Array.getElem?_setIfInBounds_ne (Ne.symm hj)])
              omega
            refine ih _ _ _ ⟨Below.up hb h.c, by simp [h.size], ?_, ?_, ?_, ?_, ?_, ?_⟩ hcount
            · rw [getD_set_ne false (by omega)]; exact h.tail
            · rw [h2]; exact h.defers
            · rw [h2]; simpa [Act.put] using h.tsize
            · intro k ok hk hl e he hbd
              by_cases hki : k = i
              · subst hki
                rw [hol] at hk; cases hk
                exact getD_set_true (hdeps e he hbd)
              · rw [getD_set_ne false (Ne.symm hki)] at hl
                exact getD_set_true (h.closed k ok hk hl e he hbd)
            · intro k ok dk φk hk hl hdk hφk
              by_cases hki : k = i
              · subst hki
                rw [hol] at hk; cases hk
                rw [h2] at hdk; cases hdk
                rw [hφ] at hφk; cases hφk
                refine ⟨v, ?_, hv⟩
                rw [h2]
                simp [Act.put, h.tsize, h3]
              · rw [getD_set_ne false (Ne.symm hki)] at hl
                obtain ⟨u, hu, hφu⟩ := h.done k ok dk φk hk hl hdk hφk
                refine ⟨u, ?_, hst φk (List.mem_of_getElem? hφk) u w w' hφu hb⟩
                have hne : d ≠ dk := fun e => h4 k ok hk hki (by rw [hdk, e])
                rw [h2]
                simpa [Act.put, Array.getElem?_setIfInBounds_ne hne] using hu
            · intro t ht
              have hdt : d ≠ t := fun e => ht i o hol (by simp [hisz]) (by rw [h2, e])
              rw [h2]
              simp only [Act.put]
              rw [Array.getElem?_setIfInBounds_ne hdt]
              refine h.other t fun k ok hk hl => ?_
              by_cases hki : k = i
              · subst hki
                rw [hol] at hk; cases hk
                rw [h2]; simpa using hdt
              · exact ht k ok hk (by rw [getD_set_ne false (Ne.symm hki)]; exact hl)
          unfold wpOp
          simp only [ho]
          split
          · rename_i hw
            rw [if_pos hw] at hs
            refine .inl ?_
            unfold Oper.wp
            generalize (execOp a.eval o).run P w = res at hs ⊢
            cases res with
            | halt x w' => exact hs.elim
            | ok n w' =>
              cases n with
              | value v => exact after v w' hs.1 hs.2
              | enter f args =>
                obtain ⟨hb, hc⟩ := hs
                refine hc.mono fun e w'' ⟨v, he, hv, hb'⟩ => ?_
                subst he
                exact after v w'' hv (Below.trans hb (hb'.mono hb.size))
              | _ => exact hs.elim
          · rename_i hw
            rw [if_neg hw] at hs
            exact after undef w hs (Below.refl _ _)
        · -- the last one
          obtain rfl : i = l.length := by omega
          rw [htail] at ho; cases ho
          have hall : ∀ j, j < l.length → listed.getD j false = true := fun j hj => by
            obtain ⟨e, he, hbd, hej⟩ := (growB_tail hB).1 j hj
            rw [← hej]; exact hdeps e he hbd
          have hdst : ∀ (j : Nat) (o : Oper), l[j]? = some o → ∃ d, o.dst = some d := fun j o hj => by
            obtain ⟨r, d, _, h2, _⟩ := growB_at hB j o hj
            exact ⟨d, h2⟩
          have hvs : ∀ (j : Nat) (o : Oper) d, l[j]? = some o → o.dst = some d → ∃ v, a.tmps[d]? = some v := fun j o d hj hd => by
            have hjl := (List.getElem?_eq_some_iff.1 hj).1
            obtain ⟨v, hv, _⟩ := h.done j o d (Φ[j]'(by rw [hΦ]; exact hjl)) hj (hall j hjl) hd (List.getElem?_eq_getElem _)
            exact ⟨v, hv⟩
          let vs : List Value := l.map fun o => a.eval (.tmp (o.dst.getD 0))
          have hvl : vs.length = l.length := List.length_map ..
          have hva : ∀ (j : Nat) (o : Oper) d, l[j]? = some o → o.dst = some d → vs[j]? = a.tmps[d]? := fun j o d hj hd => by
            obtain ⟨v, hv⟩ := hvs j o d hj hd
            show (l.map _)[j]? = _
            rw [List.getElem?_map, hj, hv]
            simp [Act.eval, hd, hv]
          have hput : putAll l vs a0 = a := by
            have hd1 : (putAll l vs a0).defers = a.defers := by rw [putAll_defers, h.defers]
            have ht1 : (putAll l vs a0).tmps = a.tmps := by
              refine Array.ext_getElem? fun t => ?_
              by_cases hex : ∃ (j : Nat) (o : Oper), l[j]? = some o ∧ o.dst = some t
              · obtain ⟨j, o, hj, hd⟩ := hex
                obtain ⟨v, hv⟩ := hvs j o t hj hd
                obtain ⟨r, d, _, h2, h3, h4, _⟩ := growB_at hB j o hj
                rw [hd] at h2; cases h2
                rw [hv]
                exact putAll_at l vs a0 j o hj hd (by rw [hva j o t hj hd, hv]) h3 h4
              · rw [putAll_other l vs a0 (fun o ho hd => by
                  obtain ⟨j, hj⟩ := List.getElem?_of_mem ho
                  exact hex ⟨j, o, hj, hd⟩)]
                exact (h.other t fun j o hj _ hd => hex ⟨j, o, hj, hd⟩).symm
            cases hp : putAll l vs a0 with
            | mk t d =>
              rw [hp] at hd1 ht1
              cases a
              simp only at hd1 ht1
              subst hd1; subst ht1
              rfl
          have hgo := grow_run l Φ vs a0 (hlast w h.c) hΦ hvl (fun j φ v hj hv => by
            have hjl : j < l.length := by rw [← hΦ]; exact (List.getElem?_eq_some_iff.1 hj).1
            obtain ⟨d, hd⟩ := hdst j _ (List.getElem?_eq_getElem hjl)
            obtain ⟨u, hu, hφu⟩ := h.done j _ d φ (List.getElem?_eq_getElem hjl) (hall j hjl) hd hj
            rw [hva j _ d (List.getElem?_eq_getElem hjl) hd, hu] at hv
            cases hv
            exact hφu)
          rw [hput] at hgo
          have hdone : ∀ a' w', Q .normal a' w' → wpAny P .any ops Q fuel (listed.setIfInBounds l.length true) a' w' := fun a' w' hq =>
            wpAny_done (by
              rw [List.eq_nil_iff_forall_not_mem]
              intro j hj
              obtain ⟨h0, o', ho', _⟩ := mem_ready.1 hj
              have hjl : j < l.length + 1 := by rw [← hN]; exact (Array.getElem?_eq_some_iff.1 ho').1
              by_cases hjt : j = l.length
              · subst hjt; simp [hisz] at h0
              · rw [getD_set_ne true (Ne.symm hjt)] at h0
                have := hall j (by omega)
                have hjs : j < listed.size := by rw [h.size]; omega
                simp [hjs] at h0 this
                rw [this] at h0; cases h0) hq fuel
          unfold wpOp
          simp only [htail]
          split
          · rename_i hw
            rw [if_pos hw] at hgo
            exact .inl (Oper.wp_mono hdone hgo)
          · rename_i hw
            rw [if_neg hw] at hgo
            exact hdone _ _ hgo
  have h0 : ∀ j, (Array.replicate ops.size false).getD j false = false := fun j => by
    rw [Array.getD_eq_getD_getElem?, Array.getElem?_replicate]
    split <;> rfl
  rw [hN]
  refine main _ _ _ _ ⟨⟨rfl, rfl, rfl, Nat.le_refl _, fun _ _ => rfl⟩, by simp, ?_, rfl, rfl, ?_, ?_, fun _ _ => rfl⟩ ?_
  · have := h0 l.length; rw [hN] at this; exact this
  · intro k o _ hl; have := h0 k; rw [hN] at this; rw [this] at hl; cases hl
  · intro k o d φ _ hl; have := h0 k; rw [hN] at this; rw [this] at hl; cases hl
  · rw [List.countP_eq_length.2]
    · simp
    · intro j _
      have := h0 j; rw [hN] at this
      simp [this]
end
end Go.Wb
