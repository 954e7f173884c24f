/- 'region_grow' with more than one operation at the end, in their order. No program in sight. -/
import Derived.Test.YtcbjjkpjbdcakaaWbKinds
namespace Go.Wb
open Go.RowKit

def depsOf (o : Oper) : List Nat := (o.after.toList.filter (Region.binds .any)).map (·.on)
/-- What stands before, through any number of edges. -/
def clos (ops : Array Oper) : Nat → List Nat → List Nat
  | 0, S => S
  | f + 1, S => clos ops f (S ++ S.flatMap fun i => match ops[i]? with | some o => depsOf o | none => []).eraseDups
theorem clos_all {ops : Array Oper} {T : Nat → Prop} (hT : ∀ (k : Nat) (o : Oper), ops[k]? = some o → T k → ∀ i ∈ depsOf o, T i) : ∀ (f : Nat) (S : List Nat), (∀ i ∈ S, T i) → ∀ i ∈ clos ops f S, T i
  | 0, S, h => h
  | f + 1, S, h => clos_all hT f _ (fun i hi => by
    rw [List.mem_eraseDups] at hi
    rcases List.mem_append.1 hi with hi | hi
    · exact h i hi
    · obtain ⟨j, hj, hd⟩ := List.mem_flatMap.1 hi
      cases ho : ops[j]? with
      | none => simp [ho] at hd
      | some o => simp only [ho] at hd; exact hT j o ho (h j hj) i hd)
theorem mem_depsOf {o : Oper} {i : Nat} : i ∈ depsOf o ↔ ∃ e ∈ o.after, Region.binds .any e = true ∧ e.on = i := by
  simp [depsOf, and_assoc]

/-- The last operations: each waits for all that stand before it. -/
def tailsB (ops : Array Oper) (n : Nat) : List Oper → Bool
  | [] => true
  | o :: tl => o.after.all (fun e => decide (e.on < n)) && (List.range n).all (fun i => (clos ops 8 (depsOf o)).contains i) && tailsB ops (n + 1) tl

theorem tailsB_at {ops : Array Oper} : ∀ {tl : List Oper} {n : Nat}, tailsB ops n tl = true → ∀ (k : Nat) (o : Oper), tl[k]? = some o → (∀ e ∈ o.after, e.on < n + k) ∧ ∀ i, i < n + k → i ∈ clos ops 8 (depsOf o)
  | [], _, _, k, o, h => by simp at h
  | o1 :: tl, n, hB, 0, o, h => by
    simp only [List.getElem?_cons_zero, Option.some.injEq] at h
    subst h
    simp only [tailsB, Bool.and_eq_true, Array.all_eq_true_iff_forall_mem, decide_eq_true_eq, List.all_eq_true, List.mem_range] at hB
    exact ⟨hB.1.1, fun i hi => by simpa using hB.1.2 i hi⟩
  | o1 :: tl, n, hB, k + 1, o, h => by
    simp only [tailsB, Bool.and_eq_true] at hB
    have := tailsB_at hB.2 k o (by simpa using h)
    rw [show n + (k + 1) = n + 1 + k from by omega]
    exact this

/-- What is asked of the first ones: 'growB' without its last operation. -/
def frontB (l : List Oper) (W : List (List (Tmp × Option Nat))) (m : Nat) : Bool := growB l { (default : Oper) with after := (Array.range l.length).map fun i => ⟨i, .data⟩ } W m

section
variable {P : Program} {Q : Exit → Act → World → Prop}

theorem run_tails {ops : Array Oper} {N : Nat} (hN : ops.size = N) (hback : ∀ (j : Nat) (o : Oper), ops[j]? = some o → ∀ e ∈ o.after, e.on < j) : ∀ (rest : List Oper) (k : Nat) (listed : Array Bool) (a : Act) (w : World), (∀ j, rest[j]? = ops[k + j]?) → k + rest.length = N → listed.size = N → tailsB ops k rest = true → (∀ i, i < k → listed.getD i false = true) → (∀ i, k ≤ i → i < N → listed.getD i false = false) →
    wpList P ops Q rest a w → wpAny P .any ops Q rest.length listed a w
  | [], k, listed, a, w, _, hk, hs, _, h1, _, hw => by
    refine wpAny_done ?_ hw 0
    rw [List.eq_nil_iff_forall_not_mem]
    intro j hj
    obtain ⟨h0, o, ho, _⟩ := mem_ready.1 hj
    have hjl : j < N := by rw [← hN]; exact (Array.getElem?_eq_some_iff.1 ho).1
    have := h1 j (by simp at hk; omega)
    have hjs : j < listed.size := by omega
    simp [hjs] at h0 this
    rw [this] at h0; cases h0
  | o :: rest, k, listed, a, w, hr, hk, hs, hB, h1, h2, hw => by
    simp only [List.length_cons] at hk
    have ho : ops[k]? = some o := by simpa using (hr 0).symm
    have hks : k < listed.size := by omega
    have hku : listed.getD k true = false := by have := h2 k (Nat.le_refl _) (by omega); simp [hks] at this ⊢; exact this
    obtain ⟨hon, hall⟩ := tailsB_at hB 0 o rfl
    have hmem : k ∈ Region.ready .any ops listed := mem_ready.2 ⟨hku, o, ho, fun e he _ => h1 e.on (by have := hon e he; omega)⟩
    have hnext : ∀ a' w', wpList P ops Q rest a' w' → wpAny P .any ops Q rest.length (listed.setIfInBounds k true) a' w' := fun a' w' h =>
      run_tails hN hback rest (k + 1) _ a' w' (fun j => by have := hr (j + 1); simpa [Nat.add_assoc, Nat.add_comm 1 j] using this) (by omega) (by simp [hs]) (by
        simp only [tailsB, Bool.and_eq_true] at hB; exact hB.2) (fun i hi => by
        by_cases hik : i = k
        · subst hik; simp [hks]
        · rw [getD_set_ne false (Ne.symm hik)]; exact h1 i (by omega)) (fun i hi hiN => by
        rw [getD_set_ne false (by omega)]; exact h2 i (by omega) hiN) h
    refine ⟨fun h0 => (by rw [h0] at hmem; cases hmem), fun i hi => ?_⟩
    obtain ⟨hiu, oi, hoi, hdeps⟩ := mem_ready.1 hi
    have hiN : i < N := by rw [← hN]; exact (Array.getElem?_eq_some_iff.1 hoi).1
    have his : i < listed.size := by omega
    have hik : i = k := by
      rcases Nat.lt_trichotomy i k with h | h | h
      · have := h1 i h; simp [his] at this hiu; rw [this] at hiu; cases hiu
      · exact h
      · exfalso
        obtain ⟨j, rfl⟩ : ∃ j, i = k + (j + 1) := ⟨i - k - 1, by omega⟩
        have ht : (o :: rest)[j + 1]? = some oi := by rw [hr (j + 1)]; exact hoi
        obtain ⟨_, hall'⟩ := tailsB_at hB (j + 1) oi ht
        have hk := hall' k (by omega)
        have := clos_all (T := fun x => x < k) (fun x o hx hxk y hy => by
          obtain ⟨e, he, _, rfl⟩ := mem_depsOf.1 hy
          have := hback x o hx e he
          omega) 8 (depsOf oi) (fun y hy => by
          obtain ⟨e, he, hb, rfl⟩ := mem_depsOf.1 hy
          have h3 := hdeps e he hb
          rcases Nat.lt_or_ge e.on k with h' | h'
          · exact h'
          · have h4 : e.on < N := by have := hback _ oi hoi e he; omega
            rw [h2 e.on h' h4] at h3; cases h3) k hk
        omega
    subst hik
    rw [ho] at hoi; cases hoi
    simp only [wpList] at hw
    unfold wpOp
    simp only [ho]
    split
    · rename_i hwd
      rw [if_pos hwd] at hw
      exact hw.imp (Oper.wp_mono hnext) id
    · rename_i hwd
      rw [if_neg hwd] at hw
      exact hnext _ _ hw


structure TInv (l tl : List Oper) (Φ : List Kind) (C : World → Prop) (a0 : Act) (listed : Array Bool) (a : Act) (w : World) : Prop where
  c : C w
  size : listed.size = l.length + tl.length
  tail : ∀ k, l.length ≤ k → listed.getD k false = false
  defers : a.defers = a0.defers
  tsize : a.tmps.size = a0.tmps.size
  closed : ∀ (k : Nat) (o : Oper), l[k]? = some o → listed.getD k false = true → ∀ e ∈ o.after, Region.binds .any e = true → listed.getD e.on false = true
  done : ∀ (i : Nat) (o : Oper) d φ, l[i]? = some o → listed.getD i false = true → o.dst = some d → Φ[i]? = some φ → ∃ v, a.tmps[d]? = some v ∧ φ v w
  other : ∀ t, (∀ (i : Nat) (o : Oper), l[i]? = some o → listed.getD i false = true → o.dst ≠ some t) → a.tmps[t]? = a0.tmps[t]?

theorem treads_of {l : List Oper} {tl : List Oper} {Φ : List Kind} {C : World → Prop} {a0 : Act} {listed : Array Bool} {a : Act} {w : World} (h : TInv l tl Φ C a0 listed a w) (hΦ : Φ.length = l.length) {i : Nat} {o : Oper} (ho : l[i]? = some o) (hun : listed.getD i true = false)
    (hdeps : ∀ e ∈ o.after, Region.binds .any e = true → listed.getD e.on false = true) :
    ∀ (r : List (Tmp × Option Nat)), (∀ x ∈ r, match x with
        | (t, some j) => j < i ∧ (∃ o', l[j]? = some o' ∧ o'.dst = some t) ∧ ∃ e ∈ o.after, Region.binds .any e = true ∧ e.on = j
        | (t, none) => ∀ (k : Nat) (o' : Oper), l[k]? = some o' → o'.dst = some t → ∃ e ∈ o'.after, Region.binds .any e = true ∧ e.on = i) → Reads Φ a0 r a w
  | [], _ => trivial
  | (t, some j) :: r, hx => by
    obtain ⟨h1, ⟨o', h2, h3⟩, e, h4, h5, h6⟩ := hx _ (List.mem_cons_self ..)
    refine ⟨?_, treads_of h hΦ ho hun hdeps r (fun x hx' => hx x (List.mem_cons_of_mem _ hx'))⟩
    have hj : listed.getD j false = true := by rw [← h6]; exact hdeps e h4 h5
    have hl : j < Φ.length := by rw [hΦ]; exact (List.getElem?_eq_some_iff.1 h2).1
    obtain ⟨v, hv, hφ⟩ := h.done j o' t Φ[j] h2 hj h3 (List.getElem?_eq_getElem hl)
    refine ⟨v, hv, ?_⟩
    rw [List.getD_eq_getElem?_getD, List.getElem?_eq_getElem hl]
    exact hφ
  | (t, none) :: r, hx => by
    have h1 := hx _ (List.mem_cons_self ..)
    refine ⟨h.other t fun k o' hk hl hd => ?_, treads_of h hΦ ho hun hdeps r (fun x hx' => hx x (List.mem_cons_of_mem _ hx'))⟩
    obtain ⟨e, he, hb, hi⟩ := h1 k o' hk hd
    have := h.closed k o' hk hl e he hb
    rw [hi] at this
    have hlt : i < listed.size := by rw [h.size]; have := (List.getElem?_eq_some_iff.1 ho).1; omega
    simp [hlt] at this hun
    rw [this] at hun
    cases hun

/-- **EACH OPERATION ONCE**, with several operations at the end. -/
theorem region_tails {id : Nat} {a0 : Act} {w0 : World} {l tl : List Oper} {ops : Array Oper} (W : List (List (Tmp × Option Nat))) (Φ : List Kind) (hm : P.follows .mixedOrders = true) (hops : ops = (l ++ tl).toArray) (hne : tl ≠ [])
    (hB0 : frontB l W a0.tmps.size = true) (hT : tailsB ops l.length tl = true) (hΦ : Φ.length = l.length) (hst : ∀ φ ∈ Φ, ∀ v w w', φ v w → Below w.heap.size w w' → φ v w')
    (hsteps : Steps P ops (fun w => Below w0.heap.size w0 w) Φ a0 l W Φ)
    (hlast : ∀ w, Below w0.heap.size w0 w → Grow (fun a w => wpList P ops Q tl a w) l Φ a0 w) :
    (Code.region id ops true).wp P Q a0 w0 := by
  refine wp_region_any hm ?_
  have hB := hB0
  unfold frontB at hB
  have hat : ∀ (i : Nat) (o : Oper), l[i]? = some o → ops[i]? = some o := fun i o h => by
    subst hops
    rw [List.getElem?_toArray, List.getElem?_append_left (List.getElem?_eq_some_iff.1 h).1]; exact h
  have htl : ∀ j, tl[j]? = ops[l.length + j]? := fun j => by subst hops; rw [List.getElem?_toArray, List.getElem?_append_right (by omega), Nat.add_sub_cancel_left]
  have hN : ops.size = l.length + tl.length := by subst hops; simp
  have htp : 0 < tl.length := by cases tl with | nil => exact absurd rfl hne | cons _ _ => simp
  have hback : ∀ (j : Nat) (o : Oper), ops[j]? = some o → ∀ e ∈ o.after, e.on < j := fun j o hj e he => by
    rcases Nat.lt_or_ge j l.length with h' | h'
    · have hol : l[j]? = some o := by
        have := hat j l[j] (List.getElem?_eq_getElem h')
        rw [this] at hj
        rw [List.getElem?_eq_getElem h']; exact hj
      obtain ⟨r, d, h1, h2, h3, h4, h5, h6⟩ := growB_at hB j o hol
      exact h5 e he
    · obtain ⟨i, rfl⟩ : ∃ i, j = l.length + i := ⟨j - l.length, by omega⟩
      exact (tailsB_at hT i o (by rw [htl i]; exact hj)).1 e he
  have main : ∀ (dd : Nat) (listed : Array Bool) (a : Act) (w : World), TInv l tl Φ (fun w => Below w0.heap.size w0 w) a0 listed a w → (List.range l.length).countP (fun i => !listed.getD i false) = dd → wpAny P .any ops Q (dd + tl.length) listed a w := by
    intro dd
    induction dd with
    | zero =>
      intro listed a w h hc
      rw [List.countP_eq_zero] at hc
      have hall : ∀ j, j < l.length → listed.getD j false = true := fun j hj => by
        have := hc j (List.mem_range.2 hj); simpa using this
      rw [Nat.zero_add]
      have hdst : ∀ (j : Nat) (o : Oper), l[j]? = some o → ∃ d, o.dst = some d := fun j o hj => by
        obtain ⟨r, d, _, h2, _⟩ := growB_at hB j o hj
        exact ⟨d, h2⟩
      have hvs : ∀ (j : Nat) (o : Oper) d, l[j]? = some o → o.dst = some d → ∃ v, a.tmps[d]? = some v := fun j o d hj hd => by
        have hjl := (List.getElem?_eq_some_iff.1 hj).1
        obtain ⟨v, hv, _⟩ := h.done j o d (Φ[j]'(by rw [hΦ]; exact hjl)) hj (hall j hjl) hd (List.getElem?_eq_getElem _)
        exact ⟨v, hv⟩
      let vs : List Value := l.map fun o => a.eval (.tmp (o.dst.getD 0))
      have hvl : vs.length = l.length := List.length_map ..
      have hva : ∀ (j : Nat) (o : Oper) d, l[j]? = some o → o.dst = some d → vs[j]? = a.tmps[d]? := fun j o d hj hd => by
        obtain ⟨v, hv⟩ := hvs j o d hj hd
        show (l.map _)[j]? = _
        rw [List.getElem?_map, hj, hv]
        simp [Act.eval, hd, hv]
      have hput : putAll l vs a0 = a := by
        have hd1 : (putAll l vs a0).defers = a.defers := by rw [putAll_defers, h.defers]
        have ht1 : (putAll l vs a0).tmps = a.tmps := by
          refine Array.ext_getElem? fun t => ?_
          by_cases hex : ∃ (j : Nat) (o : Oper), l[j]? = some o ∧ o.dst = some t
          · obtain ⟨j, o, hj, hd⟩ := hex
            obtain ⟨v, hv⟩ := hvs j o t hj hd
            obtain ⟨r, d, _, h2, h3, h4, _⟩ := growB_at hB j o hj
            rw [hd] at h2; cases h2
            rw [hv]
            exact putAll_at l vs a0 j o hj hd (by rw [hva j o t hj hd, hv]) h3 h4
          · rw [putAll_other l vs a0 (fun o ho hd => by
              obtain ⟨j, hj⟩ := List.getElem?_of_mem ho
              exact hex ⟨j, o, hj, hd⟩)]
            exact (h.other t fun j o hj _ hd => hex ⟨j, o, hj, hd⟩).symm
        cases hp : putAll l vs a0 with
        | mk t d =>
          rw [hp] at hd1 ht1
          cases a
          simp only at hd1 ht1
          subst hd1; subst ht1
          rfl
      have hgo := grow_run l Φ vs a0 (hlast w h.c) hΦ hvl (fun j φ v hj hv => by
        have hjl : j < l.length := by rw [← hΦ]; exact (List.getElem?_eq_some_iff.1 hj).1
        obtain ⟨d, hd⟩ := hdst j _ (List.getElem?_eq_getElem hjl)
        obtain ⟨u, hu, hφu⟩ := h.done j _ d φ (List.getElem?_eq_getElem hjl) (hall j hjl) hd hj
        rw [hva j _ d (List.getElem?_eq_getElem hjl) hd, hu] at hv
        cases hv
        exact hφu)
      rw [hput] at hgo

      exact run_tails hN hback tl l.length listed a w htl rfl (by rw [h.size]) hT hall (fun i hi _ => h.tail i hi) hgo
    | succ dd ih =>
      intro listed a w h hc
      rw [show dd + 1 + tl.length = (dd + tl.length) + 1 from by omega]
      have hex : ∃ i, i < l.length ∧ listed.getD i false = false := by
        have : 0 < (List.range l.length).countP (fun i => !listed.getD i false) := by omega
        obtain ⟨i, hi, hp⟩ := List.countP_pos_iff.1 this
        exact ⟨i, List.mem_range.1 hi, by simpa using hp⟩
      have hfirst : ∃ i, i < l.length ∧ listed.getD i false = false ∧ ∀ j, j < i → listed.getD j false = true := by
        obtain ⟨i, hi, hu⟩ := hex
        have ex : ∀ n, (∀ i, i < n → listed.getD i false = true) ∨ ∃ i, i < n ∧ listed.getD i false = false ∧ ∀ j, j < i → listed.getD j false = true := by
          intro n
          induction n with
          | zero => exact .inl fun i hi => by omega
          | succ n ihn =>
            rcases ihn with h1 | ⟨i, h1, h2⟩
            · cases hb : listed.getD n false
              · exact .inr ⟨n, by omega, hb, h1⟩
              · refine .inl fun i hi => ?_
                rcases Nat.lt_or_ge i n with h' | h'
                · exact h1 i h'
                · obtain rfl : i = n := by omega
                  exact hb
            · exact .inr ⟨i, by omega, h2⟩
        rcases ex (i + 1) with h1 | ⟨j, hj, h2⟩
        · have := h1 i (by omega); rw [hu] at this; cases this
        · exact ⟨j, by omega, h2⟩
      refine ⟨fun hr => ?_, fun i hi => ?_⟩
      · exfalso
        obtain ⟨i, hi, hu, hlt⟩ := hfirst
        have hmem : i ∈ Region.ready .any ops listed := by
          have hun : listed.getD i true = false := by
            have : i < listed.size := by rw [h.size]; omega
            simp [this] at hu ⊢; exact hu
          have ho : l[i]? = some l[i] := List.getElem?_eq_getElem hi
          obtain ⟨r, d, h1, h2, h3, h4, h5, h6⟩ := growB_at hB i _ ho
          exact mem_ready.2 ⟨hun, _, hat i _ ho, fun e he _ => hlt e.on (h5 e he)⟩
        rw [hr] at hmem
        cases hmem
      · have hready := mem_ready.1 hi
        obtain ⟨hun, o, ho, hdeps⟩ := hready
        have hilt : i < l.length + tl.length := by rw [← hN]; exact (Array.getElem?_eq_some_iff.1 ho).1
        have hisz : i < listed.size := by rw [h.size]; exact hilt
        rcases Nat.lt_or_ge i l.length with hil | hil
        · have hol : l[i]? = some o := by
            have := hat i l[i] (List.getElem?_eq_getElem hil)
            rw [this] at ho
            rw [List.getElem?_eq_getElem hil]; exact ho
          obtain ⟨r, d, h1, h2, h3, h4, h5, h6⟩ := growB_at hB i o hol
          obtain ⟨φ, hφ, hstep⟩ := steps_at hsteps i o r hol h1
          have hstab := hst φ (List.mem_of_getElem? hφ)
          have hs := hstep a w h.c (treads_of h hΦ hol hun hdeps r h6)
          -- what holds behind it
          have after : ∀ v w', φ v w' → Below w.heap.size w w' → wpAny P .any ops Q (dd + tl.length) (listed.setIfInBounds i true) (a.put o.dst v) w' := by
            intro v w' hv hb
            have hcount : (List.range l.length).countP (fun j => !(listed.setIfInBounds i true).getD j false) = dd := by
              have := count_set (n := l.length) (i := i) (fun j => !listed.getD j false) (fun j => !(listed.setIfInBounds i true).getD j false) hil (by
                simp [hisz] at hun ⊢; exact hun) (by simp [hisz]) (fun j hj => by simp [Array.getElem?_setIfInBounds_ne (Ne.symm hj)])
              omega
            refine ih _ _ _ ⟨Below.up hb h.c, by simp [h.size], ?_, ?_, ?_, ?_, ?_, ?_⟩ hcount
            · intro q hq; rw [getD_set_ne false (by omega)]; exact h.tail q hq
            · rw [h2]; exact h.defers
            · rw [h2]; simpa [Act.put] using h.tsize
            · intro k ok hk hl e he hbd
              by_cases hki : k = i
              · subst hki
                rw [hol] at hk; cases hk
                exact getD_set_true (hdeps e he hbd)
              · rw [getD_set_ne false (Ne.symm hki)] at hl
                exact getD_set_true (h.closed k ok hk hl e he hbd)
            · intro k ok dk φk hk hl hdk hφk
              by_cases hki : k = i
              · subst hki
                rw [hol] at hk; cases hk
                rw [h2] at hdk; cases hdk
                rw [hφ] at hφk; cases hφk
                refine ⟨v, ?_, hv⟩
                rw [h2]
                simp [Act.put, h.tsize, h3]
              · rw [getD_set_ne false (Ne.symm hki)] at hl
                obtain ⟨u, hu, hφu⟩ := h.done k ok dk φk hk hl hdk hφk
                refine ⟨u, ?_, hst φk (List.mem_of_getElem? hφk) u w w' hφu hb⟩
                have hne : d ≠ dk := fun e => h4 k ok hk hki (by rw [hdk, e])
                rw [h2]
                simpa [Act.put, Array.getElem?_setIfInBounds_ne hne] using hu
            · intro t ht
              have hdt : d ≠ t := fun e => ht i o hol (by simp [hisz]) (by rw [h2, e])
              rw [h2]
              simp only [Act.put]
              rw [Array.getElem?_setIfInBounds_ne hdt]
              refine h.other t fun k ok hk hl => ?_
              by_cases hki : k = i
              · subst hki
                rw [hol] at hk; cases hk
                rw [h2]; simpa using hdt
              · exact ht k ok hk (by rw [getD_set_ne false (Ne.symm hki)]; exact hl)
          unfold wpOp
          simp only [ho]
          split
          · rename_i hw
            rw [if_pos hw] at hs
            refine .inl ?_
            unfold Oper.wp
            generalize (execOp a.eval o).run P w = res at hs ⊢
            cases res with
            | halt x w' => exact hs.elim
            | ok n w' =>
              cases n with
              | value v => exact after v w' hs.1 hs.2
              | enter f args =>
                obtain ⟨hb, hc⟩ := hs
                refine hc.mono fun e w'' ⟨v, he, hv, hb'⟩ => ?_
                subst he
                exact after v w'' hv (Below.trans hb (hb'.mono hb.size))
              | _ => exact hs.elim
          · rename_i hw
            rw [if_neg hw] at hs
            exact after undef w hs (Below.refl _ _)
        · exfalso
          obtain ⟨j, rfl⟩ : ∃ j, i = l.length + j := ⟨i - l.length, by omega⟩
          have ht : tl[j]? = some o := by rw [htl j]; exact ho
          obtain ⟨q, hq, hqu⟩ := hex
          have hqm := (tailsB_at hT j o ht).2 q (by omega)
          have := clos_all (T := fun x => listed.getD x false = true) (fun x o' hx hxl y hy => by
            obtain ⟨e, he, hb, rfl⟩ := mem_depsOf.1 hy
            rcases Nat.lt_or_ge x l.length with h' | h'
            · have hol : l[x]? = some o' := by
                have := hat x l[x] (List.getElem?_eq_getElem h')
                rw [this] at hx
                rw [List.getElem?_eq_getElem h']; exact hx
              exact h.closed x o' hol hxl e he hb
            · rw [h.tail x h'] at hxl; cases hxl) 8 (depsOf o) (fun y hy => by
            obtain ⟨e, he, hb, rfl⟩ := mem_depsOf.1 hy
            exact hdeps e he hb) q hqm
          rw [hqu] at this
          cases this
  have h0 : ∀ j, (Array.replicate ops.size false).getD j false = false := fun j => by
    rw [Array.getD_eq_getD_getElem?, Array.getElem?_replicate]
    split <;> rfl
  have hcnt : (List.range l.length).countP (fun i => !(Array.replicate ops.size false).getD i false) = l.length := by
    rw [List.countP_eq_length.2]
    · simp
    · intro j _
      simp [h0 j]
  have := main _ (Array.replicate ops.size false) a0 { w0 with drawn := w0.drawn + 1 } ⟨⟨rfl, rfl, rfl, Nat.le_refl _, fun _ _ => rfl⟩, by simp [hN], fun k _ => h0 k, rfl, rfl, fun k o _ hl => (by rw [h0 k] at hl; cases hl), fun k o d φ _ hl => (by rw [h0 k] at hl; cases hl), fun _ _ => rfl⟩ hcnt
  rw [hN] at this ⊢
  exact this

/-- 'region_tails' at a region whose operations are written out, the last n of them in their order. -/
theorem region_tails_lit {id : Nat} {a0 : Act} {w0 : World} {ops : List Oper} (n : Nat) (W : List (List (Tmp × Option Nat))) (Φ : List Kind) (hm : P.follows .mixedOrders = true) (hne : ops.drop n ≠ [])
    (hB : frontB (ops.take n) W a0.tmps.size = true) (hT : tailsB ops.toArray (ops.take n).length (ops.drop n) = true) (hΦ : Φ.length = (ops.take n).length) (hst : StabAll Φ)
    (hsteps : Steps P ops.toArray (fun w => Below w0.heap.size w0 w) Φ a0 (ops.take n) W Φ)
    (hlast : ∀ w, Below w0.heap.size w0 w → Grow (fun a w => wpList P ops.toArray Q (ops.drop n) a w) (ops.take n) Φ a0 w) :
    (Code.region id ops.toArray true).wp P Q a0 w0 :=
  region_tails (l := ops.take n) (tl := ops.drop n) W Φ hm (congrArg List.toArray (List.take_append_drop n ops).symm) hne hB hT hΦ (stab_all hst) hsteps hlast
end
end Go.Wb
