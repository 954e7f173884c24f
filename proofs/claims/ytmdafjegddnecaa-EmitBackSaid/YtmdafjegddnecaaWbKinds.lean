/- Kinds of values for 'region_grow'. No program in sight. -/
import Derived.Test.YtmdafjegddnecaaWbGrow
import Derived.Test.YtmdafjegddnecaaMv
namespace Go.Wb
open Go.RowKit

def Stab (φ : Kind) : Prop := ∀ v w w', φ v w → Below w.heap.size w w' → φ v w'
def StabAll : List Kind → Prop
  | [] => True
  | φ :: Φ => Stab φ ∧ StabAll Φ
theorem stab_all : ∀ {Φ : List Kind}, StabAll Φ → ∀ φ ∈ Φ, Stab φ
  | [], _, _, h => by cases h
  | φ :: Φ, h, ψ, hm => by
    rcases List.mem_cons.1 hm with rfl | hm
    · exact h.1
    · exact stab_all h.2 ψ hm

/-- This value. -/
def Is (c : Value) : Kind := fun v _ => v = c
theorem stab_is (c : Value) : Stab (Is c) := fun _ _ _ h _ => h
/-- A pointer to a new block that holds these cells. -/
def NewBlk (base : Nat) (cs : Array Value) (t : TypeId) : Kind := fun v w => ∃ b, v = .pointer (some ⟨b, 0, none⟩) ∧ base ≤ b ∧ w.heap[b]? = some (.cells cs t (0, 0))
theorem stab_new (base : Nat) (cs : Array Value) (t : TypeId) : Stab (NewBlk base cs t) := fun _ _ _ ⟨b, h1, h2, h3⟩ hb => ⟨b, h1, h2, kept hb h3⟩

def initOf : List Oper → List Oper
  | [] => []
  | [_] => []
  | a :: b :: l => a :: initOf (b :: l)
def lastOf : List Oper → Oper
  | [] => default
  | [a] => a
  | _ :: b :: l => lastOf (b :: l)
theorem init_last : ∀ (l : List Oper), l ≠ [] → l = initOf l ++ [lastOf l]
  | [], h => absurd rfl h
  | [a], _ => rfl
  | a :: b :: l, _ => by
    have := init_last (b :: l) (by simp)
    rw [initOf, lastOf, List.cons_append, ← this]

/-- 'region_grow' at a region whose operations are written out. -/
theorem region_grow_lit {P : Program} {Q : Exit → Act → World → Prop} {id : Nat} {a0 : Act} {w0 : World} {l : List Oper} (W : List (List (Tmp × Option Nat))) (Φ : List Kind) (hm : P.follows .mixedOrders = true) (hne : l ≠ [])
    (hB : growB (initOf l) (lastOf l) W a0.tmps.size = true) (hΦ : Φ.length = (initOf l).length) (hst : StabAll Φ)
    (hsteps : Steps P l.toArray (fun w => Below w0.heap.size w0 w) Φ a0 (initOf l) W Φ)
    (hg : (lastOf l).guard = none)
    (hlast : ∀ w, Below w0.heap.size w0 w → Grow (fun a w => (lastOf l).wp P a w (Q .normal) Q) (initOf l) Φ a0 w) :
    (Code.region id l.toArray true).wp P Q a0 w0 :=
  region_grow (l := initOf l) (tail := lastOf l) W Φ hm (congrArg List.toArray (init_last l hne)) hB hΦ (stab_all hst) hsteps (fun w hw => by
    have e : ∀ a : Act, Region.wanted (lastOf l) (yielded l.toArray a.tmps) = true := fun a => by simp [Region.wanted, hg]
    simp only [e, if_true]
    exact hlast w hw)

theorem grow_is {R : Act → World → Prop} {o : Oper} {os : List Oper} {c : Value} {Φ : List Kind} {a : Act} {w : World} (h : Grow R os Φ (a.put o.dst c) w) : Grow R (o :: os) (Is c :: Φ) a w := fun _ hv => by
  cases hv; exact h
theorem grow_new {R : Act → World → Prop} {o : Oper} {os : List Oper} {base : Nat} {cs : Array Value} {t : TypeId} {Φ : List Kind} {a : Act} {w : World}
    (h : ∀ b, base ≤ b → w.heap[b]? = some (.cells cs t (0, 0)) → Grow R os Φ (a.put o.dst (.pointer (some ⟨b, 0, none⟩))) w) : Grow R (o :: os) (NewBlk base cs t :: Φ) a w := fun _ hv => by
  obtain ⟨b, rfl, h1, h2⟩ := hv; exact h b h1 h2
theorem grow_any {R : Act → World → Prop} {o : Oper} {os : List Oper} {φ : Kind} {Φ : List Kind} {a : Act} {w : World} (h : ∀ v, φ v w → Grow R os Φ (a.put o.dst v) w) : Grow R (o :: os) (φ :: Φ) a w := h
theorem grow_end {R : Act → World → Prop} {a : Act} {w : World} (h : R a w) : Grow R [] [] a w := h
theorem step_new {P : Program} {w : World} {base : Nat} {cs : Array Value} {t : TypeId} (h : base ≤ w.heap.size) : StepOK P w (NewBlk base cs t) (.ok (.value (.pointer (some ⟨w.heap.size, 0, none⟩))) (w.alloc (.cells cs t (0, 0)))) :=
  ⟨⟨_, rfl, h, heap_alloc_new _ _⟩, (Below.refl _ _).alloc (Nat.le_refl _) _⟩
theorem getD_of_get {a : Act} {t : Tmp} {v : Value} (h : a.tmps[t]? = some v) : a.eval (.tmp t) = v := by simp [Act.eval, h]
theorem step_guard {P : Program} {ops : Array Oper} {C : World → Prop} {Φ : List Kind} {a0 : Act} {o : Oper} {r : List (Tmp × Option Nat)} {φ : Kind} {g d : Nat} {b : Bool} (hg : o.guard = some (g, b)) (hd : (ops[g]?).bind (·.dst) = some d) (hΦ : Φ.getD g (fun _ _ => False) = Is (.bool b))
    (h : ∀ a w, C w → Reads Φ a0 r a w → StepOK P w φ ((execOp a.eval o).run P w)) : StepAt P ops C Φ a0 o ((d, some g) :: r) φ := fun a w hc ⟨⟨v, hv, hφ⟩, hr⟩ => by
  rw [hΦ] at hφ
  cases hφ
  have : Region.wanted o (yielded ops a.tmps) = true := by simp [Region.wanted, hg, yielded, hd, hv]
  rw [if_pos this]
  exact h a w hc hr
theorem step_skip {P : Program} {ops : Array Oper} {C : World → Prop} {Φ : List Kind} {a0 : Act} {o : Oper} {r : List (Tmp × Option Nat)} {g d : Nat} {b : Bool} (hg : o.guard = some (g, b)) (hd : (ops[g]?).bind (·.dst) = some d) (hΦ : Φ.getD g (fun _ _ => False) = Is (.bool (!b))) : StepAt P ops C Φ a0 o ((d, some g) :: r) (Is undef) := fun a w hc ⟨⟨v, hv, hφ⟩, hr⟩ => by
  rw [hΦ] at hφ
  cases hφ
  have : ¬ Region.wanted o (yielded ops a.tmps) = true := by simp [Region.wanted, hg, yielded, hd, hv]
  rw [if_neg this]
  rfl
/-- A call whose contract says 'new memory alone' and one value. -/
theorem step_call {P : Program} {w : World} {f : FuncId} {args : Array Value} {c : Value} (h : Calls P f args w fun e w' => e = .returned c ∧ Below w.heap.size w w') : StepOK P w (Is c) (.ok (.enter f args) w) :=
  ⟨Below.refl _ _, h.mono fun _ _ ⟨he, hb⟩ => ⟨c, he, rfl, hb⟩⟩
theorem step_val {P : Program} {w : World} {c : Value} : StepOK P w (Is c) (.ok (.value c) w) := ⟨rfl, Below.refl _ _⟩
end Go.Wb
