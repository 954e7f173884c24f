/- A machine of values: maps: their keys. -/
import Derived.Test.YtfkneafghcndfaaPj
import Derived.MapKept
import Derived.WideKeyRuns
namespace Go.Pm
open Go.RowKit
set_option linter.unusedVariables false
set_option linter.unusedSimpArgs false

def KT.lk : KT → LK
  | .int _ => .int
  | .bool => .bool
  | .str => .str
def fieldsT (P : Program) (g : TypeId → Option (List KT)) : List Field → Nat → Option (List KT)
  | [], _ => some []
  | f :: fs, off => (g f.type).bind fun l => if f.name ≠ "_" ∧ f.offset = off ∧ szOf P f.type = some l.length then (fieldsT P g fs (off + l.length)).map (l ++ ·) else none
/-- The kinds of a key type's cells. -/
def keyK (P : Program) : Nat → TypeId → Option (List KT)
  | 0, _ => none
  | d + 1, t => match P.underlying t with
    | some (.int k) => some [.int k]
    | some .bool => some [.bool]
    | some .string => some [.str]
    | some (.array n e) => (keyK P d e).bind fun l => if szOf P e = some l.length ∧ (isAggT P e).isSome = true ∧ ((P.info? e).isSome = true) then some (List.replicate n l).flatten else none
    | some (.struct fs) => if P.stoodInHeld t = true then none else fieldsT P (keyK P d) fs.toList 0
    | _ => none
def ktOf (P : Program) (t : TypeId) : Option (Bool × List KT) := (isAggT P t).bind fun b => (keyK P 40 t).map fun l => (b, l)

theorem fieldsT_flat {P : Program} {g : TypeId → Option (List KT)} {g' : TypeId → Option (List LK)} (hg : ∀ t l, g t = some l → g' t = some (l.map KT.lk)) : ∀ (fs : List Field) (off : Nat) (l : List KT), fieldsT P g fs off = some l → fieldsK P g' fs off = some (l.map KT.lk) := by
  intro fs
  induction fs with
  | nil => intro off l h; cases h; rfl
  | cons f fs ih =>
    intro off l h
    simp only [fieldsT] at h
    obtain ⟨l1, h1, h⟩ := Option.bind_eq_some_iff.1 h
    split at h
    case isFalse => cases h
    rename_i hh
    obtain ⟨l2, h2, rfl⟩ := Option.map_eq_some_iff.1 h
    simp only [fieldsK, hg _ _ h1, Option.bind_some, List.length_map]
    rw [if_pos hh, ih _ _ h2]
    simp
theorem flatten_map {α β : Type} (f : α → β) (n : Nat) (l : List α) : (List.replicate n l).flatten.map f = (List.replicate n (l.map f)).flatten := by
  induction n with
  | zero => rfl
  | succ n ih => simp only [List.replicate_succ, List.flatten_cons, List.map_append, ih]
theorem keyK_flat {P : Program} : ∀ (m : Nat) (t : TypeId) (l : List KT), keyK P m t = some l → flatK P m t = some (l.map KT.lk) := by
  intro m
  induction m with
  | zero => intro t l h; cases h
  | succ m ih =>
    intro t l h
    unfold keyK at h
    unfold flatK
    cases hu : P.underlying t with
    | none => rw [hu] at h; cases h
    | some d =>
      rw [hu] at h
      cases d <;> simp only at h ⊢ <;> first
        | (cases h; rfl; done)
        | (cases h; done)
        | skip
      case array n e =>
        obtain ⟨l1, h1, h⟩ := Option.bind_eq_some_iff.1 h
        split at h
        case isFalse => cases h
        rename_i hh
        cases h
        simp only [ih _ _ h1, Option.bind_some, List.length_map]
        rw [if_pos hh, flatten_map]
      case struct fs =>
        split at h
        · cases h
        rename_i hs
        rw [if_neg hs]
        exact fieldsT_flat ih _ _ _ h

theorem ktAll_pair : ∀ {l : List KT} {xs ys : List Value}, ktAll l xs = true → ktAll l ys = true → PairOk (l.map KT.lk) xs ys := by
  intro l
  induction l with
  | nil => intro xs ys h h'; cases xs <;> cases ys <;> simp [ktAll] at h h'; exact ⟨rfl, rfl, fun i k x y hk => by simp at hk⟩
  | cons a l ih =>
    intro xs ys h h'
    cases xs <;> cases ys <;> simp [ktAll] at h h'
    obtain ⟨h1, h2⟩ := h
    obtain ⟨g1, g2⟩ := h'
    obtain ⟨e1, e2, e3⟩ := ih h2 g2
    refine ⟨by simp [e1], by simp [e2], fun i k x y hk hx hy => ?_⟩
    cases i with
    | zero =>
      simp at hk hx hy
      subst hk hx hy
      rename_i x _ y _
      cases a <;> cases x <;> simp [ktOk] at h1 <;> cases y <;> simp [ktOk] at g1 <;> simp [KT.lk, leafOk]
      rw [← h1, ← g1]
    | succ i => exact e3 i k x y (by simpa using hk) (by simpa using hx) (by simpa using hy)
theorem ktAll_eqV : ∀ {l : List KT} {xs ys : List Value}, ktAll l xs = true → ktAll l ys = true → (eqV xs ys = true ↔ xs = ys) := by
  intro l
  induction l with
  | nil => intro xs ys h h'; cases xs <;> cases ys <;> simp [ktAll] at h h'; simp [eqV]
  | cons a l ih =>
    intro xs ys h h'
    cases xs <;> cases ys <;> simp [ktAll] at h h'
    rename_i x xs y ys
    obtain ⟨h1, h2⟩ := h
    obtain ⟨g1, g2⟩ := h'
    have := ih h2 g2
    have e : eqV (x :: xs) (y :: ys) = (vEq x y && eqV xs ys) := by simp [eqV]
    rw [e, Bool.and_eq_true, this, List.cons.injEq]
    have hv : vEq x y = true ↔ x = y := by
      cases a <;> cases x <;> simp [ktOk] at h1 <;> cases y <;> simp [ktOk] at g1 <;> simp [vEq]
      · rw [← h1, ← g1]; simp
      · rename_i a b
        constructor
        · intro h
          obtain ⟨⟨a⟩⟩ := a
          obtain ⟨⟨b⟩⟩ := b
          simpa using h
        · intro h; rw [h]
    rw [hv]
end Go.Pm
