/- A machine of values: '==' of plain values, arrays and structs of such. -/
import Derived.Test.YtfkneafghcndfaaPg
import Derived.ChangeKeysEq
import Derived.Laws.StructEq
namespace Go.Pm
open Go.RowKit
set_option linter.unusedVariables false
set_option linter.unusedSimpArgs false

/-- Kinds of a plain type's cells. -/
inductive LK where
  | int | bool | str
  deriving DecidableEq
def fieldsK (P : Program) (g : TypeId → Option (List LK)) : List Field → Nat → Option (List LK)
  | [], _ => some []
  | f :: fs, off => (g f.type).bind fun l => if f.name ≠ "_" ∧ f.offset = off ∧ szOf P f.type = some l.length then (fieldsK P g fs (off + l.length)).map (l ++ ·) else none
def flatK (P : Program) : Nat → TypeId → Option (List LK)
  | 0, _ => none
  | d + 1, t => match P.underlying t with
    | some (.int _) => some [.int]
    | some .bool => some [.bool]
    | some .string => some [.str]
    | some (.array n e) => (flatK P d e).bind fun l => if szOf P e = some l.length ∧ (isAggT P e).isSome = true ∧ ((P.info? e).isSome = true) then some (List.replicate n l).flatten else none
    | some (.struct fs) => if P.stoodInHeld t = true then none else fieldsK P (flatK P d) fs.toList 0
    | _ => none

def leafOk : LK → Value → Value → Bool
  | .int, .int k _, .int k' _ => decide (k = k')
  | .bool, .bool _, .bool _ => true
  | .str, .string _, .string _ => true
  | _, _, _ => false
def vEq : Value → Value → Bool
  | .int _ a, .int _ b => a == b
  | .bool a, .bool b => a == b
  | .string a, .string b => a.toList == b.toList
  | _, _ => false
def eqV (xs ys : List Value) : Bool := (xs.zip ys).all fun p => vEq p.1 p.2
def PairOk (l : List LK) (xs ys : List Value) : Prop := xs.length = l.length ∧ ys.length = l.length ∧ ∀ (i : Nat) k x y, l[i]? = some k → xs[i]? = some x → ys[i]? = some y → leafOk k x y = true

theorem eqV_append {a b c d : List Value} (h : a.length = c.length) : eqV (a ++ b) (c ++ d) = (eqV a c && eqV b d) := by
  unfold eqV
  rw [List.zip_append h, List.all_append]
theorem PairOk.left {a b : List LK} {xs ys : List Value} (h : PairOk (a ++ b) xs ys) : PairOk a (xs.take a.length) (ys.take a.length) := by
  obtain ⟨h1, h2, h3⟩ := h
  simp only [List.length_append] at h1 h2
  refine ⟨by simp; omega, by simp; omega, fun i k x y hk hx hy => ?_⟩
  have hi := (List.getElem?_eq_some_iff.1 hk).1
  rw [List.getElem?_take_of_lt hi] at hx hy
  exact h3 i k x y (by rw [List.getElem?_append_left hi]; exact hk) hx hy
theorem PairOk.right {a b : List LK} {xs ys : List Value} (h : PairOk (a ++ b) xs ys) : PairOk b (xs.drop a.length) (ys.drop a.length) := by
  obtain ⟨h1, h2, h3⟩ := h
  simp only [List.length_append] at h1 h2
  refine ⟨by simp; omega, by simp; omega, fun i k x y hk hx hy => ?_⟩
  rw [List.getElem?_drop] at hx hy
  exact h3 (a.length + i) k x y (by rw [List.getElem?_append_right (by omega)]; simpa using hk) hx hy

/-- A value by its cells. -/
def shapeV (agg : Bool) (xs : List Value) : Value := if agg then .agg xs.toArray else xs.headD default
theorem run_part {P : Program} {w : World} {e : TypeId} {b : Bool} {z off : Nat} {xs : List Value} (hb : isAggT P e = some b) (hz : szOf P e = some z) (h1 : b = false → z = 1) (hl : off + z ≤ xs.length) :
    (part e xs.toArray off).run P w = .ok (shapeV b ((xs.drop off).take z)) w := by
  cases b with
  | true =>
    simp only [part, Sem.run_bind, run_isAgg hb, Result.andThen_ok, if_true, run_sizeOf hz, Sem.run_pure, shapeV]
    congr 2
    apply Array.toList_inj.1
    simp [List.drop_take]
  | false =>
    obtain rfl := h1 rfl
    have hlt : off < xs.length := by omega
    have e1 : xs.toArray[off]? = some xs[off] := by simp [hlt]
    simp only [part, Sem.run_bind, run_isAgg hb, Result.andThen_ok, Bool.false_eq_true, if_false, e1, Sem.run_pure, shapeV]
    congr 1
    rw [List.drop_eq_getElem_cons hlt]
    rfl

/-- '==' at a type, at a depth. -/
def EqOk (P : Program) (d : Nat) (t : TypeId) (l : List LK) : Prop :=
  ∃ b, isAggT P t = some b ∧ (b = false → l.length = 1) ∧ ∀ (w : World) (xs ys : List Value), PairOk l xs ys → (Op.equalIn d t (shapeV b xs) (shapeV b ys)).run P w = .ok (eqV xs ys) w

theorem eqItems_run {P : Program} {d e c : Nat} {l : List LK} (E : EqOk P d e l) (hz : szOf P e = some l.length) (hc : c = l.length) (w : World) (xs ys : List Value) : ∀ (k i : Nat), PairOk (List.replicate k l).flatten (xs.drop (i * c)) (ys.drop (i * c)) →
    (Op.eqItems d e c xs.toArray ys.toArray (List.range' i k)).run P w = .ok (eqV (xs.drop (i * c)) (ys.drop (i * c))) w := by
  subst hc
  intro k
  induction k with
  | zero =>
    intro i h
    have h1 := h.1
    simp only [List.replicate_zero, List.flatten_nil, List.length_nil, List.length_drop] at h1
    have : xs.drop (i * l.length) = [] := List.drop_eq_nil_of_le (by omega)
    simp [Op.eqItems, this, eqV]
  | succ k ih =>
    intro i h
    obtain ⟨b, hb, hb1, hE⟩ := E
    rw [List.replicate_succ, List.flatten_cons] at h
    have hl := h.left
    have hr := h.right
    rw [List.drop_drop, List.drop_drop] at hr
    have e1 : i * l.length + l.length = (i + 1) * l.length := (Nat.succ_mul ..).symm
    have len1 := h.1
    have len2 := h.2.1
    simp only [List.length_append, List.length_drop] at len1 len2
    rw [show i * l.length + l.length = (i + 1) * l.length from e1] at hr
    have b1 : i * l.length ≤ xs.length ∧ i * l.length ≤ ys.length := by
      rcases Nat.eq_zero_or_pos l.length with e | e
      · rw [e]; simp
      · omega
    have p1 := run_part (P := P) (w := w) (off := i * l.length) (xs := xs) hb hz hb1 (by omega)
    have p2 := run_part (P := P) (w := w) (off := i * l.length) (xs := ys) hb hz hb1 (by omega)
    have q := hE w _ _ hl
    have hi := ih (i + 1) hr
    have split : eqV (xs.drop (i * l.length)) (ys.drop (i * l.length)) = (eqV ((xs.drop (i * l.length)).take l.length) ((ys.drop (i * l.length)).take l.length) && eqV (xs.drop ((i + 1) * l.length)) (ys.drop ((i + 1) * l.length))) := by
      rw [← e1, ← List.drop_drop, ← List.drop_drop, ← eqV_append (by simp; omega), List.take_append_drop, List.take_append_drop]
    rw [List.range'_succ, Op.eqItems]
    simp only [Sem.run_bind, p1, p2, q, Result.andThen_ok, split]
    cases hq : eqV ((xs.drop (i * l.length)).take l.length) ((ys.drop (i * l.length)).take l.length)
    · simp
    · simpa using hi

theorem eqFields_run {P : Program} {d : Nat} {g : TypeId → Option (List LK)} (E : ∀ t l, g t = some l → EqOk P d t l) (w : World) (xs ys : List Value) : ∀ (fs : List Field) (off : Nat) (l : List LK), fieldsK P g fs off = some l → PairOk l (xs.drop off) (ys.drop off) →
    (Op.eqFields d xs.toArray ys.toArray fs).run P w = .ok (eqV (xs.drop off) (ys.drop off)) w := by
  intro fs
  induction fs with
  | nil =>
    intro off l h hp
    cases h
    have h1 := hp.1
    simp only [List.length_nil, List.length_drop] at h1
    have : xs.drop off = [] := List.drop_eq_nil_of_le (by omega)
    simp [Op.eqFields, this, eqV]
  | cons f fs ih =>
    intro off l h hp
    simp only [fieldsK] at h
    obtain ⟨l1, hl1, h⟩ := Option.bind_eq_some_iff.1 h
    split at h
    case isFalse => cases h
    rename_i hh
    obtain ⟨hn, rfl, hz⟩ := hh
    obtain ⟨l2, hl2, rfl⟩ := Option.map_eq_some_iff.1 h
    obtain ⟨b, hb, hb1, hE⟩ := E _ _ hl1
    have hr := hp.right
    rw [List.drop_drop, List.drop_drop] at hr
    have len1 := hp.1
    have len2 := hp.2.1
    simp only [List.length_append, List.length_drop] at len1 len2
    rcases Nat.eq_zero_or_pos l1.length with h0 | h0
    · -- a field of no cells
      have p1 : ∀ zs : List Value, b = true → (part f.type zs.toArray f.offset).run P w = .ok (shapeV b ((zs.drop f.offset).take 0)) w := fun zs e => by
        subst e
        simp only [part, Sem.run_bind, run_isAgg hb, Result.andThen_ok, if_true, run_sizeOf hz, h0, Sem.run_pure, shapeV]
        congr 2
        apply Array.toList_inj.1
        simp
      have hbt : b = true := by
        cases b with
        | true => rfl
        | false => have := hb1 rfl; omega
      have q := hE w _ _ hp.left
      rw [h0] at q hr
      have hi := ih _ l2 (by rw [h0] at hl2; exact hl2) hr
      have e0 : l1 = [] := List.eq_nil_of_length_eq_zero h0
      rw [Op.eqFields]
      simp only [hn, ne_eq, not_false_eq_true, if_true, Sem.run_bind, p1 xs hbt, p1 ys hbt, q, Result.andThen_ok]
      simp only [Nat.add_zero] at hi
      simp [eqV] at hi ⊢
      exact hi
    · have p1 := run_part (P := P) (w := w) (off := f.offset) (xs := xs) hb hz hb1 (by omega)
      have p2 := run_part (P := P) (w := w) (off := f.offset) (xs := ys) hb hz hb1 (by omega)
      have q := hE w _ _ hp.left
      have hi := ih _ l2 hl2 hr
      have split : eqV (xs.drop f.offset) (ys.drop f.offset) = (eqV ((xs.drop f.offset).take l1.length) ((ys.drop f.offset).take l1.length) && eqV (xs.drop (f.offset + l1.length)) (ys.drop (f.offset + l1.length))) := by
        rw [← List.drop_drop, ← List.drop_drop, ← eqV_append (by simp; omega), List.take_append_drop, List.take_append_drop]
      rw [Op.eqFields]
      simp only [hn, ne_eq, not_false_eq_true, if_true, Sem.run_bind, p1, p2, q, Result.andThen_ok, split]
      cases hq : eqV ((xs.drop f.offset).take l1.length) ((ys.drop f.offset).take l1.length)
      · simp
      · simpa using hi

theorem szOf_info {P : Program} {t n : Nat} (h : szOf P t = some n) : ∃ i, P.info? t = some i ∧ i.size = n := by
  unfold szOf at h
  obtain ⟨i, hi, rfl⟩ := Option.map_eq_some_iff.1 h
  exact ⟨i, hi, rfl⟩

theorem flatK_eq {P : Program} : ∀ (m : Nat) (t : TypeId) (l : List LK), flatK P m t = some l → ∀ d, EqOk P (d + m) t l := by
  intro m
  induction m with
  | zero => intro t l h; cases h
  | succ m ih =>
    intro t l h d
    unfold flatK at h
    cases hu : P.underlying t with
    | none => rw [hu] at h; cases h
    | some k =>
      rw [hu] at h
      have hone : ∀ {xs : List Value} {q : LK}, xs.length = [q].length → ∃ x, xs = [x] := fun {xs q} h => by
        match xs, h with
        | [x], _ => exact ⟨x, rfl⟩
      cases k with
      | int q =>
        cases h
        refine ⟨false, by simp [isAggT, hu], fun _ => rfl, fun w xs ys hp => ?_⟩
        obtain ⟨x, rfl⟩ := hone hp.1
        obtain ⟨y, rfl⟩ := hone hp.2.1
        have := hp.2.2 0 _ x y rfl rfl rfl
        cases x <;> simp [leafOk] at this
        cases y <;> simp [leafOk] at this
        subst this
        have e := fun k a b => run_equalIn_int w (d + m) t k q a b hu
        rw [show d + (m + 1) = d + m + 1 from rfl]
        simp only [shapeV, Bool.false_eq_true, if_false, List.headD_cons, e]
        simp [eqV, vEq]
      | bool =>
        cases h
        refine ⟨false, by simp [isAggT, hu], fun _ => rfl, fun w xs ys hp => ?_⟩
        obtain ⟨x, rfl⟩ := hone hp.1
        obtain ⟨y, rfl⟩ := hone hp.2.1
        have := hp.2.2 0 _ x y rfl rfl rfl
        cases x <;> simp [leafOk] at this
        cases y <;> simp [leafOk] at this
        have e := fun a b => run_equalIn_bool w (d + m) t a b hu
        rw [show d + (m + 1) = d + m + 1 from rfl]
        simp only [shapeV, Bool.false_eq_true, if_false, List.headD_cons, e]
        simp [eqV, vEq]
      | string =>
        cases h
        refine ⟨false, by simp [isAggT, hu], fun _ => rfl, fun w xs ys hp => ?_⟩
        obtain ⟨x, rfl⟩ := hone hp.1
        obtain ⟨y, rfl⟩ := hone hp.2.1
        have := hp.2.2 0 _ x y rfl rfl rfl
        cases x <;> simp [leafOk] at this
        cases y <;> simp [leafOk] at this
        have e := fun a b => run_equalIn_string w (d + m) t a b hu
        rw [show d + (m + 1) = d + m + 1 from rfl]
        simp only [shapeV, Bool.false_eq_true, if_false, List.headD_cons, e]
        simp [eqV, vEq]
      | array n e =>
        obtain ⟨l1, hl1, h⟩ := Option.bind_eq_some_iff.1 h
        split at h
        case isFalse => cases h
        rename_i hh
        obtain ⟨hz, _, _⟩ := hh
        cases h
        obtain ⟨i, hi, hiz⟩ := szOf_info hz
        have hc : P.cellsOf e = l1.length := by simp [Program.cellsOf, hi, hiz]
        refine ⟨true, by simp [isAggT, hu], (fun e => by cases e), fun w xs ys hp => ?_⟩
        have := eqItems_run (c := P.cellsOf e) (ih e l1 hl1 d) hz hc w xs ys n 0 (by simpa using hp)
        simp only [Nat.zero_mul, List.drop_zero] at this
        simp only [shapeV, if_true]
        rw [show d + (m + 1) = (d + m) + 1 from rfl, run_equalIn_array w (d + m) xs.toArray ys.toArray hu hi, List.range_eq_range']
        exact this
      | struct fs =>
        simp only at h
        split at h
        · cases h
        rename_i hs
        have hs' : P.stoodInHeld t = false := by simpa using hs
        have hf : P.underlying t = some (.struct (P.fieldsOf t)) := by simp [Program.fieldsOf, hu]
        have hfs : P.fieldsOf t = fs := by simp [Program.fieldsOf, hu]
        refine ⟨true, by simp [isAggT, hu], (fun e => by cases e), fun w xs ys hp => ?_⟩
        have := eqFields_run (fun t l h => ih t l h d) w xs ys fs.toList 0 l h (by simpa using hp)
        simp only [List.drop_zero] at this
        simp only [shapeV, if_true]
        rw [show d + (m + 1) = (d + m) + 1 from rfl, run_equalIn_struct w (d + m) t xs.toArray ys.toArray hf hs', hfs]
        exact this
      | _ => cases h
end Go.Pm
