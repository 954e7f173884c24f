/- A machine of values: maps: looking up, writing, deleting. -/
import Derived.Test.YtfkneafghcndfaaPu
namespace Go.Pm
open Go.RowKit
set_option linter.unusedVariables false
set_option linter.unusedSimpArgs false

theorem keyB_shape {q : Option (Bool × List KT)} {v : Value} (h : keyB q v = true) : ∃ b l xs, q = some (b, l) ∧ v = shapeV b xs ∧ ktAll l xs = true := by
  unfold keyB at h
  split at h
  · rename_i l cs; exact ⟨true, l, cs.toList, rfl, by simp [shapeV], h⟩
  · rename_i l k x; exact ⟨false, l, [.int k x], rfl, by simp [shapeV], h⟩
  · rename_i l x; exact ⟨false, l, [.bool x], rfl, by simp [shapeV], h⟩
  · rename_i l x; exact ⟨false, l, [.string x], rfl, by simp [shapeV], h⟩
  · cases h
theorem ktAll_length : ∀ {l : List KT} {xs : List Value}, ktAll l xs = true → xs.length = l.length := by
  intro l
  induction l with
  | nil => intro xs h; cases xs <;> simp [ktAll] at h; rfl
  | cons a l ih => intro xs h; cases xs <;> simp [ktAll] at h; simp [ih h.2]
theorem ktOf_some {P : Program} {t : TypeId} {b : Bool} {l : List KT} (h : ktOf P t = some (b, l)) : isAggT P t = some b ∧ keyK P 40 t = some l := by
  unfold ktOf at h
  obtain ⟨b', h1, h⟩ := Option.bind_eq_some_iff.1 h
  obtain ⟨l', h2, h⟩ := Option.map_eq_some_iff.1 h
  cases h
  exact ⟨h1, h2⟩
theorem shapeV_inj {P : Program} {t : TypeId} {b : Bool} {l : List KT} (hl : b = false → l.length = 1) {xs ys : List Value} (hx : xs.length = l.length) (hy : ys.length = l.length) : shapeV b xs = shapeV b ys ↔ xs = ys := by
  cases b with
  | true => simp [shapeV]
  | false =>
    have := hl rfl
    rw [this] at hx hy
    match xs, hx, ys, hy with
    | [x], _, [y], _ => simp [shapeV]
theorem key_equal {P : Program} {w : World} {kt : TypeId} {a b : Value} (ha : keyB (ktOf P kt) a = true) (hb : keyB (ktOf P kt) b = true) : ∃ r, (Op.equal kt a b).run P w = .ok r w ∧ (r = true ↔ a = b) := by
  obtain ⟨g, l, xs, hq, rfl, h1⟩ := keyB_shape ha
  obtain ⟨g', l', ys, hq', rfl, h2⟩ := keyB_shape hb
  rw [hq] at hq'
  cases hq'
  obtain ⟨e1, e2⟩ := ktOf_some hq
  obtain ⟨b', hb', hl, hE⟩ := flatK_eq 40 kt _ (keyK_flat 40 kt l e2) 9960
  rw [e1] at hb'
  cases hb'
  have hh := hE w xs ys (ktAll_pair h1 h2)
  refine ⟨eqV xs ys, by simpa [Op.equal, Op.maxDepth] using hh, (ktAll_eqV h1 h2).trans (shapeV_inj (P := P) (t := kt) (l := l) (fun e => by simpa using hl e) (ktAll_length h1) (ktAll_length h2)).symm⟩

/-- A key may be one. -/
def CheckT (P : Program) (dd : Nat) (t : TypeId) (l : List KT) : Prop :=
  ∃ b, isAggT P t = some b ∧ (b = false → l.length = 1) ∧ ∀ (w : World) (em : Bool) (xs : List Value), ktAll l xs = true → (Instr.checkKey em dd t (shapeV b xs)).run P w = .ok () w
theorem ktAll_split : ∀ {a b : List KT} {xs : List Value}, ktAll (a ++ b) xs = true → ktAll a (xs.take a.length) = true ∧ ktAll b (xs.drop a.length) = true := by
  intro a
  induction a with
  | nil => intro b xs h; exact ⟨by simp [ktAll], by simpa using h⟩
  | cons x a ih =>
    intro b xs h
    cases xs with
    | nil => simp [ktAll] at h
    | cons y ys =>
      simp only [List.cons_append, ktAll, Bool.and_eq_true] at h
      obtain ⟨h1, h2⟩ := ih h.2
      exact ⟨by simp [ktAll, h.1, h1], by simpa using h2⟩
theorem checkItems {P : Program} {dd e : Nat} {l : List KT} (E : CheckT P dd e l) (hz : szOf P e = some l.length) (w : World) (em : Bool) (xs : List Value) : ∀ (n k : Nat), k * l.length + n * l.length ≤ xs.length → ktAll (List.replicate n l).flatten ((xs.drop (k * l.length)).take (n * l.length)) = true →
    (forIn (List.range' k n) PUnit.unit fun i (_ : PUnit) => (do Instr.checkKey em dd e (← part e xs.toArray (i * (← sizeOf e))); pure (ForInStep.yield PUnit.unit) : Sem (ForInStep PUnit))).run P w = .ok PUnit.unit w := by
  obtain ⟨b, hb, h1, hE⟩ := E
  intro n
  induction n with
  | zero => intro k _ _; simp
  | succ n ih =>
    intro k hl h
    simp only [List.replicate_succ, List.flatten_cons] at h
    obtain ⟨g1, g2⟩ := ktAll_split h
    have hle : l.length ≤ (n + 1) * l.length := Nat.le_mul_of_pos_left _ (by omega)
    rw [List.take_take, Nat.min_eq_left hle] at g1
    rw [List.drop_take, List.drop_drop] at g2
    have ek : k * l.length + l.length = (k + 1) * l.length := by rw [Nat.succ_mul]
    have en : (n + 1) * l.length - l.length = n * l.length := by rw [Nat.succ_mul]; omega
    rw [ek, en] at g2
    have hp := run_part (w := w) (off := k * l.length) (xs := xs) hb hz h1 (by rw [Nat.succ_mul] at hl; omega)
    simp only [List.range'_succ, List.forIn_cons, Sem.run_bind, run_sizeOf hz, Result.andThen_ok, hp, hE w em _ g1, Sem.run_pure]
    exact ih (k + 1) (by rw [Nat.succ_mul] at hl; rw [Nat.succ_mul]; omega) g2
theorem checkFields {P : Program} {dd : Nat} {g : TypeId → Option (List KT)} (E : ∀ t l, g t = some l → CheckT P dd t l) (w : World) (em : Bool) (xs : List Value) : ∀ (fs : List Field) (off : Nat) (l : List KT), fieldsT P g fs off = some l → off + l.length ≤ xs.length → ktAll l ((xs.drop off).take l.length) = true →
    (forIn fs PUnit.unit fun f (_ : PUnit) => ((if f.name ≠ "_" then (do Instr.checkKey em dd f.type (← part f.type xs.toArray f.offset); pure (ForInStep.yield PUnit.unit)) else pure (ForInStep.yield PUnit.unit)) : Sem (ForInStep PUnit))).run P w = .ok PUnit.unit w := by
  intro fs
  induction fs with
  | nil => intro off l h _ _; simp
  | cons f fs ih =>
    intro off l h hl hk
    simp only [fieldsT] at h
    obtain ⟨l1, h1, h⟩ := Option.bind_eq_some_iff.1 h
    split at h
    case isFalse => cases h
    rename_i hh
    obtain ⟨hn, ho, hz⟩ := hh
    obtain ⟨l2, h2, rfl⟩ := Option.map_eq_some_iff.1 h
    obtain ⟨b, hb, hb1, hE⟩ := E _ _ h1
    obtain ⟨g1, g2⟩ := ktAll_split hk
    simp only [List.length_append] at hl g1 g2
    rw [List.take_take, Nat.min_eq_left (by omega)] at g1
    rw [List.drop_take, List.drop_drop] at g2
    have hp := run_part (w := w) (off := off) (xs := xs) hb hz hb1 (by omega)
    simp only [List.forIn_cons, Sem.run_bind, hn, ne_eq, not_false_eq_true, if_true, Result.andThen_ok, ho, hp, hE w em _ g1, Sem.run_pure]
    exact ih (off + l1.length) l2 h2 (by omega) (by rw [show l1.length + l2.length - l1.length = l2.length by omega] at g2; exact g2)
theorem keyK_check {P : Program} : ∀ (m : Nat) (t : TypeId) (l : List KT), keyK P m t = some l → ∀ d, CheckT P (d + m) t l := by
  intro m
  induction m with
  | zero => intro t l h; cases h
  | succ m ih =>
    intro t l h d
    unfold keyK at h
    cases hu : P.underlying t with
    | none => rw [hu] at h; cases h
    | some k =>
      rw [hu] at h
      have one : ∀ q, l = [q] → (∀ (w : World) (em : Bool) x, ktOk q x = true → (Instr.checkKey em (d + (m + 1)) t x).run P w = .ok () w) → isAggT P t = some false → CheckT P (d + (m + 1)) t l := fun q hq hx ha => by
        subst hq
        refine ⟨false, ha, fun _ => rfl, fun w em xs hxs => ?_⟩
        have := ktAll_length hxs
        match xs, this with
        | [x], _ =>
          simp only [ktAll, Bool.and_true] at hxs
          exact hx w em x hxs
      cases k with
      | int q =>
        cases h
        refine one _ rfl (fun w em x hx => ?_) (by simp [isAggT, hu])
        cases x <;> simp [ktOk] at hx
        simp [Instr.checkKey, run_underlying hu]
      | bool =>
        cases h
        refine one _ rfl (fun w em x hx => ?_) (by simp [isAggT, hu])
        cases x <;> simp [ktOk] at hx
        simp [Instr.checkKey, run_underlying hu]
      | string =>
        cases h
        refine one _ rfl (fun w em x hx => ?_) (by simp [isAggT, hu])
        cases x <;> simp [ktOk] at hx
        simp [Instr.checkKey, run_underlying hu]
      | array n e =>
        obtain ⟨l1, hl1, h⟩ := Option.bind_eq_some_iff.1 h
        split at h
        case isFalse => cases h
        rename_i hh
        cases h
        refine ⟨true, by simp [isAggT, hu], (fun e => by cases e), fun w em xs hx => ?_⟩
        have hlen := ktAll_length hx
        have hfl : (List.replicate n l1).flatten.length = n * l1.length := by simp
        have := checkItems (ih e l1 hl1 d) hh.1 w em xs n 0 (by omega) (by simp only [Nat.zero_mul, List.drop_zero]; rw [List.take_of_length_le (by omega)]; exact hx)
        simp only [shapeV, if_true]
        rw [show d + (m + 1) = (d + m) + 1 from rfl, Instr.checkKey]
        simp only [Sem.run_bind, run_underlying hu, Result.andThen_ok]
        simp only [Std.Legacy.Range.forIn_eq_forIn_range', Std.Legacy.Range.size, Nat.sub_zero, Nat.add_one_sub_one, Nat.div_one]
        rw [this]; rfl
      | struct fs =>
        simp only at h
        split at h
        · cases h
        refine ⟨true, by simp [isAggT, hu], (fun e => by cases e), fun w em xs hx => ?_⟩
        have hlen := ktAll_length hx
        have := checkFields (fun t l h => ih t l h d) w em xs fs.toList 0 l h (by omega) (by simp only [List.drop_zero]; rw [List.take_of_length_le (by omega)]; exact hx)
        simp only [shapeV, if_true]
        rw [show d + (m + 1) = (d + m) + 1 from rfl, Instr.checkKey]
        simp only [Sem.run_bind, run_underlying hu, Result.andThen_ok]
        rw [← Array.forIn_toList]
        rw [this]; rfl
      | _ => cases h
theorem key_check {P : Program} {w : World} {kt : TypeId} {a : Value} (ha : keyB (ktOf P kt) a = true) (em : Bool) : (Instr.checkKey em 10000 kt a).run P w = .ok () w := by
  obtain ⟨g, l, xs, hq, rfl, h1⟩ := keyB_shape ha
  obtain ⟨e1, e2⟩ := ktOf_some hq
  obtain ⟨b', hb', hl, hE⟩ := keyK_check 40 kt l e2 9960
  rw [e1] at hb'
  cases hb'
  exact hE w em xs h1
end Go.Pm
