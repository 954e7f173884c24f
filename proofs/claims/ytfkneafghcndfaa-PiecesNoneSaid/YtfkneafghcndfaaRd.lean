/- Reading what came in: a value of a struct, an array, or a slice of these, as its leaves. No program in sight. -/
import Derived.WalkKit
import Derived.ProofKit
import Derived.OpenShut
namespace Go.Wb
open Go.ChangeShapes Go.WideShapes Go.ChangeAt Go.RowKit

variable {H : Type} {enc : TypeId × Value → H} {P : Program} {w : World} {base : Nat} {spare : Nat → Bool} {held : Bool}

/-- The fields' leaves, one behind the other, if they lie so. -/
def flatFields (P : Program) (fl : TypeId → Option (List TypeId)) : List Field → Nat → Nat → Option (List TypeId)
  | [], off, n => if off = n then some [] else none
  | f :: fs, off, n => if f.offset = off then (fl f.type).bind fun l => if l.length = P.cellsOf f.type then (flatFields P fl fs (off + l.length) n).map (l ++ ·) else none else none

/-- The leaves of a type: of a struct its fields', of an array its elements', else the type itself. -/
def flat (P : Program) : Nat → TypeId → Option (List TypeId)
  | 0, _ => none
  | n + 1, t => match P.underlying t with
    | some (.struct fs) => flatFields P (flat P n) fs.toList 0 (P.cellsOf t)
    | some (.array m e) => (flat P n e).bind fun l => if l.length = P.cellsOf e ∧ m * P.cellsOf e = P.cellsOf t then some (List.replicate m l).flatten else none
    | some _ => some [t]
    | none => none

/-- Each cell reads as a leaf of its type. -/
def Leaves (enc : TypeId × Value → H) (P : Program) (w : World) (base : Nat) (spare : Nat → Bool) (held : Bool) : List Value → List TypeId → Prop
  | [], [] => True
  | v :: vs, t :: ts => (∃ k y, DataW.trod enc P w base spare held k t [v] = some y) ∧ Leaves enc P w base spare held vs ts
  | _, _ => False

theorem Leaves.append : ∀ {a b : List Value} {l m : List TypeId}, Leaves enc P w base spare held a l → Leaves enc P w base spare held b m → Leaves enc P w base spare held (a ++ b) (l ++ m)
  | [], _, [], _, _, hb => hb
  | _ :: _, _, _ :: _, _, ha, hb => ⟨ha.1, Leaves.append ha.2 hb⟩
  | [], _, _ :: _, _, ha, _ => by cases ha
  | _ :: _, _, [], _, ha, _ => by cases ha

theorem Leaves.length : ∀ {a : List Value} {l : List TypeId}, Leaves enc P w base spare held a l → a.length = l.length
  | [], [], _ => rfl
  | _ :: _, _ :: _, ha => by simp [Leaves.length ha.2]
  | [], _ :: _, ha => by cases ha
  | _ :: _, [], ha => by cases ha

theorem mapM_some {α β : Type} {f : α → Option β} : ∀ {l : List α} {r : List β}, l.mapM f = some r → ∀ x ∈ l, ∃ y, f x = some y := by
  intro l
  induction l with
  | nil => intro r _ x hx; cases hx
  | cons a l ih =>
    intro r h x hx
    simp only [List.mapM_cons, Option.bind_eq_bind, Option.bind_eq_some_iff] at h
    obtain ⟨y, hy, ys, hys, _⟩ := h
    rcases List.mem_cons.1 hx with rfl | hx
    · exact ⟨y, hy⟩
    · exact ih hys x hx

theorem leaves_fields {n : Nat} {fl : TypeId → Option (List TypeId)}
    (ih : ∀ (t : TypeId) (cs : List Value) (x : DataW H × List MemPlace) (l : List TypeId), DataW.trod enc P w base spare held n t cs = some x → fl t = some l → Leaves enc P w base spare held cs l) :
    ∀ (fs : List Field) (off N : Nat) (cs : List Value) (l : List TypeId), cs.length = N → (∀ f ∈ fs, ∃ y, DataW.trod enc P w base spare held n f.type ((cs.drop f.offset).take (P.cellsOf f.type)) = some y) →
      flatFields P fl fs off N = some l → Leaves enc P w base spare held (cs.drop off) l := by
  intro fs
  induction fs with
  | nil =>
    intro off N cs l hN _ hf
    simp only [flatFields] at hf
    split at hf
    · rename_i h
      cases hf
      rw [List.drop_of_length_le (by omega)]
      trivial
    · cases hf
  | cons f fs ihf =>
    intro off N cs l hN hall hf
    simp only [flatFields] at hf
    split at hf
    · rename_i ho
      cases hl : fl f.type with
      | none => simp [hl] at hf
      | some l1 =>
        simp only [hl, Option.bind_some] at hf
        split at hf
        · rename_i hlen
          cases hr : flatFields P fl fs (off + l1.length) N with
          | none => simp [hr] at hf
          | some l2 =>
            simp only [hr, Option.map_some, Option.some.injEq] at hf
            subst hf
            obtain ⟨y, hy⟩ := hall f (List.mem_cons_self ..)
            have h1 := ih _ _ _ _ hy hl
            have h2 := ihf (off + l1.length) N cs l2 hN (fun g hg => hall g (List.mem_cons_of_mem _ hg)) hr
            have := h1.append h2
            rw [ho, ← hlen, ← List.drop_drop, List.take_append_drop] at this
            exact this
        · cases hf
    · cases hf

theorem leaves_array {n c : Nat} {e : TypeId} {l : List TypeId}
    (ih : ∀ (cs : List Value) (x : DataW H × List MemPlace), DataW.trod enc P w base spare held n e cs = some x → Leaves enc P w base spare held cs l) :
    ∀ (m : Nat) (cs : List Value), cs.length = m * c → (∀ i, i < m → ∃ y, DataW.trod enc P w base spare held n e ((cs.drop (i * c)).take c) = some y) → Leaves enc P w base spare held cs (List.replicate m l).flatten := by
  intro m
  induction m with
  | zero => 
    intro cs h _
    have : cs = [] := List.length_eq_zero_iff.1 (by omega)
    subst this
    trivial
  | succ m ihm =>
    intro cs h hall
    have h0 := hall 0 (by omega)
    simp only [Nat.zero_mul, List.drop_zero] at h0
    obtain ⟨y, hy⟩ := h0
    have h1 := ih _ _ hy
    have h2 := ihm (cs.drop c) (by rw [List.length_drop, h, Nat.succ_mul]; omega) (fun i hi => by
      obtain ⟨y, hy⟩ := hall (i + 1) (by omega)
      refine ⟨y, ?_⟩
      rw [List.drop_drop, show c + i * c = (i + 1) * c from by rw [Nat.succ_mul]; omega]
      exact hy)
    have := h1.append h2
    rw [List.take_append_drop] at this
    rw [List.replicate_succ, List.flatten_cons]
    exact this

theorem trod_leaves : ∀ (m n : Nat) (t : TypeId) (cs : List Value) (x : DataW H × List MemPlace) (l : List TypeId), DataW.trod enc P w base spare held n t cs = some x → flat P m t = some l → Leaves enc P w base spare held cs l := by
  intro m
  induction m with
  | zero => intro n t cs x l _ hf; cases hf
  | succ m ih =>
    intro n t cs x l h hf
    cases n with
    | zero => simp [DataW.trod] at h
    | succ n =>
      have h' := h
      unfold flat at hf
      unfold DataW.trod at h
      split at hf
      · rename_i fs hu
        rw [hu] at h
        simp only at h
        split at h
        · rename_i hlen
          rw [Option.map_eq_some_iff] at h
          obtain ⟨r, hr, _⟩ := h
          have := leaves_fields (enc := enc) (w := w) (base := base) (spare := spare) (held := held) (n := n) (fun t cs x l h1 h2 => ih n t cs x l h1 h2) fs.toList 0 _ cs l hlen (fun f hf => mapM_some hr f hf) hf
          simpa using this
        · cases h
      · rename_i k e hu
        rw [hu] at h
        simp only at h
        split at h
        · rename_i hlen
          rw [Option.map_eq_some_iff] at h
          obtain ⟨r, hr, _⟩ := h
          cases hl : flat P m e with
          | none => simp [hl] at hf
          | some l1 =>
            simp only [hl, Option.bind_some] at hf
            split at hf
            · rename_i hc
              simp only [Option.some.injEq] at hf
              subst hf
              exact leaves_array (c := P.cellsOf e) (fun cs x h1 => ih n e cs x l1 h1 hl) k cs (by rw [hlen]; exact hc.2.symm) (fun i hi => mapM_some hr i (List.mem_range.2 hi))
            · cases hf
        · cases h
      · rename_i d _ _ hu
        cases hf
        have : ∃ v, cs = [v] := by
          rw [hu] at h
          split at h <;> simp_all
        obtain ⟨v, rfl⟩ := this
        exact ⟨⟨_, _, h'⟩, trivial⟩
      · cases hf

theorem leaves_cons {cs : List Value} {t : TypeId} {ts : List TypeId} (h : Leaves enc P w base spare held cs (t :: ts)) : ∃ v vs, cs = v :: vs ∧ (∃ k y, DataW.trod enc P w base spare held k t [v] = some y) ∧ Leaves enc P w base spare held vs ts := by
  cases cs with
  | nil => cases h
  | cons v vs => exact ⟨v, vs, rfl, h⟩
theorem leaves_nil {cs : List Value} (h : Leaves enc P w base spare held cs []) : cs = [] := by
  cases cs with
  | nil => rfl
  | cons v vs => cases h
theorem leaves_int {cs : List Value} {t : TypeId} {ts : List TypeId} {k : IntKind} (ht : P.underlying t = some (.int k)) (h : Leaves enc P w base spare held cs (t :: ts)) :
    ∃ n vs, cs = .int k n :: vs ∧ (Lit.int k n).wf = true ∧ Leaves enc P w base spare held vs ts := by
  obtain ⟨v, vs, rfl, ⟨m, y, hy⟩, hr⟩ := leaves_cons h
  obtain ⟨n, hn, _, wn⟩ := DataW.trod_int ht hy
  cases hn
  exact ⟨n, vs, rfl, wn, hr⟩
theorem leaves_bool {cs : List Value} {t : TypeId} {ts : List TypeId} (ht : P.underlying t = some .bool) (h : Leaves enc P w base spare held cs (t :: ts)) :
    ∃ b vs, cs = .bool b :: vs ∧ Leaves enc P w base spare held vs ts := by
  obtain ⟨v, vs, rfl, ⟨m, y, hy⟩, hr⟩ := leaves_cons h
  obtain ⟨n, hn, _⟩ := DataW.trod_bool ht hy
  cases hn
  exact ⟨n, vs, rfl, hr⟩
/-- So many whole numbers of one kind, one behind the other. -/
theorem leaves_ints {t : TypeId} {k : IntKind} (ht : P.underlying t = some (.int k)) : ∀ (n : Nat) {ts : List TypeId} {cs : List Value}, Leaves enc P w base spare held cs (List.replicate n t ++ ts) →
    ∃ (zs : List Int) (vs : List Value), zs.length = n ∧ cs = zs.map (Value.int k) ++ vs ∧ (∀ z ∈ zs, (Lit.int k z).wf = true) ∧ Leaves enc P w base spare held vs ts := by
  intro n
  induction n with
  | zero => intro ts cs h; exact ⟨[], cs, rfl, rfl, by simp, h⟩
  | succ n ih =>
    intro ts cs h
    obtain ⟨z, vs, rfl, wz, hr⟩ := leaves_int ht h
    obtain ⟨zs, us, hz, rfl, hw, hr⟩ := ih hr
    exact ⟨z :: zs, us, by simp [hz], rfl, by simp [wz]; exact hw, hr⟩

/-- A value of a struct or an array that came in: its cells, as leaves. -/
theorem open_flat {m : Nat} {t : TypeId} {v : Value} {d : DataW H} {p : List MemPlace} {l : List TypeId} (hl : flat P m t = some l) (hs : ∃ cs, v = .agg cs) (h : DataW.Trod enc P w base spare held t v d p) :
    ∃ cs : List Value, v = .agg cs.toArray ∧ Leaves enc P w base spare held cs l := by
  obtain ⟨cs, rfl⟩ := hs
  obtain ⟨n, hn⟩ := h
  exact ⟨cs.toList, by simp, trod_leaves m n t _ _ l hn hl⟩
theorem agg_struct {b0 : Nat} {r : Reach} {fs : Array Field} {t : TypeId} {v : Value} (ht : P.underlying t = some (.struct fs)) (h : Value.okWide P w r b0 t v) : ∃ cs, v = .agg cs := by
  obtain ⟨cs, h, _⟩ := okWide_struct ht h
  exact ⟨cs, h⟩
theorem agg_array {b0 n : Nat} {r : Reach} {e t : TypeId} {v : Value} (ht : P.underlying t = some (.array n e)) (h : Value.okWide P w r b0 t v) : ∃ cs, v = .agg cs := by
  simp only [Value.okWide, ht] at h
  obtain ⟨cs, h1, _⟩ := h
  exact ⟨cs, h1⟩

/-- What is told of a slice of whole numbers that came in. -/
def IsRow (k : IntKind) (w : World) (v : Value) (zs : List Int) : Prop :=
  ∃ a len cap, v = .slice a len cap ∧ zs.length = len ∧ len ≤ cap ∧ cap ≤ maxLen ∧
    (len = 0 ∨ ∃ b off, a = some ⟨b, off, none⟩ ∧ b < w.heap.size ∧ ∀ i, i < len → w.cell? ⟨b, off + i, none⟩ = some (.int k (zs.getD i 0))) ∧ (∀ n ∈ zs, (Lit.int k n).wf = true) ∧ (a = none → cap = 0)

theorem open_row {b0 : Nat} {r : Reach} {t e : TypeId} {k : IntKind} {v : Value} {d : DataW H} {p : List MemPlace} (ht : P.underlying t = some (.slice e)) (he : P.underlying e = some (.int k)) (hc : P.cellsOf e = 1)
    (hv : Value.okWide P w r b0 t v) (h : DataW.Trod enc P w base spare held t v d p) : ∃ zs, IsRow k w v zs := by
  obtain ⟨a, len, cap, rfl⟩ := okWide_slice ht hv
  obtain ⟨fuel, hf⟩ := h
  rcases open_ints ht he hc hf with ⟨hcs, _⟩ | ⟨x, l, c, zs, hcs, _, hl, hm, hz, _, hcell, hwz⟩
  · simp [Value.cells] at hcs
    obtain ⟨rfl, rfl, rfl⟩ := hcs
    exact ⟨[], _, _, _, rfl, rfl, Nat.le_refl _, by simp [maxLen], .inl rfl, by simp, fun _ => rfl⟩
  · simp [Value.cells] at hcs
    obtain ⟨rfl, rfl, rfl⟩ := hcs
    have hzl : len ≤ zs.length := by rw [hz]; split <;> omega
    refine ⟨zs.take len, _, _, _, rfl, by simp; omega, hl, hm, ?_, fun n hn => hwz n (List.mem_of_mem_take hn), fun h => by cases h⟩
    by_cases h0 : len = 0
    · exact .inl h0
    · right
      obtain ⟨b, off, spot⟩ := x
      have hc0 := hcell 0 (by omega)
      have hspot : spot = none := by simpa [Addr.add] using World.cell?_spot hc0
      subst hspot
      refine ⟨b, off, rfl, ?_, ?_⟩
      · have : (w.cell? ⟨b, off, none⟩) = some (.int k (zs.getD 0 0)) := by simpa [Addr.add] using hc0
        unfold World.cell? at this
        rcases Nat.lt_or_ge b w.heap.size with h' | h'
        · exact h'
        · simp [Array.getElem?_eq_none h'] at this
      · intro i hi
        have := hcell i (by omega)
        rw [List.getD_eq_getElem?_getD, List.getElem?_take_of_lt hi, ← List.getD_eq_getElem?_getD, ← this]
        unfold Addr.add
        split
        · rename_i h; simp [h]
        · rfl

theorem add_none (b off i : Nat) : Addr.add ⟨b, off, none⟩ i = ⟨b, off + i, none⟩ := by
  unfold Addr.add; split
  · rename_i h; simp [h]
  · rfl
/-- The cells of an element of a slice whose elements are structs: where the slice lies, and what each of them holds. -/
theorem elem_cells {x : Addr} {i n : Nat} {cs cs0 : List Value} (h0 : w.cells? base (x.add (0 * n)) n = some cs0) (hn : 0 < n) (h : w.cells? base (x.add (i * n)) n = some cs) :
    ∃ b off, x = ⟨b, off, none⟩ ∧ b < w.heap.size ∧ cs.length = n ∧ ∀ j, j < n → w.cell? ⟨b, off + i * n + j, none⟩ = cs[j]? := by
  obtain ⟨b, off, spot⟩ := x
  obtain ⟨_, hl0, hc0⟩ := World.cells?_some h0
  have e0 := hc0 0 hn
  rw [List.getElem?_eq_getElem (by omega)] at e0
  have hspot : spot = none := by simpa [Addr.add] using World.cell?_spot e0
  subst hspot
  have hb := World.cells?_block h hn
  obtain ⟨_, hl, hc⟩ := World.cells?_some h
  refine ⟨b, off, rfl, ?_, hl, fun j hj => ?_⟩
  · rw [add_none] at hb; exact hb
  · have := hc j hj
    rw [add_none, add_none] at this
    exact this
end Go.Wb
