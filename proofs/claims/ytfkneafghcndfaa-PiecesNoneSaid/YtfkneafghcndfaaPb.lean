/- A machine of values: memory and its steps. -/
import Derived.Test.YtfkneafghcndfaaPa
namespace Go.Pm
open Go.RowKit
set_option linter.unusedVariables false
set_option linter.unusedSimpArgs false

def upd {α : Type} (f : Nat → α) (k : Nat) (v : α) : Nat → α := fun n => if n = k then v else f n
theorem upd_eq {α : Type} (f : Nat → α) (k : Nat) (v : α) : upd f k v k = v := by simp [upd]
theorem upd_ne {α : Type} (f : Nat → α) {k n : Nat} (v : α) (h : n ≠ k) : upd f k v n = f n := by simp [upd, h]
theorem upd_at {α : Type} (f : Nat → α) (k n : Nat) (v : α) : upd f k v n = if n = k then v else f n := rfl

/-- A map's entries. -/
inductive EntsL (c : Ctx) (q : Option (Bool × List KT)) : List AV → List MapEntry → Prop
  | nil : EntsL c q [] []
  | cons {y : AV} {e : MapEntry} {xs : List AV} {es : List MapEntry} (hk : keyB q e.key = true) (hr : Rel c y e.val) (t : EntsL c q xs es) : EntsL c q (.tup [.v e.key, y, .v (.int .i64 (e.born : Int))] :: xs) (e :: es)
theorem EntsL.mono {c c' : Ctx} {q : Option (Bool × List KT)} {xs : List AV} {es : List MapEntry} (h : EntsL c q xs es) (hle : c.le c') : EntsL c' q xs es := by
  induction h with
  | nil => exact .nil
  | cons hk hr _ ih => exact .cons hk (hr.mono hle) ih
def EntsOk (c : Ctx) (q : Option (Bool × List KT)) (xs : List AV) (es : Array MapEntry) (clk : Nat) : Prop :=
  EntsL c q xs es.toList ∧ (∀ e ∈ es.toList, e.born < clk) ∧ es.toList.Pairwise fun a b => a.born < b.born
theorem EntsOk.mono {c c' : Ctx} {q : Option (Bool × List KT)} {xs : List AV} {es : Array MapEntry} {clk : Nat} (h : EntsOk c q xs es clk) (hle : c.le c') : EntsOk c' q xs es clk := by
  exact ⟨h.1.mono hle, h.2⟩
/-- A block of cells, or of a map, by what is known of it. -/
def ObjOk (c : Ctx) (cells : List AV) (o : Option Obj) : Prop :=
  (∃ cs t, o = some (Obj.cells cs t (0, 0)) ∧ ∀ (i : Nat) x, cells[i]? = some x → ∃ y, cs[i]? = some y ∧ Rel c x y) ∨
  (∃ es clk q xs, o = some (Obj.map es clk) ∧ cells = [.ents q clk xs] ∧ EntsOk c q xs es clk) ∨
  ∃ x m since seen st, o = some (Obj.mapIter m since seen.toArray st) ∧ cells = [.itr x since seen st] ∧ Rel c x (.map m)
theorem ObjOk.mono {c c' : Ctx} {cells : List AV} {o : Option Obj} (h : ObjOk c cells o) (hle : c.le c') : ObjOk c' cells o := by
  rcases h with ⟨cs, t, h1, h2⟩ | ⟨es, clk, q, xs, h1, h2, h3⟩ | ⟨x, m, since, seen, st, h1, h2, h3⟩
  · exact .inl ⟨cs, t, h1, fun i x hx => let ⟨y, a, b⟩ := h2 i x hx; ⟨y, a, b.mono hle⟩⟩
  · exact .inr (.inl ⟨es, clk, q, xs, h1, h2, h3.mono hle⟩)
  · exact .inr (.inr ⟨x, m, since, seen, st, h1, h2, h3.mono hle⟩)
theorem ObjOk.some_ {c : Ctx} {cells : List AV} {o : Option Obj} (h : ObjOk c cells o) : ∃ x, o = some x := by
  rcases h with ⟨cs, t, h1, h2⟩ | ⟨es, clk, q, xs, h1, h2, h3⟩ | ⟨x, m, since, seen, st, h1, h2, h3⟩
  · exact ⟨_, h1⟩
  · exact ⟨_, h1⟩
  · exact ⟨_, h1⟩

/-- The named blocks lie in the world, each apart; what was there when the call began is as it was. -/
structure MemOk (c : Ctx) (w0 : World) : Prop where
  below : Below w0.heap.size w0 c.w
  blk0 : ∀ n k, c.m n = some k → (c.ι n = none ∧ k.cells = []) ∨ ∃ g, c.ι n = some g ∧ w0.heap.size ≤ g ∧ ObjOk c k.cells c.w.heap[g]?
  inj : ∀ n n' k k' g, c.m n = some k → c.m n' = some k' → c.ι n = some g → c.ι n' = some g → n = n'

theorem ents_norel {c : Ctx} {q : Option (Bool × List KT)} {clk : Nat} {xs : List AV} {v : Value} (h : Rel c (.ents q clk xs) v) : False := by cases h
theorem itr_norel {c : Ctx} {x : AV} {since st : Nat} {seen : List Nat} {v : Value} (h : Rel c (.itr x since seen st) v) : False := by cases h
theorem MemOk.blk {c : Ctx} {w0 : World} (M : MemOk c w0) : ∀ n k, c.m n = some k → (c.ι n = none ∧ k.cells = []) ∨ (∃ g cs t, c.ι n = some g ∧ w0.heap.size ≤ g ∧ c.w.heap[g]? = some (Obj.cells cs t (0, 0)) ∧ ∀ (i : Nat) x, k.cells[i]? = some x → ∃ y, cs[i]? = some y ∧ Rel c x y) ∨
    (∃ g es clk q xs, c.ι n = some g ∧ w0.heap.size ≤ g ∧ c.w.heap[g]? = some (Obj.map es clk) ∧ k.cells = [.ents q clk xs] ∧ EntsOk c q xs es clk) ∨
    ∃ g x m since seen st, c.ι n = some g ∧ w0.heap.size ≤ g ∧ c.w.heap[g]? = some (Obj.mapIter m since seen.toArray st) ∧ k.cells = [.itr x since seen st] ∧ Rel c x (.map m) := fun n k h => by
  rcases M.blk0 n k h with h | ⟨g, h1, h2, h3⟩
  · exact .inl h
  · rcases h3 with ⟨cs, t, h3, h4⟩ | ⟨es, clk, q, xs, h3, h4, h5⟩ | ⟨x, m, since, seen, st, h3, h4, h5⟩
    · exact .inr (.inl ⟨g, cs, t, h1, h2, h3, h4⟩)
    · exact .inr (.inr (.inl ⟨g, es, clk, q, xs, h1, h2, h3, h4, h5⟩))
    · exact .inr (.inr (.inr ⟨g, x, m, since, seen, st, h1, h2, h3, h4, h5⟩))
/-- A block that is known to be one of cells. -/
theorem MemOk.row {c : Ctx} {w0 : World} (M : MemOk c w0) {n : Nat} {k : Blk} {g : Nat} {cs : Array Value} {t : TypeId} (hk : c.m n = some k) (hg : c.ι n = some g) (hh : c.w.heap[g]? = some (Obj.cells cs t (0, 0))) :
    w0.heap.size ≤ g ∧ ∀ (i : Nat) x, k.cells[i]? = some x → ∃ y, cs[i]? = some y ∧ Rel c x y := by
  rcases M.blk n k hk with ⟨h1, _⟩ | ⟨g', cs', t', h1, h2, h3, h4⟩ | ⟨g', es, clk, q, xs, h1, h2, h3, _⟩ | ⟨g', x, m, since, seen, st, h1, h2, h3, _⟩
  · rw [hg] at h1; cases h1
  · rw [hg] at h1; cases h1
    rw [hh] at h3; cases h3
    exact ⟨h2, h4⟩
  · rw [hg] at h1; cases h1
    rw [hh] at h3; cases h3
  · rw [hg] at h1; cases h1
    rw [hh] at h3; cases h3

theorem lt_heap {w : World} {b : Nat} {o : Obj} (h : w.heap[b]? = some o) : b < w.heap.size := (Array.getElem?_eq_some_iff.1 h).1

/-- One named block turns. -/
theorem stepG {c : Ctx} {w0 w' : World} (M : MemOk c w0) (n : Nat) (k' : Blk) (og : Option Nat)
    (hos : w'.os = c.w.os) (htape : w'.tape = c.w.tape) (hout : w'.output = c.w.output) (hsize : c.w.heap.size ≤ w'.heap.size)
    (hver : ∀ k, c.m n = some k → k.ver < k'.ver ∨ (k.ver = k'.ver ∧ og = c.ι n ∧ k'.cells.length = k.cells.length))
    (hother : ∀ b, b < c.w.heap.size → (∀ k, c.m n = some k → c.ι n ≠ some b) → w'.heap[b]? = c.w.heap[b]?)
    (hold : ∀ k b (cs : Array Value) t, c.m n = some k → k.ver = k'.ver → c.ι n = some b → c.w.heap[b]? = some (Obj.cells cs t (0, 0)) → ∃ cs' : Array Value, w'.heap[b]? = some (Obj.cells cs' t (0, 0)) ∧ cs'.size = cs.size)
    (hnone : og = none → k'.cells = [])
    (hsome : ∀ g, og = some g → (c.w.heap.size ≤ g ∨ (c.ι n = some g ∧ ∃ k, c.m n = some k)) ∧ ObjOk c k'.cells w'.heap[g]?) :
    c.le ⟨upd c.m n (some k'), upd c.ι n og, w'⟩ ∧ MemOk ⟨upd c.m n (some k'), upd c.ι n og, w'⟩ w0 := by
  have hle : c.le ⟨upd c.m n (some k'), upd c.ι n og, w'⟩ := by
    refine ⟨hsize, fun q k hk => ?_, fun b hb hlt => ?_⟩
    · by_cases e : q = n
      · subst e
        refine ⟨k', upd_eq _ _ _, ?_, fun e2 => ?_⟩
        · rcases hver k hk with h | ⟨h, _⟩ <;> omega
        · rcases hver k hk with h | ⟨h, h2, h3⟩
          · omega
          · exact ⟨(upd_eq _ _ _).trans h2, h3, fun b cs t hb hh => hold k b cs t hk e2 hb hh⟩
      · refine ⟨k, (upd_ne _ _ e).trans hk, Nat.le_refl _, fun _ => ⟨upd_ne _ _ e, rfl, fun b cs t hb hh => ⟨cs, (hother b (lt_heap hh) fun k0 h1 h2 => e ?_).trans hh, rfl⟩⟩⟩
        exact M.inj q n k k0 b hk h1 hb h2
    · refine ⟨hother b hlt fun k h1 h2 => hb ⟨n, k, h1, h2⟩, fun ⟨q, k, h1, h2⟩ => ?_⟩
      by_cases e : q = n
      · subst e
        have h2' : og = some b := by rw [← h2]; exact (upd_eq _ _ _).symm
        rcases (hsome b h2').1 with h | ⟨h, k, hk⟩
        · omega
        · exact hb ⟨q, k, hk, h⟩
      · exact hb ⟨q, k, (upd_ne c.m (some k') e) ▸ h1, (upd_ne c.ι og e) ▸ h2⟩
  refine ⟨hle, ⟨?_, fun q k hk => ?_, fun q q' k k2 g h1 h2 h3 h4 => ?_⟩⟩
  · refine M.below.trans ⟨hos, htape, hout, hsize, fun b hb => hother b (by have := M.below.size; omega) fun k h1 h2 => ?_⟩
    rcases M.blk0 n k h1 with ⟨h, _⟩ | ⟨g, h, hg, _⟩
    · rw [h] at h2; cases h2
    · rw [h] at h2; cases h2; omega
  · by_cases e : q = n
    · subst e
      obtain rfl : k' = k := by have : upd c.m q (some k') q = some k := hk; rw [upd_eq] at this; cases this; rfl
      cases og with
      | none => exact .inl ⟨upd_eq _ _ _, hnone rfl⟩
      | some g =>
        obtain ⟨h1, h2⟩ := hsome g rfl
        refine .inr ⟨g, upd_eq _ _ _, ?_, h2.mono hle⟩
        rcases h1 with h | ⟨h, k0, hk0⟩
        · have := M.below.size; omega
        · rcases M.blk0 q k0 hk0 with ⟨h', _⟩ | ⟨g', h', hg, _⟩
          · rw [h] at h'; cases h'
          · rw [h] at h'; cases h'; exact hg
    · have hk' : c.m q = some k := (upd_ne c.m (some k') e) ▸ hk
      rcases M.blk0 q k hk' with ⟨h, h'⟩ | ⟨g, h, hg, hh⟩
      · exact .inl ⟨(upd_ne _ _ e).trans h, h'⟩
      · refine .inr ⟨g, (upd_ne _ _ e).trans h, hg, ?_⟩
        obtain ⟨o, ho⟩ := hh.some_
        have := (hother g (lt_heap ho) fun k0 h1 h2 => e (M.inj q n k k0 g hk' h1 h h2))
        show ObjOk _ _ w'.heap[g]?
        rw [this]
        exact hh.mono hle
  · have key : ∀ q k, upd c.m n (some k') q = some k → upd c.ι n og q = some g → q = n ∨ (c.m q = some k ∧ c.ι q = some g) := fun q k a b => by
      by_cases e : q = n
      · exact .inl e
      · exact .inr ⟨(upd_ne c.m (some k') e) ▸ a, (upd_ne c.ι og e) ▸ b⟩
    have other : ∀ q k, c.m q = some k → c.ι q = some g → og = some g → q = n := fun q k a b d => by
      obtain ⟨hg, _⟩ := hsome g d
      rcases hg with h | ⟨h, k0, hk0⟩
      · rcases M.blk0 q k a with ⟨h', _⟩ | ⟨g', h', _, hh⟩
        · rw [b] at h'; cases h'
        · rw [b] at h'; cases h'
          obtain ⟨o, ho⟩ := hh.some_
          have := lt_heap ho; omega
      · exact M.inj q n k k0 g a hk0 b h
    have hog : ∀ q, q = n → upd c.ι n og q = some g → og = some g := fun q e h => by subst e; rw [← h]; exact (upd_eq _ _ _).symm
    rcases key q k h1 h3 with a | ⟨a1, a2⟩ <;> rcases key q' k2 h2 h4 with b | ⟨b1, b2⟩
    · omega
    · exact a.trans (other q' k2 b1 b2 (hog q a h3)).symm
    · exact (other q k a1 a2 (hog q' b h4)).trans b.symm
    · exact M.inj q q' k k2 g a1 b1 a2 b2

theorem step {c : Ctx} {w0 w' : World} (M : MemOk c w0) (n : Nat) (k' : Blk) (og : Option Nat)
    (hos : w'.os = c.w.os) (htape : w'.tape = c.w.tape) (hout : w'.output = c.w.output) (hsize : c.w.heap.size ≤ w'.heap.size)
    (hver : ∀ k, c.m n = some k → k.ver < k'.ver ∨ (k.ver = k'.ver ∧ og = c.ι n ∧ k'.cells.length = k.cells.length))
    (hother : ∀ b, b < c.w.heap.size → (∀ k, c.m n = some k → c.ι n ≠ some b) → w'.heap[b]? = c.w.heap[b]?)
    (hold : ∀ k b (cs : Array Value) t, c.m n = some k → k.ver = k'.ver → c.ι n = some b → c.w.heap[b]? = some (Obj.cells cs t (0, 0)) → ∃ cs' : Array Value, w'.heap[b]? = some (Obj.cells cs' t (0, 0)) ∧ cs'.size = cs.size)
    (hnone : og = none → k'.cells = [])
    (hsome : ∀ g, og = some g → (c.w.heap.size ≤ g ∨ (c.ι n = some g ∧ ∃ k, c.m n = some k)) ∧ ∃ cs t, w'.heap[g]? = some (Obj.cells cs t (0, 0)) ∧ ∀ (i : Nat) x, k'.cells[i]? = some x → ∃ y, cs[i]? = some y ∧ Rel c x y) :
    c.le ⟨upd c.m n (some k'), upd c.ι n og, w'⟩ ∧ MemOk ⟨upd c.m n (some k'), upd c.ι n og, w'⟩ w0 :=
  stepG M n k' og hos htape hout hsize hver hother hold hnone fun g e => let ⟨a, cs, t, h1, h2⟩ := hsome g e; ⟨a, .inl ⟨cs, t, h1, h2⟩⟩

/-- The world draws: nothing turns. -/
theorem step_drawn {c : Ctx} {w0 w' : World} (M : MemOk c w0) (hos : w'.os = c.w.os) (htape : w'.tape = c.w.tape) (hout : w'.output = c.w.output) (hh : w'.heap = c.w.heap) :
    c.le ⟨c.m, c.ι, w'⟩ ∧ MemOk ⟨c.m, c.ι, w'⟩ w0 := by
  have hle : c.le ⟨c.m, c.ι, w'⟩ := ⟨by rw [hh]; exact Nat.le_refl _, fun n k h => ⟨k, h, Nat.le_refl _, fun _ => ⟨rfl, rfl, fun b cs t _ h => ⟨cs, by rw [hh]; exact h, rfl⟩⟩⟩, fun b h _ => ⟨by rw [hh], h⟩⟩
  refine ⟨hle, M.below.trans ⟨hos, htape, hout, by rw [hh]; exact Nat.le_refl _, fun k _ => by rw [hh]⟩, fun n k h => ?_, M.inj⟩
  rcases M.blk0 n k h with h | ⟨g, h1, h2, h3⟩
  · exact .inl h
  · exact .inr ⟨g, h1, h2, by show ObjOk _ _ w'.heap[g]?; rw [hh]; exact h3.mono hle⟩

/-- Lists of values, one by one. -/
def RelL (c : Ctx) (xs : List AV) (ys : List Value) : Prop := xs.length = ys.length ∧ ∀ (i : Nat) x, xs[i]? = some x → ∃ y, ys[i]? = some y ∧ Rel c x y
theorem RelL.nil (c : Ctx) : RelL c [] [] := ⟨rfl, fun i x h => by simp at h⟩
theorem RelL.cons {c : Ctx} {x : AV} {y : Value} {xs : List AV} {ys : List Value} (h : Rel c x y) (t : RelL c xs ys) : RelL c (x :: xs) (y :: ys) := by
  refine ⟨by simp [t.1], fun i z hz => ?_⟩
  cases i with
  | zero => simp at hz; exact ⟨y, rfl, hz ▸ h⟩
  | succ i => simpa using t.2 i z (by simpa using hz)
theorem RelL.mono {c c' : Ctx} {xs : List AV} {ys : List Value} (h : RelL c xs ys) (hle : c.le c') : RelL c' xs ys :=
  ⟨h.1, fun i x hx => let ⟨y, a, b⟩ := h.2 i x hx; ⟨y, a, b.mono hle⟩⟩
theorem RelL.take {c : Ctx} {xs : List AV} {ys : List Value} (h : RelL c xs ys) (n : Nat) : RelL c (xs.take n) (ys.take n) := by
  refine ⟨by simp [h.1], fun i x hx => ?_⟩
  rw [List.getElem?_take] at hx ⊢
  split at hx
  · rename_i hi; rw [if_pos hi]; exact h.2 i x hx
  · cases hx
theorem RelL.drop {c : Ctx} {xs : List AV} {ys : List Value} (h : RelL c xs ys) (n : Nat) : RelL c (xs.drop n) (ys.drop n) := by
  refine ⟨by simp [h.1], fun i x hx => ?_⟩
  rw [List.getElem?_drop] at hx ⊢
  exact h.2 _ x hx
theorem RelL.append {c : Ctx} {xs xs' : List AV} {ys ys' : List Value} (h : RelL c xs ys) (h' : RelL c xs' ys') : RelL c (xs ++ xs') (ys ++ ys') := by
  refine ⟨by simp [h.1, h'.1], fun i x hx => ?_⟩
  rw [List.getElem?_append] at hx ⊢
  rw [← h.1]
  split at hx
  · rename_i hi; rw [if_pos hi]; exact h.2 i x hx
  · rename_i hi; rw [if_neg hi]; exact h'.2 _ x hx
theorem RelL.get {c : Ctx} {xs : List AV} {ys : List Value} (h : RelL c xs ys) {i : Nat} {x : AV} (hx : xs[i]? = some x) : ∃ y, ys[i]? = some y ∧ Rel c x y := h.2 i x hx
theorem RelL.inv_cons {c : Ctx} {x : AV} {xs : List AV} {ys : List Value} (h : RelL c (x :: xs) ys) : ∃ y ys', ys = y :: ys' ∧ Rel c x y ∧ RelL c xs ys' := by
  obtain ⟨hl, hx⟩ := h
  cases ys with
  | nil => simp at hl
  | cons y ys =>
    obtain ⟨y', e, r⟩ := hx 0 x rfl
    simp at e; subst e
    exact ⟨y, ys, rfl, r, by simpa using hl, fun i z hz => by simpa using hx (i + 1) z (by simpa using hz)⟩
theorem RelL.inv_nil {c : Ctx} {ys : List Value} (h : RelL c [] ys) : ys = [] := List.eq_nil_of_length_eq_zero (by simpa using h.1.symm)

/-- From pointwise functions. -/
theorem fun_of {c : Ctx} {xs : List AV} {ys : List Value} (h : RelL c xs ys) : ∃ f : Nat → Value, (∀ i x, xs[i]? = some x → ys[i]? = some (f i)) ∧ ∀ i x, xs[i]? = some x → Rel c x (f i) := by
  refine ⟨fun i => ys.getD i default, fun i x hx => ?_, fun i x hx => ?_⟩ <;>
  · obtain ⟨y, e, r⟩ := h.2 i x hx
    simp [List.getD_eq_getElem?_getD, e, r]
theorem Rel.mkAgg {c : Ctx} {xs : List AV} {cs : Array Value} (h : RelL c xs cs.toList) : Rel c (.agg xs) (.agg cs) := by
  obtain ⟨f, h1, h2⟩ := fun_of h
  exact .agg f (by simpa using h.1) (fun i x hx => by simpa using h1 i x hx) h2
theorem Rel.mkTup {c : Ctx} {xs : List AV} {cs : Array Value} (h : RelL c xs cs.toList) : Rel c (.tup xs) (.tuple cs) := by
  obtain ⟨f, h1, h2⟩ := fun_of h
  exact .tup f (by simpa using h.1) (fun i x hx => by simpa using h1 i x hx) h2
theorem Rel.mkFn {c : Ctx} {f : Fn} {xs ys : List AV} {cs ds : Array Value} (h : RelL c xs cs.toList) (h' : RelL c ys ds.toList) : Rel c (.fn f xs ys) (.func f cs ds) := by
  obtain ⟨p, h1, h2⟩ := fun_of h
  obtain ⟨q, g1, g2⟩ := fun_of h'
  exact .fn p q (by simpa using h.1) (fun i x hx => by simpa using h1 i x hx) h2 (by simpa using h'.1) (fun i x hx => by simpa using g1 i x hx) g2
theorem Rel.inv_v {c : Ctx} {x y : Value} (h : Rel c (.v x) y) : y = x ∧ True := by cases h with | v => exact ⟨rfl, trivial⟩
theorem Rel.inv_agg {c : Ctx} {xs : List AV} {y : Value} (h : Rel c (.agg xs) y) : ∃ cs, y = .agg cs ∧ RelL c xs cs.toList := by
  cases h with
  | @agg _ cs f hl hx hr => exact ⟨cs, rfl, by simpa using hl, fun i x h => ⟨f i, by simpa using hx i x h, hr i x h⟩⟩
theorem Rel.inv_tup {c : Ctx} {xs : List AV} {y : Value} (h : Rel c (.tup xs) y) : ∃ cs, y = .tuple cs ∧ RelL c xs cs.toList := by
  cases h with
  | @tup _ cs f hl hx hr => exact ⟨cs, rfl, by simpa using hl, fun i x h => ⟨f i, by simpa using hx i x h, hr i x h⟩⟩
theorem Rel.inv_fn {c : Ctx} {f : Fn} {xs ys : List AV} {y : Value} (h : Rel c (.fn f xs ys) y) : ∃ cs ds, y = .func f cs ds ∧ RelL c xs cs.toList ∧ RelL c ys ds.toList := by
  cases h with
  | @fn _ _ _ cs ds p q hl hx hr hl2 hx2 hr2 =>
    exact ⟨cs, ds, rfl, ⟨by simpa using hl, fun i x h => ⟨p i, by simpa using hx i x h, hr i x h⟩⟩, by simpa using hl2, fun i x h => ⟨q i, by simpa using hx2 i x h, hr2 i x h⟩⟩

theorem relL_v (c : Ctx) (cs : List Value) : RelL c (cs.map .v) cs := by
  refine ⟨by simp, fun i x hx => ?_⟩
  rw [List.getElem?_map] at hx
  cases e : cs[i]? with
  | none => rw [e] at hx; cases hx
  | some y => rw [e] at hx; cases hx; exact ⟨y, rfl, .v⟩
/-- The cells of a value. -/
def AV.cells : AV → List AV
  | .agg xs => xs
  | .v (.agg cs) => cs.toList.map .v
  | x => [x]
theorem Rel.cells {c : Ctx} {x : AV} {y : Value} (h : Rel c x y) : RelL c x.cells y.cells.toList := by
  cases x with
  | agg xs =>
    obtain ⟨cs, rfl, r⟩ := h.inv_agg
    exact r
  | v x =>
    obtain ⟨rfl, _⟩ := h.inv_v
    cases y with
    | agg cs => exact relL_v c cs.toList
    | _ => exact .cons .v (.nil c)
  | own => cases h with | own a b d e f g => exact .cons (.own a b d e f g) (.nil c)
  | ptr => cases h with | ptr a b d => exact .cons (.ptr a b d) (.nil c)
  | sl => cases h with | sl f a b d e g i j => exact .cons (.sl f a b d e g i j) (.nil c)
  | at_ => cases h with | at_ f a b => exact .cons (.at_ f a b) (.nil c)
  | tup => cases h with | tup f a b d => exact .cons (.tup f a b d) (.nil c)
  | fn => cases h with | fn p q a b d e f g => exact .cons (.fn p q a b d e f g) (.nil c)
  | mp => cases h with | mp a b d => exact .cons (.mp a b d) (.nil c)
  | ip => cases h with | ip a b d => exact .cons (.ip a b d) (.nil c)
  | ents => cases h
  | itr => cases h

/-- A plain value of the text. -/
def ofV : Value → AV
  | .agg cs => .agg (cs.toList.map .v)
  | x => .v x
def flatV : Value → Bool
  | .agg cs => cs.toList.all fun x => match x with | .agg _ => false | _ => true
  | _ => true
theorem Rel.ofV (c : Ctx) (x : Value) : Rel c (ofV x) x := by
  cases x with
  | agg cs => exact Rel.mkAgg (relL_v c cs.toList)
  | _ => exact .v
end Go.Pm
