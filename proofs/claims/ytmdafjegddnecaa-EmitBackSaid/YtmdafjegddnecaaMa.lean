import Derived.Below
import Derived.Calls
import Derived.Orders
import Derived.Lib.Hide
/- A machine of values for Go's functions: what its values say of the model's values and memory. -/
namespace Go.Pm
open Go.RowKit
set_option linter.unusedVariables false
set_option linter.unusedSimpArgs false

/-- What is known of what stands behind a slice's end. -/
inductive Room where
  | whole (e : TypeId)
  | known (q : Nat)
  | unk

/-- A value: a plain one; a slice of a named block; a pointer into one; a slice, a pointer by their cells (memory that stays); a struct or an array by its cells; several results; a function. -/
inductive AV where
  | v (x : Value)
  | own (n ver off len sz : Nat) (r : Room)
  | ptr (n ver off : Nat)
  | sl (nn : Bool) (xs : List AV) (len : Nat) (cap : Option Nat)
  | at_ (xs : List AV)
  | agg (xs : List AV)
  | tup (xs : List AV)
  | fn (f : Fn) (first caps : List AV)

/-- A block of the call's own. -/
structure Blk where
  ver : Nat
  cells : List AV

abbrev Mem := Nat → Option Blk

/-- Names, blocks, a world. -/
structure Ctx where
  m : Mem
  ι : Nat → Option Nat
  w : World

/-- A block that the call writes. -/
def Ctx.mine (c : Ctx) (b : Nat) : Prop := ∃ n k, c.m n = some k ∧ c.ι n = some b

/-- Where a handle stands, when it is a block's present one. -/
def OwnAt (c : Ctx) (n : Nat) (k : Blk) (off len sz : Nat) (r : Room) (a : Option Addr) (cp : Nat) : Prop :=
  (a = none ∧ len = 0 ∧ cp = 0 ∧ k.cells = [] ∧ off = 0) ∨
  ∃ g o cs t, c.ι n = some g ∧ a = some ⟨g, o, none⟩ ∧ (0 < cp → o = off) ∧ off + len * sz ≤ k.cells.length ∧ c.w.heap[g]? = some (.cells cs t (0, 0)) ∧
    match r with
    | .whole e => off = 0 ∧ o = 0 ∧ t = e ∧ cs.size = cp * sz
    | .known q => cp = q
    | .unk => True

inductive Rel (c : Ctx) : AV → Value → Prop
  | v {x : Value} : Rel c (.v x) x
  | own {n ver off len sz : Nat} {r : Room} {k : Blk} {a : Option Addr} {cp : Nat} (hk : c.m n = some k) (hv : ver ≤ k.ver) (hl : len ≤ cp) (hm : cp ≤ maxLen) (hn : a = none → cp = 0)
      (ha : ver = k.ver → OwnAt c n k off len sz r a cp) : Rel c (.own n ver off len sz r) (.slice a len cp)
  | ptr {n ver off : Nat} {k : Blk} {a : Addr} (hk : c.m n = some k) (hv : ver ≤ k.ver) (ha : ver = k.ver → ∃ g, c.ι n = some g ∧ a = ⟨g, off, none⟩) : Rel c (.ptr n ver off) (.pointer (some a))
  | sl {nn : Bool} {xs : List AV} {len : Nat} {cap : Option Nat} {a : Option Addr} {cp : Nat} (f : Nat → Value) (hl : len ≤ cp) (hm : cp ≤ maxLen) (hc : ∀ q, cap = some q → cp = q)
      (hn : a = none → nn = false ∧ cp = 0 ∧ len = 0) (ha : ∀ p, a = some p → 0 < len → p.spot = none)
      (hx : ∀ i x, xs[i]? = some x → ∃ b o, a = some ⟨b, o, none⟩ ∧ ¬ c.mine b ∧ c.w.cell? ⟨b, o + i, none⟩ = some (f i))
      (hr : ∀ i x, xs[i]? = some x → Rel c x (f i)) : Rel c (.sl nn xs len cap) (.slice a len cp)
  | at_ {xs : List AV} {b o : Nat} (f : Nat → Value) (hx : ∀ i x, xs[i]? = some x → ¬ c.mine b ∧ c.w.cell? ⟨b, o + i, none⟩ = some (f i))
      (hr : ∀ i x, xs[i]? = some x → Rel c x (f i)) : Rel c (.at_ xs) (.pointer (some ⟨b, o, none⟩))
  | agg {xs : List AV} {cs : Array Value} (f : Nat → Value) (hl : xs.length = cs.size) (hx : ∀ i x, xs[i]? = some x → cs[i]? = some (f i)) (hr : ∀ i x, xs[i]? = some x → Rel c x (f i)) : Rel c (.agg xs) (.agg cs)
  | tup {xs : List AV} {cs : Array Value} (f : Nat → Value) (hl : xs.length = cs.size) (hx : ∀ i x, xs[i]? = some x → cs[i]? = some (f i)) (hr : ∀ i x, xs[i]? = some x → Rel c x (f i)) : Rel c (.tup xs) (.tuple cs)
  | fn {f : Fn} {xs ys : List AV} {cs ds : Array Value} (p q : Nat → Value) (hl : xs.length = cs.size) (hx : ∀ i x, xs[i]? = some x → cs[i]? = some (p i)) (hr : ∀ i x, xs[i]? = some x → Rel c x (p i))
      (hl2 : ys.length = ds.size) (hx2 : ∀ i x, ys[i]? = some x → ds[i]? = some (q i)) (hr2 : ∀ i x, ys[i]? = some x → Rel c x (q i)) : Rel c (.fn f xs ys) (.func f cs ds)

/-- What a step keeps. -/
structure Ctx.le (c c' : Ctx) : Prop where
  size : c.w.heap.size ≤ c'.w.heap.size
  m : ∀ n k, c.m n = some k → ∃ k', c'.m n = some k' ∧ k.ver ≤ k'.ver ∧ (k.ver = k'.ver → c'.ι n = c.ι n ∧ k'.cells.length = k.cells.length ∧
    ∀ (b : Nat) (cs : Array Value) (t : TypeId), c.ι n = some b → c.w.heap[b]? = some (Obj.cells cs t (0, 0)) → ∃ cs' : Array Value, c'.w.heap[b]? = some (Obj.cells cs' t (0, 0)) ∧ cs'.size = cs.size)
  keep : ∀ b, ¬ c.mine b → b < c.w.heap.size → c'.w.heap[b]? = c.w.heap[b]? ∧ ¬ c'.mine b

theorem Ctx.le.refl (c : Ctx) : c.le c := ⟨Nat.le_refl _, fun n k h => ⟨k, h, Nat.le_refl _, fun _ => ⟨rfl, rfl, fun b cs t _ h => ⟨cs, h, rfl⟩⟩⟩, fun b h _ => ⟨rfl, h⟩⟩
theorem Ctx.le.trans {a b c : Ctx} (h : a.le b) (g : b.le c) : a.le c where
  size := Nat.le_trans h.size g.size
  m n k hk := by
    obtain ⟨k', h1, h2, h3⟩ := h.m n k hk
    obtain ⟨k2, g1, g2, g3⟩ := g.m n k' h1
    refine ⟨k2, g1, by omega, fun e => ?_⟩
    obtain ⟨e1, e2, e5⟩ := h3 (by omega)
    obtain ⟨e3, e4, e6⟩ := g3 (by omega)
    refine ⟨e3.trans e1, e4.trans e2, fun x cs t hx hh => ?_⟩
    obtain ⟨cs', a1, a2⟩ := e5 x cs t hx hh
    obtain ⟨cs2, a3, a4⟩ := e6 x cs' t (e1.trans hx) a1
    exact ⟨cs2, a3, a4.trans a2⟩
  keep x hx hlt := by
    obtain ⟨h1, h2⟩ := h.keep x hx hlt
    obtain ⟨g1, g2⟩ := g.keep x h2 (Nat.lt_of_lt_of_le hlt h.size)
    exact ⟨g1.trans h1, g2⟩

theorem OwnAt.mono {c c' : Ctx} {n n' : Nat} {k k' : Blk} {off len sz cp : Nat} {r : Room} {a : Option Addr} (h : OwnAt c n k off len sz r a cp) (hι : c'.ι n' = c.ι n) (hl : k'.cells.length = k.cells.length)
    (hb : ∀ (b : Nat) (cs : Array Value) (t : TypeId), c.ι n = some b → c.w.heap[b]? = some (Obj.cells cs t (0, 0)) → ∃ cs' : Array Value, c'.w.heap[b]? = some (Obj.cells cs' t (0, 0)) ∧ cs'.size = cs.size) : OwnAt c' n' k' off len sz r a cp := by
  rcases h with ⟨h1, h2, h3, h4, h5⟩ | ⟨g, o, cs, t, h1, h2, h3, h4, h5, h6⟩
  · refine .inl ⟨h1, h2, h3, ?_, h5⟩
    rw [h4] at hl
    exact List.eq_nil_of_length_eq_zero hl
  · obtain ⟨cs', e1, e2⟩ := hb g cs t h1 h5
    refine .inr ⟨g, o, cs', t, hι.trans h1, h2, h3, by omega, e1, ?_⟩
    cases r with
    | whole e => exact ⟨h6.1, h6.2.1, h6.2.2.1, by rw [e2]; exact h6.2.2.2⟩
    | known q => exact h6
    | unk => trivial

theorem Ctx.le.cell {c c' : Ctx} (h : c.le c') {b i : Nat} {y : Value} (hb : ¬ c.mine b) (hc : c.w.cell? ⟨b, i, none⟩ = some y) : c'.w.cell? ⟨b, i, none⟩ = some y := by
  have hlt := World.block_lt_of_cell? c.w _ hc
  exact (World.cell?_of_block (h.keep b hb hlt).1).trans hc
theorem Ctx.le.notmine {c c' : Ctx} (h : c.le c') {b i : Nat} {y : Value} (hb : ¬ c.mine b) (hc : c.w.cell? ⟨b, i, none⟩ = some y) : ¬ c'.mine b :=
  (h.keep b hb (World.block_lt_of_cell? c.w _ hc)).2

theorem Rel.mono {c c' : Ctx} {x : AV} {y : Value} (h : Rel c x y) (hle : c.le c') : Rel c' x y := by
  induction h with
  | v => exact .v
  | own hk hv hl hm hn ha =>
    obtain ⟨k', h1, h2, h3⟩ := hle.m _ _ hk
    refine .own h1 (by omega) hl hm hn fun e => ?_
    obtain ⟨e1, e2, e3⟩ := h3 (by omega)
    exact (ha (by omega)).mono e1 e2 e3
  | ptr hk hv ha =>
    obtain ⟨k', h1, h2, h3⟩ := hle.m _ _ hk
    refine .ptr h1 (by omega) fun e => ?_
    obtain ⟨e1, e2⟩ := h3 (by omega)
    obtain ⟨g, g1, g2⟩ := ha (by omega)
    exact ⟨g, e1.trans g1, g2⟩
  | sl f hl hm hc hn ha hx hr ih =>
    refine .sl f hl hm hc hn ha (fun i x hi => ?_) ih
    obtain ⟨b, o, h1, h2, h3⟩ := hx i x hi
    exact ⟨b, o, h1, hle.notmine h2 h3, hle.cell h2 h3⟩
  | at_ f hx hr ih => exact .at_ f (fun i x hi => ⟨hle.notmine (hx i x hi).1 (hx i x hi).2, hle.cell (hx i x hi).1 (hx i x hi).2⟩) ih
  | agg f hl hx hr ih => exact .agg f hl hx ih
  | tup f hl hx hr ih => exact .tup f hl hx ih
  | fn p q hl hx hr hl2 hx2 hr2 ih ih2 => exact .fn p q hl hx ih hl2 hx2 ih2
end Go.Pm

/- A machine of values: memory and its steps. -/
namespace Go.Pm
open Go.RowKit
set_option linter.unusedVariables false
set_option linter.unusedSimpArgs false

def upd {α : Type} (f : Nat → α) (k : Nat) (v : α) : Nat → α := fun n => if n = k then v else f n
theorem upd_eq {α : Type} (f : Nat → α) (k : Nat) (v : α) : upd f k v k = v := by simp [upd]
theorem upd_ne {α : Type} (f : Nat → α) {k n : Nat} (v : α) (h : n ≠ k) : upd f k v n = f n := by simp [upd, h]
theorem upd_at {α : Type} (f : Nat → α) (k n : Nat) (v : α) : upd f k v n = if n = k then v else f n := rfl

/-- The named blocks lie in the world, each apart; what was there when the call began is as it was. -/
structure MemOk (c : Ctx) (w0 : World) : Prop where
  below : Below w0.heap.size w0 c.w
  blk : ∀ n k, c.m n = some k → (c.ι n = none ∧ k.cells = []) ∨ ∃ g cs t, c.ι n = some g ∧ w0.heap.size ≤ g ∧ c.w.heap[g]? = some (Obj.cells cs t (0, 0)) ∧ ∀ (i : Nat) x, k.cells[i]? = some x → ∃ y, cs[i]? = some y ∧ Rel c x y
  inj : ∀ n n' k k' g, c.m n = some k → c.m n' = some k' → c.ι n = some g → c.ι n' = some g → n = n'

theorem lt_heap {w : World} {b : Nat} {o : Obj} (h : w.heap[b]? = some o) : b < w.heap.size := (Array.getElem?_eq_some_iff.1 h).1

/-- One named block turns. -/
theorem step {c : Ctx} {w0 w' : World} (M : MemOk c w0) (n : Nat) (k' : Blk) (og : Option Nat)
    (hos : w'.os = c.w.os) (htape : w'.tape = c.w.tape) (hout : w'.output = c.w.output) (hsize : c.w.heap.size ≤ w'.heap.size)
    (hver : ∀ k, c.m n = some k → k.ver < k'.ver ∨ (k.ver = k'.ver ∧ og = c.ι n ∧ k'.cells.length = k.cells.length))
    (hother : ∀ b, b < c.w.heap.size → (∀ k, c.m n = some k → c.ι n ≠ some b) → w'.heap[b]? = c.w.heap[b]?)
    (hold : ∀ k b (cs : Array Value) t, c.m n = some k → k.ver = k'.ver → c.ι n = some b → c.w.heap[b]? = some (Obj.cells cs t (0, 0)) → ∃ cs' : Array Value, w'.heap[b]? = some (Obj.cells cs' t (0, 0)) ∧ cs'.size = cs.size)
    (hnone : og = none → k'.cells = [])
    (hsome : ∀ g, og = some g → (c.w.heap.size ≤ g ∨ (c.ι n = some g ∧ ∃ k, c.m n = some k)) ∧ ∃ cs t, w'.heap[g]? = some (Obj.cells cs t (0, 0)) ∧ ∀ (i : Nat) x, k'.cells[i]? = some x → ∃ y, cs[i]? = some y ∧ Rel c x y) :
    c.le ⟨upd c.m n (some k'), upd c.ι n og, w'⟩ ∧ MemOk ⟨upd c.m n (some k'), upd c.ι n og, w'⟩ w0 := by
  have hle : c.le ⟨upd c.m n (some k'), upd c.ι n og, w'⟩ := by
    refine ⟨hsize, fun q k hk => ?_, fun b hb hlt => ?_⟩
    · by_cases e : q = n
      · subst e
        refine ⟨k', upd_eq _ _ _, ?_, fun e2 => ?_⟩
        · rcases hver k hk with h | ⟨h, _⟩ <;> omega
        · rcases hver k hk with h | ⟨h, h2, h3⟩
          · omega
          · exact ⟨(upd_eq _ _ _).trans h2, h3, fun b cs t hb hh => hold k b cs t hk e2 hb hh⟩
      · refine ⟨k, (upd_ne _ _ e).trans hk, Nat.le_refl _, fun _ => ⟨upd_ne _ _ e, rfl, fun b cs t hb hh => ⟨cs, (hother b (lt_heap hh) fun k0 h1 h2 => e ?_).trans hh, rfl⟩⟩⟩
        exact M.inj q n k k0 b hk h1 hb h2
    · refine ⟨hother b hlt fun k h1 h2 => hb ⟨n, k, h1, h2⟩, fun ⟨q, k, h1, h2⟩ => ?_⟩
      by_cases e : q = n
      · subst e
        have h2' : og = some b := by rw [← h2]; exact (upd_eq _ _ _).symm
        rcases (hsome b h2').1 with h | ⟨h, k, hk⟩
        · omega
        · exact hb ⟨q, k, hk, h⟩
      · exact hb ⟨q, k, (upd_ne c.m (some k') e) ▸ h1, (upd_ne c.ι og e) ▸ h2⟩
  refine ⟨hle, ⟨?_, fun q k hk => ?_, fun q q' k k2 g h1 h2 h3 h4 => ?_⟩⟩
  · refine M.below.trans ⟨hos, htape, hout, hsize, fun b hb => hother b (by have := M.below.size; omega) fun k h1 h2 => ?_⟩
    rcases M.blk n k h1 with ⟨h, _⟩ | ⟨g, cs, t, h, hg, _⟩
    · rw [h] at h2; cases h2
    · rw [h] at h2; cases h2; omega
  · by_cases e : q = n
    · subst e
      obtain rfl : k' = k := by have : upd c.m q (some k') q = some k := hk; rw [upd_eq] at this; cases this; rfl
      cases og with
      | none => exact .inl ⟨upd_eq _ _ _, hnone rfl⟩
      | some g =>
        obtain ⟨h1, cs, t, h2, h3⟩ := hsome g rfl
        refine .inr ⟨g, cs, t, upd_eq _ _ _, ?_, h2, fun i x hx => ?_⟩
        · rcases h1 with h | ⟨h, k0, hk0⟩
          · have := M.below.size; omega
          · rcases M.blk q k0 hk0 with ⟨h', _⟩ | ⟨g', cs', t', h', hg, _⟩
            · rw [h] at h'; cases h'
            · rw [h] at h'; cases h'; exact hg
        · obtain ⟨y, e1, e2⟩ := h3 i x hx
          exact ⟨y, e1, e2.mono hle⟩
    · have hk' : c.m q = some k := (upd_ne c.m (some k') e) ▸ hk
      rcases M.blk q k hk' with ⟨h, h'⟩ | ⟨g, cs, t, h, hg, hh, hc⟩
      · exact .inl ⟨(upd_ne _ _ e).trans h, h'⟩
      · refine .inr ⟨g, cs, t, (upd_ne _ _ e).trans h, hg, ?_, fun i x hx => ?_⟩
        · refine (hother g (lt_heap hh) fun k0 h1 h2 => e ?_).trans hh
          exact M.inj q n k k0 g hk' h1 h h2
        · obtain ⟨y, e1, e2⟩ := hc i x hx
          exact ⟨y, e1, e2.mono hle⟩
  · have key : ∀ q k, upd c.m n (some k') q = some k → upd c.ι n og q = some g → q = n ∨ (c.m q = some k ∧ c.ι q = some g) := fun q k a b => by
      by_cases e : q = n
      · exact .inl e
      · exact .inr ⟨(upd_ne c.m (some k') e) ▸ a, (upd_ne c.ι og e) ▸ b⟩
    have other : ∀ q k, c.m q = some k → c.ι q = some g → og = some g → q = n := fun q k a b d => by
      obtain ⟨hg, _⟩ := hsome g d
      rcases hg with h | ⟨h, k0, hk0⟩
      · rcases M.blk q k a with ⟨h', _⟩ | ⟨g', cs, t, h', _, hh, _⟩
        · rw [b] at h'; cases h'
        · rw [b] at h'; cases h'; have := lt_heap hh; omega
      · exact M.inj q n k k0 g a hk0 b h
    have hog : ∀ q, q = n → upd c.ι n og q = some g → og = some g := fun q e h => by subst e; rw [← h]; exact (upd_eq _ _ _).symm
    rcases key q k h1 h3 with a | ⟨a1, a2⟩ <;> rcases key q' k2 h2 h4 with b | ⟨b1, b2⟩
    · omega
    · exact a.trans (other q' k2 b1 b2 (hog q a h3)).symm
    · exact (other q k a1 a2 (hog q' b h4)).trans b.symm
    · exact M.inj q q' k k2 g a1 b1 a2 b2

/-- The world draws: nothing turns. -/
theorem step_drawn {c : Ctx} {w0 w' : World} (M : MemOk c w0) (hos : w'.os = c.w.os) (htape : w'.tape = c.w.tape) (hout : w'.output = c.w.output) (hh : w'.heap = c.w.heap) :
    c.le ⟨c.m, c.ι, w'⟩ ∧ MemOk ⟨c.m, c.ι, w'⟩ w0 := by
  have hle : c.le ⟨c.m, c.ι, w'⟩ := ⟨by rw [hh]; exact Nat.le_refl _, fun n k h => ⟨k, h, Nat.le_refl _, fun _ => ⟨rfl, rfl, fun b cs t _ h => ⟨cs, by rw [hh]; exact h, rfl⟩⟩⟩, fun b h _ => ⟨by rw [hh], h⟩⟩
  refine ⟨hle, M.below.trans ⟨hos, htape, hout, by rw [hh]; exact Nat.le_refl _, fun k _ => by rw [hh]⟩, fun n k h => ?_, M.inj⟩
  rcases M.blk n k h with h | ⟨g, cs, t, h1, h2, h3, h4⟩
  · exact .inl h
  · refine .inr ⟨g, cs, t, h1, h2, by rw [hh]; exact h3, fun i x hx => ?_⟩
    obtain ⟨y, e1, e2⟩ := h4 i x hx
    exact ⟨y, e1, e2.mono hle⟩

/-- Lists of values, one by one. -/
def RelL (c : Ctx) (xs : List AV) (ys : List Value) : Prop := xs.length = ys.length ∧ ∀ (i : Nat) x, xs[i]? = some x → ∃ y, ys[i]? = some y ∧ Rel c x y
theorem RelL.nil (c : Ctx) : RelL c [] [] := ⟨rfl, fun i x h => by simp at h⟩
theorem RelL.cons {c : Ctx} {x : AV} {y : Value} {xs : List AV} {ys : List Value} (h : Rel c x y) (t : RelL c xs ys) : RelL c (x :: xs) (y :: ys) := by
  refine ⟨by simp [t.1], fun i z hz => ?_⟩
  cases i with
  | zero => simp at hz; exact ⟨y, rfl, hz ▸ h⟩
  | succ i => simpa using t.2 i z (by simpa using hz)
theorem RelL.mono {c c' : Ctx} {xs : List AV} {ys : List Value} (h : RelL c xs ys) (hle : c.le c') : RelL c' xs ys :=
  ⟨h.1, fun i x hx => let ⟨y, a, b⟩ := h.2 i x hx; ⟨y, a, b.mono hle⟩⟩
theorem RelL.take {c : Ctx} {xs : List AV} {ys : List Value} (h : RelL c xs ys) (n : Nat) : RelL c (xs.take n) (ys.take n) := by
  refine ⟨by simp [h.1], fun i x hx => ?_⟩
  rw [List.getElem?_take] at hx ⊢
  split at hx
  · rename_i hi; rw [if_pos hi]; exact h.2 i x hx
  · cases hx
theorem RelL.drop {c : Ctx} {xs : List AV} {ys : List Value} (h : RelL c xs ys) (n : Nat) : RelL c (xs.drop n) (ys.drop n) := by
  refine ⟨by simp [h.1], fun i x hx => ?_⟩
  rw [List.getElem?_drop] at hx ⊢
  exact h.2 _ x hx
theorem RelL.append {c : Ctx} {xs xs' : List AV} {ys ys' : List Value} (h : RelL c xs ys) (h' : RelL c xs' ys') : RelL c (xs ++ xs') (ys ++ ys') := by
  refine ⟨by simp [h.1, h'.1], fun i x hx => ?_⟩
  rw [List.getElem?_append] at hx ⊢
  rw [← h.1]
  split at hx
  · rename_i hi; rw [if_pos hi]; exact h.2 i x hx
  · rename_i hi; rw [if_neg hi]; exact h'.2 _ x hx
theorem RelL.get {c : Ctx} {xs : List AV} {ys : List Value} (h : RelL c xs ys) {i : Nat} {x : AV} (hx : xs[i]? = some x) : ∃ y, ys[i]? = some y ∧ Rel c x y := h.2 i x hx
theorem RelL.inv_cons {c : Ctx} {x : AV} {xs : List AV} {ys : List Value} (h : RelL c (x :: xs) ys) : ∃ y ys', ys = y :: ys' ∧ Rel c x y ∧ RelL c xs ys' := by
  obtain ⟨hl, hx⟩ := h
  cases ys with
  | nil => simp at hl
  | cons y ys =>
    obtain ⟨y', e, r⟩ := hx 0 x rfl
    simp at e; subst e
    exact ⟨y, ys, rfl, r, by simpa using hl, fun i z hz => by simpa using hx (i + 1) z (by simpa using hz)⟩
theorem RelL.inv_nil {c : Ctx} {ys : List Value} (h : RelL c [] ys) : ys = [] := List.eq_nil_of_length_eq_zero (by simpa using h.1.symm)

/-- From pointwise functions. -/
theorem fun_of {c : Ctx} {xs : List AV} {ys : List Value} (h : RelL c xs ys) : ∃ f : Nat → Value, (∀ i x, xs[i]? = some x → ys[i]? = some (f i)) ∧ ∀ i x, xs[i]? = some x → Rel c x (f i) := by
  refine ⟨fun i => ys.getD i default, fun i x hx => ?_, fun i x hx => ?_⟩ <;>
  · obtain ⟨y, e, r⟩ := h.2 i x hx
    simp [List.getD_eq_getElem?_getD, e, r]
theorem Rel.mkAgg {c : Ctx} {xs : List AV} {cs : Array Value} (h : RelL c xs cs.toList) : Rel c (.agg xs) (.agg cs) := by
  obtain ⟨f, h1, h2⟩ := fun_of h
  exact .agg f (by simpa using h.1) (fun i x hx => by simpa using h1 i x hx) h2
theorem Rel.mkTup {c : Ctx} {xs : List AV} {cs : Array Value} (h : RelL c xs cs.toList) : Rel c (.tup xs) (.tuple cs) := by
  obtain ⟨f, h1, h2⟩ := fun_of h
  exact .tup f (by simpa using h.1) (fun i x hx => by simpa using h1 i x hx) h2
theorem Rel.mkFn {c : Ctx} {f : Fn} {xs ys : List AV} {cs ds : Array Value} (h : RelL c xs cs.toList) (h' : RelL c ys ds.toList) : Rel c (.fn f xs ys) (.func f cs ds) := by
  obtain ⟨p, h1, h2⟩ := fun_of h
  obtain ⟨q, g1, g2⟩ := fun_of h'
  exact .fn p q (by simpa using h.1) (fun i x hx => by simpa using h1 i x hx) h2 (by simpa using h'.1) (fun i x hx => by simpa using g1 i x hx) g2
theorem Rel.inv_v {c : Ctx} {x y : Value} (h : Rel c (.v x) y) : y = x ∧ True := by cases h with | v => exact ⟨rfl, trivial⟩
theorem Rel.inv_agg {c : Ctx} {xs : List AV} {y : Value} (h : Rel c (.agg xs) y) : ∃ cs, y = .agg cs ∧ RelL c xs cs.toList := by
  cases h with
  | @agg _ cs f hl hx hr => exact ⟨cs, rfl, by simpa using hl, fun i x h => ⟨f i, by simpa using hx i x h, hr i x h⟩⟩
theorem Rel.inv_tup {c : Ctx} {xs : List AV} {y : Value} (h : Rel c (.tup xs) y) : ∃ cs, y = .tuple cs ∧ RelL c xs cs.toList := by
  cases h with
  | @tup _ cs f hl hx hr => exact ⟨cs, rfl, by simpa using hl, fun i x h => ⟨f i, by simpa using hx i x h, hr i x h⟩⟩
theorem Rel.inv_fn {c : Ctx} {f : Fn} {xs ys : List AV} {y : Value} (h : Rel c (.fn f xs ys) y) : ∃ cs ds, y = .func f cs ds ∧ RelL c xs cs.toList ∧ RelL c ys ds.toList := by
  cases h with
  | @fn _ _ _ cs ds p q hl hx hr hl2 hx2 hr2 =>
    exact ⟨cs, ds, rfl, ⟨by simpa using hl, fun i x h => ⟨p i, by simpa using hx i x h, hr i x h⟩⟩, by simpa using hl2, fun i x h => ⟨q i, by simpa using hx2 i x h, hr2 i x h⟩⟩

theorem relL_v (c : Ctx) (cs : List Value) : RelL c (cs.map .v) cs := by
  refine ⟨by simp, fun i x hx => ?_⟩
  rw [List.getElem?_map] at hx
  cases e : cs[i]? with
  | none => rw [e] at hx; cases hx
  | some y => rw [e] at hx; cases hx; exact ⟨y, rfl, .v⟩
/-- The cells of a value. -/
def AV.cells : AV → List AV
  | .agg xs => xs
  | .v (.agg cs) => cs.toList.map .v
  | x => [x]
theorem Rel.cells {c : Ctx} {x : AV} {y : Value} (h : Rel c x y) : RelL c x.cells y.cells.toList := by
  cases x with
  | agg xs =>
    obtain ⟨cs, rfl, r⟩ := h.inv_agg
    exact r
  | v x =>
    obtain ⟨rfl, _⟩ := h.inv_v
    cases y with
    | agg cs => exact relL_v c cs.toList
    | _ => exact .cons .v (.nil c)
  | own => cases h with | own a b d e f g => exact .cons (.own a b d e f g) (.nil c)
  | ptr => cases h with | ptr a b d => exact .cons (.ptr a b d) (.nil c)
  | sl => cases h with | sl f a b d e g i j => exact .cons (.sl f a b d e g i j) (.nil c)
  | at_ => cases h with | at_ f a b => exact .cons (.at_ f a b) (.nil c)
  | tup => cases h with | tup f a b d => exact .cons (.tup f a b d) (.nil c)
  | fn => cases h with | fn p q a b d e f g => exact .cons (.fn p q a b d e f g) (.nil c)

/-- A plain value of the text. -/
def ofV : Value → AV
  | .agg cs => .agg (cs.toList.map .v)
  | x => .v x
def flatV : Value → Bool
  | .agg cs => cs.toList.all fun x => match x with | .agg _ => false | _ => true
  | _ => true
theorem Rel.ofV (c : Ctx) (x : Value) : Rel c (ofV x) x := by
  cases x with
  | agg cs => exact Rel.mkAgg (relL_v c cs.toList)
  | _ => exact .v
end Go.Pm

/- A machine of values: operations on memory. -/
namespace Go.Pm
open Go.RowKit
set_option linter.unusedVariables false
set_option linter.unusedSimpArgs false

abbrev Eff := AV × Option (Nat × Blk)
def memOf (m : Mem) : Option (Nat × Blk) → Mem
  | none => m
  | some (n, k) => upd m n (some k)

/-- The run comes to this effect. -/
def Good (P : Program) (c : Ctx) (w0 : World) (s : Sem Value) (e : Eff) : Prop :=
  ∃ v w' ι', s.run P c.w = .ok v w' ∧ c.le ⟨memOf c.m e.2, ι', w'⟩ ∧ MemOk ⟨memOf c.m e.2, ι', w'⟩ w0 ∧ Rel ⟨memOf c.m e.2, ι', w'⟩ e.1 v

theorem Good.same {P : Program} {c : Ctx} {w0 : World} {s : Sem Value} {x : AV} {v : Value} (h : s.run P c.w = .ok v c.w) (M : MemOk c w0) (r : Rel c x v) : Good P c w0 s (x, none) :=
  ⟨v, c.w, c.ι, h, .refl c, M, r⟩
theorem Good.congr {P : Program} {c : Ctx} {w0 : World} {s s' : Sem Value} {e : Eff} (h : Good P c w0 s e) (he : s'.run P c.w = s.run P c.w) : Good P c w0 s' e := by
  obtain ⟨v, w', ι', h1, h2⟩ := h
  exact ⟨v, w', ι', he.trans h1, h2⟩

def verNext (m : Mem) (n : Nat) : Nat := match m n with | some k => k.ver + 1 | none => 0
theorem verNext_gt {m : Mem} {n : Nat} {k : Blk} (h : m n = some k) : k.ver < verNext m n := by simp [verNext, h]

/-- A new block under a name. -/
theorem step_new {c : Ctx} {w0 : World} (M : MemOk c w0) (n : Nat) (cells : List AV) (cs : Array Value) (T : TypeId)
    (hx : ∀ (i : Nat) x, cells[i]? = some x → ∃ y, cs[i]? = some y ∧ Rel c x y) :
    c.le ⟨upd c.m n (some ⟨verNext c.m n, cells⟩), upd c.ι n (some c.w.heap.size), c.w.alloc (.cells cs T)⟩ ∧
    MemOk ⟨upd c.m n (some ⟨verNext c.m n, cells⟩), upd c.ι n (some c.w.heap.size), c.w.alloc (.cells cs T)⟩ w0 := by
  refine step M n _ _ rfl rfl rfl (by simp) (fun k hk => .inl (verNext_gt hk)) (fun b hb _ => Below.heap_alloc _ _ _ hb) (fun k b cs' t hk _ hb hh => ⟨cs', (Below.heap_alloc _ _ _ (lt_heap hh)).trans hh, rfl⟩) (fun e => by cases e) fun g e => ?_
  cases e
  exact ⟨.inl (Nat.le_refl _), cs, T, heap_alloc_new _ _, hx⟩

theorem run_newRow (P : Program) (w : World) (T : TypeId) (cs : Array Value) : (newRow T cs).run P w = .ok ⟨w.heap.size, 0, none⟩ (w.alloc (.cells cs T)) := rfl

theorem relL_at {c : Ctx} {xs : List AV} {cs : Array Value} (h : RelL c xs cs.toList) : ∀ (i : Nat) x, xs[i]? = some x → ∃ y, cs[i]? = some y ∧ Rel c x y := fun i x hx => by
  obtain ⟨y, e, r⟩ := h.2 i x hx
  exact ⟨y, by simpa using e, r⟩

/-- A new variable. -/
theorem good_new {P : Program} {c : Ctx} {w0 : World} (M : MemOk c w0) (n : Nat) (T : TypeId) {xs : List AV} {cs : Array Value} (h : RelL c xs cs.toList) :
    Good P c w0 (do pure (.pointer (some (← newRow T cs)))) (.ptr n (verNext c.m n) 0, some (n, ⟨verNext c.m n, xs⟩)) := by
  obtain ⟨hle, hM⟩ := step_new M n xs cs T (relL_at h)
  refine ⟨.pointer (some ⟨c.w.heap.size, 0, none⟩), _, _, by simp only [Sem.run_bind, run_newRow, Result.andThen_ok, Sem.run_pure], hle, hM, ?_⟩
  exact .ptr (upd_eq _ _ _) (Nat.le_refl _) fun _ => ⟨_, upd_eq _ _ _, rfl⟩

/-- The cells from a pointer on. -/
def ptrCells (m : Mem) : AV → Option (List AV)
  | .ptr n ver off => match m n with
    | some k => if ver = k.ver ∧ off ≤ k.cells.length then some (k.cells.drop off) else none
    | none => none
  | .at_ xs => some xs
  | _ => none
theorem ptrCells_sound {c : Ctx} {w0 : World} (M : MemOk c w0) {x : AV} {v : Value} {xs : List AV} (hx : ptrCells c.m x = some xs) (r : Rel c x v) :
    ∃ b o, v = .pointer (some ⟨b, o, none⟩) ∧ ∀ (i : Nat) y, xs[i]? = some y → ∃ z, c.w.cell? ⟨b, o + i, none⟩ = some z ∧ Rel c y z := by
  cases x with
  | ptr n ver off =>
    cases r with
    | @ptr _ _ _ k a hk hv ha =>
      simp only [ptrCells, hk] at hx
      split at hx
      · rename_i h
        cases hx
        obtain ⟨g, hg, rfl⟩ := ha h.1
        refine ⟨g, off, rfl, fun i y hy => ?_⟩
        rw [List.getElem?_drop] at hy
        rcases M.blk n k hk with ⟨h1, _⟩ | ⟨g', cs, t, h1, _, hh, hc⟩
        · rw [hg] at h1; cases h1
        · rw [hg] at h1; cases h1
          obtain ⟨z, e, rz⟩ := hc _ y hy
          exact ⟨z, by rw [cell_of_row _ _ _ _ _ _ hh]; exact e, rz⟩
      · cases hx
  | at_ ys =>
    simp only [ptrCells, Option.some.injEq] at hx
    subst hx
    cases r with
    | @at_ _ b o f hf hr => exact ⟨b, o, rfl, fun i y hy => ⟨f i, (hf i y hy).2, hr i y hy⟩⟩
  | _ => simp [ptrCells] at hx

def szOf (P : Program) (t : TypeId) : Option Nat := (P.info? t).map (·.size)
def isAggT (P : Program) (t : TypeId) : Option Bool := (P.underlying t).map fun d => match d with | .struct _ | .array _ _ => true | _ => false
theorem run_sizeOf {P : Program} {t : TypeId} {n : Nat} (h : szOf P t = some n) (w : World) : (sizeOf t).run P w = .ok n w := by
  unfold szOf at h
  cases hi : P.info? t with
  | none => rw [hi] at h; cases h
  | some i => rw [hi] at h; cases h; simp [sizeOf, typeInfo, hi]
theorem run_isAgg {P : Program} {t : TypeId} {b : Bool} (h : isAggT P t = some b) (w : World) : (isAgg t).run P w = .ok b w := by
  unfold isAggT at h
  cases hi : P.underlying t with
  | none => rw [hi] at h; cases h
  | some d =>
    rw [hi] at h
    simp only [isAgg, Sem.run_bind, run_underlying hi, Result.andThen_ok]
    cases d <;> simp at h <;> simp [h]

/-- Load. -/
def aLoad (P : Program) (T : TypeId) (x : AV) (m : Mem) : Option AV :=
  (ptrCells m x).bind fun xs => (isAggT P T).bind fun b => if b then (szOf P T).bind fun n => if n ≤ xs.length then some (.agg (xs.take n)) else none else xs[0]?
theorem aLoad_same {P : Program} {c : Ctx} {w0 : World} (M : MemOk c w0) {T : TypeId} {x y : AV} {v : Value} (h : aLoad P T x c.m = some y) (r : Rel c x v) : ∃ u, (Instr.loadAt T v).run P c.w = .ok u c.w ∧ Rel c y u := by
  unfold aLoad at h
  obtain ⟨xs, hxs, h⟩ := Option.bind_eq_some_iff.1 h
  obtain ⟨b, hb, h⟩ := Option.bind_eq_some_iff.1 h
  obtain ⟨g, o, rfl, hc⟩ := ptrCells_sound M hxs r
  cases b with
  | true =>
    simp only [if_true] at h
    obtain ⟨n, hn, h⟩ := Option.bind_eq_some_iff.1 h
    split at h
    · rename_i hle
      cases h
      have hl : ∀ i, ∃ z : Value, ∀ y, (xs.take n)[i]? = some y → c.w.cell? ⟨g, o + i, none⟩ = some z ∧ Rel c y z := fun i => by
        cases e : (xs.take n)[i]? with
        | none => exact ⟨default, fun y h => by cases h⟩
        | some y =>
          have : xs[i]? = some y := by rw [List.getElem?_take] at e; split at e; exact e; cases e
          obtain ⟨z, h1, h2⟩ := hc i y this
          exact ⟨z, fun y' h => by cases h; exact ⟨h1, h2⟩⟩
      let f : Nat → Value := fun i => Classical.choose (hl i)
      have hf : ∀ i y, (xs.take n)[i]? = some y → c.w.cell? ⟨g, o + i, none⟩ = some (f i) ∧ Rel c y (f i) := fun i => Classical.choose_spec (hl i)
      have hlen : (xs.take n).length = n := by simp; omega
      have hrun := run_loadCells_list (P := P) c.w ⟨g, o, none⟩ ((List.range n).map f) (fun j u hj => by
        rw [List.getElem?_map] at hj
        cases e : (List.range n)[j]? with
        | none => rw [e] at hj; cases hj
        | some j' =>
          rw [e] at hj; cases hj
          obtain ⟨hlt, rfl⟩ := List.getElem?_eq_some_iff.1 e
          simp at hlt
          have hadd : (⟨g, o, none⟩ : Addr).add j = ⟨g, o + j, none⟩ := by unfold Addr.add; split <;> simp_all
          rw [hadd]
          simp only [List.getElem_range]
          exact (hf j _ (List.getElem?_eq_getElem (by omega))).1)
      simp only [List.length_map, List.length_range] at hrun
      refine ⟨.agg ((List.range n).map f).toArray, ?_, ?_⟩
      · simp only [Instr.loadAt, Instr.sureAddr, loadVar, Sem.run_bind, Sem.run_pure, Result.andThen_ok, run_isAgg hb, if_true, run_sizeOf hn, hrun]
      · refine .mkAgg ⟨by simp [hlen], fun i x hx => ⟨f i, ?_, (hf i x hx).2⟩⟩
        have : i < n := by have := (List.getElem?_eq_some_iff.1 hx).1; omega
        simp [this]
    · cases h
  | false =>
    simp only [Bool.false_eq_true, if_false] at h
    obtain ⟨z, h1, h2⟩ := hc 0 y h
    refine ⟨z, ?_, h2⟩
    simp only [Nat.add_zero] at h1
    simp only [Instr.loadAt, Instr.sureAddr, loadVar, Sem.run_bind, Sem.run_pure, Result.andThen_ok, run_isAgg hb, Bool.false_eq_true, if_false, run_load, h1]

theorem aLoad_sound {P : Program} {c : Ctx} {w0 : World} (M : MemOk c w0) {T : TypeId} {x y : AV} {v : Value} (h : aLoad P T x c.m = some y) (r : Rel c x v) : Good P c w0 (Instr.loadAt T v) (y, none) :=
  let ⟨_, h1, h2⟩ := aLoad_same M h r
  Good.same h1 M h2

/-- Values that a cell may hold. -/
def AV.one : AV → Bool
  | .agg _ | .tup _ | .v (.agg _) | .v (.tuple _) => false
  | _ => true
def allOne (xs : List AV) : Bool := xs.all AV.one
theorem Rel.one {c : Ctx} {x : AV} {v : Value} (r : Rel c x v) (h : x.one = true) : v.oneCell' = true := by
  cases r with
  | v => cases v <;> first | rfl | simp [AV.one] at h
  | agg => simp [AV.one] at h
  | tup => simp [AV.one] at h
  | _ => rfl

def splice {α : Type} (l : List α) (o : Nat) (xs : List α) : List α := l.take o ++ xs ++ l.drop (o + xs.length)
theorem splice_length {α : Type} {l : List α} {o : Nat} {xs : List α} (h : o + xs.length ≤ l.length) : (splice l o xs).length = l.length := by
  simp [splice]; omega
theorem splice_get {α : Type} {l : List α} {o : Nat} {xs : List α} (h : o + xs.length ≤ l.length) (i : Nat) : (splice l o xs)[i]? = if o ≤ i ∧ i < o + xs.length then xs[i - o]? else l[i]? := by
  unfold splice
  have hl : (l.take o).length = o := by simp; omega
  by_cases h1 : i < o
  · rw [if_neg (by omega), List.append_assoc, List.getElem?_append_left (by omega), List.getElem?_take_of_lt h1]
  · by_cases h2 : i < o + xs.length
    · rw [if_pos (by omega), List.append_assoc, List.getElem?_append_right (by omega), hl, List.getElem?_append_left (by omega)]
    · rw [if_neg (by omega), List.getElem?_append_right (by simp; omega), List.getElem?_drop]
      congr 1
      simp; omega
theorem splice_rel {c : Ctx} {ks xs : List AV} {cs : List Value} {vs : List Value} {o : Nat} (hk : ∀ (i : Nat) x, ks[i]? = some x → ∃ y, cs[i]? = some y ∧ Rel c x y) (hv : RelL c xs vs) (hl : o + xs.length ≤ ks.length) (hl2 : ks.length ≤ cs.length) :
    ∀ (i : Nat) x, (splice ks o xs)[i]? = some x → ∃ y, (splice cs o vs)[i]? = some y ∧ Rel c x y := by
  intro i x hx
  rw [splice_get hl] at hx
  rw [splice_get (by have := hv.1; omega), ← hv.1]
  split at hx
  · rename_i h; rw [if_pos h]; exact hv.2 _ x hx
  · rename_i h; rw [if_neg h]; exact hk i x hx
theorem cells_le {c : Ctx} {ks : List AV} {cs : List Value} (hk : ∀ (i : Nat) x, ks[i]? = some x → ∃ y, cs[i]? = some y ∧ Rel c x y) : ks.length ≤ cs.length := by
  cases h : ks.length with
  | zero => omega
  | succ n =>
    obtain ⟨y, e, _⟩ := hk n _ (List.getElem?_eq_getElem (by omega))
    have := (List.getElem?_eq_some_iff.1 e).1
    omega

/-- Cells of a named block are written. -/
theorem step_row {c : Ctx} {w0 : World} (M : MemOk c w0) {n : Nat} {k : Blk} (hk : c.m n = some k) {g : Nat} (hg : c.ι n = some g) {cs : Array Value} {t : TypeId} (hh : c.w.heap[g]? = some (Obj.cells cs t (0, 0)))
    (hc : ∀ (i : Nat) x, k.cells[i]? = some x → ∃ y, cs[i]? = some y ∧ Rel c x y) {o : Nat} {xs : List AV} {vs : List Value} (hv : RelL c xs vs) (hl : o + xs.length ≤ k.cells.length) :
    c.le ⟨upd c.m n (some ⟨k.ver, splice k.cells o xs⟩), c.ι, c.w.setRow g (splice cs.toList o vs).toArray⟩ ∧
    MemOk ⟨upd c.m n (some ⟨k.ver, splice k.cells o xs⟩), c.ι, c.w.setRow g (splice cs.toList o vs).toArray⟩ w0 := by
  have hle := cells_le (cs := cs.toList) (fun i x hx => by simpa using hc i x hx)
  have hs : (splice cs.toList o vs).length = cs.size := by rw [splice_length (by have := hv.1; simp at hle ⊢; omega)]; simp
  have hι : c.ι = upd c.ι n (c.ι n) := by funext q; by_cases e : q = n <;> simp [upd, e]
  have := step (w' := c.w.setRow g (splice cs.toList o vs).toArray) M n ⟨k.ver, splice k.cells o xs⟩ (c.ι n) rfl rfl rfl (by simp) (fun k0 h0 => .inr ⟨by rw [hk] at h0; cases h0; rfl, rfl, by rw [hk] at h0; cases h0; exact splice_length hl⟩)
    (fun b hb hne => setRow_other c.w g b _ (fun e => hne k hk (by rw [hg, e])))
    (fun k0 b cs' t' h0 _ hb hb' => by
      rw [hg] at hb; cases hb
      rw [hh] at hb'; cases hb'
      exact ⟨_, setRow_heap c.w g cs _ t _ hh, by simpa using hs⟩)
    (fun e => by rw [hg] at e; cases e)
    (fun g' e => by
      rw [hg] at e; cases e
      refine ⟨.inr ⟨hg, k, hk⟩, _, t, setRow_heap c.w g cs _ t _ hh, fun i x hx => ?_⟩
      simpa using splice_rel (cs := cs.toList) (fun i x hx => by simpa using hc i x hx) hv hl hle i x hx)
  rwa [← hι] at this

/-- Store. -/
def aStore (P : Program) (T : TypeId) (x y : AV) (m : Mem) : Option Eff :=
  match x with
  | .ptr n ver off => match m n with
    | some k => if ver = k.ver ∧ szOf P T = some y.cells.length ∧ off + y.cells.length ≤ k.cells.length ∧ allOne y.cells = true then some (.v undef, some (n, ⟨ver, splice k.cells off y.cells⟩)) else none
    | none => none
  | _ => none
def GoodU (P : Program) (c : Ctx) (w0 : World) (s : Sem Unit) (e : Eff) : Prop :=
  ∃ w' ι', s.run P c.w = .ok () w' ∧ c.le ⟨memOf c.m e.2, ι', w'⟩ ∧ MemOk ⟨memOf c.m e.2, ι', w'⟩ w0 ∧ e.1 = .v undef
theorem aStore_sound {P : Program} {c : Ctx} {w0 : World} (M : MemOk c w0) {T : TypeId} {x y : AV} {v u : Value} {e : Eff} (h : aStore P T x y c.m = some e) (r : Rel c x v) (ry : Rel c y u) : GoodU P c w0 (Instr.storeAt T v u) e := by
  cases x with
  | ptr n ver off =>
    cases r with
    | @ptr _ _ _ k a hk hv ha =>
      simp only [aStore, hk] at h
      split at h
      · rename_i hh
        obtain ⟨rfl, hsz, hl, hone⟩ := hh
        cases h
        obtain ⟨g, hg, rfl⟩ := ha rfl
        rcases M.blk n k hk with ⟨h1, _⟩ | ⟨g', cs, t, h1, _, hh, hc⟩
        · rw [hg] at h1; cases h1
        · rw [hg] at h1; cases h1
          have rc := ry.cells
          obtain ⟨hle, hM⟩ := step_row M hk hg hh hc rc hl
          have hcl := cells_le (cs := cs.toList) (fun i x hx => by simpa using hc i x hx)
          have hst := run_storeCells_at P g off t u.cells.toList 0 cs c.w hh (by have := rc.1; simp at hcl this ⊢; omega) (fun z hz => by
            obtain ⟨i, hi⟩ := List.mem_iff_getElem?.1 hz
            obtain ⟨hi1, rfl⟩ := List.getElem?_eq_some_iff.1 hi
            obtain ⟨z', e1, e2⟩ := rc.2 i _ (List.getElem?_eq_getElem (by rw [rc.1]; exact hi1))
            rw [hi] at e1; cases e1
            exact e2.one (List.all_eq_true.1 hone _ (List.getElem_mem _)))
          simp only [Nat.add_zero] at hst
          refine ⟨_, c.ι, ?_, hle, hM, rfl⟩
          have hcs : u.cells.size = y.cells.length := by have := rc.1; simpa using this.symm
          simp only [Instr.storeAt, Instr.sureAddr, storeVar, Sem.run_bind, Sem.run_pure, Result.andThen_ok, run_sizeOf hsz, hcs, ne_eq, not_true_eq_false, if_false, hst]
          rfl
      · cases h
  | _ => simp [aStore] at h
end Go.Pm

/- A machine of values: places, parts, slices. -/
namespace Go.Pm
open Go.RowKit
set_option linter.unusedVariables false
set_option linter.unusedSimpArgs false

theorem addr_add (b o d : Nat) : (⟨b, o, none⟩ : Addr).add d = ⟨b, o + d, none⟩ := by unfold Addr.add; split <;> simp_all

/-- A pointer further on. -/
def ptrAdd (d : Nat) : AV → Option AV
  | .ptr n ver off => some (.ptr n ver (off + d))
  | .at_ xs => some (.at_ (xs.drop d))
  | _ => none
theorem ptrAdd_sound {c : Ctx} {d : Nat} {x y : AV} {v : Value} (h : ptrAdd d x = some y) (r : Rel c x v) : ∃ b o, v = .pointer (some ⟨b, o, none⟩) ∧ Rel c y (.pointer (some ⟨b, o + d, none⟩)) ∨ ∃ a, v = .pointer (some a) ∧ Rel c y (.pointer (some (a.add d))) := by
  cases x with
  | ptr n ver off =>
    cases h
    cases r with
    | @ptr _ _ _ k a hk hv ha =>
      refine ⟨0, 0, .inr ⟨a, rfl, .ptr hk hv fun e => ?_⟩⟩
      obtain ⟨g, h1, rfl⟩ := ha e
      exact ⟨g, h1, addr_add _ _ _⟩
  | at_ xs =>
    cases h
    cases r with
    | @at_ _ b o f hx hr =>
      refine ⟨0, 0, .inr ⟨_, rfl, ?_⟩⟩
      rw [addr_add]
      refine .at_ (fun i => f (d + i)) (fun i x hi => ?_) (fun i x hi => ?_)
      · rw [List.getElem?_drop] at hi
        rw [Nat.add_assoc]
        exact hx _ x hi
      · rw [List.getElem?_drop] at hi
        exact hr _ x hi
  | _ => cases h
theorem ptrAdd_ok {c : Ctx} {d : Nat} {x y : AV} {v : Value} (h : ptrAdd d x = some y) (r : Rel c x v) : ∃ a, v = .pointer (some a) ∧ Rel c y (.pointer (some (a.add d))) := by
  obtain ⟨b, o, h | h⟩ := ptrAdd_sound h r
  · exact ⟨⟨b, o, none⟩, h.1, by rw [addr_add]; exact h.2⟩
  · exact h

def fieldOf (P : Program) (s : TypeId) (f : Nat) : Option (Nat × TypeId) :=
  match P.underlying s with
  | some (.struct fs) => (fs[f]?).map fun x => (x.offset, x.type)
  | _ => none
theorem fieldOf_some {P : Program} {s : TypeId} {f o t : Nat} (h : fieldOf P s f = some (o, t)) : ∃ fs fd, P.underlying s = some (.struct fs) ∧ fs[f]? = some fd ∧ fd.offset = o ∧ fd.type = t := by
  unfold fieldOf at h
  cases hu : P.underlying s with
  | none => rw [hu] at h; cases h
  | some d =>
    rw [hu] at h
    cases d <;> simp at h
    rename_i fs
    obtain ⟨fd, h1, h2, h3⟩ := h
    exact ⟨fs, fd, rfl, h1, h2, h3⟩

def aFieldAddr (P : Program) (s : TypeId) (f : Nat) (x : AV) : Option AV :=
  (fieldOf P s f).bind fun ot => (szOf P ot.2).bind fun z => if z = 0 then none else ptrAdd ot.1 x
theorem aFieldAddr_sound {P : Program} {c : Ctx} {w0 : World} (M : MemOk c w0) {s : TypeId} {f : Nat} {x y : AV} {v : Value} (h : aFieldAddr P s f x = some y) (r : Rel c x v) : Good P c w0 (Instr.fieldAt s v f) (y, none) := by
  unfold aFieldAddr at h
  obtain ⟨⟨o, t⟩, ho, h⟩ := Option.bind_eq_some_iff.1 h
  obtain ⟨z, hz, h⟩ := Option.bind_eq_some_iff.1 h
  split at h
  · cases h
  rename_i hz0
  obtain ⟨fs, fd, hu, hf, rfl, rfl⟩ := fieldOf_some ho
  obtain ⟨a, rfl, ry⟩ := ptrAdd_ok h r
  refine Good.same ?_ M ry
  simp [Instr.fieldAt, run_underlying hu, hf, Instr.sureAddr, fieldPlace, run_sizeOf hz, hz0]

/-- How long a slice is, and its cells. -/
def slLen : AV → Option Nat
  | .own _ _ _ len _ _ => some len
  | .sl _ _ len _ => some len
  | .v (.slice _ n _) => some n
  | _ => none
def slCells (m : Mem) : AV → Option (List AV × Nat)
  | .own n ver off len sz r => match m n with
    | some k => if ver = k.ver then some ((k.cells.drop off).take (len * sz), len) else none
    | none => none
  | .sl nn xs len cap => some (xs, len)
  | .v (.slice a n q) => if a.isNone = true ∧ n = 0 ∧ q = 0 then some ([], 0) else none
  | _ => none
theorem slLen_sound {c : Ctx} {x : AV} {v : Value} {n : Nat} (h : slLen x = some n) (r : Rel c x v) : ∃ a cp, v = .slice a n cp := by
  cases x with
  | own => cases h; cases r; exact ⟨_, _, rfl⟩
  | sl => cases h; cases r; exact ⟨_, _, rfl⟩
  | v x =>
    obtain ⟨rfl, _⟩ := r.inv_v
    cases v <;> simp [slLen] at h
    subst h
    exact ⟨_, _, rfl⟩
  | _ => cases h
theorem slCells_sound {c : Ctx} {w0 : World} (M : MemOk c w0) {x : AV} {v : Value} {xs : List AV} {n : Nat} (h : slCells c.m x = some (xs, n)) (r : Rel c x v) :
    ∃ a cp, v = .slice a n cp ∧ n ≤ cp ∧ cp ≤ maxLen ∧ (a = none → n = 0 ∧ cp = 0) ∧ (∀ (i : Nat) y, xs[i]? = some y → ∃ b o z, a = some ⟨b, o, none⟩ ∧ c.w.cell? ⟨b, o + i, none⟩ = some z ∧ Rel c y z) := by
  cases x with
  | own nm ver off len sz rm =>
    cases r with
    | @own _ _ _ _ _ _ k a cp hk hv hl hm hn ha =>
      simp only [slCells, hk] at h
      split at h
      · rename_i e
        cases h
        rcases ha e with ⟨h1, rfl, rfl, h4, h5⟩ | ⟨g, o, cs, t, h1, h2, h3, h4, h5, h6⟩
        · exact ⟨a, 0, rfl, hl, hm, fun _ => ⟨rfl, rfl⟩, fun i y hy => by rw [h4] at hy; simp at hy⟩
        · refine ⟨a, cp, rfl, hl, hm, (fun e => by rw [h2] at e; cases e), fun i y hy => ?_⟩
          rw [List.getElem?_take] at hy
          split at hy
          · rename_i hi
            rw [List.getElem?_drop] at hy
            have hcp : 0 < cp := by
              rcases Nat.eq_zero_or_pos n with e | e
              · rw [e] at hi; omega
              · omega
            obtain rfl := h3 hcp
            rcases M.blk nm k hk with ⟨h, _⟩ | ⟨g', cs', t', h, _, hh, hc⟩
            · rw [h1] at h; cases h
            · rw [h1] at h; cases h
              obtain ⟨z, e1, e2⟩ := hc _ y hy
              exact ⟨g, o, z, h2, by rw [cell_of_row _ _ _ _ _ _ hh]; exact e1, e2⟩
          · cases hy
      · cases h
  | sl nn ys len cap =>
    cases h
    cases r with
    | @sl _ _ _ _ a cp f hl hm hc hn ha hx hr =>
      refine ⟨a, cp, rfl, hl, hm, (fun e => ⟨(hn e).2.2, (hn e).2.1⟩), fun i y hy => ?_⟩
      obtain ⟨b, o, h1, h2, h3⟩ := hx i y hy
      exact ⟨b, o, f i, h1, h3, hr i y hy⟩
  | v x =>
    obtain ⟨rfl, _⟩ := r.inv_v
    cases v with
    | slice a n q =>
      simp only [slCells] at h
      split at h
      · rename_i e
        cases h
        obtain ⟨e1, rfl, rfl⟩ := e
        obtain rfl : a = none := by simpa using e1
        exact ⟨none, 0, rfl, Nat.le_refl _, by simp [maxLen], fun _ => ⟨rfl, rfl⟩, fun i y hy => by simp at hy⟩
      · cases h
    | _ => simp [slCells] at h
  | _ => cases h

def isSl (P : Program) (t : TypeId) : Option TypeId := match P.underlying t with | some (.slice e) => some e | _ => none
def isArr (P : Program) (t : TypeId) : Option (Nat × TypeId) := match P.underlying t with | some (.array n e) => some (n, e) | _ => none
theorem isSl_some {P : Program} {t e : TypeId} (h : isSl P t = some e) : P.underlying t = some (.slice e) := by
  unfold isSl at h
  cases hu : P.underlying t with
  | none => rw [hu] at h; cases h
  | some d => rw [hu] at h; cases d <;> simp at h; subst h; rfl
theorem isArr_some {P : Program} {t e : TypeId} {n : Nat} (h : isArr P t = some (n, e)) : P.underlying t = some (.array n e) := by
  unfold isArr at h
  cases hu : P.underlying t with
  | none => rw [hu] at h; cases h
  | some d => rw [hu] at h; cases d <;> simp at h; obtain ⟨rfl, rfl⟩ := h; rfl

/-- The address of an element. -/
def aIndexAddr (P : Program) (T : TypeId) (x i : AV) : Option AV :=
  match i with
  | .v (.int k i) =>
    match isSl P T with
    | some e => match szOf P e with
      | some z => match x with
        | .own n ver off len sz r => if 0 ≤ i ∧ i < (len : Int) ∧ sz = z then some (.ptr n ver (off + i.toNat * z)) else none
        | .sl nn xs len cap => if 0 ≤ i ∧ i < (len : Int) then some (.at_ (xs.drop (i.toNat * z))) else none
        | _ => none
      | none => none
    | none => match isArr P T with
      | some (n, e) => match szOf P e with
        | some z => if 0 ≤ i ∧ i < (n : Int) then ptrAdd (i.toNat * z) x else none
        | none => none
      | none => none
  | _ => none
theorem aIndexAddr_sound {P : Program} {c : Ctx} {w0 : World} (M : MemOk c w0) {T : TypeId} {x i y : AV} {v u : Value} (h : aIndexAddr P T x i = some y) (r : Rel c x v) (ri : Rel c i u) : Good P c w0 (Instr.indexAt T v u) (y, none) := by
  unfold aIndexAddr at h
  split at h
  · rename_i k i
    obtain ⟨rfl, _⟩ := ri.inv_v
    split at h
    · rename_i e he
      have hu := isSl_some he
      split at h
      · rename_i z hz
        split at h
        · rename_i n ver off len sz rm
          split at h
          · rename_i hi
            cases h
            cases r with
            | @own _ _ _ _ _ _ k a cp hk hv hl hm hn ha =>
              obtain ⟨hi0, hi1, rfl⟩ := hi
              by_cases hv' : ver = k.ver
              · rcases ha hv' with ⟨h1, h2, h3, h4, h5⟩ | ⟨g, o, cs, t, h1, h2, h3, h4, h5, h6⟩
                · omega
                · obtain rfl := h3 (by omega)
                  subst h2
                  refine Good.same (v := .pointer (some ⟨g, o + i.toNat * sz, none⟩)) ?_ M (.ptr hk hv fun _ => ⟨g, h1, rfl⟩)
                  simp [Instr.indexAt, asIntOf, run_underlying hu, hi0, hi1, run_sizeOf hz, addr_add]
              · cases a with
                | none => have := hn rfl; omega
                | some a =>
                  refine Good.same (v := .pointer (some (a.add (i.toNat * sz)))) ?_ M (.ptr hk hv fun e => absurd e hv')
                  simp [Instr.indexAt, asIntOf, run_underlying hu, hi0, hi1, run_sizeOf hz]
          · cases h
        · rename_i nn xs len cap
          split at h
          · rename_i hi
            cases h
            cases r with
            | @sl _ _ _ _ a cp f hl hm hc hn ha hx hr =>
              cases a with
              | none => have := (hn rfl).2.2; omega
              | some a =>
                obtain ⟨b, o, sp⟩ := a
                have hsp := ha _ rfl (by omega)
                simp at hsp
                subst hsp
                refine Good.same (v := .pointer (some ⟨b, o + i.toNat * z, none⟩)) ?_ M (.at_ (fun j => f (i.toNat * z + j)) (fun j x hj => ?_) (fun j x hj => ?_))
                · simp [Instr.indexAt, asIntOf, run_underlying hu, hi.1, hi.2, run_sizeOf hz, addr_add]
                · rw [List.getElem?_drop] at hj
                  obtain ⟨b', o', h1, h2, h3⟩ := hx _ x hj
                  cases h1
                  rw [Nat.add_assoc]
                  exact ⟨h2, h3⟩
                · rw [List.getElem?_drop] at hj
                  exact hr _ x hj
          · cases h
        · cases h
      · cases h
    · split at h
      · rename_i n e he
        have hu := isArr_some he
        split at h
        · rename_i z hz
          split at h
          · rename_i hi
            obtain ⟨a, rfl, ry⟩ := ptrAdd_ok h r
            refine Good.same ?_ M ry
            simp [Instr.indexAt, asIntOf, run_underlying hu, Instr.sureAddr, hi.1, hi.2, run_sizeOf hz]
          · cases h
        · cases h
      · cases h
  · cases h
end Go.Pm

/- A machine of values: parts, slices' parts, what is built. -/
namespace Go.Pm
open Go.RowKit
set_option linter.unusedVariables false
set_option linter.unusedSimpArgs false

/-- A part of cells, as a value. -/
def aPart (P : Program) (t : TypeId) (xs : List AV) (off : Nat) : Option AV :=
  (isAggT P t).bind fun b => if b then (szOf P t).bind fun z => if off + z ≤ xs.length then some (.agg ((xs.drop off).take z)) else none else xs[off]?
theorem aPart_sound {P : Program} {c : Ctx} {t : TypeId} {xs : List AV} {cs : Array Value} {off : Nat} {y : AV} (h : aPart P t xs off = some y) (r : RelL c xs cs.toList) :
    ∃ u, (part t cs off).run P c.w = .ok u c.w ∧ Rel c y u := by
  unfold aPart at h
  obtain ⟨b, hb, h⟩ := Option.bind_eq_some_iff.1 h
  cases b with
  | true =>
    simp only [if_true] at h
    obtain ⟨z, hz, h⟩ := Option.bind_eq_some_iff.1 h
    split at h
    · cases h
      refine ⟨.agg (cs.extract off (off + z)), by simp [part, run_isAgg hb, run_sizeOf hz], .mkAgg ?_⟩
      have := (r.drop off).take z
      have e : (cs.extract off (off + z)).toList = (cs.toList.drop off).take z := by simp [List.drop_take]
      rw [e]; exact this
    · cases h
  | false =>
    simp only [Bool.false_eq_true, if_false] at h
    obtain ⟨u, e, ru⟩ := r.2 off y h
    have e' : cs[off]? = some u := by simpa using e
    exact ⟨u, by simp [part, run_isAgg hb, e'], ru⟩

def aField (P : Program) (t : TypeId) (x : AV) (f : Nat) : Option AV :=
  match x with
  | .agg xs => (fieldOf P t f).bind fun ot => aPart P ot.2 xs ot.1
  | _ => none
theorem aField_sound {P : Program} {c : Ctx} {w0 : World} (M : MemOk c w0) {t : TypeId} {f : Nat} {x y : AV} {v : Value} (h : aField P t x f = some y) (r : Rel c x v) : Good P c w0 (Instr.field t v f) (y, none) := by
  cases x with
  | agg xs =>
    obtain ⟨⟨o, ty⟩, ho, h⟩ := Option.bind_eq_some_iff.1 h
    obtain ⟨fs, fd, hu, hf, rfl, rfl⟩ := fieldOf_some ho
    obtain ⟨cs, rfl, rl⟩ := r.inv_agg
    obtain ⟨u, hr, ru⟩ := aPart_sound h rl
    refine Good.same ?_ M ru
    simp [Instr.field, run_underlying hu, hf, asAgg, hr]
  | _ => cases h

def isStr (P : Program) (t : TypeId) : Bool := match P.underlying t with | some .string => true | _ => false
theorem isStr_some {P : Program} {t : TypeId} (h : isStr P t = true) : P.underlying t = some .string := by
  unfold isStr at h
  cases hu : P.underlying t with
  | none => rw [hu] at h; cases h
  | some d => rw [hu] at h; cases d <;> simp at h; rfl

def aIndex (P : Program) (t : TypeId) (x i : AV) : Option AV :=
  match x, i with
  | .agg xs, .v (.int k i) => (isArr P t).bind fun ne => (szOf P ne.2).bind fun z => if 0 ≤ i ∧ i < (ne.1 : Int) then aPart P ne.2 xs (i.toNat * z) else none
  | .v (.string s), .v (.int k i) => if isStr P t = true ∧ 0 ≤ i then (s[i.toNat]?).map fun b => .v (.int .u8 b.toNat) else none
  | _, _ => none
theorem aIndex_sound {P : Program} {c : Ctx} {w0 : World} (M : MemOk c w0) {t : TypeId} {x i y : AV} {v u : Value} (h : aIndex P t x i = some y) (r : Rel c x v) (ri : Rel c i u) : Good P c w0 (Instr.index t v u) (y, none) := by
  unfold aIndex at h
  split at h
  · rename_i xs k i
    obtain ⟨rfl, _⟩ := ri.inv_v
    obtain ⟨⟨n, e⟩, hn, h⟩ := Option.bind_eq_some_iff.1 h
    obtain ⟨z, hz, h⟩ := Option.bind_eq_some_iff.1 h
    have hu := isArr_some hn
    split at h
    · rename_i hi
      obtain ⟨cs, rfl, rl⟩ := r.inv_agg
      obtain ⟨u, hr, ru⟩ := aPart_sound h rl
      refine Good.same ?_ M ru
      have hi1 : i < (n : Int) := hi.2
      simp [Instr.index, asIntOf, run_underlying hu, hi.1, hi1, run_sizeOf hz, hr]
    · cases h
  · rename_i s k i
    obtain ⟨rfl, _⟩ := ri.inv_v
    obtain ⟨rfl, _⟩ := r.inv_v
    split at h
    · rename_i hi
      have hu := isStr_some hi.1
      cases e : s[i.toNat]? with
      | none => rw [e] at h; cases h
      | some b =>
        rw [e] at h; cases h
        refine Good.same (v := .int .u8 b.toNat) ?_ M .v
        simp [Instr.index, asIntOf, run_underlying hu, hi.2, e]
    · cases h
  · cases h

def aExtract (x : AV) (i : Nat) : Option AV := match x with | .tup xs => xs[i]? | _ => none
theorem aExtract_sound {P : Program} {c : Ctx} {w0 : World} (M : MemOk c w0) {i : Nat} {x y : AV} {v : Value} (h : aExtract x i = some y) (r : Rel c x v) : Good P c w0 (Instr.extract v i) (y, none) := by
  cases x with
  | tup xs =>
    obtain ⟨cs, rfl, rl⟩ := r.inv_tup
    obtain ⟨u, e, ru⟩ := rl.2 i y h
    have e' : cs[i]? = some u := by simpa using e
    exact Good.same (by simp [Instr.extract, e']) M ru
  | _ => cases h

/-- Bounds of a slice expression, the high one at most the length. -/
def natOf : Option AV → Option (Option Nat)
  | none => some none
  | some (.v (.int _ i)) => if 0 ≤ i then some (some i.toNat) else none
  | _ => none
theorem natOf_sound {c : Ctx} {x : Option AV} {v : Option Value} {n : Option Nat} (h : natOf x = some n) (r : ∀ y, x = some y → ∃ u, v = some u ∧ Rel c y u) (rn : x = none → v = none) :
    (n = none ∧ v = none) ∨ ∃ k i, v = some (.int k i) ∧ 0 ≤ i ∧ n = some i.toNat := by
  cases x with
  | none => cases h; exact .inl ⟨rfl, rn rfl⟩
  | some y =>
    obtain ⟨u, rfl, ru⟩ := r y rfl
    unfold natOf at h
    split at h
    · rename_i e; cases e
    · rename_i k i e
      cases e
      obtain ⟨rfl, _⟩ := ru.inv_v
      split at h
      · cases h; rename_i hi; exact .inr ⟨k, i, rfl, hi, rfl⟩
      · cases h
    · cases h
theorem run_sliceBound {P : Program} {w : World} {k : IntKind} {i : Int} {y : Nat} {code : BoundsCode} (h0 : 0 ≤ i) (h1 : i.toNat ≤ y) : (Instr.sliceBound (.int k i) y code).run P w = .ok i.toNat w := by
  have : i ≤ (y : Int) := by omega
  simp [Instr.sliceBound, asIntOf, h0, this]

/-- Low, high, most, under a length and a room of which 'most' at least is there. -/
theorem run_sliceBounds {P : Program} {w : World} {isSlice : Bool} {len cap l h m : Nat} {lo hi mx : Option Value} {nl nh nm : Option Nat}
    (el : (nl = none ∧ lo = none) ∨ ∃ k i, lo = some (.int k i) ∧ 0 ≤ i ∧ nl = some i.toNat)
    (eh : (nh = none ∧ hi = none) ∨ ∃ k i, hi = some (.int k i) ∧ 0 ≤ i ∧ nh = some i.toNat)
    (em : (nm = none ∧ mx = none) ∨ ∃ k i, mx = some (.int k i) ∧ 0 ≤ i ∧ nm = some i.toNat)
    (hm : nm.getD cap = m) (hh : nh.getD len = h) (hl : nl.getD 0 = l) (h1 : m ≤ cap) (h2 : h ≤ m) (h3 : l ≤ h) (h4 : nm ≠ none → nh ≠ none) :
    (Instr.sliceBounds isSlice len cap lo hi mx).run P w = .ok (l, h, m) w := by
  subst hm hh hl
  rcases el with ⟨rfl, rfl⟩ | ⟨k1, i1, rfl, a1, rfl⟩ <;> rcases eh with ⟨rfl, rfl⟩ | ⟨k2, i2, rfl, a2, rfl⟩ <;> rcases em with ⟨rfl, rfl⟩ | ⟨k3, i3, rfl, a3, rfl⟩ <;>
    simp only [Option.getD_some, Option.getD_none] at h1 h2 h3 ⊢ <;>
    first
      | simp [Instr.sliceBounds, run_sliceBound, *]; done
      | exact absurd rfl (h4 (by simp))

def lowRoom (r : Room) (l : Nat) (m : Option Nat) : Room :=
  match m with
  | some m => .known (m - l)
  | none => if l = 0 then r else match r with | .known q => .known (q - l) | _ => .unk

/-- A part of a slice, of an array that lies in memory, of a string. -/
def aSlice (P : Program) (t : TypeId) (x : AV) (lo hi mx : Option AV) (m : Mem) : Option AV :=
  (natOf lo).bind fun nl => (natOf hi).bind fun nh => (natOf mx).bind fun nm =>
  if nm ≠ none ∧ nh = none then none else
  match isSl P t with
  | some e => (szOf P e).bind fun z => match x with
    | .own n ver off len sz r =>
      if nl.getD 0 ≤ nh.getD len ∧ nh.getD len ≤ nm.getD len ∧ nm.getD len ≤ len ∧ sz = z then some (.own n ver (off + nl.getD 0 * sz) (nh.getD len - nl.getD 0) sz (lowRoom r (nl.getD 0) nm)) else none
    | .sl nn xs len cap =>
      if nl.getD 0 ≤ nh.getD len ∧ nh.getD len ≤ nm.getD len ∧ nm.getD len ≤ len then
        some (.sl (nn || decide (0 < len)) ((xs.drop (nl.getD 0 * z)).take ((nh.getD len - nl.getD 0) * z)) (nh.getD len - nl.getD 0) (match nm with | some q => some (q - nl.getD 0) | none => cap.map (· - nl.getD 0))) else none
    | _ => none
  | none => match isArr P t with
    | some (N, e) => (szOf P e).bind fun z =>
      if nl.getD 0 ≤ nh.getD N ∧ nh.getD N ≤ nm.getD N ∧ nm.getD N ≤ N then
        match x with
        | .ptr n ver off => match m n with
          | some k => if ver = k.ver ∧ off + N * z ≤ k.cells.length ∧ N < 1000000 then some (.own n ver (off + nl.getD 0 * z) (nh.getD N - nl.getD 0) z (.known (nm.getD N - nl.getD 0))) else none
          | none => none
        | .at_ xs => if N < 1000000 then some (.sl true ((xs.drop (nl.getD 0 * z)).take ((nh.getD N - nl.getD 0) * z)) (nh.getD N - nl.getD 0) (some (nm.getD N - nl.getD 0))) else none
        | _ => none
      else none
    | none => none

theorem relSl {c : Ctx} {nn : Bool} {xs : List AV} {len : Nat} {cap : Option Nat} {a : Option Addr} {cp : Nat} (r : Rel c (.sl nn xs len cap) (.slice a len cp)) {l h m z : Nat} {cap' : Option Nat} (h1 : l ≤ h) (h2 : h ≤ m) (h3 : m ≤ cp)
    (hlen : h ≤ len) (hc' : ∀ q, cap' = some q → m - l = q) : Rel c (.sl (nn || decide (0 < len)) ((xs.drop (l * z)).take ((h - l) * z)) (h - l) cap') (.slice (if m = l then a else a.map (·.add (l * z))) (h - l) (m - l)) := by
  cases r with
  | sl f hl hm hc hn ha hx hr =>
    have hlm : m - l ≤ maxLen := by omega
    have g : ∀ i x, ((xs.drop (l * z)).take ((h - l) * z))[i]? = some x → xs[l * z + i]? = some x ∧ i < (h - l) * z := fun i x hi => by
      rw [List.getElem?_take] at hi
      split at hi
      · rename_i hlt; rw [List.getElem?_drop] at hi; exact ⟨hi, hlt⟩
      · cases hi
    refine .sl (fun i => f (l * z + i)) (by omega) hlm hc' (fun e => ?_) (fun p e hp => ?_) (fun i x hi => ?_) (fun i x hi => hr _ x (g i x hi).1)
    · have hnone : a = none := by
        split at e
        · exact e
        · cases a with
          | none => rfl
          | some a => cases e
      obtain ⟨e1, e2, e3⟩ := hn hnone
      subst e1 e3
      simp
      omega
    · split at e
      · exact ha p e (by omega)
      · cases a with
        | none => cases e
        | some q =>
          cases e
          have := ha q rfl (by omega)
          simp only [Addr.add]
          split
          · exact this
          · rfl
    · obtain ⟨g1, g2⟩ := g i x hi
      obtain ⟨b, o, e1, e2, e3⟩ := hx _ x g1
      subst e1
      have hne : m ≠ l := by
        intro e
        have : h - l = 0 := by omega
        rw [this] at g2
        omega
      exact ⟨b, o + l * z, by rw [if_neg hne]; simp [addr_add], e2, by rw [Nat.add_assoc]; exact e3⟩

theorem relOwn {c : Ctx} {n ver off len sz : Nat} {rm : Room} {a : Option Addr} {cp : Nat} (r : Rel c (.own n ver off len sz rm) (.slice a len cp)) {l h m : Nat} {nm : Option Nat} (h1 : l ≤ h) (h2 : h ≤ m) (h3 : m ≤ cp) (hlen : h ≤ len)
    (hnm : (nm = none ∧ m = cp) ∨ nm = some m) : Rel c (.own n ver (off + l * sz) (h - l) sz (lowRoom rm l nm)) (.slice (if m = l then a else a.map (·.add (l * sz))) (h - l) (m - l)) := by
  cases r with
  | own hk hv hl hm hn ha =>
    refine .own hk hv (by omega) (by omega) (fun e => ?_) fun e => ?_
    · have hnone : a = none := by
        split at e
        · exact e
        · cases a with
          | none => rfl
          | some a => cases e
      have := hn hnone
      omega
    · rcases ha e with ⟨rfl, rfl, rfl, h4, h5⟩ | ⟨g, o, cs, t, g1, rfl, g3, g4, g5, g6⟩
      · have : l = 0 := by omega
        subst this
        exact .inl ⟨by simp, by omega, by omega, h4, by simp [h5]⟩
      · refine .inr ⟨g, if m = l then o else o + l * sz, cs, t, g1, ?_, ?_, ?_, g5, ?_⟩
        · split
          · rfl
          · simp [addr_add]
        · intro hpos
          rw [if_neg (by omega), g3 (by omega)]
        · have : l * sz + (h - l) * sz = h * sz := by rw [← Nat.add_mul]; congr 1; omega
          have : h * sz ≤ len * sz := Nat.mul_le_mul_right _ hlen
          omega
        · rcases hnm with ⟨rfl, rfl⟩ | rfl
          · simp only [lowRoom]
            by_cases hl0 : l = 0
            · subst hl0
              simp only [if_true, Nat.zero_mul, Nat.add_zero, Nat.sub_zero]
              cases rm with
              | whole e => simp only [ite_self]; exact g6
              | known q => exact g6
              | unk => trivial
            · rw [if_neg hl0]
              cases rm with
              | whole e => trivial
              | known q => simp only at g6 ⊢; omega
              | unk => trivial
          · rfl

theorem aSlice_sound {P : Program} {c : Ctx} {w0 : World} (M : MemOk c w0) {t : TypeId} {x y : AV} {lo hi mx : Option AV} {v : Value} {vl vh vm : Option Value} (h : aSlice P t x lo hi mx c.m = some y) (r : Rel c x v)
    (rl : ∀ y, lo = some y → ∃ u, vl = some u ∧ Rel c y u) (rl' : lo = none → vl = none) (rh : ∀ y, hi = some y → ∃ u, vh = some u ∧ Rel c y u) (rh' : hi = none → vh = none) (rm : ∀ y, mx = some y → ∃ u, vm = some u ∧ Rel c y u) (rm' : mx = none → vm = none) :
    Good P c w0 (Instr.sliceAt t v vl vh vm) (y, none) := by
  unfold aSlice at h
  obtain ⟨nl, hnl, h⟩ := Option.bind_eq_some_iff.1 h
  obtain ⟨nh, hnh, h⟩ := Option.bind_eq_some_iff.1 h
  obtain ⟨nm, hnm, h⟩ := Option.bind_eq_some_iff.1 h
  have el := natOf_sound hnl rl rl'
  have eh := natOf_sound hnh rh rh'
  have em := natOf_sound hnm rm rm'
  split at h
  · cases h
  rename_i hguard
  have h4 : nm ≠ none → nh ≠ none := fun a b => hguard ⟨a, b⟩
  split at h
  · rename_i e he
    have hu := isSl_some he
    obtain ⟨z, hz, h⟩ := Option.bind_eq_some_iff.1 h
    cases x with
    | own n ver off len sz rm0 =>
      simp only at h
      split at h
      · rename_i hb
        obtain ⟨b1, b2, b3, rfl⟩ := hb
        cases h
        obtain ⟨a, cp, rfl⟩ := slLen_sound (n := len) rfl r
        have hl : len ≤ cp := by cases r; assumption
        have hbd := run_sliceBounds (P := P) (w := c.w) (isSlice := true) (len := len) (cap := cp) (m := nm.getD cp) el eh em rfl rfl rfl (by cases nm <;> simp at b3 ⊢; omega) (by cases nm <;> simp at b2 b3 ⊢ <;> omega) b1 h4
        refine Good.same ?_ M (relOwn r (m := nm.getD cp) b1 (by cases nm <;> simp at b2 b3 ⊢ <;> omega) (by cases nm <;> simp at b3 ⊢; omega) (by cases nm <;> simp at b2 b3 <;> omega) (by cases nm <;> simp))
        simp [Instr.sliceAt, Instr.slice, run_underlying hu, hbd, run_sizeOf hz]
      · cases h
    | sl nn xs len cap =>
      simp only at h
      split at h
      · rename_i hb
        obtain ⟨b1, b2, b3⟩ := hb
        cases h
        obtain ⟨a, cp, rfl⟩ := slLen_sound (n := len) rfl r
        have hl : len ≤ cp := by cases r; assumption
        have hcap : ∀ q, cap = some q → cp = q := by cases r; assumption
        have hbd := run_sliceBounds (P := P) (w := c.w) (isSlice := true) (len := len) (cap := cp) (m := nm.getD cp) el eh em rfl rfl rfl (by cases nm <;> simp at b3 ⊢; omega) (by cases nm <;> simp at b2 b3 ⊢ <;> omega) b1 h4
        refine Good.same ?_ M (relSl r (m := nm.getD cp) (z := z) b1 (by cases nm <;> simp at b2 b3 ⊢ <;> omega) (by cases nm <;> simp at b3 ⊢; omega) (by cases nm <;> simp at b2 b3 <;> omega) (fun q hq => ?_))
        · simp [Instr.sliceAt, Instr.slice, run_underlying hu, hbd, run_sizeOf hz]
        · cases nm with
          | none =>
            simp only [Option.map_eq_some_iff] at hq
            obtain ⟨q', e1, rfl⟩ := hq
            simp [hcap q' e1]
          | some q' => simpa using hq
      · cases h
    | _ => cases h
  · split at h
    · rename_i N e he
      have hu := isArr_some he
      obtain ⟨z, hz, h⟩ := Option.bind_eq_some_iff.1 h
      split at h
      · rename_i hb
        obtain ⟨b1, b2, b3⟩ := hb
        have hbd := run_sliceBounds (P := P) (w := c.w) (isSlice := false) (len := N) (cap := N) (m := nm.getD N) el eh em rfl rfl rfl b3 b2 b1 h4
        cases x with
        | ptr n ver off =>
          simp only at h
          split at h
          · rename_i k hk
            split at h
            · rename_i hh
              obtain ⟨rfl, hfit, hN⟩ := hh
              cases h
              cases r with
              | @ptr _ _ _ k' a hk' hv ha =>
                rw [hk] at hk'; cases hk'
                obtain ⟨g, hg, rfl⟩ := ha rfl
                rcases M.blk n k hk with ⟨h1, _⟩ | ⟨g', cs, tt, h1, _, hh, hc⟩
                · rw [hg] at h1; cases h1
                · rw [hg] at h1; cases h1
                  refine Good.same (v := .slice (some (if nm.getD N = nl.getD 0 then ⟨g, off, none⟩ else (⟨g, off, none⟩ : Addr).add (nl.getD 0 * z))) (nh.getD N - nl.getD 0) (nm.getD N - nl.getD 0)) ?_ M (.own hk (Nat.le_refl _) (by omega) (by simp only [maxLen]; omega) (fun e => by cases e) fun _ => .inr ⟨g, if nm.getD N = nl.getD 0 then off else off + nl.getD 0 * z, cs, tt, hg, ?_, ?_, ?_, hh, rfl⟩)
                  · simp [Instr.sliceAt, run_underlying hu, hbd, run_sizeOf hz, Instr.sureAddr]
                  · split <;> simp [addr_add]
                  · intro hpos; rw [if_neg (by omega)]
                  · have e1 : nl.getD 0 * z + (nh.getD N - nl.getD 0) * z = nh.getD N * z := by rw [← Nat.add_mul]; congr 1; omega
                    have e2 : nh.getD N * z ≤ N * z := Nat.mul_le_mul_right _ (by omega)
                    omega
            · cases h
          · cases h
        | at_ xs =>
          simp only at h
          split at h
          · rename_i hN
            cases h
            cases r with
            | @at_ _ b o f hx hr =>
              have r0 : Rel c (.sl true xs N (some N)) (.slice (some ⟨b, o, none⟩) N N) :=
                .sl f (Nat.le_refl _) (by simp only [maxLen]; omega) (fun q e => by cases e; rfl) (fun e => by cases e) (fun p e _ => by cases e; rfl) (fun i x hi => ⟨b, o, rfl, hx i x hi⟩) hr
              have := relSl r0 (m := nm.getD N) (z := z) (cap' := some (nm.getD N - nl.getD 0)) b1 b2 b3 (by omega) (fun q e => by cases e; rfl)
              simp only [Bool.true_or] at this
              refine Good.same ?_ M this
              simp [Instr.sliceAt, run_underlying hu, hbd, run_sizeOf hz, Instr.sureAddr]
              split <;> rfl
          · cases h
        | _ => cases h
      · cases h
    · cases h
end Go.Pm

/- A machine of values: what is built, appended, copied. -/
namespace Go.Pm
open Go.RowKit
set_option linter.unusedVariables false
set_option linter.unusedSimpArgs false

/-- Parts laid over cells. -/
def aFill (place : Nat → Option (Nat × Nat)) : List AV → List (Nat × AV) → Option (List AV)
  | cells, [] => some cells
  | cells, (i, x) :: rest => (place i).bind fun os => if x.cells.length = os.2 ∧ os.1 + x.cells.length ≤ cells.length then aFill place (splice cells os.1 x.cells) rest else none

theorem fold_set (vs : List Value) : ∀ (k off : Nat) (cells : Array Value), off + k + vs.length ≤ cells.size →
    ((vs.zipIdx k).foldl (fun cs (c, j) => cs.setIfInBounds (off + j) c) cells).toList = splice cells.toList (off + k) vs := by
  induction vs with
  | nil => intro k off cells h; simp [splice]
  | cons v vs ih =>
    intro k off cells h
    simp only [List.zipIdx_cons, List.foldl_cons]
    simp only [List.length_cons] at h
    rw [ih (k + 1) off _ (by simp; omega)]
    apply List.ext_getElem?
    intro i
    rw [splice_get (by simp; omega), splice_get (by simp; omega)]
    simp only [Array.toList_setIfInBounds, List.getElem?_set, Array.length_toList, List.length_cons]
    by_cases h1 : i = off + k
    · subst h1
      rw [if_neg (by omega), if_pos rfl, if_pos (by omega), if_pos (by omega)]
      simp
    · by_cases h2 : off + (k + 1) ≤ i ∧ i < off + (k + 1) + vs.length
      · rw [if_pos h2, if_pos (by omega)]
        have : i - (off + k) = (i - (off + (k + 1))) + 1 := by omega
        rw [this]; simp
      · rw [if_neg h2, if_neg (by omega), if_neg (by omega)]

theorem aFill_sound {c : Ctx} {place : Nat → Option (Nat × Nat)} : ∀ {ps : List (Nat × AV)} {qs : List (Nat × Value)} {xs ys : List AV} {cs : Array Value}, aFill place xs ps = some ys → RelL c xs cs.toList →
    ps.map (·.1) = qs.map (·.1) → (∀ (i : Nat) a, ps[i]? = some a → ∃ b, qs[i]? = some b ∧ Rel c a.2 b.2) → ∃ ds, Instr.fill place cs qs = some ds ∧ RelL c ys ds.toList := by
  intro ps
  induction ps with
  | nil =>
    intro qs xs ys cs h r hm hr
    cases h
    have : qs = [] := by simpa using hm.symm
    subst this
    exact ⟨cs, rfl, r⟩
  | cons p ps ih =>
    intro qs xs ys cs h r hm hr
    obtain ⟨i, x⟩ := p
    cases qs with
    | nil => simp at hm
    | cons q qs =>
      obtain ⟨i', u⟩ := q
      simp only [List.map_cons, List.cons.injEq] at hm
      obtain ⟨rfl, hm⟩ := hm
      obtain ⟨b, e, ru⟩ := hr 0 (i, x) rfl
      simp at e; subst e
      simp only [aFill] at h
      obtain ⟨⟨o, s⟩, hp, h⟩ := Option.bind_eq_some_iff.1 h
      split at h
      · rename_i hs
        obtain ⟨hs1, hs2⟩ := hs
        have rc := ru.cells
        have hcs : u.cells.size = x.cells.length := by have := rc.1; simpa using this.symm
        have hl : cs.size = xs.length := by have := r.1; simpa using this.symm
        have hf := fold_set u.cells.toList 0 o cs (by simp; simp at hs2; omega)
        simp only [Nat.add_zero] at hf
        have rs : RelL c (splice xs o x.cells) (splice cs.toList o u.cells.toList) := by
          unfold splice
          rw [← rc.1]
          exact ((r.take _).append rc).append (r.drop _)
        have hz : (u.cells.zipIdx).toList = u.cells.toList.zipIdx := by simp
        obtain ⟨ds, e1, e2⟩ := ih (cs := u.cells.zipIdx.foldl (fun cs (c, j) => cs.setIfInBounds (o + j) c) cs) h (by rw [← Array.foldl_toList, hz, hf]; exact rs) hm (fun i a ha => by simpa using hr (i + 1) a (by simpa using ha))
        refine ⟨ds, ?_, e2⟩
        simp only [Instr.fill, hp]
        rw [if_neg]
        · exact e1
        · simp only [hcs, ne_eq, Bool.or_eq_true, decide_eq_true_eq, not_or, hs1]
          refine ⟨by simp, by simp at hs2; omega⟩
      · cases h

/-- The zero value's cells. -/
def zeroOf (P : Program) (t : TypeId) : Option (List AV) := ((P.info? t).bind (·.zero)).bind fun z => if flatV z = true then some (ofV z).cells else none
theorem zeroOf_sound {P : Program} {t : TypeId} {xs : List AV} (h : zeroOf P t = some xs) (c : Ctx) : ∃ z, (∀ w, (zeroValue t).run P w = .ok z w) ∧ RelL c xs z.cells.toList ∧ (P.info? t).bind (·.zero) = some z := by
  unfold zeroOf at h
  obtain ⟨z, hz, h⟩ := Option.bind_eq_some_iff.1 h
  split at h
  · rename_i hf
    cases h
    refine ⟨z, fun w => ?_, (Rel.ofV c z).cells, hz⟩
    obtain ⟨i, hi, hz'⟩ := Option.bind_eq_some_iff.1 hz
    simp [zeroValue, typeInfo, hi, hz']
  · cases h

def placesOf (P : Program) (t : TypeId) (i : Nat) : Option (Nat × Nat) :=
  match isArr P t with
  | some (_, e) => (szOf P e).map fun s => (i * s, s)
  | none => (fieldOf P t i).bind fun ot => (szOf P ot.2).map fun s => (ot.1, s)
/-- Are all fields' sizes known? -/
def sizesOk (P : Program) (t : TypeId) : Bool :=
  match P.underlying t with
  | some (.struct fs) => fs.all fun f => (szOf P f.type).isSome
  | some (.array _ e) => (szOf P e).isSome
  | _ => false

theorem mapM_places {P : Program} {w : World} : ∀ (l : List Field), (∀ f ∈ l, (szOf P f.type).isSome = true) →
    (l.mapM fun f => (do pure (f.offset, ← sizeOf f.type) : Sem (Nat × Nat))).run P w = .ok (l.map fun f => (f.offset, (szOf P f.type).getD 0)) w := by
  intro l
  induction l with
  | nil => intro _; rfl
  | cons f l ih =>
    intro h
    obtain ⟨n, hn⟩ := Option.isSome_iff_exists.1 (h f (List.mem_cons_self ..))
    have ih' := ih fun g hg => h g (List.mem_cons_of_mem _ hg)
    simp only [List.mapM_cons, Sem.run_bind, run_sizeOf hn, Result.andThen_ok, Sem.run_pure, ih', List.map_cons, hn, Option.getD_some]

def aBuild (P : Program) (t : TypeId) (ps : List (Nat × AV)) : Option AV :=
  if sizesOk P t = true then (zeroOf P t).bind fun z => (aFill (placesOf P t) z ps).map .agg else none
theorem fill_congr {p q : Nat → Option (Nat × Nat)} (h : ∀ i, p i = q i) (cs : Array Value) (ps : List (Nat × Value)) : Instr.fill p cs ps = Instr.fill q cs ps := by
  have : p = q := funext h
  rw [this]
theorem aBuild_sound {P : Program} {c : Ctx} {w0 : World} (M : MemOk c w0) {t : TypeId} {ps : List (Nat × AV)} {qs : Array (Nat × Value)} {y : AV} (h : aBuild P t ps = some y)
    (hm : ps.map (·.1) = qs.toList.map (·.1)) (hr : ∀ (i : Nat) a, ps[i]? = some a → ∃ b, qs.toList[i]? = some b ∧ Rel c a.2 b.2) : Good P c w0 (Instr.build t qs) (y, none) := by
  unfold aBuild at h
  split at h
  · rename_i hs
    obtain ⟨z, hz, h⟩ := Option.bind_eq_some_iff.1 h
    obtain ⟨ys, hy, rfl⟩ := Option.map_eq_some_iff.1 h
    obtain ⟨zv, hzr, rz, _⟩ := zeroOf_sound hz c
    obtain ⟨ds, hf, rd⟩ := aFill_sound hy rz hm hr
    refine Good.same (v := .agg ds) ?_ M (.mkAgg rd)
    unfold sizesOk at hs
    cases hu : P.underlying t with
    | none => rw [hu] at hs; cases hs
    | some d =>
      rw [hu] at hs
      cases d with
      | array n e =>
        simp only at hs
        obtain ⟨s, hs⟩ := Option.isSome_iff_exists.1 hs
        have hp : placesOf P t = fun i => some (i * s, s) := by funext i; simp [placesOf, isArr, hu, hs]
        rw [hp] at hf
        simp [Instr.build, hzr, run_underlying hu, run_sizeOf hs, hf]
      | struct fs =>
        simp only at hs
        have hall : ∀ f ∈ fs.toList, (szOf P f.type).isSome = true := fun f hf' => by
          have := Array.all_eq_true_iff_forall_mem.1 hs f (Array.mem_toList_iff.1 hf')
          exact this
        have hmm := mapM_places (P := P) (w := c.w) fs.toList hall
        have hp : ∀ i, placesOf P t i = (fs.map fun f => (f.offset, (szOf P f.type).getD 0))[i]? := fun i => by
          simp only [placesOf, isArr, hu, fieldOf, Array.getElem?_map]
          cases e : fs[i]? with
          | none => rfl
          | some f =>
            have hin : f ∈ fs.toList := Array.mem_toList_iff.2 (Array.mem_of_getElem? e)
            obtain ⟨n, hn⟩ := Option.isSome_iff_exists.1 (hall f hin)
            simp [hn]
        rw [fill_congr hp] at hf
        have hmm' : (fs.mapM fun f => (do pure (f.offset, ← sizeOf f.type) : Sem (Nat × Nat))).run P c.w = .ok (fs.map fun f => (f.offset, (szOf P f.type).getD 0)) c.w := by
          rw [Array.mapM_eq_mapM_toList]
          simp only [Sem.run_map, hmm, Result.andThen_ok]
          congr 1
          apply Array.toList_inj.1
          simp
        simp only [Instr.build, Sem.run_bind, hzr, Result.andThen_ok, run_underlying hu, hmm', hf]
        rfl
      | _ => cases hs
  · cases h

/-- A new variable of a type. -/
def aNew (m : Mem) (n : Nat) (xs : List AV) : Eff := (.ptr n (verNext m n) 0, some (n, ⟨verNext m n, xs⟩))
def aAlloc (P : Program) (t : TypeId) (m : Mem) (n : Nat) : Option Eff := (zeroOf P t).map (aNew m n)
theorem aAlloc_sound {P : Program} {c : Ctx} {w0 : World} (M : MemOk c w0) {t : TypeId} {n : Nat} {e : Eff} (h : aAlloc P t c.m n = some e) : Good P c w0 (Instr.alloc t true (.tuple #[])) e := by
  obtain ⟨xs, hz, rfl⟩ := Option.map_eq_some_iff.1 h
  obtain ⟨z, hr, rl, _⟩ := zeroOf_sound hz c
  refine (good_new (P := P) M n t rl).congr ?_
  simp [Instr.alloc, hr, newVar]
theorem aBox_sound {P : Program} {c : Ctx} {w0 : World} (M : MemOk c w0) {t : TypeId} {n : Nat} {x : AV} {v : Value} (r : Rel c x v) : Good P c w0 (Instr.box t v) (aNew c.m n x.cells) :=
  (good_new (P := P) M n t r.cells).congr (by simp [Instr.box, newVar])

/-- A slice's new cells. -/
theorem good_slice {P : Program} {c : Ctx} {w0 : World} (M : MemOk c w0) (n len cap z : Nat) (e : TypeId) {xs : List AV} {cs : Array Value} (hx : ∀ (i : Nat) x, xs[i]? = some x → ∃ y, cs[i]? = some y ∧ Rel c x y) (hl : len ≤ cap) (hm : cap ≤ maxLen) (hs : cs.size = cap * z) (hlen : xs.length = len * z) :
    Good P c w0 (do pure (.slice (some (← newRow e cs)) len cap)) (.own n (verNext c.m n) 0 len z (.whole e), some (n, ⟨verNext c.m n, xs⟩)) := by
  obtain ⟨hle, hM⟩ := step_new M n xs cs e hx
  refine ⟨.slice (some ⟨c.w.heap.size, 0, none⟩) len cap, _, _, by simp only [Sem.run_bind, run_newRow, Result.andThen_ok, Sem.run_pure], hle, hM, ?_⟩
  exact .own (upd_eq _ _ _) (Nat.le_refl _) hl hm (fun e => by cases e) fun _ => .inr ⟨_, 0, cs, e, upd_eq _ _ _, rfl, fun _ => rfl, by simp [hlen], heap_alloc_new _ _, rfl, rfl, rfl, hs⟩

/-- So many zero values. -/
def zeros (n : Nat) (z : List AV) : List AV := match z with | [x] => List.replicate n x | _ => (List.replicate n z).flatten
theorem flatten_get {α : Type} (z : List α) (hz : 0 < z.length) : ∀ (n i : Nat), i < n * z.length → (List.replicate n z).flatten[i]? = z[i % z.length]? := by
  intro n
  induction n with
  | zero => intro i h; simp at h
  | succ n ih =>
    intro i h
    simp only [List.replicate_succ, List.flatten_cons]
    by_cases hi : i < z.length
    · rw [List.getElem?_append_left hi, Nat.mod_eq_of_lt hi]
    · rw [List.getElem?_append_right (by omega), ih _ (by rw [Nat.succ_mul] at h; omega)]
      congr 1
      exact (Nat.mod_eq_sub_mod (by omega)).symm
theorem zeros_len (n : Nat) (z : List AV) : (zeros n z).length = n * z.length := by
  unfold zeros
  split
  · simp
  · simp
theorem zeros_get {n : Nat} {z : List AV} {i : Nat} {x : AV} (h : (zeros n z)[i]? = some x) : i < n * z.length ∧ z[i % z.length]? = some x := by
  have hlt : i < n * z.length := by have := (List.getElem?_eq_some_iff.1 h).1; rwa [zeros_len] at this
  refine ⟨hlt, ?_⟩
  unfold zeros at h
  split at h
  · rename_i y
    simp only [List.length_cons, List.length_nil, Nat.zero_add, Nat.mul_one] at hlt
    rw [List.getElem?_replicate, if_pos hlt] at h
    simpa [Nat.mod_one] using h
  · have hz : 0 < z.length := by
      rcases Nat.eq_zero_or_pos z.length with e | e
      · rw [e] at hlt; simp at hlt
      · exact e
    rwa [flatten_get z hz _ _ hlt] at h
theorem zeros_rel {c : Ctx} {z : List AV} {zs : Array Value} (r : RelL c z zs.toList) (n N : Nat) (hN : n ≤ N) : ∀ (i : Nat) x, (zeros n z)[i]? = some x → ∃ y, ((Array.range (N * zs.size)).map (zs[· % zs.size]!))[i]? = some y ∧ Rel c x y := by
  intro i x h
  obtain ⟨hlt, hx⟩ := zeros_get h
  obtain ⟨y, e, ry⟩ := r.2 _ x hx
  have hl : z.length = zs.size := by simpa using r.1
  have : n * z.length ≤ N * zs.size := by rw [hl]; exact Nat.mul_le_mul_right _ hN
  have hz : 0 < zs.size := by
    rcases Nat.eq_zero_or_pos zs.size with e | e
    · rw [hl, e] at hlt; simp at hlt
    · exact e
  refine ⟨y, ?_, ry⟩
  rw [hl] at e
  have e' : zs[i % zs.size]? = some y := by simpa using e
  simp only [Array.getElem?_map]
  rw [Array.getElem?_range, if_pos (by omega)]
  simp only [Option.map_some]
  congr 1
  rw [getElem!_def, e']

theorem range0 (f : Nat → Value) : (Array.range 0).map f = #[] := Array.eq_empty_of_size_eq_zero (by simp)

def aBuildSlice (P : Program) (t : TypeId) (len : Nat) (ps : List (Nat × AV)) (m : Mem) (n : Nat) : Option Eff :=
  (isSl P t).bind fun e => (szOf P e).bind fun s => (zeroOf P e).bind fun z =>
    if z.length = s ∧ 0 < s ∧ len * s ≤ 16777216 ∧ len ≤ 16777216 then (aFill (fun i => some (i * s, s)) (zeros len z) ps).map fun xs => (.own n (verNext m n) 0 len s (.whole e), some (n, ⟨verNext m n, xs⟩)) else none
theorem aFill_len {place : Nat → Option (Nat × Nat)} : ∀ {ps : List (Nat × AV)} {xs ys : List AV}, aFill place xs ps = some ys → ys.length = xs.length := by
  intro ps
  induction ps with
  | nil => intro xs ys h; cases h; rfl
  | cons p ps ih =>
    intro xs ys h
    obtain ⟨i, x⟩ := p
    simp only [aFill] at h
    obtain ⟨os, _, h⟩ := Option.bind_eq_some_iff.1 h
    split at h
    · rename_i hs; rw [ih h, splice_length hs.2]
    · cases h
theorem aBuildSlice_sound {P : Program} {c : Ctx} {w0 : World} (M : MemOk c w0) {t : TypeId} {len n : Nat} {ps : List (Nat × AV)} {qs : Array (Nat × Value)} {e : Eff} (h : aBuildSlice P t len ps c.m n = some e)
    (hm : ps.map (·.1) = qs.toList.map (·.1)) (hr : ∀ (i : Nat) a, ps[i]? = some a → ∃ b, qs.toList[i]? = some b ∧ Rel c a.2 b.2) : Good P c w0 (Instr.buildSlice t len qs) e := by
  unfold aBuildSlice at h
  obtain ⟨el, he, h⟩ := Option.bind_eq_some_iff.1 h
  obtain ⟨s, hs, h⟩ := Option.bind_eq_some_iff.1 h
  obtain ⟨z, hz, h⟩ := Option.bind_eq_some_iff.1 h
  split at h
  · rename_i hh
    obtain ⟨h1, h2, h3, h4⟩ := hh
    obtain ⟨xs, hf, rfl⟩ := Option.map_eq_some_iff.1 h
    obtain ⟨zv, hzr, rz, _⟩ := zeroOf_sound hz c
    have hzs : zv.cells.size = s := by have := rz.1; simp at this; omega
    have rz' : RelL c (zeros len z) ((Array.range (len * s)).map (zv.cells[· % zv.cells.size]!)).toList := by
      refine ⟨by simp [zeros_len, h1], fun i x hx => ?_⟩
      obtain ⟨y, e, r⟩ := zeros_rel rz len len (Nat.le_refl _) i x hx
      rw [hzs] at e
      exact ⟨y, by rw [Array.getElem?_toList, hzs]; exact e, r⟩
    have hu := isSl_some he
    by_cases h0 : len * s = 0
    · have hl0 : len = 0 := by
        rcases Nat.mul_eq_zero.1 h0 with h | h
        · exact h
        · omega
      subst hl0
      have hzn : zeros 0 z = [] := List.eq_nil_of_length_eq_zero (by simp [zeros_len])
      rw [hzn] at hf
      obtain ⟨ds, hfd, rd⟩ := aFill_sound (cs := #[]) hf (.nil c) hm hr
      have hdl : ds.size = 0 := by have := rd.1; rw [aFill_len hf] at this; simpa using this.symm
      refine (good_slice (P := P) M n 0 0 s el (relL_at rd) (Nat.le_refl _) (by simp [maxLen]) (by simpa using hdl) (by rw [aFill_len hf]; simp)).congr ?_
      simp [Instr.buildSlice, run_underlying hu, run_sizeOf hs, hfd, range0]
    · obtain ⟨ds, hfd, rd⟩ := aFill_sound hf rz' hm hr
      have hdl : ds.size = len * s := by have := rd.1; rw [aFill_len hf, zeros_len, h1] at this; simpa using this.symm
      refine (good_slice (P := P) M n len len s el (relL_at rd) (Nat.le_refl _) (by simp only [maxLen]; omega) hdl (by rw [aFill_len hf, zeros_len, h1])).congr ?_
      have : ¬ (16777216 < len * s) := by omega
      simp [Instr.buildSlice, run_underlying hu, run_sizeOf hs, this, h0, hzr, hfd]
  · cases h

/-- make([]T, len, cap). -/
def aMakeSlice (P : Program) (t : TypeId) (l c : AV) (m : Mem) (n : Nat) : Option Eff :=
  match l, c with
  | .v (.int _ l), .v (.int _ c) => (isSl P t).bind fun e => (szOf P e).bind fun s => (zeroOf P e).bind fun z => ((P.info? e).map (·.bytes)).bind fun by_ =>
    if z.length = s ∧ 0 < s ∧ 0 ≤ l ∧ l ≤ c ∧ c ≤ 1099511627776 ∧ by_ ≤ 128 then some (.own n (verNext m n) 0 l.toNat s (.whole e), some (n, ⟨verNext m n, zeros l.toNat z⟩)) else none
  | _, _ => none
theorem aMakeSlice_sound {P : Program} {c : Ctx} {w0 : World} (M : MemOk c w0) {t : TypeId} {n : Nat} {x y : AV} {u v : Value} {e : Eff} (h : aMakeSlice P t x y c.m n = some e) (rx : Rel c x u) (ry : Rel c y v) : Good P c w0 (Instr.makeSlice t u v) e := by
  unfold aMakeSlice at h
  split at h
  · rename_i k1 l k2 cp
    obtain ⟨rfl, _⟩ := rx.inv_v
    obtain ⟨rfl, _⟩ := ry.inv_v
    obtain ⟨el, he, h⟩ := Option.bind_eq_some_iff.1 h
    obtain ⟨s, hs, h⟩ := Option.bind_eq_some_iff.1 h
    obtain ⟨z, hz, h⟩ := Option.bind_eq_some_iff.1 h
    obtain ⟨by_, hb, h⟩ := Option.bind_eq_some_iff.1 h
    split at h
    · rename_i hh
      obtain ⟨h1, h2, h3, h4, h5, h6⟩ := hh
      cases h
      obtain ⟨zv, hzr, rz, _⟩ := zeroOf_sound hz c
      have hu := isSl_some he
      have hzs : zv.cells.size = s := by have := rz.1; simp at this; omega
      obtain ⟨i, hi, rfl⟩ := Option.map_eq_some_iff.1 hb
      have hw1 : IntKind.i64.wrap l = l := by simp [IntKind.wrap, IntKind.signed, IntKind.bits]; omega
      have hw2 : IntKind.i64.wrap cp = cp := by simp [IntKind.wrap, IntKind.signed, IntKind.bits]; omega
      have hc : (cp.toNat : Int) = cp := by omega
      have hb1 : ¬ ((281474976710656 : Int) < (i.bytes : Int) * cp) := by
        have : (i.bytes : Int) * cp ≤ 128 * 1099511627776 := Int.mul_le_mul (by omega) (by omega) (by omega) (by omega)
        omega
      have hzx : ∀ (j : Nat) x, (zeros l.toNat z)[j]? = some x → ∃ y, ((Array.range (cp.toNat * s)).map (zv.cells[· % zv.cells.size]!))[j]? = some y ∧ Rel c x y := by
        have := zeros_rel rz l.toNat cp.toNat (by omega)
        rw [hzs] at this ⊢
        exact this
      have hg := good_slice (P := P) M n l.toNat cp.toNat s el hzx (by omega) (by simp only [maxLen]; omega) (by simp) (by rw [zeros_len, h1])
      refine hg.congr ?_
      have e1 : ¬ cp < 0 := by omega
      have e2 : ¬ l < 0 := by omega
      have e3 : ¬ cp < l := by omega
      by_cases h0 : cp.toNat * s = 0
      · have : cp.toNat = 0 := by
          rcases Nat.mul_eq_zero.1 h0 with h | h
          · exact h
          · omega
        simp [Instr.makeSlice, run_underlying hu, asInt, asIntOf, typeInfo, hi, hw1, hw2, hb1, e1, e2, e3, run_sizeOf hs, this, range0]
      · simp [Instr.makeSlice, run_underlying hu, asInt, asIntOf, typeInfo, hi, hw1, hw2, hb1, e1, e2, e3, run_sizeOf hs, h0, hzr]
    · cases h
  · cases h
end Go.Pm
