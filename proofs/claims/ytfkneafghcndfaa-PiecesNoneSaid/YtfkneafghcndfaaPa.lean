/- A machine of values for Go's functions: what its values say of the model's values and memory. -/
import Derived.Below
import Derived.Calls
import Derived.Orders
import Derived.Lib.Hide
namespace Go.Pm
open Go.RowKit
set_option linter.unusedVariables false
set_option linter.unusedSimpArgs false

/-- What is known of what stands behind a slice's end. -/
inductive Room where
  | whole (e : TypeId)
  | known (q : Nat)
  | unk

/-- Kinds of a map's keys' cells. -/
inductive KT where
  | int (k : IntKind)
  | bool
  | str
  deriving DecidableEq
def ktOk : KT → Value → Bool
  | .int k, .int k' _ => decide (k = k')
  | .bool, .bool _ => true
  | .str, .string _ => true
  | _, _ => false
def ktAll : List KT → List Value → Bool
  | [], [] => true
  | l :: ls, x :: xs => ktOk l x && ktAll ls xs
  | _, _ => false
/-- Is a value a key of these kinds? -/
def keyB : Option (Bool × List KT) → Value → Bool
  | some (true, l), .agg cs => ktAll l cs.toList
  | some (false, l), .int k x => ktAll l [.int k x]
  | some (false, l), .bool b => ktAll l [.bool b]
  | some (false, l), .string b => ktAll l [.string b]
  | _, _ => false

/-- A value: a plain one; a slice of a named block; a pointer into one; a slice, a pointer by their cells (memory that stays); a struct or an array by its cells; several results; a function; a map of the call's own; what such a one holds (each entry: a key, a value, its stamp); a walk over one. -/
inductive AV where
  | v (x : Value)
  | own (n ver off len sz : Nat) (r : Room)
  | ptr (n ver off : Nat)
  | sl (nn : Bool) (xs : List AV) (len : Nat) (cap : Option Nat)
  | at_ (xs : List AV)
  | agg (xs : List AV)
  | tup (xs : List AV)
  | fn (f : Fn) (first caps : List AV)
  | mp (n ver : Nat)
  | ip (n ver : Nat)
  | ents (q : Option (Bool × List KT)) (clk : Nat) (xs : List AV)
  | itr (x : AV) (since : Nat) (seen : List Nat) (st : Nat)

/-- A block of the call's own. -/
structure Blk where
  ver : Nat
  cells : List AV

abbrev Mem := Nat → Option Blk

/-- Names, blocks, a world. -/
structure Ctx where
  m : Mem
  ι : Nat → Option Nat
  w : World

/-- A block that the call writes. -/
def Ctx.mine (c : Ctx) (b : Nat) : Prop := ∃ n k, c.m n = some k ∧ c.ι n = some b

/-- Where a handle stands, when it is a block's present one. -/
def OwnAt (c : Ctx) (n : Nat) (k : Blk) (off len sz : Nat) (r : Room) (a : Option Addr) (cp : Nat) : Prop :=
  (a = none ∧ len = 0 ∧ cp = 0 ∧ k.cells = [] ∧ off = 0) ∨
  ∃ g o cs t, c.ι n = some g ∧ a = some ⟨g, o, none⟩ ∧ (0 < cp → o = off) ∧ off + len * sz ≤ k.cells.length ∧ c.w.heap[g]? = some (.cells cs t (0, 0)) ∧
    match r with
    | .whole e => off = 0 ∧ o = 0 ∧ t = e ∧ cs.size = cp * sz
    | .known q => cp = q
    | .unk => True

inductive Rel (c : Ctx) : AV → Value → Prop
  | v {x : Value} : Rel c (.v x) x
  | own {n ver off len sz : Nat} {r : Room} {k : Blk} {a : Option Addr} {cp : Nat} (hk : c.m n = some k) (hv : ver ≤ k.ver) (hl : len ≤ cp) (hm : cp ≤ maxLen) (hn : a = none → cp = 0)
      (ha : ver = k.ver → OwnAt c n k off len sz r a cp) : Rel c (.own n ver off len sz r) (.slice a len cp)
  | ptr {n ver off : Nat} {k : Blk} {a : Addr} (hk : c.m n = some k) (hv : ver ≤ k.ver) (ha : ver = k.ver → ∃ g cs t, c.ι n = some g ∧ a = ⟨g, off, none⟩ ∧ c.w.heap[g]? = some (.cells cs t (0, 0))) : Rel c (.ptr n ver off) (.pointer (some a))
  | mp {n ver : Nat} {k : Blk} {g : Nat} (hk : c.m n = some k) (hv : ver ≤ k.ver) (ha : ver = k.ver → c.ι n = some g) : Rel c (.mp n ver) (.map (some g))
  | ip {n ver : Nat} {k : Blk} {g : Nat} (hk : c.m n = some k) (hv : ver ≤ k.ver) (ha : ver = k.ver → c.ι n = some g) : Rel c (.ip n ver) (.pointer (some ⟨g, 0, none⟩))
  | sl {nn : Bool} {xs : List AV} {len : Nat} {cap : Option Nat} {a : Option Addr} {cp : Nat} (f : Nat → Value) (hl : len ≤ cp) (hm : cp ≤ maxLen) (hc : ∀ q, cap = some q → cp = q)
      (hn : a = none → nn = false ∧ cp = 0 ∧ len = 0) (ha : ∀ p, a = some p → 0 < len → p.spot = none)
      (hx : ∀ i x, xs[i]? = some x → ∃ b o, a = some ⟨b, o, none⟩ ∧ ¬ c.mine b ∧ c.w.cell? ⟨b, o + i, none⟩ = some (f i))
      (hr : ∀ i x, xs[i]? = some x → Rel c x (f i)) : Rel c (.sl nn xs len cap) (.slice a len cp)
  | at_ {xs : List AV} {b o : Nat} (f : Nat → Value) (hx : ∀ i x, xs[i]? = some x → ¬ c.mine b ∧ c.w.cell? ⟨b, o + i, none⟩ = some (f i))
      (hr : ∀ i x, xs[i]? = some x → Rel c x (f i)) : Rel c (.at_ xs) (.pointer (some ⟨b, o, none⟩))
  | agg {xs : List AV} {cs : Array Value} (f : Nat → Value) (hl : xs.length = cs.size) (hx : ∀ i x, xs[i]? = some x → cs[i]? = some (f i)) (hr : ∀ i x, xs[i]? = some x → Rel c x (f i)) : Rel c (.agg xs) (.agg cs)
  | tup {xs : List AV} {cs : Array Value} (f : Nat → Value) (hl : xs.length = cs.size) (hx : ∀ i x, xs[i]? = some x → cs[i]? = some (f i)) (hr : ∀ i x, xs[i]? = some x → Rel c x (f i)) : Rel c (.tup xs) (.tuple cs)
  | fn {f : Fn} {xs ys : List AV} {cs ds : Array Value} (p q : Nat → Value) (hl : xs.length = cs.size) (hx : ∀ i x, xs[i]? = some x → cs[i]? = some (p i)) (hr : ∀ i x, xs[i]? = some x → Rel c x (p i))
      (hl2 : ys.length = ds.size) (hx2 : ∀ i x, ys[i]? = some x → ds[i]? = some (q i)) (hr2 : ∀ i x, ys[i]? = some x → Rel c x (q i)) : Rel c (.fn f xs ys) (.func f cs ds)

/-- What a step keeps. -/
structure Ctx.le (c c' : Ctx) : Prop where
  size : c.w.heap.size ≤ c'.w.heap.size
  m : ∀ n k, c.m n = some k → ∃ k', c'.m n = some k' ∧ k.ver ≤ k'.ver ∧ (k.ver = k'.ver → c'.ι n = c.ι n ∧ k'.cells.length = k.cells.length ∧
    ∀ (b : Nat) (cs : Array Value) (t : TypeId), c.ι n = some b → c.w.heap[b]? = some (Obj.cells cs t (0, 0)) → ∃ cs' : Array Value, c'.w.heap[b]? = some (Obj.cells cs' t (0, 0)) ∧ cs'.size = cs.size)
  keep : ∀ b, ¬ c.mine b → b < c.w.heap.size → c'.w.heap[b]? = c.w.heap[b]? ∧ ¬ c'.mine b

theorem Ctx.le.refl (c : Ctx) : c.le c := ⟨Nat.le_refl _, fun n k h => ⟨k, h, Nat.le_refl _, fun _ => ⟨rfl, rfl, fun b cs t _ h => ⟨cs, h, rfl⟩⟩⟩, fun b h _ => ⟨rfl, h⟩⟩
theorem Ctx.le.trans {a b c : Ctx} (h : a.le b) (g : b.le c) : a.le c where
  size := Nat.le_trans h.size g.size
  m n k hk := by
    obtain ⟨k', h1, h2, h3⟩ := h.m n k hk
    obtain ⟨k2, g1, g2, g3⟩ := g.m n k' h1
    refine ⟨k2, g1, by omega, fun e => ?_⟩
    obtain ⟨e1, e2, e5⟩ := h3 (by omega)
    obtain ⟨e3, e4, e6⟩ := g3 (by omega)
    refine ⟨e3.trans e1, e4.trans e2, fun x cs t hx hh => ?_⟩
    obtain ⟨cs', a1, a2⟩ := e5 x cs t hx hh
    obtain ⟨cs2, a3, a4⟩ := e6 x cs' t (e1.trans hx) a1
    exact ⟨cs2, a3, a4.trans a2⟩
  keep x hx hlt := by
    obtain ⟨h1, h2⟩ := h.keep x hx hlt
    obtain ⟨g1, g2⟩ := g.keep x h2 (Nat.lt_of_lt_of_le hlt h.size)
    exact ⟨g1.trans h1, g2⟩

theorem OwnAt.mono {c c' : Ctx} {n n' : Nat} {k k' : Blk} {off len sz cp : Nat} {r : Room} {a : Option Addr} (h : OwnAt c n k off len sz r a cp) (hι : c'.ι n' = c.ι n) (hl : k'.cells.length = k.cells.length)
    (hb : ∀ (b : Nat) (cs : Array Value) (t : TypeId), c.ι n = some b → c.w.heap[b]? = some (Obj.cells cs t (0, 0)) → ∃ cs' : Array Value, c'.w.heap[b]? = some (Obj.cells cs' t (0, 0)) ∧ cs'.size = cs.size) : OwnAt c' n' k' off len sz r a cp := by
  rcases h with ⟨h1, h2, h3, h4, h5⟩ | ⟨g, o, cs, t, h1, h2, h3, h4, h5, h6⟩
  · refine .inl ⟨h1, h2, h3, ?_, h5⟩
    rw [h4] at hl
    exact List.eq_nil_of_length_eq_zero hl
  · obtain ⟨cs', e1, e2⟩ := hb g cs t h1 h5
    refine .inr ⟨g, o, cs', t, hι.trans h1, h2, h3, by omega, e1, ?_⟩
    cases r with
    | whole e => exact ⟨h6.1, h6.2.1, h6.2.2.1, by rw [e2]; exact h6.2.2.2⟩
    | known q => exact h6
    | unk => trivial

theorem Ctx.le.cell {c c' : Ctx} (h : c.le c') {b i : Nat} {y : Value} (hb : ¬ c.mine b) (hc : c.w.cell? ⟨b, i, none⟩ = some y) : c'.w.cell? ⟨b, i, none⟩ = some y := by
  have hlt := World.block_lt_of_cell? c.w _ hc
  exact (World.cell?_of_block (h.keep b hb hlt).1).trans hc
theorem Ctx.le.notmine {c c' : Ctx} (h : c.le c') {b i : Nat} {y : Value} (hb : ¬ c.mine b) (hc : c.w.cell? ⟨b, i, none⟩ = some y) : ¬ c'.mine b :=
  (h.keep b hb (World.block_lt_of_cell? c.w _ hc)).2

theorem Rel.mono {c c' : Ctx} {x : AV} {y : Value} (h : Rel c x y) (hle : c.le c') : Rel c' x y := by
  induction h with
  | v => exact .v
  | own hk hv hl hm hn ha =>
    obtain ⟨k', h1, h2, h3⟩ := hle.m _ _ hk
    refine .own h1 (by omega) hl hm hn fun e => ?_
    obtain ⟨e1, e2, e3⟩ := h3 (by omega)
    exact (ha (by omega)).mono e1 e2 e3
  | ptr hk hv ha =>
    obtain ⟨k', h1, h2, h3⟩ := hle.m _ _ hk
    refine .ptr h1 (by omega) fun e => ?_
    obtain ⟨e1, e2, e3⟩ := h3 (by omega)
    obtain ⟨g, cs, t, g1, g2, g3⟩ := ha (by omega)
    obtain ⟨cs', g4, _⟩ := e3 g cs t g1 g3
    exact ⟨g, cs', t, e1.trans g1, g2, g4⟩
  | mp hk hv ha =>
    obtain ⟨k', h1, h2, h3⟩ := hle.m _ _ hk
    refine .mp h1 (by omega) fun e => ?_
    obtain ⟨e1, _⟩ := h3 (by omega)
    exact e1.trans (ha (by omega))
  | ip hk hv ha =>
    obtain ⟨k', h1, h2, h3⟩ := hle.m _ _ hk
    refine .ip h1 (by omega) fun e => ?_
    obtain ⟨e1, _⟩ := h3 (by omega)
    exact e1.trans (ha (by omega))
  | sl f hl hm hc hn ha hx hr ih =>
    refine .sl f hl hm hc hn ha (fun i x hi => ?_) ih
    obtain ⟨b, o, h1, h2, h3⟩ := hx i x hi
    exact ⟨b, o, h1, hle.notmine h2 h3, hle.cell h2 h3⟩
  | at_ f hx hr ih => exact .at_ f (fun i x hi => ⟨hle.notmine (hx i x hi).1 (hx i x hi).2, hle.cell (hx i x hi).1 (hx i x hi).2⟩) ih
  | agg f hl hx hr ih => exact .agg f hl hx ih
  | tup f hl hx hr ih => exact .tup f hl hx ih
  | fn p q hl hx hr hl2 hx2 hr2 ih ih2 => exact .fn p q hl hx ih hl2 hx2 ih2
end Go.Pm
