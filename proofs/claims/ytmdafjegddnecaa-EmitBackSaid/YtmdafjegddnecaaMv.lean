import Derived.WalkKit
import Derived.WalkSpells
import Derived.Lib.Hide
import Derived.BigQuiet
import Derived.Deep.QuietTactic
/-
  Small words on worlds, with no program in sight: 'But b w w'' says that a call has turned at most block b of the blocks that were there, and made new ones.
-/
namespace Go.Wb
open Go.RowKit

/-- At most block b of those that were there has turned; new blocks may have come. -/
structure But (b : Nat) (w w' : World) : Prop where
  os : w'.os = w.os
  tape : w'.tape = w.tape
  output : w'.output = w.output
  size : w.heap.size ≤ w'.heap.size
  block : ∀ k, k < w.heap.size → k ≠ b → w'.heap[k]? = w.heap[k]?

theorem But.refl (b : Nat) (w : World) : But b w w := ⟨rfl, rfl, rfl, Nat.le_refl _, fun _ _ _ => rfl⟩
theorem But.trans {b : Nat} {x y z : World} (h : But b x y) (k : But b y z) : But b x z :=
  ⟨k.os.trans h.os, k.tape.trans h.tape, k.output.trans h.output, Nat.le_trans h.size k.size, fun i hi hn => (k.block i (Nat.lt_of_lt_of_le hi h.size) hn).trans (h.block i hi hn)⟩
theorem But.drew {b : Nat} {x y : World} (h : But b x y) : But b x y.drew := ⟨h.os, h.tape, h.output, h.size, h.block⟩
theorem But.drewN {b : Nat} {x y : World} (h : But b x y) (n : Nat) : But b x (y.drewN n) := ⟨h.os, h.tape, h.output, h.size, h.block⟩
theorem But.alloc {b : Nat} {x y : World} (h : But b x y) (o : Obj) : But b x (y.alloc o) :=
  h.trans ⟨rfl, rfl, rfl, by simp, fun k hk _ => Below.heap_alloc _ _ _ hk⟩
theorem But.setCell {b : Nat} {x y : World} (h : But b x y) (p : Addr) (hp : p.block = b ∨ x.heap.size ≤ p.block) (u : Value) : But b x (y.setCell p u) :=
  ⟨h.os, h.tape, h.output, by simp [World.setCell]; exact h.size, fun k hk hn => by
    rw [Below.heap_setCell _ _ _ _ (by omega)]; exact h.block k hk hn⟩
theorem But.of_below {b B : Nat} {x y : World} (h : Below B x y) (hB : x.heap.size ≤ B) : But b x y :=
  ⟨h.os, h.tape, h.output, h.size, fun k hk _ => h.block k (by omega)⟩
theorem But.below {b B : Nat} {x y : World} (h : But b x y) (hB : B ≤ x.heap.size) (hb : B ≤ b) : Below B x y :=
  ⟨h.os, h.tape, h.output, h.size, fun k hk => h.block k (by omega) (by omega)⟩
theorem lt_of_heap {w : World} {b : Nat} {o : Obj} (h : w.heap[b]? = some o) : b < w.heap.size := by
  rcases Nat.lt_or_ge b w.heap.size with h' | h'
  · exact h'
  · simp [Array.getElem?_eq_none h'] at h
/-- Another block stays. -/
theorem But.at {b c : Nat} {x y : World} {o : Obj} (h : But b x y) (hc : x.heap[c]? = some o) (hn : c ≠ b) : y.heap[c]? = some o :=
  (h.block c (lt_of_heap hc) hn).trans hc
theorem Below.at {B c : Nat} {x y : World} {o : Obj} (h : Below B x y) (hc : x.heap[c]? = some o) (hn : c < B) : y.heap[c]? = some o :=
  (h.block c hn).trans hc

/-- A block of cells: its cells read, and may be written. -/
theorem cell_of {w : World} {b : Nat} {cs : Array Value} {t : TypeId} (i : Nat) {v : Value} (h : w.heap[b]? = some (.cells cs t (0, 0))) (hv : cs[i]? = some v) : w.cell? ⟨b, i, none⟩ = some v := by
  simp [World.cell?, h, hv]
theorem free_of {w : World} {b : Nat} {cs : Array Value} {t : TypeId} (i : Nat) (h : w.heap[b]? = some (.cells cs t (0, 0))) : w.frozen? ⟨b, i, none⟩ = false := by
  simp [World.frozen?, h]
theorem heap_alloc_new (w : World) (o : Obj) : (w.alloc o).heap[w.heap.size]? = some o := by
  show (w.heap.push o)[w.heap.size]? = _
  simp
theorem heap_setCell {w : World} {b i : Nat} {cs : Array Value} {t : TypeId} {u : Value} {f : Nat × Nat} (h : w.heap[b]? = some (.cells cs t f)) :
    (w.setCell ⟨b, i, none⟩ u).heap[b]? = some (.cells (cs.setIfInBounds i u) t f) := by
  have hlt := lt_of_heap h
  simp only [World.setCell, Array.getElem?_modify]
  simp [h]
theorem But.set1 (w : World) (b i : Nat) (u : Value) : But b w (w.setCell ⟨b, i, none⟩ u) := (But.refl b w).setCell ⟨b, i, none⟩ (.inl rfl) u
theorem But.set1drew (w : World) (b i : Nat) (u : Value) : But b w (w.setCell ⟨b, i, none⟩ u).drew := But.drew (But.set1 w b i u)
theorem heap_setCell_drew {w : World} {b i : Nat} {cs : Array Value} {t : TypeId} {u : Value} {f : Nat × Nat} (h : w.heap[b]? = some (.cells cs t f)) :
    (w.setCell ⟨b, i, none⟩ u).drew.heap[b]? = some (.cells (cs.setIfInBounds i u) t f) := heap_setCell h
/-- Two worlds of one call: below B all is as it was. -/
theorem below_but {B b : Nat} {w w1 w2 : World} (h : Below B w w1) (k : But b w1 w2) (hb : B ≤ b) (hB : B ≤ w1.heap.size) : Below B w w2 := h.trans (k.below hB hb)
theorem hold_alloc {w : World} {o o' : Obj} {b : Nat} (h : w.heap[b]? = some o) : (w.alloc o').heap[b]? = some o := (Below.heap_alloc w o' b (lt_of_heap h)).trans h
theorem ret_int {k : IntKind} {a b : Int} (h : a = b) : Ending.returned (.int k a) = .returned (.int k b) := by rw [h]
theorem ret_bool {a b : Bool} (h : a = b) : Ending.returned (.bool a) = .returned (.bool b) := by rw [h]
theorem heap_two (w : World) (o1 o2 : Obj) : ((w.alloc o1).alloc o2).heap[w.heap.size]? = some o1 ∧ ((w.alloc o1).alloc o2).heap[w.heap.size + 1]? = some o2 :=
  ⟨hold_alloc (heap_alloc_new w o1), by have := heap_alloc_new (w.alloc o1) o2; rwa [World.size_alloc] at this⟩
theorem heap_three (w : World) (o1 o2 o3 : Obj) : (((w.alloc o1).alloc o2).alloc o3).heap[w.heap.size]? = some o1 ∧ (((w.alloc o1).alloc o2).alloc o3).heap[w.heap.size + 1]? = some o2 ∧ (((w.alloc o1).alloc o2).alloc o3).heap[w.heap.size + 1 + 1]? = some o3 :=
  ⟨hold_alloc (heap_two w o1 o2).1, hold_alloc (heap_two w o1 o2).2, by have := heap_alloc_new ((w.alloc o1).alloc o2) o3; rwa [World.size_alloc, World.size_alloc] at this⟩
theorem below_three (w : World) (o1 o2 o3 : Obj) : Below w.heap.size w (((w.alloc o1).alloc o2).alloc o3) := (((Below.refl w.heap.size w).alloc (Nat.le_refl _) o1).alloc (by simp) o2).alloc (by simp; omega) o3
end Go.Wb

/- More small words on worlds, with no program in sight. -/
namespace Go.Wb
open Go.RowKit

/-- Behind a call that made memory alone all old cells and marks read as before. -/
theorem bcell {W w1 : World} (hb : Below W.heap.size W w1) : (∀ b o, b < W.heap.size → w1.cell? ⟨b, o, none⟩ = W.cell? ⟨b, o, none⟩) ∧ (∀ b o, b < W.heap.size → w1.frozen? ⟨b, o, none⟩ = W.frozen? ⟨b, o, none⟩) :=
  ⟨fun b o h => hb.cell (p := ⟨b, o, none⟩) h, fun b o h => hb.frozen (p := ⟨b, o, none⟩) h⟩
/-- What has grown so far, hidden. -/
theorem grow_next {w0 w w' : World} (h : Hid (Below w0.heap.size w0 w)) (k : Below w.heap.size w w') : Hid (Below w0.heap.size w0 w') := h.out.trans (k.mono h.out.size)
theorem grow_drew {w0 w : World} (h : Hid (Below w0.heap.size w0 w)) : Hid (Below w0.heap.size w0 w.drew) := Below.drew h.out
theorem grow_start (w : World) : Hid (Below w.heap.size w w) := Below.refl _ _
/-- An old block behind a call that made memory. -/
theorem kept {w w' : World} {b : Nat} {o : Obj} (hb : Below w.heap.size w w') (h : w.heap[b]? = some o) : w'.heap[b]? = some o := Below.at hb h (lt_of_heap h)
end Go.Wb
