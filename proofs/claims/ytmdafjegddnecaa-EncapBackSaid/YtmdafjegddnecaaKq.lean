/- More small words on worlds, with no program in sight. -/
import Derived.Test.YtmdafjegddnecaaKp
namespace Go.Wb
open Go.RowKit

/-- Behind a call that made memory alone all old cells and marks read as before. -/
theorem bcell {W w1 : World} (hb : Below W.heap.size W w1) : (∀ b o, b < W.heap.size → w1.cell? ⟨b, o, none⟩ = W.cell? ⟨b, o, none⟩) ∧ (∀ b o, b < W.heap.size → w1.frozen? ⟨b, o, none⟩ = W.frozen? ⟨b, o, none⟩) :=
  ⟨fun b o h => hb.cell (p := ⟨b, o, none⟩) h, fun b o h => hb.frozen (p := ⟨b, o, none⟩) h⟩
/-- What has grown so far, hidden. -/
theorem grow_next {w0 w w' : World} (h : Hid (Below w0.heap.size w0 w)) (k : Below w.heap.size w w') : Hid (Below w0.heap.size w0 w') := h.out.trans (k.mono h.out.size)
theorem grow_drew {w0 w : World} (h : Hid (Below w0.heap.size w0 w)) : Hid (Below w0.heap.size w0 w.drew) := Below.drew h.out
theorem grow_start (w : World) : Hid (Below w.heap.size w w) := Below.refl _ _
/-- An old block behind a call that made memory. -/
theorem kept {w w' : World} {b : Nat} {o : Obj} (hb : Below w.heap.size w w') (h : w.heap[b]? = some o) : w'.heap[b]? = some o := Below.at hb h (lt_of_heap h)
end Go.Wb
