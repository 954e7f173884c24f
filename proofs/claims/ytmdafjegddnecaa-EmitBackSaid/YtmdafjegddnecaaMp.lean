/- A map that the call made of literal keys: what is put in, what is asked. No program in sight. -/
import Derived.Test.YtmdafjegddnecaaMv
namespace Go.Wb
open Go.RowKit

/-- The world behind a store into a map. -/
def putMap (w : World) (r : Nat) (o : Obj) : World := { w with heap := w.heap.setIfInBounds r o }
theorem mk_map {P : Program} (w : World) (t : TypeId) : (Instr.makeMap t none).run P w = .ok (.map (some w.heap.size)) (w.alloc (.map #[] 0)) := rfl
theorem run_find {P : Program} (w : World) (kt : TypeId) (kk : IntKind) (n : Int) (es : List MapEntry) (res : Option (Nat × Value)) (hku : P.underlying kt = some (.int kk)) (hf : Instr.findNow (.int kk) (.int kk n) es 0 = some res) :
    (Instr.findKey kt (.int kk n) es).run P w = .ok res w := by
  simp [Instr.findKey, run_underlying hku, hf]
theorem run_checkKey {P : Program} (w : World) (em : Bool) (d : Nat) (kt : TypeId) (kk : IntKind) (n : Int) (hku : P.underlying kt = some (.int kk)) : (Instr.checkKey em (d + 1) kt (.int kk n)).run P w = .ok () w := by
  simp [Instr.checkKey, run_underlying hku]

theorem run_lookup_lit {P : Program} (w : World) (t kt et : TypeId) (kk : IntKind) (r : Nat) (es : Array MapEntry) (c : Nat) (n : Int) (i : Nat) (v : Value) (hu : P.underlying t = some (.map kt et)) (hku : P.underlying kt = some (.int kk)) (hm : w.heap[r]? = some (.map es c))
    (hf : Instr.findNow (.int kk) (.int kk n) es.toList 0 = some (some (i, v))) : (Instr.lookup t (.map (some r)) (.int kk n) true).run P w = .ok (.tuple #[v, .bool true]) w := by
  simp [Instr.lookup, run_underlying hu, Sem.run, getObj, hm, run_find w kt kk n es.toList _ hku hf, run_checkKey w _ 9999 kt kk n hku]
theorem run_lookup_not {P : Program} (w : World) (t kt et : TypeId) (kk : IntKind) (r : Nat) (es : Array MapEntry) (c : Nat) (n : Int) (z : Value) (hu : P.underlying t = some (.map kt et)) (hku : P.underlying kt = some (.int kk)) (hm : w.heap[r]? = some (.map es c)) (hz : ∀ w, (zeroValue et).run P w = .ok z w)
    (hf : Instr.findNow (.int kk) (.int kk n) es.toList 0 = some none) : (Instr.lookup t (.map (some r)) (.int kk n) true).run P w = .ok (.tuple #[z, .bool false]) w := by
  simp [Instr.lookup, run_underlying hu, Sem.run, getObj, hm, run_find w kt kk n es.toList _ hku hf, run_checkKey w _ 9999 kt kk n hku, hz]
theorem run_insert_lit {P : Program} (w : World) (t kt et : TypeId) (kk : IntKind) (r : Nat) (es : Array MapEntry) (c : Nat) (n : Int) (v : Value) (hu : P.underlying t = some (.map kt et)) (hku : P.underlying kt = some (.int kk)) (hm : w.heap[r]? = some (.map es c))
    (hf : Instr.findNow (.int kk) (.int kk n) es.toList 0 = some none) : (Instr.mapUpdate t (.map (some r)) (.int kk n) v).run P w = .ok () (putMap w r (.map (es.push { key := .int kk n, val := v, born := c }) (c + 1))) := by
  simp [putMap, Instr.mapUpdate, run_underlying hu, Sem.run, getObj, setObj, hm, run_find w kt kk n es.toList _ hku hf, run_checkKey w _ 9999 kt kk n hku]
/-- The operation that puts into such a map. -/
theorem wpList_insert {P : Program} {ops : Array Oper} {rest : List Oper} {op : Oper} {ac : Act} {w : World} {Q : Exit → Act → World → Prop} (hg : op.guard = none) (t : TypeId) (m k v : Operand) (ho : op.op = .insert t m k v)
    (kt et : TypeId) (kk : IntKind) (r : Nat) (es : Array MapEntry) (c : Nat) (n : Int) (x : Value) (em : ac.eval m = .map (some r)) (ek : ac.eval k = .int kk n) (ev : ac.eval v = x) (hu : P.underlying t = some (.map kt et)) (hku : P.underlying kt = some (.int kk)) (hm : w.heap[r]? = some (.map es c))
    (hf : Instr.findNow (.int kk) (.int kk n) es.toList 0 = some none) (K : wpList P ops Q rest (ac.put op.dst undef) (putMap w r (.map (es.push { key := .int kk n, val := x, born := c }) (c + 1)))) : wpList P ops Q (op :: rest) ac w := by
  refine wpList_plain hg fun K' hK => ?_
  unfold Oper.wp
  simp [execOp, ho, em, ek, ev, run_insert_lit w t kt et kk r es c n x hu hku hm hf, Result.andThen]
  exact hK _ _ K
theorem heap_set_new {w : World} {r : Nat} {o o' : Obj} (h : w.heap[r]? = some o) : (putMap w r o').heap[r]? = some o' := by
  have := lt_of_heap h
  simp [putMap, this]
theorem heap_set_old {w : World} {r b : Nat} {o' : Obj} {x : Option Obj} (hn : b ≠ r) (h : w.heap[b]? = x) : (putMap w r o').heap[b]? = x := by
  rw [← h]
  exact Array.getElem?_setIfInBounds_ne (Ne.symm hn)
theorem putMap_size (w : World) (r : Nat) (o : Obj) : (putMap w r o).heap.size = w.heap.size := by simp [putMap]
theorem below_set {B r : Nat} {w0 w : World} {o' : Obj} (h : Below B w0 w) (hr : B ≤ r) : Below B w0 (putMap w r o') :=
  ⟨h.os, h.tape, h.output, by simpa [putMap] using h.size, fun k hk => (heap_set_old (by omega) rfl).trans (h.block k hk)⟩
end Go.Wb
