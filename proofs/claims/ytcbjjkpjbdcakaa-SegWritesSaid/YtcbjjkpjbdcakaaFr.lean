/- A kind of value for regions: new bytes. -/
import Derived.Test.YtcbjjkpjbdcakaaWbTail
import Derived.Test.YtcbjjkpjbdcakaaSr
namespace Go.Proofs.Ytcbjjkpjbdcakaa
open Go.RowKit Go.Wb
set_option linter.unusedVariables false

theorem Own8.mono {base base' : Nat} {w : World} {a : Option Addr} {len cap : Nat} {zs : List Int} (h : Own8 base' w a len cap zs) (hb : base ≤ base') : Own8 base w a len cap zs := by
  obtain ⟨⟨hlen, hv⟩, hz, hs⟩ := h
  refine ⟨⟨hlen, ?_⟩, hz, Nat.le_trans hb hs⟩
  rcases hv with hv | ⟨g, cap', cur, hv, hg, hr⟩
  · exact .inl hv
  · exact .inr ⟨g, cap', cur, hv, Nat.le_trans hb hg, hr⟩

/-- 's[k:]': at the capacity the address stays. -/
theorem Row8.tail {w : World} {b off len cap : Nat} {zs : List Int} (h : Row8 w (some ⟨b, off, none⟩) len cap zs) {k : Nat} (hk : k ≤ len) : Row8 w (if cap = k then some ⟨b, off, none⟩ else some ⟨b, off + k, none⟩) (len - k) (cap - k) (zs.drop k) := by
  have hle := h.le
  have hc := h.cap_le
  split
  · have h0 : len - k = 0 := by omega
    rw [h0, List.drop_of_length_le (by rw [h.length]; omega)]
    exact Row8.zero (by omega) (fun h => by cases h)
  · exact h.drop hk

/-- A store into an older block. -/
theorem Own8.other {base : Nat} {w : World} {a : Option Addr} {len cap : Nat} {zs : List Int} (h : Own8 base w a len cap zs) {b i : Nat} {v : Value} (hp : b < base) : Own8 base (w.setCell ⟨b, i, none⟩ v) a len cap zs := by
  obtain ⟨⟨hlen, hv⟩, hz, hs⟩ := h
  refine ⟨⟨hlen, ?_⟩, hz, by simpa [World.setCell] using hs⟩
  rcases hv with hv | ⟨g, cap', cur, hv, hg, hh, hr⟩
  · exact .inl hv
  · exact .inr ⟨g, cap', cur, hv, hg, (But.set1 _ _ _ _).at hh (by omega), hr⟩

/-- A slice of so many bytes, made by the call. -/
def Fresh8 (base len : Nat) (zs : List Int) : Kind := fun v w => ∃ a cap, v = .slice a len cap ∧ Own8 base w a len cap zs
theorem stab_fresh (base len : Nat) (zs : List Int) : Stab (Fresh8 base len zs) := fun _ _ _ ⟨a, c, h1, h2⟩ hb => ⟨a, c, h1, h2.keep hb⟩
theorem step_fresh {w : World} {base len : Nat} {zs : List Int} {f : FuncId} {args : Array Value} (h : Calls Try.prog f args w fun e w' => ∃ a' cap', e = .returned (.slice a' len cap') ∧ Own8 w.heap.size w' a' len cap' zs ∧ Below w.heap.size w w') (hb : base ≤ w.heap.size) :
    StepOK Try.prog w (Fresh8 base len zs) (.ok (.enter f args) w) :=
  ⟨Below.refl _ _, h.mono fun _ _ ⟨a, c, h1, h2, h3⟩ => ⟨_, h1, ⟨a, c, rfl, h2.mono hb⟩, h3⟩⟩

/-- A new slice of no bytes. -/
def Empty8 (base : Nat) : Kind := fun v w => ∃ g, v = .slice (some ⟨g, 0, none⟩) 0 0 ∧ base ≤ g ∧ w.heap[g]? = some (.cells #[] 5 (0, 0))
theorem stab_empty (base : Nat) : Stab (Empty8 base) := fun _ _ _ ⟨g, h1, h2, h3⟩ hb => ⟨g, h1, h2, kept hb h3⟩
theorem step_empty {P : Program} {w : World} {base : Nat} (h : base ≤ w.heap.size) : StepOK P w (Empty8 base) (.ok (.value (.slice (some ⟨w.heap.size, 0, none⟩) 0 0)) (w.alloc (.cells #[] 5 (0, 0)))) :=
  ⟨⟨_, rfl, h, heap_alloc_new _ _⟩, (Below.refl _ _).alloc (Nat.le_refl _) _⟩

/-- 'append([]byte{}, x...)': a copy, in new memory alone. -/
theorem run_copy8 {w : World} {g : Nat} {ad : Addr} {len cap ty : Nat} {zs : List Int} (hg : w.heap[g]? = some (.cells #[] 5 (0, 0))) (h : Row8 w (some ad) len cap zs) (hl : len ≤ 1099511627776) :
    ∃ a' c' w', (Builtin.append_ #[23, 23] ty #[.slice (some ⟨g, 0, none⟩) 0 0, .slice (some ad) len cap]).run Try.prog w = .ok (.slice a' len c') w' ∧ Own8 g w' a' len c' zs ∧ Below w.heap.size w w' := by
  obtain ⟨i0, hi, hz0, hz1, hz2⟩ := info_parts info5
  have hlt := lt_of_heap hg
  have hnl : (zs.map (Value.int .u8)).length = len * 1 := by rw [List.length_map, h.length]; omega
  have hc : ∀ j u, (zs.map (Value.int .u8))[j]? = some u → w.cell? (ad.add j) = some u := by
    intro j u hj
    rw [List.getElem?_map] at hj
    have hjl : j < len := by
      rcases Nat.lt_or_ge j len with h' | h'
      · exact h'
      · rw [List.getElem?_eq_none (by have := h.length; omega)] at hj; cases hj
    obtain ⟨b, off, e, _, hcc⟩ := h.cells j hjl
    cases e
    rw [add_none, hcc, ← hj, List.getElem?_eq_getElem (by have := h.length; omega), List.getD_eq_getElem?_getD, List.getElem?_eq_getElem (by have := h.length; omega)]
    rfl
  rcases Nat.eq_zero_or_pos len with h0 | h0
  · subst h0
    obtain rfl : zs = [] := List.length_eq_zero_iff.1 h.length
    have := run_append_room_cells (P := Try.prog) w 23 ty 5 i0 Try.underlying23 hi g 0 0 0 ad 0 cap [] (by simp) (by simp) (by simp) (Nat.le_refl _) (fun j hj => absurd hj (Nat.not_lt_zero _)) (fun j hj => absurd hj (Nat.not_lt_zero _))
    exact ⟨_, _, w, this, (Own8.empty hg (Nat.le_refl _)), Below.refl _ _⟩
  · obtain ⟨v', w', hrun, hown, hgr⟩ := run_append_arg_grows (P := Try.prog) w 23 ty 5 i0 (.int .u8 0) 1 1 Try.underlying23 hi hz0 hz1 hz2 rfl (by decide) ⟨g, 0, none⟩ 0 0 [] (by simp) (by simp) ad len cap (zs.map (Value.int .u8)) hnl hc (by omega) (by unfold maxLen; omega) (by omega)
    rw [Nat.zero_add, List.nil_append] at hown
    have hb : Below w.heap.size w w' := ⟨hgr.os, hgr.tape, hgr.output, hgr.size, fun k hk => hgr.block k hk (by intro e; cases e)⟩
    have hown' := hown
    obtain ⟨hlen, hv⟩ := hown
    rcases hv with ⟨_, hn⟩ | ⟨g', cap', cur, rfl, hg', hh, hr⟩
    · omega
    · exact ⟨some ⟨g', 0, none⟩, cap', w', hrun, ⟨⟨hlen, .inr ⟨g', cap', cur, rfl, by omega, hh, hr⟩⟩, h.bytes, by have := hgr.size; omega⟩, hb⟩

theorem step_copy8 {w : World} {a : Act} {o : Oper} {base g : Nat} {ad : Addr} {len cap : Nat} {zs : List Int} (s x : Operand) (ho : o.op = .call { callee := .builtin .append, args := #[s, x], argTypes := #[23, 23] })
    (es : a.eval s = .slice (some ⟨g, 0, none⟩) 0 0) (ex : a.eval x = .slice (some ad) len cap) (hb : base ≤ g) (hg : w.heap[g]? = some (.cells #[] 5 (0, 0))) (h : Row8 w (some ad) len cap zs) (hl : len ≤ 1099511627776) :
    StepOK Try.prog w (Fresh8 base len zs) ((execOp a.eval o).run Try.prog w) := by
  obtain ⟨a', c', w', hrun, hown, hbl⟩ := run_copy8 (ty := o.type) hg h hl
  simp [execOp, ho, resolve, invoke, builtin, es, ex, hrun, Result.andThen]
  exact ⟨⟨a', c', rfl, hown.mono hb⟩, hbl⟩
end Go.Proofs.Ytcbjjkpjbdcakaa
