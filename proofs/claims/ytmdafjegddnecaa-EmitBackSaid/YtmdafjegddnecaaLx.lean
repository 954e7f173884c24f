/- Laws on bytes of a call's own: a copy that is appended to; cuts of bytes. -/
import Derived.Test.YtmdafjegddnecaaLw
import Derived.Test.YtmdafjegddnecaaMv
namespace Go.Proofs.Ytmdafjegddnecaa
open Go.RowKit Go.Wb
set_option linter.unusedVariables false

/-- Bytes in a row of the call's own, from block base on. -/
def Own8 (base : Nat) (w : World) (a : Option Addr) (len cap : Nat) (zs : List Int) : Prop :=
  w.ownsRow base 5 1 (.slice a len cap) len (zs.map (Value.int .u8)) ∧ (∀ x ∈ zs, 0 ≤ x ∧ x ≤ 255) ∧ base ≤ w.heap.size

theorem Own8.row {base : Nat} {w : World} {a : Option Addr} {len cap : Nat} {zs : List Int} (h : Own8 base w a len cap zs) : Row8 w a len cap zs := by
  obtain ⟨⟨hlen, hv⟩, hb, _⟩ := h
  rw [List.length_map, Nat.mul_one] at hlen
  rcases hv with ⟨hv, hn⟩ | ⟨g, cap', cur, hv, _, hh, hn, hc, hsz, htk⟩
  · cases hv
    obtain rfl : zs = [] := List.length_eq_zero_iff.1 hlen
    exact Row8.nil w
  · cases hv
    refine ⟨hlen, hn, by unfold maxLen at hc; omega, fun i hi => ⟨g, 0, rfl, lt_of_heap hh, ?_⟩, hb, fun h => by cases h⟩
    rw [Nat.zero_add]
    refine cell_of i hh ?_
    have e1 : (cur.toList.take (len * 1))[i]? = cur.toList[i]? := by rw [List.getElem?_take_of_lt (by omega)]
    rw [htk, List.getElem?_map] at e1
    rw [← Array.getElem?_toList, ← e1, List.getElem?_eq_getElem (by omega), List.getD_eq_getElem?_getD, List.getElem?_eq_getElem (by omega)]
    rfl

/-- Where bytes of the call's own lie. -/
theorem Own8.block {base : Nat} {w : World} {a : Option Addr} {len cap : Nat} {zs : List Int} (h : Own8 base w a len cap zs) : (Value.slice a len cap).ownBlock = none ∨ ∃ g, (Value.slice a len cap).ownBlock = some g ∧ base ≤ g ∧ g < w.heap.size := by
  obtain ⟨⟨hlen, hv⟩, hb, _⟩ := h
  rcases hv with ⟨hv, hn⟩ | ⟨g, cap', cur, hv, hg, hh, _⟩
  · cases hv; exact .inl rfl
  · cases hv; exact .inr ⟨g, rfl, hg, lt_of_heap hh⟩

theorem Own8.blk {base : Nat} {w : World} {a : Option Addr} {len cap : Nat} {zs : List Int} (h : Own8 base w a len cap zs) {q : Nat} (hq : (Value.slice a len cap).ownBlock = some q) : base ≤ q := by
  rcases h.block with h | ⟨g, h, h1, _⟩
  · rw [h] at hq; cases hq
  · rw [h] at hq; cases hq; exact h1

theorem Own8.keep {base : Nat} {w w' : World} {a : Option Addr} {len cap : Nat} {zs : List Int} (h : Own8 base w a len cap zs) (hb : Below w.heap.size w w') : Own8 base w' a len cap zs := by
  obtain ⟨⟨hlen, hv⟩, hz, hs⟩ := h
  refine ⟨⟨hlen, ?_⟩, hz, Nat.le_trans hs hb.size⟩
  rcases hv with hv | ⟨g, cap', cur, hv, hg, hh, hr⟩
  · exact .inl hv
  · exact .inr ⟨g, cap', cur, hv, hg, (hb.block g (lt_of_heap hh)).trans hh, hr⟩

theorem Own8.empty {base g : Nat} {w : World} (hg : w.heap[g]? = some (.cells #[] 5 (0, 0))) (hb : base ≤ g) : Own8 base w (some ⟨g, 0, none⟩) 0 0 [] :=
  ⟨⟨rfl, .inr ⟨g, 0, #[], rfl, hb, hg, Nat.le_refl _, Nat.zero_le _, rfl, rfl⟩⟩, by simp, by have := lt_of_heap hg; omega⟩

/-- 'append(own, b...)'. -/
theorem wp_app8 {w : World} {op : Oper} {ac : Act} {Q : Exit → Act → World → Prop} {K : Act → World → Prop} (s x : Operand)
    (ho : op.op = .call { callee := .builtin .append, args := #[s, x], argTypes := #[24, 24] }) (base : Nat) (a0 : Option Addr) (len0 cap0 : Nat) (ys : List Int) (hs : ac.eval s = .slice a0 len0 cap0) (hown : Own8 base w a0 len0 cap0 ys)
    (ao : Option Addr) (len cap : Nat) (zs : List Int) (hx : ac.eval x = .slice ao len cap) (h : Row8 w ao len cap zs) (hl47 : len0 + len ≤ 140737488355328)
    (HK : ∀ a' cap' w', Own8 base w' a' (len0 + len) cap' (ys ++ zs) → w.grownBy w' (Value.slice a0 len0 cap0).ownBlock → K (ac.put op.dst (.slice a' (len0 + len) cap')) w') : op.wp Try.prog ac w K Q := by
  obtain ⟨i0, hi, hz0, hz1, hz2⟩ := info_parts info5
  obtain ⟨hown, hy, hbs⟩ := hown
  have hle := h.le
  have fin : ∀ v' w', w'.ownsRow base 5 1 v' (len0 + len) (ys.map (Value.int .u8) ++ zs.map (Value.int .u8)) → w.grownBy w' (Value.slice a0 len0 cap0).ownBlock → K (ac.put op.dst v') w' := by
    intro v' w' hv hgr
    have hv0 := hv
    obtain ⟨hlen, hv⟩ := hv
    rw [← List.map_append] at hv0
    rcases hv with ⟨rfl, hn⟩ | ⟨g', cap', cur, rfl, hb, hh, hn, hc, hsz, htk⟩
    · have := HK none 0 w' ⟨by rw [hn] at hv0 ⊢; exact hv0, by intro x hx; rcases List.mem_append.1 hx with hx | hx; exact hy x hx; exact h.bytes x hx, Nat.le_trans hbs hgr.size⟩ hgr
      rw [hn] at this
      exact this
    · exact HK _ _ w' ⟨hv0, by intro x hx; rcases List.mem_append.1 hx with hx | hx; exact hy x hx; exact h.bytes x hx, Nat.le_trans hbs hgr.size⟩ hgr
  have hnl : (zs.map (Value.int .u8)).length = len * 1 := by rw [List.length_map, h.length]; omega
  cases ao with
  | none =>
    have h0 : len = 0 := by
      rcases Nat.eq_zero_or_pos len with h0 | h0
      · exact h0
      · obtain ⟨b, off, e, _⟩ := h.cells 0 h0; cases e
    subst h0
    obtain rfl : zs = [] := List.length_eq_zero_iff.1 h.length
    obtain rfl := h.bare rfl
    have hrun := run_append_owned_none (P := Try.prog) (w := w) base 24 op.type 5 i0 1 Try.underlying24 hi _ len0 _ hown
    unfold Oper.wp
    simp only [List.append_nil, Nat.add_zero] at HK
    have hk := HK a0 cap0 w ⟨hown, hy, hbs⟩ ⟨rfl, rfl, rfl, Nat.le_refl _, fun _ _ _ => rfl⟩
    simp [execOp, ho, resolve, invoke, builtin, hs, hx, hrun, Result.andThen]
    exact hk
  | some ad =>
    refine wp_append_own w s x 24 ho base 5 i0 (.int .u8 0) 1 1 Try.underlying24 hi hz0 hz1 hz2 rfl (by decide) _ len0 _ hs hown ad len cap _ hx hnl ?_ ?_ (by unfold maxLen; omega) (by omega) hbs (fun v' w' h1 h2 _ => fin v' w' h1 h2)
    · intro j u hj
      rw [List.getElem?_map] at hj
      have hjl : j < len := by
        rcases Nat.lt_or_ge j len with h' | h'
        · exact h'
        · rw [List.getElem?_eq_none (by have := h.length; omega)] at hj; cases hj
      obtain ⟨b, off, e, _, hc⟩ := h.cells j hjl
      cases e
      have e : (Addr.add ⟨b, off, none⟩ j) = ⟨b, off + j, none⟩ := by unfold Addr.add; split <;> simp_all
      rw [e, hc, ← hj, List.getElem?_eq_getElem (by have := h.length; omega), List.getD_eq_getElem?_getD, List.getElem?_eq_getElem (by have := h.length; omega)]
      rfl
    · intro u hu
      obtain ⟨z, _, rfl⟩ := List.mem_map.1 hu
      rfl

theorem wpList_wanted {P : Program} {ops : Array Oper} {rest : List Oper} {o : Oper} {a : Act} {w : World} {Q : Exit → Act → World → Prop} (hw : Region.wanted o (yielded ops a.tmps) = true)
    (h : ∀ K : Act → World → Prop, (∀ a w, wpList P ops Q rest a w → K a w) → o.wp P a w K Q) : wpList P ops Q (o :: rest) a w :=
  wpList_step fun K hK => by rw [if_pos hw]; exact h K hK

theorem wpList_app8 {w : World} {ops : Array Oper} {rest : List Oper} {op : Oper} {ac : Act} {Q : Exit → Act → World → Prop} (hw : Region.wanted op (yielded ops ac.tmps) = true) (s x : Operand)
    (ho : op.op = .call { callee := .builtin .append, args := #[s, x], argTypes := #[24, 24] }) (base : Nat) (a0 : Option Addr) (len0 cap0 : Nat) (ys : List Int) (hs : ac.eval s = .slice a0 len0 cap0) (hown : Own8 base w a0 len0 cap0 ys)
    (ao : Option Addr) (len cap : Nat) (zs : List Int) (hx : ac.eval x = .slice ao len cap) (h : Row8 w ao len cap zs) (hl47 : len0 + len ≤ 140737488355328)
    (HK : ∀ a' cap' w', Own8 base w' a' (len0 + len) cap' (ys ++ zs) → w.grownBy w' (Value.slice a0 len0 cap0).ownBlock → wpList Try.prog ops Q rest (ac.put op.dst (.slice a' (len0 + len) cap')) w') : wpList Try.prog ops Q (op :: rest) ac w :=
  wpList_wanted hw fun K hK => wp_app8 s x ho base a0 len0 cap0 ys hs hown ao len cap zs hx h hl47 fun a' c' w' h1 h2 => hK _ _ (HK a' c' w' h1 h2)

theorem Row8.take {w : World} {a : Option Addr} {len cap : Nat} {zs : List Int} (h : Row8 w a len cap zs) {k : Nat} (hk : k ≤ len) : Row8 w a k cap (zs.take k) :=
  ⟨by rw [List.length_take, h.length]; omega, Nat.le_trans hk h.le, h.cap_le, fun i hi => by
    obtain ⟨b, off, e, hb, hc⟩ := h.cells i (by omega)
    exact ⟨b, off, e, hb, by rw [hc, List.getD_eq_getElem?_getD, List.getD_eq_getElem?_getD, List.getElem?_take_of_lt hi]⟩, fun x hx => h.bytes x (List.mem_of_mem_take hx), h.bare⟩
theorem Row8.drop {w : World} {b off len cap : Nat} {zs : List Int} (h : Row8 w (some ⟨b, off, none⟩) len cap zs) {k : Nat} (hk : k ≤ len) : Row8 w (some ⟨b, off + k, none⟩) (len - k) (cap - k) (zs.drop k) :=
  ⟨by rw [List.length_drop, h.length], by have := h.le; omega, by have := h.cap_le; omega, fun i hi => by
    obtain ⟨b', off', e, hb, hc⟩ := h.cells (k + i) (by omega)
    cases e
    exact ⟨b, off + k, rfl, hb, by rw [Nat.add_assoc, hc, List.getD_eq_getElem?_getD, List.getD_eq_getElem?_getD, List.getElem?_drop]⟩, fun x hx => h.bytes x (List.mem_of_mem_drop hx), fun h => by cases h⟩
theorem Row8.none_of {w : World} {a : Option Addr} {len cap : Nat} {zs : List Int} (h : Row8 w a len cap zs) (hl : 0 < len) : ∃ b off, a = some ⟨b, off, none⟩ := by
  obtain ⟨b, off, e, _⟩ := h.cells 0 hl
  exact ⟨b, off, e⟩
/-- Nothing, wherever it lies. -/
theorem Row8.zero {w : World} {a : Option Addr} {cap : Nat} (hc : cap ≤ 9223372036854775807) (h : a = none → cap = 0) : Row8 w a 0 cap [] :=
  ⟨rfl, Nat.zero_le _, hc, fun i hi => absurd hi (Nat.not_lt_zero _), by simp, h⟩
end Go.Proofs.Ytmdafjegddnecaa
