/- Laws on bytes in memory: a copy by append, a string of bytes. -/
import Derived.Test.YtmdafjegddnecaaSo
import Derived.Laws.IdiomStrings
import Derived.Lib.BufferRead
import Derived.Laws.AppendOwn
import Derived.Laws.AppendOwnNone
import Derived.Deep.DeepMust
namespace Go.Proofs.Ytmdafjegddnecaa
open Go.RowKit Go.Wb
set_option linter.unusedVariables false

theorem info5 : (Try.prog.info? 5).map (fun i => (i.zero, i.size, i.bytes)) = some (some (.int .u8 0), 1, 1) := by kernel_rfl

/-- The string of bytes. -/
def bstr (zs : List Int) : ByteArray := ⟨(zs.map fun z => UInt8.ofNat z.toNat).toArray⟩

theorem bstr_inj {a b : List Int} (ha : ∀ x ∈ a, 0 ≤ x ∧ x ≤ 255) (hb : ∀ x ∈ b, 0 ≤ x ∧ x ≤ 255) (h : bstr a = bstr b) : a = b := by
  have h1 : (a.map fun z => UInt8.ofNat z.toNat) = (b.map fun z => UInt8.ofNat z.toNat) := by
    have := congrArg (fun s : ByteArray => s.data.toList) h
    simpa [bstr] using this
  have key : ∀ (a b : List Int), (∀ x ∈ a, 0 ≤ x ∧ x ≤ 255) → (∀ x ∈ b, 0 ≤ x ∧ x ≤ 255) → (a.map fun z => UInt8.ofNat z.toNat) = (b.map fun z => UInt8.ofNat z.toNat) → a = b := by
    intro a
    induction a with
    | nil => intro b _ _ h; cases b with | nil => rfl | cons y b => simp at h
    | cons x a ih =>
      intro b ha hb h
      cases b with
      | nil => simp at h
      | cons y b =>
        simp only [List.map_cons, List.cons.injEq] at h
        have hx := ha x (List.mem_cons_self ..)
        have hy := hb y (List.mem_cons_self ..)
        have e := congrArg UInt8.toNat h.1
        simp only [UInt8.toNat_ofNat'] at e
        rw [show x = y by omega, ih b (fun z hz => ha z (List.mem_cons_of_mem _ hz)) (fun z hz => hb z (List.mem_cons_of_mem _ hz)) h.2]
  exact key a b ha hb h1

theorem run_str {w : World} {a : Option Addr} {len cap : Nat} {zs : List Int} (h : Row8 w a len cap zs) : (convert 24 9 (.slice a len cap)).run Try.prog w = .ok (.string (bstr zs)) w := by
  by_cases h0 : len = 0
  · subst h0
    obtain rfl : zs = [] := List.length_eq_zero_iff.1 h.length
    cases a with
    | none => exact Lib.run_convert_nil_bytes w 24 9 5 cap Try.underlying24 Try.underlying5 Try.underlying9
    | some a => exact run_convert_bytes_back w 24 9 5 a cap [] Try.underlying24 Try.underlying5 Try.underlying9 (fun j hj => absurd hj (Nat.not_lt_zero _))
  · obtain ⟨b, off, rfl, _, _⟩ := h.cells 0 (by omega)
    have := run_convert_bytes_back (P := Try.prog) w 24 9 5 ⟨b, off, none⟩ cap (zs.map fun z => UInt8.ofNat z.toNat) Try.underlying24 Try.underlying5 Try.underlying9 (fun j hj => by
      rw [List.length_map] at hj
      obtain ⟨b', off', he, _, hc⟩ := h.cells j (by have := h.length; omega)
      cases he
      have e : (Addr.add ⟨b, off, none⟩ j) = ⟨b, off + j, none⟩ := by unfold Addr.add; split <;> simp_all
      rw [e, hc, List.getElem_map, List.getD_eq_getElem?_getD, List.getElem?_eq_getElem (by omega)]
      have := h.bytes zs[j] (List.getElem_mem _)
      simp; omega)
    rw [List.length_map, h.length] at this
    exact this

/-- 'append(own, b...)' where own has no room and no element: a copy of the bytes. -/
theorem wpList_copy8 {w : World} {ops : Array Oper} {rest : List Oper} {op : Oper} {ac : Act} {Q : Exit → Act → World → Prop} (hgd : op.guard = none) (s x : Operand)
    (ho : op.op = .call { callee := .builtin .append, args := #[s, x], argTypes := #[24, 24] }) (g : Nat) (hs : ac.eval s = .slice (some ⟨g, 0, none⟩) 0 0) (hg : w.heap[g]? = some (.cells #[] 5 (0, 0)))
    (ao : Option Addr) (len cap : Nat) (zs : List Int) (hx : ac.eval x = .slice ao len cap) (h : Row8 w ao len cap zs) (hl47 : len ≤ 140737488355328)
    (K : ∀ a' cap' w', Row8 w' a' len cap' zs → w.grownBy w' (some g) → (∀ b off, a' = some ⟨b, off, none⟩ → g ≤ b) → wpList Try.prog ops Q rest (ac.put op.dst (.slice a' len cap')) w') : wpList Try.prog ops Q (op :: rest) ac w := by
  obtain ⟨i0, hi, hz0, hz1, hz2⟩ := info_parts info5
  have hown : w.ownsRow g 5 1 (.slice (some ⟨g, 0, none⟩) 0 0) 0 [] := ⟨rfl, .inr ⟨g, 0, #[], rfl, Nat.le_refl _, hg, Nat.le_refl _, Nat.zero_le _, rfl, rfl⟩⟩
  have hlt := lt_of_heap hg
  have hcap := h.cap_le
  have hle := h.le
  have fin : ∀ v' w', w'.ownsRow g 5 1 v' (0 + len) ([] ++ zs.map (Value.int .u8)) → w.grownBy w' (Value.slice (some ⟨g, 0, none⟩) 0 0).ownBlock → wpList Try.prog ops Q rest (ac.put op.dst v') w' := by
    intro v' w' hv hgr
    obtain ⟨hlen, hv⟩ := hv
    rcases hv with ⟨rfl, hn⟩ | ⟨g', cap', cur, rfl, hb, hh, hn, hc, hsz, htk⟩
    · have h0 : len = 0 := by omega
      subst h0
      obtain rfl : zs = [] := List.length_eq_zero_iff.1 h.length
      exact K none 0 w' (Row8.nil w') hgr (by intro b off e; cases e)
    · rw [Nat.zero_add]
      refine K (some ⟨g', 0, none⟩) cap' w' ⟨h.length, by omega, ?_, fun i hi => ⟨g', 0, rfl, lt_of_heap hh, ?_⟩, h.bytes, fun h => by cases h⟩ hgr (by intro b off e; cases e; exact hb)
      · unfold maxLen at hc; omega
      · rw [Nat.zero_add]
        refine cell_of i hh ?_
        have e1 : (cur.toList.take ((0 + len) * 1))[i]? = cur.toList[i]? := by rw [List.getElem?_take_of_lt (by omega)]
        rw [htk, List.nil_append, List.getElem?_map] at e1
        rw [← Array.getElem?_toList, ← e1, List.getElem?_eq_getElem (by have := h.length; omega), List.getD_eq_getElem?_getD, List.getElem?_eq_getElem (by have := h.length; omega)]
        rfl
  have hnl : (zs.map (Value.int .u8)).length = len * 1 := by rw [List.length_map, h.length]; omega
  cases ao with
  | none =>
    have h0 : len = 0 := by
      rcases Nat.eq_zero_or_pos len with h0 | h0
      · exact h0
      · obtain ⟨b, off, e, _⟩ := h.cells 0 h0; cases e
    subst h0
    obtain rfl : zs = [] := List.length_eq_zero_iff.1 h.length
    obtain rfl := h.bare rfl
    exact wpList_append_own_none hgd s x 24 ho g 5 i0 1 Try.underlying24 hi _ 0 [] hs hown hx (K _ 0 w ⟨rfl, Nat.le_refl _, by omega, fun i hi => absurd hi (Nat.not_lt_zero _), by simp, fun _ => rfl⟩ ⟨rfl, rfl, rfl, Nat.le_refl _, fun _ _ _ => rfl⟩ (fun b off e => by cases e; exact Nat.le_refl _))
  | some ad =>
    refine wpList_append_own w hgd s x 24 ho g 5 i0 (.int .u8 0) 1 1 Try.underlying24 hi hz0 hz1 hz2 rfl (by decide) _ 0 [] hs hown ad len cap _ hx hnl ?_ ?_ (by unfold maxLen; omega) (by omega) (by omega) (fun v' w' h1 h2 _ => fin v' w' h1 h2)
    · intro j u hj
      rw [List.getElem?_map] at hj
      have hjl : j < len := by
        rcases Nat.lt_or_ge j len with h' | h'
        · exact h'
        · rw [List.getElem?_eq_none (by have := h.length; omega)] at hj; cases hj
      obtain ⟨b, off, e, _, hc⟩ := h.cells j hjl
      cases e
      have e : (Addr.add ⟨b, off, none⟩ j) = ⟨b, off + j, none⟩ := by unfold Addr.add; split <;> simp_all
      rw [e, hc, ← hj, List.getElem?_eq_getElem (by have := h.length; omega), List.getD_eq_getElem?_getD, List.getElem?_eq_getElem (by have := h.length; omega)]
      rfl
    · intro u hu
      obtain ⟨z, _, rfl⟩ := List.mem_map.1 hu
      rfl
end Go.Proofs.Ytmdafjegddnecaa
