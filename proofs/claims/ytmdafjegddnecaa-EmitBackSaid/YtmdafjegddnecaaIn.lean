/- What came in: a slice of bytes, an array of bytes. -/
import Derived.Test.YtmdafjegddnecaaLx
import Derived.Test.YtmdafjegddnecaaRd
import Derived.Test.YtmdafjegddnecaaCe
namespace Go.Proofs.Ytmdafjegddnecaa
open Go.RowKit Go.Wb
set_option linter.unusedVariables false

def In8 (w : World) (v : Value) : Prop := ∃ a len cap zs, v = .slice a len cap ∧ Row8 w a len cap zs

theorem in8_of_row {w : World} {v : Value} {zs : List Int} (h : IsRow .u8 w v zs) : In8 w v := by
  obtain ⟨a, len, cap, rfl, hz, hl, hm, hc, hw, hn⟩ := h
  unfold maxLen at hm
  refine ⟨a, len, cap, zs, rfl, hz, hl, hm, ?_, fun x hx => bounds_u8 (hw x hx), hn⟩
  · intro i hi
    rcases hc with h0 | ⟨b, off, rfl, hb, hcell⟩
    · omega
    · exact ⟨b, off, rfl, hb, hcell i hi⟩

set_option maxRecDepth 1000000 in
theorem openT24 {H : Type} {enc : TypeId × Value → H} {w : World} {base b0 : Nat} {spare : Nat → Bool} {held : Bool} {r : Reach} {v : Value} {d : DataW H} {p : List MemPlace} (hv : Value.okWide Try.prog w r b0 24 v) (h : DataW.Trod enc Try.prog w base spare held 24 v d p) : In8 w v := by
  obtain ⟨zs, hz⟩ := open_row Try.underlying24 Try.underlying5 Try.cells5 hv h
  exact in8_of_row hz

/-- An array of bytes, as a value. -/
def ar (ss : List Int) : Array Value := (ss.map (Value.int .u8)).toArray
theorem row_of_block {w : World} {b n k : Nat} {ss : List Int} {t : TypeId} (h : w.heap[b]? = some (.cells (ar ss) t (0, 0))) (hs : ss.length = n) (hk : k ≤ n) (hn : n ≤ 100) (hb : ∀ x ∈ ss, 0 ≤ x ∧ x ≤ 255) : Row8 w (some ⟨b, 0, none⟩) k n (ss.take k) := by
  refine ⟨by rw [List.length_take]; omega, hk, by omega, fun i hi => ⟨b, 0, rfl, lt_of_heap h, ?_⟩, fun x hx => hb x (List.mem_of_mem_take hx), fun h => by cases h⟩
  rw [Nat.zero_add]
  refine cell_of i h ?_
  simp only [ar, List.getElem?_toArray, List.getElem?_map]
  rw [List.getElem?_eq_getElem (by omega), List.getD_eq_getElem?_getD, List.getElem?_take_of_lt hi, List.getElem?_eq_getElem (by omega)]
  rfl

/-- An array of sixteen bytes. -/
def InAr (n : Nat) (v : Value) : Prop := ∃ ss : List Int, v = .agg (ar ss) ∧ ss.length = n ∧ ∀ x ∈ ss, 0 ≤ x ∧ x ≤ 255
theorem flat23 : flat Try.prog 4 23 = some (List.replicate 16 5) := by kernel_rfl
set_option maxRecDepth 1000000 in
theorem openT23 {H : Type} {enc : TypeId × Value → H} {w : World} {base b0 : Nat} {spare : Nat → Bool} {held : Bool} {r : Reach} {v : Value} {d : DataW H} {p : List MemPlace} (hv : Value.okWide Try.prog w r b0 23 v) (h : DataW.Trod enc Try.prog w base spare held 23 v d p) : InAr 16 v := by
  obtain ⟨cs, rfl, hl⟩ := open_flat flat23 (agg_array Try.underlying23 hv) h
  have hl' := hl
  rw [← List.append_nil (List.replicate 16 _)] at hl'
  obtain ⟨ss, us, hn, rfl, hw, h1⟩ := leaves_ints Try.underlying5 16 hl'
  obtain rfl := leaves_nil h1
  exact ⟨ss, by simp [ar], hn, fun x hx => bounds_u8 (hw x hx)⟩
end Go.Proofs.Ytmdafjegddnecaa
