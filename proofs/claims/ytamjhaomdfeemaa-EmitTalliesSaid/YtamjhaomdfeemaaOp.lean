/- What came in: a slice of bytes, a sum so far. -/
import Derived.Test.YtamjhaomdfeemaaSq
import Derived.Test.YtamjhaomdfeemaaRd
import Derived.Test.YtamjhaomdfeemaaCe
namespace Go.Proofs.Ytamjhaomdfeemaa
open Go.RowKit Go.Wb
set_option linter.unusedVariables false

theorem in8_of_row {w : World} {v : Value} {zs : List Int} (h : IsRow .u8 w v zs) : In8 w v := by
  obtain ⟨a, len, cap, rfl, hz, hl, hm, hc, hw, hn⟩ := h
  unfold maxLen at hm
  refine ⟨a, len, cap, zs, rfl, hz, hl, hm, ?_, fun x hx => bounds_u8 (hw x hx), hn⟩
  · intro i hi
    rcases hc with h0 | ⟨b, off, rfl, hb, hcell⟩
    · omega
    · exact ⟨b, off, rfl, hb, hcell i hi⟩

theorem flat24 : flat Try.prog 3 24 = some [22, 4] := by kernel_rfl
set_option maxRecDepth 1000000 in
theorem openT24 {H : Type} {enc : TypeId × Value → H} {w : World} {base b0 : Nat} {spare : Nat → Bool} {held : Bool} {r : Reach} {v : Value} {d : DataW H} {p : List MemPlace} (hv : Value.okWide Try.prog w r b0 24 v) (h : DataW.Trod enc Try.prog w base spare held 24 v d p) : InPart v := by
  obtain ⟨cs, rfl, hl⟩ := open_flat flat24 (agg_struct Try.underlying24 hv) h
  obtain ⟨s, vs, rfl, ws, h1⟩ := leaves_int Try.underlying22 hl
  obtain ⟨o, vs, rfl, h2⟩ := leaves_bool Try.underlying4 h1
  obtain rfl := leaves_nil h2
  have := bounds_u16 ws
  exact ⟨s, o, rfl, this.1, this.2⟩
set_option maxRecDepth 1000000 in
theorem openT25 {H : Type} {enc : TypeId × Value → H} {w : World} {base b0 : Nat} {spare : Nat → Bool} {held : Bool} {r : Reach} {v : Value} {d : DataW H} {p : List MemPlace} (hv : Value.okWide Try.prog w r b0 25 v) (h : DataW.Trod enc Try.prog w base spare held 25 v d p) : In8 w v := by
  obtain ⟨zs, hz⟩ := open_row Try.underlying25 Try.underlying5 Try.cells5 hv h
  exact in8_of_row hz
end Go.Proofs.Ytamjhaomdfeemaa
