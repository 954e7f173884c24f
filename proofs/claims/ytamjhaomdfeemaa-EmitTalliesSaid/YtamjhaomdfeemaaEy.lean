/- What came in of the law EmitTallies. -/
import Derived.Test.YtamjhaomdfeemaaEz
import Derived.Test.YtamjhaomdfeemaaOp
namespace Go.Proofs.Ytamjhaomdfeemaa
open Go.RowKit Go.Wb
set_option linter.unusedVariables false

def InTally (v : Value) : Prop := ∃ a e b d0 d1 d2 d3 : Int, v = .agg (tl a e b d0 d1 d2 d3) ∧ 0 ≤ a ∧ 0 ≤ e ∧ 0 ≤ b ∧ 0 ≤ d0 ∧ 0 ≤ d1 ∧ 0 ≤ d2 ∧ 0 ≤ d3

theorem flat74 : flat Try.prog 4 74 = some [31, 31, 31, 31, 31, 31, 31] := by kernel_rfl
theorem nn_u64 {n : Int} (h : (Lit.int .u64 n).wf = true) : 0 ≤ n := (bounds_u64 h).1
set_option maxRecDepth 1000000 in
theorem openT74 {H : Type} {enc : TypeId × Value → H} {w : World} {base b0 : Nat} {spare : Nat → Bool} {held : Bool} {r : Reach} {v : Value} {d : DataW H} {p : List MemPlace} (hv : Value.okWide Try.prog w r b0 74 v) (h : DataW.Trod enc Try.prog w base spare held 74 v d p) : InTally v := by
  obtain ⟨cs, rfl, hl⟩ := open_flat flat74 (agg_struct Try.underlying74 hv) h
  obtain ⟨a, vs, rfl, wa, h1⟩ := leaves_int Try.underlying31 hl
  obtain ⟨e, vs, rfl, we, h2⟩ := leaves_int Try.underlying31 h1
  obtain ⟨b, vs, rfl, wb, h3⟩ := leaves_int Try.underlying31 h2
  obtain ⟨d0, vs, rfl, w0, h4⟩ := leaves_int Try.underlying31 h3
  obtain ⟨d1, vs, rfl, w1, h5⟩ := leaves_int Try.underlying31 h4
  obtain ⟨d2, vs, rfl, w2, h6⟩ := leaves_int Try.underlying31 h5
  obtain ⟨d3, vs, rfl, w3, h7⟩ := leaves_int Try.underlying31 h6
  obtain rfl := leaves_nil h7
  exact ⟨a, e, b, d0, d1, d2, d3, rfl, nn_u64 wa, nn_u64 we, nn_u64 wb, nn_u64 w0, nn_u64 w1, nn_u64 w2, nn_u64 w3⟩
theorem emitTallies_walk (w : World) (v : Value) (hv : InTally v) (n : Int) (wn : (Lit.int .i64 n).wf = true) (r : Int) (wr : (Lit.int .u8 r).wf = true) : Calls Try.prog 12 #[v, .int .i64 n, .int .u8 r] w fun e w' => e = .returned (.bool true) ∧ Below w.heap.size w w' := by
  obtain ⟨a, e, b, d0, d1, d2, d3, rfl, h0, h1, h2, h3, h4, h5, h6⟩ := hv
  have := bounds_i64 wn
  have := bounds_u8 wr
  exact emitTallies_main a e b d0 d1 d2 d3 n r w (by omega) (by omega) h0 h1 h2 h3 h4 h5 h6
end Go.Proofs.Ytamjhaomdfeemaa
