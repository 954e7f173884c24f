/- What came in of the law SumHeads. -/
import Derived.Test.YtamjhaomdfeemaaSh
namespace Go.Proofs.Ytamjhaomdfeemaa
open Go.RowKit Go.Wb
set_option linter.unusedVariables false

theorem sumHeads_walk (w : World) (v6 : Bool) (s : Value) (hs : InAr 16 s) (d : Value) (hd : InAr 16 d) (pr : Int) (wp : (Lit.int .u8 pr).wf = true) (n : Int) (wn : (Lit.int .i64 n).wf = true) (a : Int) (wa : (Lit.int .u16 a).wf = true) (f : Int) (wf : (Lit.int .u16 f).wf = true) (t : Int) (wt : (Lit.int .u16 t).wf = true) :
    Calls Try.prog 8 #[.bool v6, s, d, .int .u8 pr, .int .i64 n, .int .u16 a, .int .u16 f, .int .u16 t] w fun e w' => e = .returned (.bool true) ∧ Below w.heap.size w w' := by
  obtain ⟨ss, rfl, h1, h2⟩ := hs
  obtain ⟨ds, rfl, h3, h4⟩ := hd
  have b1 := bounds_u8 wp
  have b2 := bounds_i64 wn
  have b3 := bounds_u16 wa
  have b4 := bounds_u16 wf
  have b5 := bounds_u16 wt
  exact sumHeads_main v6 ss ds pr n a f t w h1 h3 h2 h4 b1.1 b1.2 b2.2 b3.1 b3.2 b4.1 b4.2 b5.1 b5.2
end Go.Proofs.Ytamjhaomdfeemaa
