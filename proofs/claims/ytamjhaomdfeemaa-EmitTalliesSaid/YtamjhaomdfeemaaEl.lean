/- The walk of the law EmitTallies. -/
import Derived.Test.YtamjhaomdfeemaaEk
import Derived.Test.YtamjhaomdfeemaaEaR
import Derived.Test.YtamjhaomdfeemaaEeR
import Derived.Test.YtamjhaomdfeemaaEdR
import Derived.Deep.RegionHeld3
namespace Go.Proofs.Ytamjhaomdfeemaa
open Go.RowKit Go.Wb
set_option linter.unusedVariables false

/-- Two functions of a tally tell the same: a tally that may be, and a number. -/
def Both (f g : FuncId) (args : Array Value) : Prop :=
  ∃ a e b d0 d1 d2 d3 r : Int, tm a e b d0 d1 d2 d3 = true ∧ (0 ≤ a ∧ 0 ≤ e ∧ 0 ≤ b ∧ 0 ≤ d0 ∧ 0 ≤ d1 ∧ 0 ≤ d2 ∧ 0 ≤ d3) ∧
    (∀ w : World, Calls Try.prog f args w fun en w' => en = .returned (.tuple #[.agg (tl a e b d0 d1 d2 d3), .int .i64 r]) ∧ Below w.heap.size w w') ∧
    (∀ w : World, Calls Try.prog g args w fun en w' => en = .returned (.tuple #[.agg (tl a e b d0 d1 d2 d3), .int .i64 r]) ∧ Below w.heap.size w w')

theorem tm_zero : tm 0 0 0 0 0 0 0 = true := by unfold tm; simp

theorem accept_both (a e b d0 d1 d2 d3 : Int) (a0 : 0 ≤ a) (e0 : 0 ≤ e) (b0 : 0 ≤ b) (p0 : 0 ≤ d0) (p1 : 0 ≤ d1) (p2 : 0 ≤ d2) (p3 : 0 ≤ d3) : Both 49 50 #[.agg (tl a e b d0 d1 d2 d3)] := by
  cases hm : tm a e b d0 d1 d2 d3
  · exact ⟨0, 0, 0, 0, 0, 0, 0, 2, tm_zero, by omega, fun w => acceptP_no a e b d0 d1 d2 d3 w a0 e0 b0 p0 p1 p2 p3 hm, fun w => acceptR_no a e b d0 d1 d2 d3 w a0 e0 b0 p0 p1 p2 p3 hm⟩
  · have hy := tm_yes hm
    by_cases hf : a = 4611686018427387904
    · exact ⟨0, 0, 0, 0, 0, 0, 0, 2, tm_zero, by omega, fun w => acceptP_full a e b d0 d1 d2 d3 w a0 e0 b0 p0 p1 p2 p3 hm hf, fun w => acceptR_full a e b d0 d1 d2 d3 w a0 e0 b0 p0 p1 p2 p3 hm hf⟩
    · refine ⟨a + 1, e, b, d0, d1, d2, d3, 0, ?_, by omega, fun w => acceptP_yes a e b d0 d1 d2 d3 w a0 e0 b0 p0 p1 p2 p3 hm (by omega), fun w => acceptR_yes a e b d0 d1 d2 d3 w a0 e0 b0 p0 p1 p2 p3 hm (by omega)⟩
      unfold tm; simp; omega

theorem emit_both (a e b d0 d1 d2 d3 n : Int) (n1 : n ≤ 9223372036854775807) (a0 : 0 ≤ a) (e0 : 0 ≤ e) (b0 : 0 ≤ b) (p0 : 0 ≤ d0) (p1 : 0 ≤ d1) (p2 : 0 ≤ d2) (p3 : 0 ≤ d3) : Both 51 52 #[.agg (tl a e b d0 d1 d2 d3), .int .i64 n] := by
  cases hm : tm a e b d0 d1 d2 d3
  · exact ⟨0, 0, 0, 0, 0, 0, 0, 2, tm_zero, by omega, fun w => emitP_no a e b d0 d1 d2 d3 n w a0 e0 b0 p0 p1 p2 p3 n1 hm, fun w => emitR_no a e b d0 d1 d2 d3 n w a0 e0 b0 p0 p1 p2 p3 n1 hm⟩
  · have hy := tm_yes hm
    by_cases hn : n < 0
    · exact ⟨0, 0, 0, 0, 0, 0, 0, 2, tm_zero, by omega, fun w => emitP_neg a e b d0 d1 d2 d3 n w a0 e0 b0 p0 p1 p2 p3 n1 hm hn, fun w => emitR_neg a e b d0 d1 d2 d3 n w a0 e0 b0 p0 p1 p2 p3 n1 hm hn⟩
    · by_cases ho : 4611686018427387904 < n + b
      · exact ⟨0, 0, 0, 0, 0, 0, 0, 2, tm_zero, by omega, fun w => emitP_over a e b d0 d1 d2 d3 n w a0 e0 b0 p0 p1 p2 p3 n1 hm (by omega) ho, fun w => emitR_over a e b d0 d1 d2 d3 n w a0 e0 b0 p0 p1 p2 p3 n1 hm (by omega) ho⟩
      · by_cases hq : a - e - d0 - d1 - d2 - d3 = 0
        · exact ⟨0, 0, 0, 0, 0, 0, 0, 7, tm_zero, by omega, fun w => emitP_none a e b d0 d1 d2 d3 n w a0 e0 b0 p0 p1 p2 p3 n1 hm (by omega) (by omega) hq, fun w => emitR_none a e b d0 d1 d2 d3 n w a0 e0 b0 p0 p1 p2 p3 n1 hm (by omega) (by omega) hq⟩
        · refine ⟨a, e + 1, b + n, d0, d1, d2, d3, 0, ?_, by omega, fun w => emitP_yes a e b d0 d1 d2 d3 n w a0 e0 b0 p0 p1 p2 p3 n1 hm (by omega) (by omega) hq, fun w => emitR_yes a e b d0 d1 d2 d3 n w a0 e0 b0 p0 p1 p2 p3 n1 hm (by omega) (by omega) hq⟩
          unfold tm; simp; omega

theorem drop_both (a e b d0 d1 d2 d3 n : Int) (n0 : 0 ≤ n) (a0 : 0 ≤ a) (e0 : 0 ≤ e) (b0 : 0 ≤ b) (p0 : 0 ≤ d0) (p1 : 0 ≤ d1) (p2 : 0 ≤ d2) (p3 : 0 ≤ d3) : Both 53 54 #[.agg (tl a e b d0 d1 d2 d3), .int .u8 n] := by
  cases hm : tm a e b d0 d1 d2 d3
  · exact ⟨0, 0, 0, 0, 0, 0, 0, 2, tm_zero, by omega, fun w => dropP_no a e b d0 d1 d2 d3 n w a0 e0 b0 p0 p1 p2 p3 hm, fun w => dropR_no a e b d0 d1 d2 d3 n w a0 e0 b0 p0 p1 p2 p3 hm⟩
  · have hy := tm_yes hm
    by_cases hn : 4 ≤ n
    · exact ⟨0, 0, 0, 0, 0, 0, 0, 2, tm_zero, by omega, fun w => dropP_big a e b d0 d1 d2 d3 n w a0 e0 b0 p0 p1 p2 p3 hm hn, fun w => dropR_big a e b d0 d1 d2 d3 n w a0 e0 b0 p0 p1 p2 p3 hm hn⟩
    · by_cases hq : a - e - d0 - d1 - d2 - d3 = 0
      · exact ⟨0, 0, 0, 0, 0, 0, 0, 7, tm_zero, by omega, fun w => dropP_none a e b d0 d1 d2 d3 n w a0 e0 b0 p0 p1 p2 p3 hm n0 (by omega) hq, fun w => dropR_none a e b d0 d1 d2 d3 n w a0 e0 b0 p0 p1 p2 p3 hm n0 (by omega) hq⟩
      · rcases (by omega : n = 0 ∨ n = 1 ∨ n = 2 ∨ n = 3) with rfl | rfl | rfl | rfl
        · refine ⟨a, e, b, d0 + 1, d1, d2, d3, 0, ?_, by omega, fun w => dropP_y0 a e b d0 d1 d2 d3 0 w a0 e0 b0 p0 p1 p2 p3 rfl hm hq, fun w => dropR_y0 a e b d0 d1 d2 d3 0 w a0 e0 b0 p0 p1 p2 p3 rfl hm hq⟩
          unfold tm; simp; omega
        · refine ⟨a, e, b, d0, d1 + 1, d2, d3, 0, ?_, by omega, fun w => dropP_y1 a e b d0 d1 d2 d3 0 w a0 e0 b0 p0 p1 p2 p3 rfl hm hq, fun w => dropR_y1 a e b d0 d1 d2 d3 0 w a0 e0 b0 p0 p1 p2 p3 rfl hm hq⟩
          unfold tm; simp; omega
        · refine ⟨a, e, b, d0, d1, d2 + 1, d3, 0, ?_, by omega, fun w => dropP_y2 a e b d0 d1 d2 d3 0 w a0 e0 b0 p0 p1 p2 p3 rfl hm hq, fun w => dropR_y2 a e b d0 d1 d2 d3 0 w a0 e0 b0 p0 p1 p2 p3 rfl hm hq⟩
          unfold tm; simp; omega
        · refine ⟨a, e, b, d0, d1, d2, d3 + 1, 0, ?_, by omega, fun w => dropP_y3 a e b d0 d1 d2 d3 0 w a0 e0 b0 p0 p1 p2 p3 rfl hm hq, fun w => dropR_y3 a e b d0 d1 d2 d3 0 w a0 e0 b0 p0 p1 p2 p3 rfl hm hq⟩
          unfold tm; simp; omega

theorem queued_both (a e b d0 d1 d2 d3 : Int) (a0 : 0 ≤ a) (e0 : 0 ≤ e) (b0 : 0 ≤ b) (p0 : 0 ≤ d0) (p1 : 0 ≤ d1) (p2 : 0 ≤ d2) (p3 : 0 ≤ d3) :
    ∃ q : Int, (∀ w : World, Calls Try.prog 47 #[.agg (tl a e b d0 d1 d2 d3)] w fun en w' => en = .returned (.int .u64 q) ∧ Below w.heap.size w w') ∧ (∀ w : World, Calls Try.prog 48 #[.agg (tl a e b d0 d1 d2 d3)] w fun en w' => en = .returned (.int .u64 q) ∧ Below w.heap.size w w') := by
  cases hm : tm a e b d0 d1 d2 d3
  · exact ⟨0, fun w => queuedP_no a e b d0 d1 d2 d3 w a0 e0 b0 p0 p1 p2 p3 hm, fun w => queuedR_no a e b d0 d1 d2 d3 w a0 e0 b0 p0 p1 p2 p3 hm⟩
  · exact ⟨_, fun w => queuedP_yes a e b d0 d1 d2 d3 w a0 e0 b0 p0 p1 p2 p3 hm, fun w => queuedR_yes a e b d0 d1 d2 d3 w a0 e0 b0 p0 p1 p2 p3 hm⟩
end Go.Proofs.Ytamjhaomdfeemaa
