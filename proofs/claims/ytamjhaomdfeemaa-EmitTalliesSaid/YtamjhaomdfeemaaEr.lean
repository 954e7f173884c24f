/- Walks of package emit: may a tally be, and the reference's. -/
import Derived.Test.YtamjhaomdfeemaaEn
namespace Go.Proofs.Ytamjhaomdfeemaa
open Go.RowKit Go.Wb
set_option linter.unusedVariables false

theorem tm_yes {a e b d0 d1 d2 d3 : Int} (h : tm a e b d0 d1 d2 d3 = true) : a ≤ 4611686018427387904 ∧ b ≤ 4611686018427387904 ∧ e + d0 + d1 + d2 + d3 ≤ a := by
  unfold tm at h
  simpa using h
theorem mayP_any (a e b d0 d1 d2 d3 : Int) (w : World) (a0 : 0 ≤ a) (e0 : 0 ≤ e) (b0 : 0 ≤ b) (p0 : 0 ≤ d0) (p1 : 0 ≤ d1) (p2 : 0 ≤ d2) (p3 : 0 ≤ d3) :
    Calls Try.prog 45 #[.agg (tl a e b d0 d1 d2 d3)] w fun en w' => en = .returned (.bool (tm a e b d0 d1 d2 d3)) ∧ Below w.heap.size w w' := by
  cases h : ovk a e b d0 d1 d2 d3
  · rw [ovk_no h a0 e0 b0 p0 p1 p2 p3]; exact may_no a e b d0 d1 d2 d3 w h
  · exact may_yes a e b d0 d1 d2 d3 w h a0 e0 b0 p0 p1 p2 p3

theorem over_exact (a e b d0 d1 d2 d3 : Int) (w : World) (a0 : 0 ≤ a) (e0 : 0 ≤ e) (b0 : 0 ≤ b) (p0 : 0 ≤ d0) (p1 : 0 ≤ d1) (p2 : 0 ≤ d2) (p3 : 0 ≤ d3) (hm : tm a e b d0 d1 d2 d3 = true) :
    Calls Try.prog 73 #[.agg (tl a e b d0 d1 d2 d3)] w fun en w' => en = .returned (.tuple #[.int .u64 (e + d0 + d1 + d2 + d3), .bool true]) ∧ Below w.heap.size w w' := by
  obtain ⟨a1, b1, s1⟩ := tm_yes hm
  have h1 : ovn e d0 d1 d2 d3 = e + d0 + d1 + d2 + d3 := by
    unfold ovn; simp only [IntKind.wrap_u64]; omega
  have h2 : ovk a e b d0 d1 d2 d3 = true := by
    unfold ovk; simp only [Bool.true_and, Bool.and_eq_true, decide_eq_true_eq]; omega
  have := over_any a e b d0 d1 d2 d3 w
  rw [h1, h2] at this
  exact this

set_option maxRecDepth 100000 in
set_option maxHeartbeats 4000000 in
theorem mayR_any (a e b d0 d1 d2 d3 : Int) (w : World) (a0 : 0 ≤ a) (e0 : 0 ≤ e) (b0 : 0 ≤ b) (p0 : 0 ≤ d0) (p1 : 0 ≤ d1) (p2 : 0 ≤ d2) (p3 : 0 ≤ d3) :
    Calls Try.prog 46 #[.agg (tl a e b d0 d1 d2 d3)] w fun en w' => en = .returned (.bool (tm a e b d0 d1 d2 d3)) ∧ Below w.heap.size w w' := by
  have B := Lib.hid ((Below.refl w.heap.size w).alloc (Nat.le_refl _) (Obj.cells #[.int .u64 a, .int .u64 e, .int .u64 b, .int .u64 d0, .int .u64 d1, .int .u64 d2, .int .u64 d3] 74))
  have FIN : Hid (∀ {en : Ending} (v : Bool), en = .returned (.bool v) → (v = true ↔ a ≤ 4611686018427387904 ∧ b ≤ 4611686018427387904 ∧ e + d0 + d1 + d2 + d3 ≤ a) → en = .returned (.bool (tm a e b d0 d1 d2 d3))) := by
    intro en v h1 h2
    rw [h1]
    refine ret_bool ?_
    unfold tm
    rw [Bool.eq_iff_iff, h2]
    simp
  unfold tl at *
  by_cases h0 : 4611686018427387904 < a
  · go_enter Try.func46, Try.ntmps46
    go_wp2_with fail
    go_ret
    exact ⟨FIN.out false rfl (by simp; omega), B.out⟩
  by_cases h1 : 4611686018427387904 < e
  · go_enter Try.func46, Try.ntmps46
    go_wp2_with fail
    go_ret
    exact ⟨FIN.out false rfl (by simp; omega), B.out⟩
  by_cases h2 : 4611686018427387904 < b
  · go_enter Try.func46, Try.ntmps46
    go_wp2_with fail
    go_ret
    exact ⟨FIN.out false rfl (by simp; omega), B.out⟩
  by_cases h3 : a < e
  · go_enter Try.func46, Try.ntmps46
    go_wp2_with fail
    go_ret
    exact ⟨FIN.out false rfl (by simp; omega), B.out⟩
  go_enter Try.func46, Try.ntmps46
  go_wp2_with fail
  refine wp_loop_rounds 5 ?_
  rw [rounds_succ]
  by_cases g0 : a - e < d0
  · go_wp2_with fail
    go_ret
    exact ⟨FIN.out false rfl (by simp; omega), B.out⟩
  go_wp2_with fail
  rw [rounds_succ]
  by_cases g1 : a - e - d0 < d1
  · go_wp2_with fail
    go_ret
    exact ⟨FIN.out false rfl (by simp; omega), B.out⟩
  go_wp2_with fail
  rw [rounds_succ]
  by_cases g2 : a - e - d0 - d1 < d2
  · go_wp2_with fail
    go_ret
    exact ⟨FIN.out false rfl (by simp; omega), B.out⟩
  go_wp2_with fail
  rw [rounds_succ]
  by_cases g3 : a - e - d0 - d1 - d2 < d3
  · go_wp2_with fail
    go_ret
    exact ⟨FIN.out false rfl (by simp; omega), B.out⟩
  go_wp2_with fail
  rw [rounds_succ]
  go_wp2_with fail
  go_ret
  exact ⟨FIN.out true rfl (by simp; omega), B.out⟩
end Go.Proofs.Ytamjhaomdfeemaa
