/- Walks of package health and of its reference: a health that is fitted, and one behind a reply. -/
import Derived.Test.YtamjhaomdfeemaaHm
namespace Go.Proofs.Ytamjhaomdfeemaa
open Go.RowKit Go.Wb
set_option linter.unusedVariables false

def fitR (up : Bool) (run r f : Int) : Int := if maySet r f = true then max 0 (min run (need up r f - 1)) else 0

set_option maxRecDepth 100000 in
set_option maxHeartbeats 2000000 in
theorem rreply_any (up : Bool) (run r f : Int) (good : Bool) (w : World) (h : hmay up run r f = true) : Calls Try.prog 32 #[.agg #[.bool up, .int .i64 run], .agg #[.int .i64 r, .int .i64 f], .bool good] w fun e w' =>
    e = .returned (.tuple #[.agg #[.bool (if good = up then up else if run + 1 < need up r f then up else !up), .int .i64 (if good = up then 0 else if run + 1 < need up r f then run + 1 else 0)], .bool (if good = up then false else if run + 1 < need up r f then false else true)]) ∧ Below w.heap.size w w' := by
  have hm : 1 ≤ r ∧ r ≤ 10 ∧ 1 ≤ f ∧ f ≤ 10 ∧ 0 ≤ run ∧ run < need up r f := by
    unfold hmay at h
    simp only [Bool.and_eq_true, decide_eq_true_eq] at h
    have := maySet_iff.1 h.1.1
    omega
  clear h
  obtain ⟨r0, r1, f0, f1, n0, n1⟩ := hm
  have HN : need up r f = if up = true then f else r := rfl
  have hnb : need up r f ≤ 10 := by unfold need; split <;> omega
  cases up <;> cases good
  all_goals
    simp only [need, if_true, if_false, Bool.false_eq_true] at n1 hnb HN ⊢
    clear HN
  · go_enter Try.func32, Try.ntmps32
    go_wp2_with fail
    refine bodyPost_ret (v := .tuple #[.agg #[.bool false, .int .i64 0], .bool false]) (by simp [results, Try.results32, go_sem]) rfl ⟨by simp, ?_⟩
    repeat' (first | exact Below.refl _ _ | refine Below.setCell ?_ ?_ _ | refine Below.alloc ?_ ?_ _)
    all_goals (first | (simp; done) | (simp; omega) | omega)
  · by_cases hlt : run + 1 < r
    · go_enter Try.func32, Try.ntmps32
      go_wp2_with fail
      refine bodyPost_ret (v := .tuple #[.agg #[.bool false, .int .i64 (run + 1)], .bool false]) (by simp [results, Try.results32, go_sem]) rfl ⟨by simp, ?_⟩
      repeat' (first | exact Below.refl _ _ | refine Below.setCell ?_ ?_ _ | refine Below.alloc ?_ ?_ _)
      all_goals (first | (simp; done) | (simp; omega) | omega)
    · go_enter Try.func32, Try.ntmps32
      go_wp2_with fail
      refine bodyPost_ret (v := .tuple #[.agg #[.bool true, .int .i64 0], .bool true]) (by simp [results, Try.results32, go_sem]) rfl ⟨by simp, ?_⟩
      repeat' (first | exact Below.refl _ _ | refine Below.setCell ?_ ?_ _ | refine Below.alloc ?_ ?_ _)
      all_goals (first | (simp; done) | (simp; omega) | omega)
  · by_cases hlt : run + 1 < f
    · go_enter Try.func32, Try.ntmps32
      go_wp2_with fail
      refine bodyPost_ret (v := .tuple #[.agg #[.bool true, .int .i64 (run + 1)], .bool false]) (by simp [results, Try.results32, go_sem]) rfl ⟨by simp, ?_⟩
      repeat' (first | exact Below.refl _ _ | refine Below.setCell ?_ ?_ _ | refine Below.alloc ?_ ?_ _)
      all_goals (first | (simp; done) | (simp; omega) | omega)
    · go_enter Try.func32, Try.ntmps32
      go_wp2_with fail
      refine bodyPost_ret (v := .tuple #[.agg #[.bool false, .int .i64 0], .bool true]) (by simp [results, Try.results32, go_sem]) rfl ⟨by simp, ?_⟩
      repeat' (first | exact Below.refl _ _ | refine Below.setCell ?_ ?_ _ | refine Below.alloc ?_ ?_ _)
      all_goals (first | (simp; done) | (simp; omega) | omega)
  · go_enter Try.func32, Try.ntmps32
    go_wp2_with fail
    refine bodyPost_ret (v := .tuple #[.agg #[.bool true, .int .i64 0], .bool false]) (by simp [results, Try.results32, go_sem]) rfl ⟨by simp, ?_⟩
    repeat' (first | exact Below.refl _ _ | refine Below.setCell ?_ ?_ _ | refine Below.alloc ?_ ?_ _)
    all_goals (first | (simp; done) | (simp; omega) | omega)
end Go.Proofs.Ytamjhaomdfeemaa
