/- The walk of the law HealthTurns. -/
import Derived.Test.YtamjhaomdfeemaaHr
namespace Go.Proofs.Ytamjhaomdfeemaa
open Go.RowKit Go.Wb
set_option linter.unusedVariables false

/-- Bools that lie in memory. -/
structure RowB (w : World) (a : Option Addr) (len : Nat) (zs : List Bool) : Prop where
  length : zs.length = len
  cells : ∀ i, i < len → ∃ b off, a = some ⟨b, off, none⟩ ∧ b < w.heap.size ∧ w.cell? ⟨b, off + i, none⟩ = some (.bool (zs.getD i false))

theorem hmay_iff {up : Bool} {run r f : Int} : hmay up run r f = true ↔ (1 ≤ r ∧ r ≤ 10 ∧ 1 ≤ f ∧ f ≤ 10) ∧ 0 ≤ run ∧ run < need up r f := by
  unfold hmay
  rw [Bool.and_eq_true, Bool.and_eq_true, maySet_iff]
  simp [and_assoc]

/-- A reply, and what it makes. -/
theorem reply_facts (hu : Bool) (hr r f : Int) (good : Bool) (h : hmay hu hr r f = true) : ∃ xu xr xd,
    (∀ W, Calls Try.prog 23 #[.agg #[.bool hu, .int .i64 hr], .agg #[.int .i64 r, .int .i64 f], .bool good] W fun e w' => e = .returned (.tuple #[.agg #[.bool xu, .int .i64 xr], .bool xd, .int .i64 0]) ∧ Below W.heap.size W w') ∧
    hmay xu xr r f = true ∧ xd = (xu != hu) ∧ (xu = hu ∨ xu = good) ∧ (xu ≠ good → xr = hr + 1 ∧ xr < if good = true then r else f) := by
  have h' := hmay_iff.1 h
  refine ⟨_, _, _, fun W => reply_yes hu hr r f good W h, ?_⟩
  by_cases hg : good = hu
  · subst hg
    refine ⟨?_, ?_, ?_, ?_⟩
    · rw [hmay_iff]; simp; unfold need; split <;> omega
    · simp
    · simp
    · simp
  · by_cases hl : hr + 1 < need hu r f
    · simp only [hg, hl, if_true, if_false]
      refine ⟨hmay_iff.2 ⟨h'.1, by omega, hl⟩, by simp, by simp, fun _ => ⟨by first | trivial | rfl, ?_⟩⟩
      unfold need at hl
      cases hu <;> cases good <;> simp_all
    · simp only [hg, hl, if_false]
      refine ⟨hmay_iff.2 ⟨h'.1, by omega, by unfold need; split <;> omega⟩, by cases hu <;> rfl, .inr ?_, fun hx => absurd ?_ hx⟩
      all_goals cases hu <;> cases good <;> simp_all

theorem fit_same {up : Bool} {run r f : Int} (h : hmay up run r f = true) : fitR up run r f = run := by
  have := hmay_iff.1 h
  unfold fitR
  rw [if_pos (maySet_iff.2 this.1)]; omega
end Go.Proofs.Ytamjhaomdfeemaa
