/- Walks of the token bucket (package bucket) and of the law BucketNone; no condition on the input. -/
import Derived.Test.YtamjhaomdfeemaaRows
import Derived.Test.YtamjhaomdfeemaaKp
import Derived.WalkLawsBesides
import Derived.Outline
namespace Go.Proofs.Ytamjhaomdfeemaa
open Go.RowKit Go.Wb

def Bk (r u t : Int) : Obj := .cells #[.int .u32 r, .int .u32 u, .int .u32 t] 95 (0, 0)
theorem Bk.c0 {w : World} {b : Nat} {r u t : Int} (h : w.heap[b]? = some (Bk r u t)) : w.cell? ⟨b, 0, none⟩ = some (.int .u32 r) := cell_of 0 h rfl
theorem Bk.c1 {w : World} {b : Nat} {r u t : Int} (h : w.heap[b]? = some (Bk r u t)) : w.cell? ⟨b, 1, none⟩ = some (.int .u32 u) := cell_of 1 h rfl
theorem Bk.c2 {w : World} {b : Nat} {r u t : Int} (h : w.heap[b]? = some (Bk r u t)) : w.cell? ⟨b, 2, none⟩ = some (.int .u32 t) := cell_of 2 h rfl
theorem Bk.f {w : World} {b : Nat} {r u t : Int} (h : w.heap[b]? = some (Bk r u t)) (i : Nat) : w.frozen? ⟨b, i, none⟩ = false := free_of i h

theorem none_nil (w : World) : Calls Try.prog 71 #[.pointer none] w fun e w' => e = .returned (.bool true) ∧ w = w' := by
  go_enter Try.func71, Try.ntmps71
  go_wp2
  go_ret
  exact ⟨rfl, rfl⟩

theorem none_at (b : Nat) (r : Int) (w : World) (h0 : w.cell? ⟨b, 0, none⟩ = some (.int .u32 r)) :
    Calls Try.prog 71 #[.pointer (some ⟨b, 0, none⟩)] w fun e w' => e = .returned (.bool (r == 0)) ∧ w = w' := by
  go_enter Try.func71, Try.ntmps71
  go_wp2
  go_ret
  exact ⟨rfl, rfl⟩

theorem may1_any (n l m : Int) (w : World) :
    Calls Try.prog 74 #[.int .u32 n, .int .u32 l, .int .u32 m] w fun e w' => e = .returned (.bool (decide (l ≤ n) && decide (n ≤ m))) ∧ w = w' := by
  by_cases h1 : l ≤ n <;> by_cases h2 : n ≤ m
  all_goals
    go_enter Try.func74, Try.ntmps74
    go_wp2
    go_ret
    exact ⟨by simp [*], rfl⟩

def may (r u : Int) : Bool := decide (1 ≤ r) && decide (r ≤ u) && decide (u ≤ 1073741824)

theorem may_any (r u : Int) (w : World) :
    Calls Try.prog 70 #[.int .u32 r, .int .u32 u] w fun e w' => e = .returned (.bool (may r u)) ∧ w = w' := by
  unfold may
  cases h1 : decide (1 ≤ r) && decide (r ≤ u)
  · go_enter Try.func70, Try.ntmps70
    go_wp2_with fail
    refine (may1_any _ _ _ _).mono ?_
    rintro e w' ⟨rfl, rfl⟩
    rw [h1]
    go_wp2_with fail
    go_ret
    exact ⟨rfl, rfl⟩
  · go_enter Try.func70, Try.ntmps70
    go_wp2_with fail
    refine (may1_any _ _ _ _).mono ?_
    rintro e w' ⟨rfl, rfl⟩
    rw [h1]
    go_wp2_with fail
    refine (may1_any _ _ _ _).mono ?_
    rintro e w' ⟨rfl, rfl⟩
    go_wp2_with fail
    go_ret
    exact ⟨by simp at h1; simp; omega, rfl⟩

theorem new_any (r u : Int) (w : World) :
    Calls Try.prog 36 #[.int .u32 r, .int .u32 u] w fun e w' =>
      (may r u = true → e = .returned (.tuple #[.pointer (some ⟨w.heap.size, 0, none⟩), .int .i64 0]) ∧ w' = w.alloc (Bk r u u)) ∧
      (may r u = false → e = .returned (.tuple #[.pointer none, .int .i64 2]) ∧ w' = w) := by
  cases hm : may r u
  all_goals
    go_enter Try.func36, Try.ntmps36
    go_wp2_with (go_at_call 70; go_loud (refine (may_any _ _ _).mono ?_); rintro e w' ⟨rfl, rfl⟩)
    go_ret2
    simp [Bk]
end Go.Proofs.Ytamjhaomdfeemaa
