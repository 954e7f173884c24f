/- Walks of package health and of its reference: which healths may be. -/
import Derived.Test.YtamjhaomdfeemaaHl
namespace Go.Proofs.Ytamjhaomdfeemaa
open Go.RowKit Go.Wb
set_option linter.unusedVariables false

set_option maxRecDepth 100000 in
set_option maxHeartbeats 1000000 in
theorem rhmay_any (up : Bool) (run r f : Int) (w : World) : Calls Try.prog 27 #[.agg #[.bool up, .int .i64 run], .agg #[.int .i64 r, .int .i64 f]] w fun e w' => e = .returned (.bool (hmay up run r f)) ∧ Below w.heap.size w w' := by
  have HB := Lib.hid (b2 w (Obj.cells #[Value.bool up, Value.int IntKind.i64 run] 37) (Obj.cells #[Value.int IntKind.i64 r, Value.int IntKind.i64 f] 39))
  have X : Hid (((w.alloc (Obj.cells #[Value.bool up, Value.int IntKind.i64 run] 37)).alloc (Obj.cells #[Value.int IntKind.i64 r, Value.int IntKind.i64 f] 39)).heap[w.heap.size]? = some (.cells #[.bool up, .int .i64 run] 37 (0, 0))) := hold_alloc (heap_alloc_new w _)
  have Y : Hid (((w.alloc (Obj.cells #[Value.bool up, Value.int IntKind.i64 run] 37)).alloc (Obj.cells #[Value.int IntKind.i64 r, Value.int IntKind.i64 f] 39)).heap[w.heap.size + 1]? = some (.cells #[.int .i64 r, .int .i64 f] 39 (0, 0))) := by
    have := heap_alloc_new (w.alloc (Obj.cells #[Value.bool up, Value.int IntKind.i64 run] 37)) (Obj.cells #[Value.int IntKind.i64 r, Value.int IntKind.i64 f] 39); rwa [World.size_alloc] at this
  have HF : Hid (hmay up run r f = (maySet r f && decide (0 ≤ run) && decide (run < need up r f))) := rfl
  have HS : maySet r f = true ∨ maySet r f = false := by cases maySet r f <;> simp
  have SET := Lib.hid (fun W => rmaySet_any r f W)
  rcases HS with hs | hs
  · rw [hs] at SET HF
    clear hs
    by_cases hr : run < 0
    · go_enter Try.func27, Try.ntmps27
      go_wp2_with fail
      refine (SET.out _).mono ?_
      rintro e w2 ⟨rfl, hb⟩
      have B2 := Lib.hid (HB.out.trans (hb.mono HB.out.size))
      have x1 := cell_of (v := .int .i64 run) 1 (Below.at hb X.out (lt_of_heap X.out)) rfl
      clear hb
      go_wp2_with fail
      go_ret
      exact ⟨ret_bool (by rw [HF.out]; simp; omega), B2.out⟩
    · cases up
      all_goals
        go_enter Try.func27, Try.ntmps27
        go_wp2_with fail
        refine (SET.out _).mono ?_
        rintro e w2 ⟨rfl, hb⟩
        have B2 := Lib.hid (HB.out.trans (hb.mono HB.out.size))
        have x0 := cell_of 0 (Below.at hb X.out (lt_of_heap X.out)) rfl
        have x1 := cell_of (v := .int .i64 run) 1 (Below.at hb X.out (lt_of_heap X.out)) rfl
        have y0 := cell_of (v := .int .i64 r) 0 (Below.at hb Y.out (lt_of_heap Y.out)) rfl
        have y1 := cell_of (v := .int .i64 f) 1 (Below.at hb Y.out (lt_of_heap Y.out)) rfl
        clear hb
        go_wp2_with fail
        go_ret
        exact ⟨ret_bool (by rw [HF.out]; simp [need]; omega), B2.out⟩
  · rw [hs] at SET HF
    clear hs
    go_enter Try.func27, Try.ntmps27
    go_wp2_with fail
    refine (SET.out _).mono ?_
    rintro e w2 ⟨rfl, hb⟩
    have B2 := Lib.hid (HB.out.trans (hb.mono HB.out.size))
    clear hb
    go_wp2_with fail
    go_ret
    exact ⟨ret_bool (by rw [HF.out]; simp), B2.out⟩
end Go.Proofs.Ytamjhaomdfeemaa
