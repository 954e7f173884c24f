/- Walks of package emit and of its reference. -/
import Derived.Test.YtamjhaomdfeemaaEq
namespace Go.Proofs.Ytamjhaomdfeemaa
open Go.RowKit Go.Wb
set_option linter.unusedVariables false

set_option maxRecDepth 100000 in
set_option maxHeartbeats 2000000 in
theorem acceptP_no (a e b d0 d1 d2 d3 : Int) (w : World) (a0 : 0 ≤ a) (e0 : 0 ≤ e) (b0 : 0 ≤ b) (p0 : 0 ≤ d0) (p1 : 0 ≤ d1) (p2 : 0 ≤ d2) (p3 : 0 ≤ d3) (hm : tm a e b d0 d1 d2 d3 = false) :
    Calls Try.prog 49 #[.agg (tl a e b d0 d1 d2 d3)] w fun en w' => en = .returned (.tuple #[.agg (tl 0 0 0 0 0 0 0), .int .i64 2]) ∧ Below w.heap.size w w' := by
  have MAY := fun W => mayP_any a e b d0 d1 d2 d3 W a0 e0 b0 p0 p1 p2 p3
  rw [hm] at MAY
  have HMAY := Lib.hid MAY
  clear MAY hm
  unfold tl at *
  go_enter Try.func49, Try.ntmps49
  go_wp2_with fail
  refine (HMAY.out _).mono ?_
  rintro en w1 ⟨rfl, hb⟩
  have HT := heap_two w (Obj.cells #[.int .u64 a, .int .u64 e, .int .u64 b, .int .u64 d0, .int .u64 d1, .int .u64 d2, .int .u64 d3] 74) (Obj.cells #[.int .u64 0, .int .u64 0, .int .u64 0, .int .u64 0, .int .u64 0, .int .u64 0, .int .u64 0] 74)
  have BW := ((Below.refl w.heap.size w).alloc (Nat.le_refl _) (Obj.cells #[.int .u64 a, .int .u64 e, .int .u64 b, .int .u64 d0, .int .u64 d1, .int .u64 d2, .int .u64 d3] 74)).alloc (by simp) (Obj.cells #[.int .u64 0, .int .u64 0, .int .u64 0, .int .u64 0, .int .u64 0, .int .u64 0, .int .u64 0] 74)
  have X := Lib.hid (Below.at hb HT.1 (lt_of_heap HT.1))
  have Z := Lib.hid (Below.at hb HT.2 (lt_of_heap HT.2))
  have B := Lib.hid (BW.trans (hb.mono BW.size))
  clear hb HT BW
  have x0 := cell_of (v := .int .u64 a) 0 X.out rfl
  have xf0 := free_of 0 X.out
  have x1 := cell_of (v := .int .u64 e) 1 X.out rfl
  have xf1 := free_of 1 X.out
  have x2 := cell_of (v := .int .u64 b) 2 X.out rfl
  have xf2 := free_of 2 X.out
  have x3 := cell_of (v := .int .u64 d0) 3 X.out rfl
  have xf3 := free_of 3 X.out
  have x4 := cell_of (v := .int .u64 d1) 4 X.out rfl
  have xf4 := free_of 4 X.out
  have x5 := cell_of (v := .int .u64 d2) 5 X.out rfl
  have xf5 := free_of 5 X.out
  have x6 := cell_of (v := .int .u64 d3) 6 X.out rfl
  have xf6 := free_of 6 X.out
  have z0 := cell_of (v := .int .u64 0) 0 Z.out rfl
  have zf0 := free_of 0 Z.out
  have z1 := cell_of (v := .int .u64 0) 1 Z.out rfl
  have zf1 := free_of 1 Z.out
  have z2 := cell_of (v := .int .u64 0) 2 Z.out rfl
  have zf2 := free_of 2 Z.out
  have z3 := cell_of (v := .int .u64 0) 3 Z.out rfl
  have zf3 := free_of 3 Z.out
  have z4 := cell_of (v := .int .u64 0) 4 Z.out rfl
  have zf4 := free_of 4 Z.out
  have z5 := cell_of (v := .int .u64 0) 5 Z.out rfl
  have zf5 := free_of 5 Z.out
  have z6 := cell_of (v := .int .u64 0) 6 Z.out rfl
  have zf6 := free_of 6 Z.out
  go_wp2_with fail
  refine bodyPost_ret (v := .tuple #[.agg #[.int .u64 0, .int .u64 0, .int .u64 0, .int .u64 0, .int .u64 0, .int .u64 0, .int .u64 0], .int .i64 2]) (by simp [results, Try.results49, go_sem, z0, z1, z2, z3, z4, z5, z6]) rfl ⟨rfl, ?_⟩
  repeat' (first | with_reducible exact B.out | with_reducible refine Below.setCell ?_ ?_ _ | with_reducible refine Below.alloc ?_ ?_ _)
  all_goals (first | (simp; done) | (simp; omega) | omega)

set_option maxRecDepth 100000 in
set_option maxHeartbeats 2000000 in
theorem acceptP_full (a e b d0 d1 d2 d3 : Int) (w : World) (a0 : 0 ≤ a) (e0 : 0 ≤ e) (b0 : 0 ≤ b) (p0 : 0 ≤ d0) (p1 : 0 ≤ d1) (p2 : 0 ≤ d2) (p3 : 0 ≤ d3) (hm : tm a e b d0 d1 d2 d3 = true) (hf : a = 4611686018427387904) :
    Calls Try.prog 49 #[.agg (tl a e b d0 d1 d2 d3)] w fun en w' => en = .returned (.tuple #[.agg (tl 0 0 0 0 0 0 0), .int .i64 2]) ∧ Below w.heap.size w w' := by
  have MAY := fun W => mayP_any a e b d0 d1 d2 d3 W a0 e0 b0 p0 p1 p2 p3
  rw [hm] at MAY
  have HMAY := Lib.hid MAY
  clear MAY hm
  have ha : (a == 4611686018427387904) = true := by simp; omega
  have HF := Lib.hid hf
  clear hf
  have hf1 : (4611686018427387904 : Int) ≤ a := by have := HF.out; omega
  unfold tl at *
  go_enter Try.func49, Try.ntmps49
  go_wp2_with fail
  refine (HMAY.out _).mono ?_
  rintro en w1 ⟨rfl, hb⟩
  have HT := heap_two w (Obj.cells #[.int .u64 a, .int .u64 e, .int .u64 b, .int .u64 d0, .int .u64 d1, .int .u64 d2, .int .u64 d3] 74) (Obj.cells #[.int .u64 0, .int .u64 0, .int .u64 0, .int .u64 0, .int .u64 0, .int .u64 0, .int .u64 0] 74)
  have BW := ((Below.refl w.heap.size w).alloc (Nat.le_refl _) (Obj.cells #[.int .u64 a, .int .u64 e, .int .u64 b, .int .u64 d0, .int .u64 d1, .int .u64 d2, .int .u64 d3] 74)).alloc (by simp) (Obj.cells #[.int .u64 0, .int .u64 0, .int .u64 0, .int .u64 0, .int .u64 0, .int .u64 0, .int .u64 0] 74)
  have X := Lib.hid (Below.at hb HT.1 (lt_of_heap HT.1))
  have Z := Lib.hid (Below.at hb HT.2 (lt_of_heap HT.2))
  have B := Lib.hid (BW.trans (hb.mono BW.size))
  clear hb HT BW
  have x0 := cell_of (v := .int .u64 a) 0 X.out rfl
  have xf0 := free_of 0 X.out
  have x1 := cell_of (v := .int .u64 e) 1 X.out rfl
  have xf1 := free_of 1 X.out
  have x2 := cell_of (v := .int .u64 b) 2 X.out rfl
  have xf2 := free_of 2 X.out
  have x3 := cell_of (v := .int .u64 d0) 3 X.out rfl
  have xf3 := free_of 3 X.out
  have x4 := cell_of (v := .int .u64 d1) 4 X.out rfl
  have xf4 := free_of 4 X.out
  have x5 := cell_of (v := .int .u64 d2) 5 X.out rfl
  have xf5 := free_of 5 X.out
  have x6 := cell_of (v := .int .u64 d3) 6 X.out rfl
  have xf6 := free_of 6 X.out
  have z0 := cell_of (v := .int .u64 0) 0 Z.out rfl
  have zf0 := free_of 0 Z.out
  have z1 := cell_of (v := .int .u64 0) 1 Z.out rfl
  have zf1 := free_of 1 Z.out
  have z2 := cell_of (v := .int .u64 0) 2 Z.out rfl
  have zf2 := free_of 2 Z.out
  have z3 := cell_of (v := .int .u64 0) 3 Z.out rfl
  have zf3 := free_of 3 Z.out
  have z4 := cell_of (v := .int .u64 0) 4 Z.out rfl
  have zf4 := free_of 4 Z.out
  have z5 := cell_of (v := .int .u64 0) 5 Z.out rfl
  have zf5 := free_of 5 Z.out
  have z6 := cell_of (v := .int .u64 0) 6 Z.out rfl
  have zf6 := free_of 6 Z.out
  go_wp2_with fail
  refine bodyPost_ret (v := .tuple #[.agg #[.int .u64 0, .int .u64 0, .int .u64 0, .int .u64 0, .int .u64 0, .int .u64 0, .int .u64 0], .int .i64 2]) (by simp [results, Try.results49, go_sem, z0, z1, z2, z3, z4, z5, z6]) rfl ⟨rfl, ?_⟩
  repeat' (first | with_reducible exact B.out | with_reducible refine Below.setCell ?_ ?_ _ | with_reducible refine Below.alloc ?_ ?_ _)
  all_goals (first | (simp; done) | (simp; omega) | omega)

set_option maxRecDepth 100000 in
set_option maxHeartbeats 2000000 in
theorem acceptP_yes (a e b d0 d1 d2 d3 : Int) (w : World) (a0 : 0 ≤ a) (e0 : 0 ≤ e) (b0 : 0 ≤ b) (p0 : 0 ≤ d0) (p1 : 0 ≤ d1) (p2 : 0 ≤ d2) (p3 : 0 ≤ d3) (hm : tm a e b d0 d1 d2 d3 = true) (hf : a < 4611686018427387904) :
    Calls Try.prog 49 #[.agg (tl a e b d0 d1 d2 d3)] w fun en w' => en = .returned (.tuple #[.agg (tl (a + 1) e b d0 d1 d2 d3), .int .i64 0]) ∧ Below w.heap.size w w' := by
  have MAY := fun W => mayP_any a e b d0 d1 d2 d3 W a0 e0 b0 p0 p1 p2 p3
  rw [hm] at MAY
  have HMAY := Lib.hid MAY
  clear MAY hm
  have ha : (a == 4611686018427387904) = false := by simp; omega
  have HF := Lib.hid hf
  unfold tl at *
  go_enter Try.func49, Try.ntmps49
  go_wp2_with fail
  refine (HMAY.out _).mono ?_
  rintro en w1 ⟨rfl, hb⟩
  have HT := heap_two w (Obj.cells #[.int .u64 a, .int .u64 e, .int .u64 b, .int .u64 d0, .int .u64 d1, .int .u64 d2, .int .u64 d3] 74) (Obj.cells #[.int .u64 0, .int .u64 0, .int .u64 0, .int .u64 0, .int .u64 0, .int .u64 0, .int .u64 0] 74)
  have BW := ((Below.refl w.heap.size w).alloc (Nat.le_refl _) (Obj.cells #[.int .u64 a, .int .u64 e, .int .u64 b, .int .u64 d0, .int .u64 d1, .int .u64 d2, .int .u64 d3] 74)).alloc (by simp) (Obj.cells #[.int .u64 0, .int .u64 0, .int .u64 0, .int .u64 0, .int .u64 0, .int .u64 0, .int .u64 0] 74)
  have X := Lib.hid (Below.at hb HT.1 (lt_of_heap HT.1))
  have Z := Lib.hid (Below.at hb HT.2 (lt_of_heap HT.2))
  have B := Lib.hid (BW.trans (hb.mono BW.size))
  clear hb HT BW
  have x0 := cell_of (v := .int .u64 a) 0 X.out rfl
  have xf0 := free_of 0 X.out
  have x1 := cell_of (v := .int .u64 e) 1 X.out rfl
  have xf1 := free_of 1 X.out
  have x2 := cell_of (v := .int .u64 b) 2 X.out rfl
  have xf2 := free_of 2 X.out
  have x3 := cell_of (v := .int .u64 d0) 3 X.out rfl
  have xf3 := free_of 3 X.out
  have x4 := cell_of (v := .int .u64 d1) 4 X.out rfl
  have xf4 := free_of 4 X.out
  have x5 := cell_of (v := .int .u64 d2) 5 X.out rfl
  have xf5 := free_of 5 X.out
  have x6 := cell_of (v := .int .u64 d3) 6 X.out rfl
  have xf6 := free_of 6 X.out
  have z0 := cell_of (v := .int .u64 0) 0 Z.out rfl
  have zf0 := free_of 0 Z.out
  have z1 := cell_of (v := .int .u64 0) 1 Z.out rfl
  have zf1 := free_of 1 Z.out
  have z2 := cell_of (v := .int .u64 0) 2 Z.out rfl
  have zf2 := free_of 2 Z.out
  have z3 := cell_of (v := .int .u64 0) 3 Z.out rfl
  have zf3 := free_of 3 Z.out
  have z4 := cell_of (v := .int .u64 0) 4 Z.out rfl
  have zf4 := free_of 4 Z.out
  have z5 := cell_of (v := .int .u64 0) 5 Z.out rfl
  have zf5 := free_of 5 Z.out
  have z6 := cell_of (v := .int .u64 0) 6 Z.out rfl
  have zf6 := free_of 6 Z.out
  go_wp2_with fail
  refine bodyPost_ret (v := .tuple #[.agg #[.int .u64 (a + 1), .int .u64 e, .int .u64 b, .int .u64 d0, .int .u64 d1, .int .u64 d2, .int .u64 d3], .int .i64 0]) (by simp [results, Try.results49, go_sem, z0, z1, z2, z3, z4, z5, z6]) rfl ⟨rfl, ?_⟩
  repeat' (first | with_reducible exact B.out | with_reducible refine Below.setCell ?_ ?_ _ | with_reducible refine Below.alloc ?_ ?_ _)
  all_goals (first | (simp; done) | (simp; omega) | omega)

end Go.Proofs.Ytamjhaomdfeemaa
