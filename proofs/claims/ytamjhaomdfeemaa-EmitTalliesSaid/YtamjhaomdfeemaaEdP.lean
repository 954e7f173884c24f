/- Walks of package emit and of its reference. -/
import Derived.Test.YtamjhaomdfeemaaEq
namespace Go.Proofs.Ytamjhaomdfeemaa
open Go.RowKit Go.Wb
set_option linter.unusedVariables false

set_option maxRecDepth 100000 in
set_option maxHeartbeats 2000000 in
theorem dropP_no (a e b d0 d1 d2 d3 n : Int) (w : World) (a0 : 0 ≤ a) (e0 : 0 ≤ e) (b0 : 0 ≤ b) (p0 : 0 ≤ d0) (p1 : 0 ≤ d1) (p2 : 0 ≤ d2) (p3 : 0 ≤ d3) (hm : tm a e b d0 d1 d2 d3 = false) :
    Calls Try.prog 53 #[.agg (tl a e b d0 d1 d2 d3), .int .u8 n] w fun en w' => en = .returned (.tuple #[.agg (tl 0 0 0 0 0 0 0), .int .i64 2]) ∧ Below w.heap.size w w' := by
  have MAY := fun W => mayP_any a e b d0 d1 d2 d3 W a0 e0 b0 p0 p1 p2 p3
  rw [hm] at MAY
  have HMAY := Lib.hid MAY
  clear MAY hm
  unfold tl at *
  go_enter Try.func53, Try.ntmps53
  go_wp2_with fail
  refine (HMAY.out _).mono ?_
  rintro en w1 ⟨rfl, hb⟩
  have HT := heap_two w (Obj.cells #[.int .u64 a, .int .u64 e, .int .u64 b, .int .u64 d0, .int .u64 d1, .int .u64 d2, .int .u64 d3] 74) (Obj.cells #[.int .u64 0, .int .u64 0, .int .u64 0, .int .u64 0, .int .u64 0, .int .u64 0, .int .u64 0] 74)
  have BW := ((Below.refl w.heap.size w).alloc (Nat.le_refl _) (Obj.cells #[.int .u64 a, .int .u64 e, .int .u64 b, .int .u64 d0, .int .u64 d1, .int .u64 d2, .int .u64 d3] 74)).alloc (by simp) (Obj.cells #[.int .u64 0, .int .u64 0, .int .u64 0, .int .u64 0, .int .u64 0, .int .u64 0, .int .u64 0] 74)
  have X := Lib.hid (Below.at hb HT.1 (lt_of_heap HT.1))
  have Z := Lib.hid (Below.at hb HT.2 (lt_of_heap HT.2))
  have B := Lib.hid (BW.trans (hb.mono BW.size))
  clear hb HT BW
  have x0 := cell_of (v := .int .u64 a) 0 X.out rfl
  have xf0 := free_of 0 X.out
  have x1 := cell_of (v := .int .u64 e) 1 X.out rfl
  have xf1 := free_of 1 X.out
  have x2 := cell_of (v := .int .u64 b) 2 X.out rfl
  have xf2 := free_of 2 X.out
  have x3 := cell_of (v := .int .u64 d0) 3 X.out rfl
  have xf3 := free_of 3 X.out
  have x4 := cell_of (v := .int .u64 d1) 4 X.out rfl
  have xf4 := free_of 4 X.out
  have x5 := cell_of (v := .int .u64 d2) 5 X.out rfl
  have xf5 := free_of 5 X.out
  have x6 := cell_of (v := .int .u64 d3) 6 X.out rfl
  have xf6 := free_of 6 X.out
  have z0 := cell_of (v := .int .u64 0) 0 Z.out rfl
  have zf0 := free_of 0 Z.out
  have z1 := cell_of (v := .int .u64 0) 1 Z.out rfl
  have zf1 := free_of 1 Z.out
  have z2 := cell_of (v := .int .u64 0) 2 Z.out rfl
  have zf2 := free_of 2 Z.out
  have z3 := cell_of (v := .int .u64 0) 3 Z.out rfl
  have zf3 := free_of 3 Z.out
  have z4 := cell_of (v := .int .u64 0) 4 Z.out rfl
  have zf4 := free_of 4 Z.out
  have z5 := cell_of (v := .int .u64 0) 5 Z.out rfl
  have zf5 := free_of 5 Z.out
  have z6 := cell_of (v := .int .u64 0) 6 Z.out rfl
  have zf6 := free_of 6 Z.out
  go_wp2_with fail
  refine bodyPost_ret (v := .tuple #[.agg #[.int .u64 0, .int .u64 0, .int .u64 0, .int .u64 0, .int .u64 0, .int .u64 0, .int .u64 0], .int .i64 2]) (by simp [results, Try.results53, go_sem, z0, z1, z2, z3, z4, z5, z6]) rfl ⟨rfl, ?_⟩
  repeat' (first | with_reducible exact B.out | with_reducible refine Below.setCell ?_ ?_ _ | with_reducible refine Below.alloc ?_ ?_ _)
  all_goals (first | (simp; done) | (simp; omega) | omega)

set_option maxRecDepth 100000 in
set_option maxHeartbeats 2000000 in
theorem dropP_big (a e b d0 d1 d2 d3 n : Int) (w : World) (a0 : 0 ≤ a) (e0 : 0 ≤ e) (b0 : 0 ≤ b) (p0 : 0 ≤ d0) (p1 : 0 ≤ d1) (p2 : 0 ≤ d2) (p3 : 0 ≤ d3) (hm : tm a e b d0 d1 d2 d3 = true) (hn : 4 ≤ n) :
    Calls Try.prog 53 #[.agg (tl a e b d0 d1 d2 d3), .int .u8 n] w fun en w' => en = .returned (.tuple #[.agg (tl 0 0 0 0 0 0 0), .int .i64 2]) ∧ Below w.heap.size w w' := by
  have MAY := fun W => mayP_any a e b d0 d1 d2 d3 W a0 e0 b0 p0 p1 p2 p3
  rw [hm] at MAY
  have HMAY := Lib.hid MAY
  obtain ⟨a1, b1, s1⟩ := tm_yes hm
  clear MAY hm
  unfold tl at *
  go_enter Try.func53, Try.ntmps53
  go_wp2_with fail
  refine (HMAY.out _).mono ?_
  rintro en w1 ⟨rfl, hb⟩
  have HT := heap_two w (Obj.cells #[.int .u64 a, .int .u64 e, .int .u64 b, .int .u64 d0, .int .u64 d1, .int .u64 d2, .int .u64 d3] 74) (Obj.cells #[.int .u64 0, .int .u64 0, .int .u64 0, .int .u64 0, .int .u64 0, .int .u64 0, .int .u64 0] 74)
  have BW := ((Below.refl w.heap.size w).alloc (Nat.le_refl _) (Obj.cells #[.int .u64 a, .int .u64 e, .int .u64 b, .int .u64 d0, .int .u64 d1, .int .u64 d2, .int .u64 d3] 74)).alloc (by simp) (Obj.cells #[.int .u64 0, .int .u64 0, .int .u64 0, .int .u64 0, .int .u64 0, .int .u64 0, .int .u64 0] 74)
  have X := Lib.hid (Below.at hb HT.1 (lt_of_heap HT.1))
  have Z := Lib.hid (Below.at hb HT.2 (lt_of_heap HT.2))
  have B := Lib.hid (BW.trans (hb.mono BW.size))
  clear hb HT BW
  have x0 := cell_of (v := .int .u64 a) 0 X.out rfl
  have xf0 := free_of 0 X.out
  have x1 := cell_of (v := .int .u64 e) 1 X.out rfl
  have xf1 := free_of 1 X.out
  have x2 := cell_of (v := .int .u64 b) 2 X.out rfl
  have xf2 := free_of 2 X.out
  have x3 := cell_of (v := .int .u64 d0) 3 X.out rfl
  have xf3 := free_of 3 X.out
  have x4 := cell_of (v := .int .u64 d1) 4 X.out rfl
  have xf4 := free_of 4 X.out
  have x5 := cell_of (v := .int .u64 d2) 5 X.out rfl
  have xf5 := free_of 5 X.out
  have x6 := cell_of (v := .int .u64 d3) 6 X.out rfl
  have xf6 := free_of 6 X.out
  have z0 := cell_of (v := .int .u64 0) 0 Z.out rfl
  have zf0 := free_of 0 Z.out
  have z1 := cell_of (v := .int .u64 0) 1 Z.out rfl
  have zf1 := free_of 1 Z.out
  have z2 := cell_of (v := .int .u64 0) 2 Z.out rfl
  have zf2 := free_of 2 Z.out
  have z3 := cell_of (v := .int .u64 0) 3 Z.out rfl
  have zf3 := free_of 3 Z.out
  have z4 := cell_of (v := .int .u64 0) 4 Z.out rfl
  have zf4 := free_of 4 Z.out
  have z5 := cell_of (v := .int .u64 0) 5 Z.out rfl
  have zf5 := free_of 5 Z.out
  have z6 := cell_of (v := .int .u64 0) 6 Z.out rfl
  have zf6 := free_of 6 Z.out
  go_wp2_with fail
  refine bodyPost_ret (v := .tuple #[.agg #[.int .u64 0, .int .u64 0, .int .u64 0, .int .u64 0, .int .u64 0, .int .u64 0, .int .u64 0], .int .i64 2]) (by simp [results, Try.results53, go_sem, z0, z1, z2, z3, z4, z5, z6]) rfl ⟨rfl, ?_⟩
  repeat' (first | with_reducible exact B.out | with_reducible refine Below.setCell ?_ ?_ _ | with_reducible refine Below.alloc ?_ ?_ _)
  all_goals (first | (simp; done) | (simp; omega) | omega)

set_option maxRecDepth 100000 in
set_option maxHeartbeats 2000000 in
theorem dropP_none (a e b d0 d1 d2 d3 n : Int) (w : World) (a0 : 0 ≤ a) (e0 : 0 ≤ e) (b0 : 0 ≤ b) (p0 : 0 ≤ d0) (p1 : 0 ≤ d1) (p2 : 0 ≤ d2) (p3 : 0 ≤ d3) (hm : tm a e b d0 d1 d2 d3 = true) (n0 : 0 ≤ n) (hn : n < 4) (hq : a - e - d0 - d1 - d2 - d3 = 0) :
    Calls Try.prog 53 #[.agg (tl a e b d0 d1 d2 d3), .int .u8 n] w fun en w' => en = .returned (.tuple #[.agg (tl 0 0 0 0 0 0 0), .int .i64 7]) ∧ Below w.heap.size w w' := by
  have MAY := fun W => mayP_any a e b d0 d1 d2 d3 W a0 e0 b0 p0 p1 p2 p3
  rw [hm] at MAY
  have HMAY := Lib.hid MAY
  have QU := fun W => queuedP_yes a e b d0 d1 d2 d3 W a0 e0 b0 p0 p1 p2 p3 hm
  rw [hq] at QU
  have HQU := Lib.hid QU
  clear QU
  obtain ⟨a1, b1, s1⟩ := tm_yes hm
  clear MAY hm
  clear hq
  unfold tl at *
  go_enter Try.func53, Try.ntmps53
  go_wp2_with fail
  refine (HMAY.out _).mono ?_
  rintro en w1 ⟨rfl, hb⟩
  have HT := heap_two w (Obj.cells #[.int .u64 a, .int .u64 e, .int .u64 b, .int .u64 d0, .int .u64 d1, .int .u64 d2, .int .u64 d3] 74) (Obj.cells #[.int .u64 0, .int .u64 0, .int .u64 0, .int .u64 0, .int .u64 0, .int .u64 0, .int .u64 0] 74)
  have BW := ((Below.refl w.heap.size w).alloc (Nat.le_refl _) (Obj.cells #[.int .u64 a, .int .u64 e, .int .u64 b, .int .u64 d0, .int .u64 d1, .int .u64 d2, .int .u64 d3] 74)).alloc (by simp) (Obj.cells #[.int .u64 0, .int .u64 0, .int .u64 0, .int .u64 0, .int .u64 0, .int .u64 0, .int .u64 0] 74)
  have X := Lib.hid (Below.at hb HT.1 (lt_of_heap HT.1))
  have Z := Lib.hid (Below.at hb HT.2 (lt_of_heap HT.2))
  have B := Lib.hid (BW.trans (hb.mono BW.size))
  clear hb HT BW
  have x0 := cell_of (v := .int .u64 a) 0 X.out rfl
  have xf0 := free_of 0 X.out
  have x1 := cell_of (v := .int .u64 e) 1 X.out rfl
  have xf1 := free_of 1 X.out
  have x2 := cell_of (v := .int .u64 b) 2 X.out rfl
  have xf2 := free_of 2 X.out
  have x3 := cell_of (v := .int .u64 d0) 3 X.out rfl
  have xf3 := free_of 3 X.out
  have x4 := cell_of (v := .int .u64 d1) 4 X.out rfl
  have xf4 := free_of 4 X.out
  have x5 := cell_of (v := .int .u64 d2) 5 X.out rfl
  have xf5 := free_of 5 X.out
  have x6 := cell_of (v := .int .u64 d3) 6 X.out rfl
  have xf6 := free_of 6 X.out
  have z0 := cell_of (v := .int .u64 0) 0 Z.out rfl
  have zf0 := free_of 0 Z.out
  have z1 := cell_of (v := .int .u64 0) 1 Z.out rfl
  have zf1 := free_of 1 Z.out
  have z2 := cell_of (v := .int .u64 0) 2 Z.out rfl
  have zf2 := free_of 2 Z.out
  have z3 := cell_of (v := .int .u64 0) 3 Z.out rfl
  have zf3 := free_of 3 Z.out
  have z4 := cell_of (v := .int .u64 0) 4 Z.out rfl
  have zf4 := free_of 4 Z.out
  have z5 := cell_of (v := .int .u64 0) 5 Z.out rfl
  have zf5 := free_of 5 Z.out
  have z6 := cell_of (v := .int .u64 0) 6 Z.out rfl
  have zf6 := free_of 6 Z.out
  go_wp2_with fail
  refine (HQU.out _).mono ?_
  rintro en w2 ⟨rfl, hb⟩
  have X2 := Lib.hid (Below.at hb X.out (lt_of_heap X.out))
  have Z2 := Lib.hid (Below.at hb Z.out (lt_of_heap Z.out))
  have B2 := Lib.hid (B.out.trans (hb.mono B.out.size))
  clear hb x0 xf0 z0 zf0 x1 xf1 z1 zf1 x2 xf2 z2 zf2 x3 xf3 z3 zf3 x4 xf4 z4 zf4 x5 xf5 z5 zf5 x6 xf6 z6 zf6 X Z B
  obtain ⟨X, Z, B⟩ := And.intro X2 (And.intro Z2 B2)
  clear X2 Z2 B2
  have x0 := cell_of (v := .int .u64 a) 0 X.out rfl
  have xf0 := free_of 0 X.out
  have x1 := cell_of (v := .int .u64 e) 1 X.out rfl
  have xf1 := free_of 1 X.out
  have x2 := cell_of (v := .int .u64 b) 2 X.out rfl
  have xf2 := free_of 2 X.out
  have x3 := cell_of (v := .int .u64 d0) 3 X.out rfl
  have xf3 := free_of 3 X.out
  have x4 := cell_of (v := .int .u64 d1) 4 X.out rfl
  have xf4 := free_of 4 X.out
  have x5 := cell_of (v := .int .u64 d2) 5 X.out rfl
  have xf5 := free_of 5 X.out
  have x6 := cell_of (v := .int .u64 d3) 6 X.out rfl
  have xf6 := free_of 6 X.out
  have z0 := cell_of (v := .int .u64 0) 0 Z.out rfl
  have zf0 := free_of 0 Z.out
  have z1 := cell_of (v := .int .u64 0) 1 Z.out rfl
  have zf1 := free_of 1 Z.out
  have z2 := cell_of (v := .int .u64 0) 2 Z.out rfl
  have zf2 := free_of 2 Z.out
  have z3 := cell_of (v := .int .u64 0) 3 Z.out rfl
  have zf3 := free_of 3 Z.out
  have z4 := cell_of (v := .int .u64 0) 4 Z.out rfl
  have zf4 := free_of 4 Z.out
  have z5 := cell_of (v := .int .u64 0) 5 Z.out rfl
  have zf5 := free_of 5 Z.out
  have z6 := cell_of (v := .int .u64 0) 6 Z.out rfl
  have zf6 := free_of 6 Z.out
  go_wp2_with fail
  refine bodyPost_ret (v := .tuple #[.agg #[.int .u64 0, .int .u64 0, .int .u64 0, .int .u64 0, .int .u64 0, .int .u64 0, .int .u64 0], .int .i64 7]) (by simp [results, Try.results53, go_sem, z0, z1, z2, z3, z4, z5, z6]) rfl ⟨rfl, ?_⟩
  repeat' (first | with_reducible exact B.out | with_reducible refine Below.setCell ?_ ?_ _ | with_reducible refine Below.alloc ?_ ?_ _)
  all_goals (first | (simp; done) | (simp; omega) | omega)

set_option maxRecDepth 100000 in
set_option maxHeartbeats 2000000 in
theorem dropP_y0 (a e b d0 d1 d2 d3 z : Int) (w : World) (a0 : 0 ≤ a) (e0 : 0 ≤ e) (b0 : 0 ≤ b) (p0 : 0 ≤ d0) (p1 : 0 ≤ d1) (p2 : 0 ≤ d2) (p3 : 0 ≤ d3) (hz : z = 0) (hm : tm a e b d0 d1 d2 d3 = true) (hq : a - e - d0 - d1 - d2 - d3 ≠ 0) :
    Calls Try.prog 53 #[.agg (tl a e b d0 d1 d2 d3), .int .u8 0] w fun en w' => en = .returned (.tuple #[.agg (tl a e b (d0 + 1) d1 d2 d3), .int .i64 0]) ∧ Below w.heap.size w w' := by
  have MAY := fun W => mayP_any a e b d0 d1 d2 d3 W a0 e0 b0 p0 p1 p2 p3
  rw [hm] at MAY
  have HMAY := Lib.hid MAY
  have QU := fun W => queuedP_yes a e b d0 d1 d2 d3 W a0 e0 b0 p0 p1 p2 p3 hm
  have HQU := Lib.hid QU
  clear QU
  obtain ⟨a1, b1, s1⟩ := tm_yes hm
  clear MAY hm
  obtain ⟨q, hq1⟩ : ∃ q, a - e - d0 - d1 - d2 - d3 = q := ⟨_, rfl⟩
  rw [hq1] at HQU
  have hq2 : (q == 0) = false := by simp; omega
  have e1 : d0 < 4611686018427387904 := by omega
  clear hq hq1 hz
  unfold tl at *
  go_enter Try.func53, Try.ntmps53
  go_wp2_with fail
  refine (HMAY.out _).mono ?_
  rintro en w1 ⟨rfl, hb⟩
  have HT := heap_two w (Obj.cells #[.int .u64 a, .int .u64 e, .int .u64 b, .int .u64 d0, .int .u64 d1, .int .u64 d2, .int .u64 d3] 74) (Obj.cells #[.int .u64 0, .int .u64 0, .int .u64 0, .int .u64 0, .int .u64 0, .int .u64 0, .int .u64 0] 74)
  have BW := ((Below.refl w.heap.size w).alloc (Nat.le_refl _) (Obj.cells #[.int .u64 a, .int .u64 e, .int .u64 b, .int .u64 d0, .int .u64 d1, .int .u64 d2, .int .u64 d3] 74)).alloc (by simp) (Obj.cells #[.int .u64 0, .int .u64 0, .int .u64 0, .int .u64 0, .int .u64 0, .int .u64 0, .int .u64 0] 74)
  have X := Lib.hid (Below.at hb HT.1 (lt_of_heap HT.1))
  have Z := Lib.hid (Below.at hb HT.2 (lt_of_heap HT.2))
  have B := Lib.hid (BW.trans (hb.mono BW.size))
  clear hb HT BW
  have x0 := cell_of (v := .int .u64 a) 0 X.out rfl
  have xf0 := free_of 0 X.out
  have x1 := cell_of (v := .int .u64 e) 1 X.out rfl
  have xf1 := free_of 1 X.out
  have x2 := cell_of (v := .int .u64 b) 2 X.out rfl
  have xf2 := free_of 2 X.out
  have x3 := cell_of (v := .int .u64 d0) 3 X.out rfl
  have xf3 := free_of 3 X.out
  have x4 := cell_of (v := .int .u64 d1) 4 X.out rfl
  have xf4 := free_of 4 X.out
  have x5 := cell_of (v := .int .u64 d2) 5 X.out rfl
  have xf5 := free_of 5 X.out
  have x6 := cell_of (v := .int .u64 d3) 6 X.out rfl
  have xf6 := free_of 6 X.out
  have z0 := cell_of (v := .int .u64 0) 0 Z.out rfl
  have zf0 := free_of 0 Z.out
  have z1 := cell_of (v := .int .u64 0) 1 Z.out rfl
  have zf1 := free_of 1 Z.out
  have z2 := cell_of (v := .int .u64 0) 2 Z.out rfl
  have zf2 := free_of 2 Z.out
  have z3 := cell_of (v := .int .u64 0) 3 Z.out rfl
  have zf3 := free_of 3 Z.out
  have z4 := cell_of (v := .int .u64 0) 4 Z.out rfl
  have zf4 := free_of 4 Z.out
  have z5 := cell_of (v := .int .u64 0) 5 Z.out rfl
  have zf5 := free_of 5 Z.out
  have z6 := cell_of (v := .int .u64 0) 6 Z.out rfl
  have zf6 := free_of 6 Z.out
  go_wp2_with fail
  refine (HQU.out _).mono ?_
  rintro en w2 ⟨rfl, hb⟩
  have X2 := Lib.hid (Below.at hb X.out (lt_of_heap X.out))
  have Z2 := Lib.hid (Below.at hb Z.out (lt_of_heap Z.out))
  have B2 := Lib.hid (B.out.trans (hb.mono B.out.size))
  clear hb x0 xf0 z0 zf0 x1 xf1 z1 zf1 x2 xf2 z2 zf2 x3 xf3 z3 zf3 x4 xf4 z4 zf4 x5 xf5 z5 zf5 x6 xf6 z6 zf6 X Z B
  obtain ⟨X, Z, B⟩ := And.intro X2 (And.intro Z2 B2)
  clear X2 Z2 B2
  have x0 := cell_of (v := .int .u64 a) 0 X.out rfl
  have xf0 := free_of 0 X.out
  have x1 := cell_of (v := .int .u64 e) 1 X.out rfl
  have xf1 := free_of 1 X.out
  have x2 := cell_of (v := .int .u64 b) 2 X.out rfl
  have xf2 := free_of 2 X.out
  have x3 := cell_of (v := .int .u64 d0) 3 X.out rfl
  have xf3 := free_of 3 X.out
  have x4 := cell_of (v := .int .u64 d1) 4 X.out rfl
  have xf4 := free_of 4 X.out
  have x5 := cell_of (v := .int .u64 d2) 5 X.out rfl
  have xf5 := free_of 5 X.out
  have x6 := cell_of (v := .int .u64 d3) 6 X.out rfl
  have xf6 := free_of 6 X.out
  have z0 := cell_of (v := .int .u64 0) 0 Z.out rfl
  have zf0 := free_of 0 Z.out
  have z1 := cell_of (v := .int .u64 0) 1 Z.out rfl
  have zf1 := free_of 1 Z.out
  have z2 := cell_of (v := .int .u64 0) 2 Z.out rfl
  have zf2 := free_of 2 Z.out
  have z3 := cell_of (v := .int .u64 0) 3 Z.out rfl
  have zf3 := free_of 3 Z.out
  have z4 := cell_of (v := .int .u64 0) 4 Z.out rfl
  have zf4 := free_of 4 Z.out
  have z5 := cell_of (v := .int .u64 0) 5 Z.out rfl
  have zf5 := free_of 5 Z.out
  have z6 := cell_of (v := .int .u64 0) 6 Z.out rfl
  have zf6 := free_of 6 Z.out
  go_wp2_with fail
  refine bodyPost_ret (v := .tuple #[.agg #[.int .u64 a, .int .u64 e, .int .u64 b, .int .u64 (d0 + 1), .int .u64 d1, .int .u64 d2, .int .u64 d3], .int .i64 0]) (by simp [results, Try.results53, go_sem, z0, z1, z2, z3, z4, z5, z6]) rfl ⟨rfl, ?_⟩
  repeat' (first | with_reducible exact B.out | with_reducible refine Below.setCell ?_ ?_ _ | with_reducible refine Below.alloc ?_ ?_ _)
  all_goals (first | (simp; done) | (simp; omega) | omega)

set_option maxRecDepth 100000 in
set_option maxHeartbeats 2000000 in
theorem dropP_y1 (a e b d0 d1 d2 d3 z : Int) (w : World) (a0 : 0 ≤ a) (e0 : 0 ≤ e) (b0 : 0 ≤ b) (p0 : 0 ≤ d0) (p1 : 0 ≤ d1) (p2 : 0 ≤ d2) (p3 : 0 ≤ d3) (hz : z = 0) (hm : tm a e b d0 d1 d2 d3 = true) (hq : a - e - d0 - d1 - d2 - d3 ≠ 0) :
    Calls Try.prog 53 #[.agg (tl a e b d0 d1 d2 d3), .int .u8 1] w fun en w' => en = .returned (.tuple #[.agg (tl a e b d0 (d1 + 1) d2 d3), .int .i64 0]) ∧ Below w.heap.size w w' := by
  have MAY := fun W => mayP_any a e b d0 d1 d2 d3 W a0 e0 b0 p0 p1 p2 p3
  rw [hm] at MAY
  have HMAY := Lib.hid MAY
  have QU := fun W => queuedP_yes a e b d0 d1 d2 d3 W a0 e0 b0 p0 p1 p2 p3 hm
  have HQU := Lib.hid QU
  clear QU
  obtain ⟨a1, b1, s1⟩ := tm_yes hm
  clear MAY hm
  obtain ⟨q, hq1⟩ : ∃ q, a - e - d0 - d1 - d2 - d3 = q := ⟨_, rfl⟩
  rw [hq1] at HQU
  have hq2 : (q == 0) = false := by simp; omega
  have e1 : d1 < 4611686018427387904 := by omega
  clear hq hq1 hz
  unfold tl at *
  go_enter Try.func53, Try.ntmps53
  go_wp2_with fail
  refine (HMAY.out _).mono ?_
  rintro en w1 ⟨rfl, hb⟩
  have HT := heap_two w (Obj.cells #[.int .u64 a, .int .u64 e, .int .u64 b, .int .u64 d0, .int .u64 d1, .int .u64 d2, .int .u64 d3] 74) (Obj.cells #[.int .u64 0, .int .u64 0, .int .u64 0, .int .u64 0, .int .u64 0, .int .u64 0, .int .u64 0] 74)
  have BW := ((Below.refl w.heap.size w).alloc (Nat.le_refl _) (Obj.cells #[.int .u64 a, .int .u64 e, .int .u64 b, .int .u64 d0, .int .u64 d1, .int .u64 d2, .int .u64 d3] 74)).alloc (by simp) (Obj.cells #[.int .u64 0, .int .u64 0, .int .u64 0, .int .u64 0, .int .u64 0, .int .u64 0, .int .u64 0] 74)
  have X := Lib.hid (Below.at hb HT.1 (lt_of_heap HT.1))
  have Z := Lib.hid (Below.at hb HT.2 (lt_of_heap HT.2))
  have B := Lib.hid (BW.trans (hb.mono BW.size))
  clear hb HT BW
  have x0 := cell_of (v := .int .u64 a) 0 X.out rfl
  have xf0 := free_of 0 X.out
  have x1 := cell_of (v := .int .u64 e) 1 X.out rfl
  have xf1 := free_of 1 X.out
  have x2 := cell_of (v := .int .u64 b) 2 X.out rfl
  have xf2 := free_of 2 X.out
  have x3 := cell_of (v := .int .u64 d0) 3 X.out rfl
  have xf3 := free_of 3 X.out
  have x4 := cell_of (v := .int .u64 d1) 4 X.out rfl
  have xf4 := free_of 4 X.out
  have x5 := cell_of (v := .int .u64 d2) 5 X.out rfl
  have xf5 := free_of 5 X.out
  have x6 := cell_of (v := .int .u64 d3) 6 X.out rfl
  have xf6 := free_of 6 X.out
  have z0 := cell_of (v := .int .u64 0) 0 Z.out rfl
  have zf0 := free_of 0 Z.out
  have z1 := cell_of (v := .int .u64 0) 1 Z.out rfl
  have zf1 := free_of 1 Z.out
  have z2 := cell_of (v := .int .u64 0) 2 Z.out rfl
  have zf2 := free_of 2 Z.out
  have z3 := cell_of (v := .int .u64 0) 3 Z.out rfl
  have zf3 := free_of 3 Z.out
  have z4 := cell_of (v := .int .u64 0) 4 Z.out rfl
  have zf4 := free_of 4 Z.out
  have z5 := cell_of (v := .int .u64 0) 5 Z.out rfl
  have zf5 := free_of 5 Z.out
  have z6 := cell_of (v := .int .u64 0) 6 Z.out rfl
  have zf6 := free_of 6 Z.out
  go_wp2_with fail
  refine (HQU.out _).mono ?_
  rintro en w2 ⟨rfl, hb⟩
  have X2 := Lib.hid (Below.at hb X.out (lt_of_heap X.out))
  have Z2 := Lib.hid (Below.at hb Z.out (lt_of_heap Z.out))
  have B2 := Lib.hid (B.out.trans (hb.mono B.out.size))
  clear hb x0 xf0 z0 zf0 x1 xf1 z1 zf1 x2 xf2 z2 zf2 x3 xf3 z3 zf3 x4 xf4 z4 zf4 x5 xf5 z5 zf5 x6 xf6 z6 zf6 X Z B
  obtain ⟨X, Z, B⟩ := And.intro X2 (And.intro Z2 B2)
  clear X2 Z2 B2
  have x0 := cell_of (v := .int .u64 a) 0 X.out rfl
  have xf0 := free_of 0 X.out
  have x1 := cell_of (v := .int .u64 e) 1 X.out rfl
  have xf1 := free_of 1 X.out
  have x2 := cell_of (v := .int .u64 b) 2 X.out rfl
  have xf2 := free_of 2 X.out
  have x3 := cell_of (v := .int .u64 d0) 3 X.out rfl
  have xf3 := free_of 3 X.out
  have x4 := cell_of (v := .int .u64 d1) 4 X.out rfl
  have xf4 := free_of 4 X.out
  have x5 := cell_of (v := .int .u64 d2) 5 X.out rfl
  have xf5 := free_of 5 X.out
  have x6 := cell_of (v := .int .u64 d3) 6 X.out rfl
  have xf6 := free_of 6 X.out
  have z0 := cell_of (v := .int .u64 0) 0 Z.out rfl
  have zf0 := free_of 0 Z.out
  have z1 := cell_of (v := .int .u64 0) 1 Z.out rfl
  have zf1 := free_of 1 Z.out
  have z2 := cell_of (v := .int .u64 0) 2 Z.out rfl
  have zf2 := free_of 2 Z.out
  have z3 := cell_of (v := .int .u64 0) 3 Z.out rfl
  have zf3 := free_of 3 Z.out
  have z4 := cell_of (v := .int .u64 0) 4 Z.out rfl
  have zf4 := free_of 4 Z.out
  have z5 := cell_of (v := .int .u64 0) 5 Z.out rfl
  have zf5 := free_of 5 Z.out
  have z6 := cell_of (v := .int .u64 0) 6 Z.out rfl
  have zf6 := free_of 6 Z.out
  go_wp2_with fail
  refine bodyPost_ret (v := .tuple #[.agg #[.int .u64 a, .int .u64 e, .int .u64 b, .int .u64 d0, .int .u64 (d1 + 1), .int .u64 d2, .int .u64 d3], .int .i64 0]) (by simp [results, Try.results53, go_sem, z0, z1, z2, z3, z4, z5, z6]) rfl ⟨rfl, ?_⟩
  repeat' (first | with_reducible exact B.out | with_reducible refine Below.setCell ?_ ?_ _ | with_reducible refine Below.alloc ?_ ?_ _)
  all_goals (first | (simp; done) | (simp; omega) | omega)

set_option maxRecDepth 100000 in
set_option maxHeartbeats 2000000 in
theorem dropP_y2 (a e b d0 d1 d2 d3 z : Int) (w : World) (a0 : 0 ≤ a) (e0 : 0 ≤ e) (b0 : 0 ≤ b) (p0 : 0 ≤ d0) (p1 : 0 ≤ d1) (p2 : 0 ≤ d2) (p3 : 0 ≤ d3) (hz : z = 0) (hm : tm a e b d0 d1 d2 d3 = true) (hq : a - e - d0 - d1 - d2 - d3 ≠ 0) :
    Calls Try.prog 53 #[.agg (tl a e b d0 d1 d2 d3), .int .u8 2] w fun en w' => en = .returned (.tuple #[.agg (tl a e b d0 d1 (d2 + 1) d3), .int .i64 0]) ∧ Below w.heap.size w w' := by
  have MAY := fun W => mayP_any a e b d0 d1 d2 d3 W a0 e0 b0 p0 p1 p2 p3
  rw [hm] at MAY
  have HMAY := Lib.hid MAY
  have QU := fun W => queuedP_yes a e b d0 d1 d2 d3 W a0 e0 b0 p0 p1 p2 p3 hm
  have HQU := Lib.hid QU
  clear QU
  obtain ⟨a1, b1, s1⟩ := tm_yes hm
  clear MAY hm
  obtain ⟨q, hq1⟩ : ∃ q, a - e - d0 - d1 - d2 - d3 = q := ⟨_, rfl⟩
  rw [hq1] at HQU
  have hq2 : (q == 0) = false := by simp; omega
  have e1 : d2 < 4611686018427387904 := by omega
  clear hq hq1 hz
  unfold tl at *
  go_enter Try.func53, Try.ntmps53
  go_wp2_with fail
  refine (HMAY.out _).mono ?_
  rintro en w1 ⟨rfl, hb⟩
  have HT := heap_two w (Obj.cells #[.int .u64 a, .int .u64 e, .int .u64 b, .int .u64 d0, .int .u64 d1, .int .u64 d2, .int .u64 d3] 74) (Obj.cells #[.int .u64 0, .int .u64 0, .int .u64 0, .int .u64 0, .int .u64 0, .int .u64 0, .int .u64 0] 74)
  have BW := ((Below.refl w.heap.size w).alloc (Nat.le_refl _) (Obj.cells #[.int .u64 a, .int .u64 e, .int .u64 b, .int .u64 d0, .int .u64 d1, .int .u64 d2, .int .u64 d3] 74)).alloc (by simp) (Obj.cells #[.int .u64 0, .int .u64 0, .int .u64 0, .int .u64 0, .int .u64 0, .int .u64 0, .int .u64 0] 74)
  have X := Lib.hid (Below.at hb HT.1 (lt_of_heap HT.1))
  have Z := Lib.hid (Below.at hb HT.2 (lt_of_heap HT.2))
  have B := Lib.hid (BW.trans (hb.mono BW.size))
  clear hb HT BW
  have x0 := cell_of (v := .int .u64 a) 0 X.out rfl
  have xf0 := free_of 0 X.out
  have x1 := cell_of (v := .int .u64 e) 1 X.out rfl
  have xf1 := free_of 1 X.out
  have x2 := cell_of (v := .int .u64 b) 2 X.out rfl
  have xf2 := free_of 2 X.out
  have x3 := cell_of (v := .int .u64 d0) 3 X.out rfl
  have xf3 := free_of 3 X.out
  have x4 := cell_of (v := .int .u64 d1) 4 X.out rfl
  have xf4 := free_of 4 X.out
  have x5 := cell_of (v := .int .u64 d2) 5 X.out rfl
  have xf5 := free_of 5 X.out
  have x6 := cell_of (v := .int .u64 d3) 6 X.out rfl
  have xf6 := free_of 6 X.out
  have z0 := cell_of (v := .int .u64 0) 0 Z.out rfl
  have zf0 := free_of 0 Z.out
  have z1 := cell_of (v := .int .u64 0) 1 Z.out rfl
  have zf1 := free_of 1 Z.out
  have z2 := cell_of (v := .int .u64 0) 2 Z.out rfl
  have zf2 := free_of 2 Z.out
  have z3 := cell_of (v := .int .u64 0) 3 Z.out rfl
  have zf3 := free_of 3 Z.out
  have z4 := cell_of (v := .int .u64 0) 4 Z.out rfl
  have zf4 := free_of 4 Z.out
  have z5 := cell_of (v := .int .u64 0) 5 Z.out rfl
  have zf5 := free_of 5 Z.out
  have z6 := cell_of (v := .int .u64 0) 6 Z.out rfl
  have zf6 := free_of 6 Z.out
  go_wp2_with fail
  refine (HQU.out _).mono ?_
  rintro en w2 ⟨rfl, hb⟩
  have X2 := Lib.hid (Below.at hb X.out (lt_of_heap X.out))
  have Z2 := Lib.hid (Below.at hb Z.out (lt_of_heap Z.out))
  have B2 := Lib.hid (B.out.trans (hb.mono B.out.size))
  clear hb x0 xf0 z0 zf0 x1 xf1 z1 zf1 x2 xf2 z2 zf2 x3 xf3 z3 zf3 x4 xf4 z4 zf4 x5 xf5 z5 zf5 x6 xf6 z6 zf6 X Z B
  obtain ⟨X, Z, B⟩ := And.intro X2 (And.intro Z2 B2)
  clear X2 Z2 B2
  have x0 := cell_of (v := .int .u64 a) 0 X.out rfl
  have xf0 := free_of 0 X.out
  have x1 := cell_of (v := .int .u64 e) 1 X.out rfl
  have xf1 := free_of 1 X.out
  have x2 := cell_of (v := .int .u64 b) 2 X.out rfl
  have xf2 := free_of 2 X.out
  have x3 := cell_of (v := .int .u64 d0) 3 X.out rfl
  have xf3 := free_of 3 X.out
  have x4 := cell_of (v := .int .u64 d1) 4 X.out rfl
  have xf4 := free_of 4 X.out
  have x5 := cell_of (v := .int .u64 d2) 5 X.out rfl
  have xf5 := free_of 5 X.out
  have x6 := cell_of (v := .int .u64 d3) 6 X.out rfl
  have xf6 := free_of 6 X.out
  have z0 := cell_of (v := .int .u64 0) 0 Z.out rfl
  have zf0 := free_of 0 Z.out
  have z1 := cell_of (v := .int .u64 0) 1 Z.out rfl
  have zf1 := free_of 1 Z.out
  have z2 := cell_of (v := .int .u64 0) 2 Z.out rfl
  have zf2 := free_of 2 Z.out
  have z3 := cell_of (v := .int .u64 0) 3 Z.out rfl
  have zf3 := free_of 3 Z.out
  have z4 := cell_of (v := .int .u64 0) 4 Z.out rfl
  have zf4 := free_of 4 Z.out
  have z5 := cell_of (v := .int .u64 0) 5 Z.out rfl
  have zf5 := free_of 5 Z.out
  have z6 := cell_of (v := .int .u64 0) 6 Z.out rfl
  have zf6 := free_of 6 Z.out
  go_wp2_with fail
  refine bodyPost_ret (v := .tuple #[.agg #[.int .u64 a, .int .u64 e, .int .u64 b, .int .u64 d0, .int .u64 d1, .int .u64 (d2 + 1), .int .u64 d3], .int .i64 0]) (by simp [results, Try.results53, go_sem, z0, z1, z2, z3, z4, z5, z6]) rfl ⟨rfl, ?_⟩
  repeat' (first | with_reducible exact B.out | with_reducible refine Below.setCell ?_ ?_ _ | with_reducible refine Below.alloc ?_ ?_ _)
  all_goals (first | (simp; done) | (simp; omega) | omega)

set_option maxRecDepth 100000 in
set_option maxHeartbeats 2000000 in
theorem dropP_y3 (a e b d0 d1 d2 d3 z : Int) (w : World) (a0 : 0 ≤ a) (e0 : 0 ≤ e) (b0 : 0 ≤ b) (p0 : 0 ≤ d0) (p1 : 0 ≤ d1) (p2 : 0 ≤ d2) (p3 : 0 ≤ d3) (hz : z = 0) (hm : tm a e b d0 d1 d2 d3 = true) (hq : a - e - d0 - d1 - d2 - d3 ≠ 0) :
    Calls Try.prog 53 #[.agg (tl a e b d0 d1 d2 d3), .int .u8 3] w fun en w' => en = .returned (.tuple #[.agg (tl a e b d0 d1 d2 (d3 + 1)), .int .i64 0]) ∧ Below w.heap.size w w' := by
  have MAY := fun W => mayP_any a e b d0 d1 d2 d3 W a0 e0 b0 p0 p1 p2 p3
  rw [hm] at MAY
  have HMAY := Lib.hid MAY
  have QU := fun W => queuedP_yes a e b d0 d1 d2 d3 W a0 e0 b0 p0 p1 p2 p3 hm
  have HQU := Lib.hid QU
  clear QU
  obtain ⟨a1, b1, s1⟩ := tm_yes hm
  clear MAY hm
  obtain ⟨q, hq1⟩ : ∃ q, a - e - d0 - d1 - d2 - d3 = q := ⟨_, rfl⟩
  rw [hq1] at HQU
  have hq2 : (q == 0) = false := by simp; omega
  have e1 : d3 < 4611686018427387904 := by omega
  clear hq hq1 hz
  unfold tl at *
  go_enter Try.func53, Try.ntmps53
  go_wp2_with fail
  refine (HMAY.out _).mono ?_
  rintro en w1 ⟨rfl, hb⟩
  have HT := heap_two w (Obj.cells #[.int .u64 a, .int .u64 e, .int .u64 b, .int .u64 d0, .int .u64 d1, .int .u64 d2, .int .u64 d3] 74) (Obj.cells #[.int .u64 0, .int .u64 0, .int .u64 0, .int .u64 0, .int .u64 0, .int .u64 0, .int .u64 0] 74)
  have BW := ((Below.refl w.heap.size w).alloc (Nat.le_refl _) (Obj.cells #[.int .u64 a, .int .u64 e, .int .u64 b, .int .u64 d0, .int .u64 d1, .int .u64 d2, .int .u64 d3] 74)).alloc (by simp) (Obj.cells #[.int .u64 0, .int .u64 0, .int .u64 0, .int .u64 0, .int .u64 0, .int .u64 0, .int .u64 0] 74)
  have X := Lib.hid (Below.at hb HT.1 (lt_of_heap HT.1))
  have Z := Lib.hid (Below.at hb HT.2 (lt_of_heap HT.2))
  have B := Lib.hid (BW.trans (hb.mono BW.size))
  clear hb HT BW
  have x0 := cell_of (v := .int .u64 a) 0 X.out rfl
  have xf0 := free_of 0 X.out
  have x1 := cell_of (v := .int .u64 e) 1 X.out rfl
  have xf1 := free_of 1 X.out
  have x2 := cell_of (v := .int .u64 b) 2 X.out rfl
  have xf2 := free_of 2 X.out
  have x3 := cell_of (v := .int .u64 d0) 3 X.out rfl
  have xf3 := free_of 3 X.out
  have x4 := cell_of (v := .int .u64 d1) 4 X.out rfl
  have xf4 := free_of 4 X.out
  have x5 := cell_of (v := .int .u64 d2) 5 X.out rfl
  have xf5 := free_of 5 X.out
  have x6 := cell_of (v := .int .u64 d3) 6 X.out rfl
  have xf6 := free_of 6 X.out
  have z0 := cell_of (v := .int .u64 0) 0 Z.out rfl
  have zf0 := free_of 0 Z.out
  have z1 := cell_of (v := .int .u64 0) 1 Z.out rfl
  have zf1 := free_of 1 Z.out
  have z2 := cell_of (v := .int .u64 0) 2 Z.out rfl
  have zf2 := free_of 2 Z.out
  have z3 := cell_of (v := .int .u64 0) 3 Z.out rfl
  have zf3 := free_of 3 Z.out
  have z4 := cell_of (v := .int .u64 0) 4 Z.out rfl
  have zf4 := free_of 4 Z.out
  have z5 := cell_of (v := .int .u64 0) 5 Z.out rfl
  have zf5 := free_of 5 Z.out
  have z6 := cell_of (v := .int .u64 0) 6 Z.out rfl
  have zf6 := free_of 6 Z.out
  go_wp2_with fail
  refine (HQU.out _).mono ?_
  rintro en w2 ⟨rfl, hb⟩
  have X2 := Lib.hid (Below.at hb X.out (lt_of_heap X.out))
  have Z2 := Lib.hid (Below.at hb Z.out (lt_of_heap Z.out))
  have B2 := Lib.hid (B.out.trans (hb.mono B.out.size))
  clear hb x0 xf0 z0 zf0 x1 xf1 z1 zf1 x2 xf2 z2 zf2 x3 xf3 z3 zf3 x4 xf4 z4 zf4 x5 xf5 z5 zf5 x6 xf6 z6 zf6 X Z B
  obtain ⟨X, Z, B⟩ := And.intro X2 (And.intro Z2 B2)
  clear X2 Z2 B2
  have x0 := cell_of (v := .int .u64 a) 0 X.out rfl
  have xf0 := free_of 0 X.out
  have x1 := cell_of (v := .int .u64 e) 1 X.out rfl
  have xf1 := free_of 1 X.out
  have x2 := cell_of (v := .int .u64 b) 2 X.out rfl
  have xf2 := free_of 2 X.out
  have x3 := cell_of (v := .int .u64 d0) 3 X.out rfl
  have xf3 := free_of 3 X.out
  have x4 := cell_of (v := .int .u64 d1) 4 X.out rfl
  have xf4 := free_of 4 X.out
  have x5 := cell_of (v := .int .u64 d2) 5 X.out rfl
  have xf5 := free_of 5 X.out
  have x6 := cell_of (v := .int .u64 d3) 6 X.out rfl
  have xf6 := free_of 6 X.out
  have z0 := cell_of (v := .int .u64 0) 0 Z.out rfl
  have zf0 := free_of 0 Z.out
  have z1 := cell_of (v := .int .u64 0) 1 Z.out rfl
  have zf1 := free_of 1 Z.out
  have z2 := cell_of (v := .int .u64 0) 2 Z.out rfl
  have zf2 := free_of 2 Z.out
  have z3 := cell_of (v := .int .u64 0) 3 Z.out rfl
  have zf3 := free_of 3 Z.out
  have z4 := cell_of (v := .int .u64 0) 4 Z.out rfl
  have zf4 := free_of 4 Z.out
  have z5 := cell_of (v := .int .u64 0) 5 Z.out rfl
  have zf5 := free_of 5 Z.out
  have z6 := cell_of (v := .int .u64 0) 6 Z.out rfl
  have zf6 := free_of 6 Z.out
  go_wp2_with fail
  refine bodyPost_ret (v := .tuple #[.agg #[.int .u64 a, .int .u64 e, .int .u64 b, .int .u64 d0, .int .u64 d1, .int .u64 d2, .int .u64 (d3 + 1)], .int .i64 0]) (by simp [results, Try.results53, go_sem, z0, z1, z2, z3, z4, z5, z6]) rfl ⟨rfl, ?_⟩
  repeat' (first | with_reducible exact B.out | with_reducible refine Below.setCell ?_ ?_ _ | with_reducible refine Below.alloc ?_ ?_ _)
  all_goals (first | (simp; done) | (simp; omega) | omega)

end Go.Proofs.Ytamjhaomdfeemaa
