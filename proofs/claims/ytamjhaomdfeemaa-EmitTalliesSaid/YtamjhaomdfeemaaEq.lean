/- Walks of package emit and of its reference. -/
import Derived.Test.YtamjhaomdfeemaaEr
namespace Go.Proofs.Ytamjhaomdfeemaa
open Go.RowKit Go.Wb
set_option linter.unusedVariables false

set_option maxRecDepth 100000 in
set_option maxHeartbeats 2000000 in
theorem queuedP_no (a e b d0 d1 d2 d3 : Int) (w : World) (a0 : 0 ≤ a) (e0 : 0 ≤ e) (b0 : 0 ≤ b) (p0 : 0 ≤ d0) (p1 : 0 ≤ d1) (p2 : 0 ≤ d2) (p3 : 0 ≤ d3) (hm : tm a e b d0 d1 d2 d3 = false) :
    Calls Try.prog 47 #[.agg (tl a e b d0 d1 d2 d3)] w fun en w' => en = .returned (.int .u64 0) ∧ Below w.heap.size w w' := by
  have MAY := fun W => mayP_any a e b d0 d1 d2 d3 W a0 e0 b0 p0 p1 p2 p3
  rw [hm] at MAY
  have HMAY := Lib.hid MAY
  clear MAY hm
  unfold tl at *
  go_enter Try.func47, Try.ntmps47
  go_wp2_with fail
  refine (HMAY.out _).mono ?_
  rintro en w1 ⟨rfl, hb⟩
  have B := Lib.hid (((Below.refl w.heap.size w).alloc (Nat.le_refl _) (Obj.cells #[.int .u64 a, .int .u64 e, .int .u64 b, .int .u64 d0, .int .u64 d1, .int .u64 d2, .int .u64 d3] 74)).trans (hb.mono (by simp)))
  clear hb
  go_wp2_with fail
  go_ret
  exact ⟨rfl, B.out⟩

set_option maxRecDepth 100000 in
set_option maxHeartbeats 2000000 in
theorem queuedP_yes (a e b d0 d1 d2 d3 : Int) (w : World) (a0 : 0 ≤ a) (e0 : 0 ≤ e) (b0 : 0 ≤ b) (p0 : 0 ≤ d0) (p1 : 0 ≤ d1) (p2 : 0 ≤ d2) (p3 : 0 ≤ d3) (hm : tm a e b d0 d1 d2 d3 = true) :
    Calls Try.prog 47 #[.agg (tl a e b d0 d1 d2 d3)] w fun en w' => en = .returned (.int .u64 (a - e - d0 - d1 - d2 - d3)) ∧ Below w.heap.size w w' := by
  have MAY := fun W => mayP_any a e b d0 d1 d2 d3 W a0 e0 b0 p0 p1 p2 p3
  rw [hm] at MAY
  have HMAY := Lib.hid MAY
  have OV := Lib.hid (fun W => over_exact a e b d0 d1 d2 d3 W a0 e0 b0 p0 p1 p2 p3 hm)
  obtain ⟨a1, b1, s1⟩ := tm_yes hm
  clear MAY hm
  unfold tl at *
  go_enter Try.func47, Try.ntmps47
  go_wp2_with fail
  refine (HMAY.out _).mono ?_
  rintro en w1 ⟨rfl, hb⟩
  have hx := heap_alloc_new w (Obj.cells #[.int .u64 a, .int .u64 e, .int .u64 b, .int .u64 d0, .int .u64 d1, .int .u64 d2, .int .u64 d3] 74)
  have X := Lib.hid (Below.at hb hx (lt_of_heap hx))
  have B := Lib.hid (((Below.refl w.heap.size w).alloc (Nat.le_refl _) (Obj.cells #[.int .u64 a, .int .u64 e, .int .u64 b, .int .u64 d0, .int .u64 d1, .int .u64 d2, .int .u64 d3] 74)).trans (hb.mono (by simp)))
  clear hb hx
  have x0 := cell_of (v := .int .u64 a) 0 X.out rfl
  have xf0 := free_of 0 X.out
  have x1 := cell_of (v := .int .u64 e) 1 X.out rfl
  have xf1 := free_of 1 X.out
  have x2 := cell_of (v := .int .u64 b) 2 X.out rfl
  have xf2 := free_of 2 X.out
  have x3 := cell_of (v := .int .u64 d0) 3 X.out rfl
  have xf3 := free_of 3 X.out
  have x4 := cell_of (v := .int .u64 d1) 4 X.out rfl
  have xf4 := free_of 4 X.out
  have x5 := cell_of (v := .int .u64 d2) 5 X.out rfl
  have xf5 := free_of 5 X.out
  have x6 := cell_of (v := .int .u64 d3) 6 X.out rfl
  have xf6 := free_of 6 X.out
  go_wp2_with fail
  refine (OV.out _).mono ?_
  rintro en w2 ⟨rfl, hb⟩
  have X2 := Lib.hid (Below.at hb X.out (lt_of_heap X.out))
  have B2 := Lib.hid (B.out.trans (hb.mono B.out.size))
  clear hb x0 x1 x2 x3 x4 x5 x6 xf0 xf1 xf2 xf3 xf4 xf5 xf6 X B
  have x0 := cell_of (v := .int .u64 a) 0 X2.out rfl
  have t0 : e + d0 + d1 + d2 + d3 ≤ a := by omega
  go_wp2_with fail
  go_ret
  exact ⟨ret_int (by omega), B2.out⟩

set_option maxRecDepth 100000 in
set_option maxHeartbeats 2000000 in
theorem queuedR_no (a e b d0 d1 d2 d3 : Int) (w : World) (a0 : 0 ≤ a) (e0 : 0 ≤ e) (b0 : 0 ≤ b) (p0 : 0 ≤ d0) (p1 : 0 ≤ d1) (p2 : 0 ≤ d2) (p3 : 0 ≤ d3) (hm : tm a e b d0 d1 d2 d3 = false) :
    Calls Try.prog 48 #[.agg (tl a e b d0 d1 d2 d3)] w fun en w' => en = .returned (.int .u64 0) ∧ Below w.heap.size w w' := by
  have MAY := fun W => mayR_any a e b d0 d1 d2 d3 W a0 e0 b0 p0 p1 p2 p3
  rw [hm] at MAY
  have HMAY := Lib.hid MAY
  clear MAY hm
  unfold tl at *
  go_enter Try.func48, Try.ntmps48
  go_wp2_with fail
  refine (HMAY.out _).mono ?_
  rintro en w1 ⟨rfl, hb⟩
  have B := Lib.hid (((Below.refl w.heap.size w).alloc (Nat.le_refl _) (Obj.cells #[.int .u64 a, .int .u64 e, .int .u64 b, .int .u64 d0, .int .u64 d1, .int .u64 d2, .int .u64 d3] 74)).trans (hb.mono (by simp)))
  clear hb
  go_wp2_with fail
  go_ret
  exact ⟨rfl, B.out⟩

set_option maxRecDepth 100000 in
set_option maxHeartbeats 2000000 in
theorem queuedR_yes (a e b d0 d1 d2 d3 : Int) (w : World) (a0 : 0 ≤ a) (e0 : 0 ≤ e) (b0 : 0 ≤ b) (p0 : 0 ≤ d0) (p1 : 0 ≤ d1) (p2 : 0 ≤ d2) (p3 : 0 ≤ d3) (hm : tm a e b d0 d1 d2 d3 = true) :
    Calls Try.prog 48 #[.agg (tl a e b d0 d1 d2 d3)] w fun en w' => en = .returned (.int .u64 (a - e - d0 - d1 - d2 - d3)) ∧ Below w.heap.size w w' := by
  have MAY := fun W => mayR_any a e b d0 d1 d2 d3 W a0 e0 b0 p0 p1 p2 p3
  rw [hm] at MAY
  have HMAY := Lib.hid MAY
  have OV := Lib.hid (fun W => over_exact a e b d0 d1 d2 d3 W a0 e0 b0 p0 p1 p2 p3 hm)
  obtain ⟨a1, b1, s1⟩ := tm_yes hm
  clear MAY hm
  unfold tl at *
  go_enter Try.func48, Try.ntmps48
  go_wp2_with fail
  refine (HMAY.out _).mono ?_
  rintro en w1 ⟨rfl, hb⟩
  have hx := heap_alloc_new w (Obj.cells #[.int .u64 a, .int .u64 e, .int .u64 b, .int .u64 d0, .int .u64 d1, .int .u64 d2, .int .u64 d3] 74)
  have X := Lib.hid (Below.at hb hx (lt_of_heap hx))
  have B := Lib.hid (((Below.refl w.heap.size w).alloc (Nat.le_refl _) (Obj.cells #[.int .u64 a, .int .u64 e, .int .u64 b, .int .u64 d0, .int .u64 d1, .int .u64 d2, .int .u64 d3] 74)).trans (hb.mono (by simp)))
  clear hb hx
  have x0 := cell_of (v := .int .u64 a) 0 X.out rfl
  have xf0 := free_of 0 X.out
  have x1 := cell_of (v := .int .u64 e) 1 X.out rfl
  have xf1 := free_of 1 X.out
  have x2 := cell_of (v := .int .u64 b) 2 X.out rfl
  have xf2 := free_of 2 X.out
  have x3 := cell_of (v := .int .u64 d0) 3 X.out rfl
  have xf3 := free_of 3 X.out
  have x4 := cell_of (v := .int .u64 d1) 4 X.out rfl
  have xf4 := free_of 4 X.out
  have x5 := cell_of (v := .int .u64 d2) 5 X.out rfl
  have xf5 := free_of 5 X.out
  have x6 := cell_of (v := .int .u64 d3) 6 X.out rfl
  have xf6 := free_of 6 X.out
  go_wp2_with fail
  go_ret
  exact ⟨ret_int (by omega), B.out⟩

end Go.Proofs.Ytamjhaomdfeemaa
