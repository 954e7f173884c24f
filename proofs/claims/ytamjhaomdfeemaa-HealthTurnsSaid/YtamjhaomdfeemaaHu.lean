/- Walks of the reference of package health: Fit. -/
import Derived.Test.YtamjhaomdfeemaaHm
import Derived.Test.YtamjhaomdfeemaaHf
import Derived.LoopN
namespace Go.Proofs.Ytamjhaomdfeemaa
open Go.RowKit Go.Wb
set_option linter.unusedVariables false

set_option maxRecDepth 100000 in
set_option maxHeartbeats 4000000 in
theorem rfit_f (run r f : Int) (w : World) (h1 : -9223372036854775808 ≤ run) (h2 : run ≤ 9223372036854775807) (hs : maySet r f = true) (hrn : r ≤ run) : Calls Try.prog 29 #[.agg #[.bool false, .int .i64 run], .agg #[.int .i64 r, .int .i64 f]] w fun e w' =>
    e = .returned (.agg #[.bool false, .int .i64 (fitR false run r f)]) ∧ Below w.heap.size w w' := by
  obtain ⟨r0, r1, f0, f1⟩ := maySet_iff.1 hs
  have SET := Lib.hid (fun W => rmaySet_any r f W)
  have HF : Hid (fitR false run r f = r - 1) := by
    have e : need false r f = r := rfl
    show _ = _
    unfold fitR
    rw [if_pos hs, e]; omega
  have M0 : Hid (∀ W, Calls Try.prog 27 #[.agg #[.bool false, .int .i64 run], .agg #[.int .i64 r, .int .i64 f]] W fun e w' => e = .returned (.bool false) ∧ Below W.heap.size W w') := fun W => by
    have := rhmay_any false run r f W; rwa [show hmay false run r f = false from by unfold hmay need; simp; omega] at this
  have M1 : Hid (∀ W, Calls Try.prog 27 #[.agg #[.bool false, .int .i64 (r - 1)], .agg #[.int .i64 r, .int .i64 f]] W fun e w' => e = .returned (.bool true) ∧ Below W.heap.size W w') := fun W => by
    have := rhmay_any false (r - 1) r f W; rwa [show hmay false (r - 1) r f = true from by unfold hmay need; rw [hs]; simp; omega] at this
  rw [hs] at SET
  clear hs
  have B := below_three w (Obj.cells #[.bool false, .int .i64 run] 37) (Obj.cells #[.int .i64 r, .int .i64 f] 39) (Obj.cells #[.bool false, .int .i64 0] 37)
  obtain ⟨hx, hy, hz⟩ := (heap_three w (Obj.cells #[.bool false, .int .i64 run] 37) (Obj.cells #[.int .i64 r, .int .i64 f] 39) (Obj.cells #[.bool false, .int .i64 0] 37))
  have X := Lib.hid hx
  have Y := Lib.hid hy
  have Z := Lib.hid hz
  have B1 := Lib.hid B
  clear B hx hy hz
  go_enter Try.func29, Try.ntmps29
  go_wp2_with fail
  generalize ((w.alloc (Obj.cells #[.bool false, .int .i64 run] 37)).alloc (Obj.cells #[.int .i64 r, .int .i64 f] 39)).alloc (Obj.cells #[.bool false, .int .i64 0] 37) = w1 at *
  refine (SET.out _).mono ?_
  rintro e w2 ⟨rfl, hb⟩
  have X3 := Lib.hid (Below.at hb X.out (lt_of_heap X.out))
  have Y3 := Lib.hid (Below.at hb Y.out (lt_of_heap Y.out))
  have Z3 := Lib.hid (Below.at hb Z.out (lt_of_heap Z.out))
  have B3 := Lib.hid (B1.out.trans (hb.mono B1.out.size))
  clear hb X Y Z B1
  have x0 := cell_of (v := .bool false) 0 X3.out rfl
  have x1 := cell_of (v := .int .i64 run) 1 X3.out rfl
  have xf1 := free_of 1 X3.out
  have y0 := cell_of (v := .int .i64 r) 0 Y3.out rfl
  have y1 := cell_of (v := .int .i64 f) 1 Y3.out rfl
  go_wp2_with fail
  refine wp_loop_rounds 2 ?_
  rw [rounds_succ]
  go_wp2_with fail
  refine (M0.out _).mono ?_
  rintro e w4 ⟨rfl, hb⟩
  have X4 := Lib.hid (Below.at hb X3.out (lt_of_heap X3.out))
  have Y4 := Lib.hid (Below.at hb Y3.out (lt_of_heap Y3.out))
  have Z4 := Lib.hid (Below.at hb Z3.out (lt_of_heap Z3.out))
  have B4 := Lib.hid (B3.out.trans (hb.mono B3.out.size))
  clear hb X3 Y3 Z3 B3 x0 x1 xf1 y0 y1
  have x0 := cell_of (v := .bool false) 0 X4.out rfl
  have x1 := cell_of (v := .int .i64 run) 1 X4.out rfl
  have xf1 := free_of 1 X4.out
  have y0 := cell_of (v := .int .i64 r) 0 Y4.out rfl
  have y1 := cell_of (v := .int .i64 f) 1 Y4.out rfl
  go_wp2_with fail
  have X5 : Hid ((w4.setCell ⟨w.heap.size, 1, none⟩ (.int .i64 (r - 1))).heap[w.heap.size]? = some (.cells #[.bool false, .int .i64 (r - 1)] 37 (0, 0))) := heap_setCell X4.out
  have Y5 := Lib.hid ((But.set1 w4 w.heap.size 1 (.int .i64 (r - 1))).at Y4.out (by omega))
  have Z5 := Lib.hid ((But.set1 w4 w.heap.size 1 (.int .i64 (r - 1))).at Z4.out (by omega))
  have B5 : Hid (Below w.heap.size w (w4.setCell ⟨w.heap.size, 1, none⟩ (.int .i64 (r - 1)))) := B4.out.setCell (p := ⟨w.heap.size, 1, none⟩) (Nat.le_refl _) _
  generalize w4.setCell ⟨w.heap.size, 1, none⟩ (.int .i64 (r - 1)) = w5 at *
  clear X4 Y4 Z4 B4 x0 x1 xf1 y0 y1
  have x0 := cell_of (v := .bool false) 0 X5.out rfl
  have x1 := cell_of (v := .int .i64 (r - 1)) 1 X5.out rfl
  have xf1 := free_of 1 X5.out
  have y0 := cell_of (v := .int .i64 r) 0 Y5.out rfl
  have y1 := cell_of (v := .int .i64 f) 1 Y5.out rfl
  rw [rounds_succ]
  go_wp2_with fail
  refine (M1.out _).mono ?_
  rintro e w9 ⟨rfl, hb⟩
  have X9 := Lib.hid (Below.at hb X5.out (lt_of_heap X5.out))
  have Z9 := Lib.hid (Below.at hb Z5.out (lt_of_heap Z5.out))
  have B9 := Lib.hid (B5.out.trans (hb.mono B5.out.size))
  clear hb X5 Y5 Z5 B5 x0 x1 xf1 y0 y1
  have x0 := cell_of (v := .bool false) 0 X9.out rfl
  have x1 := cell_of (v := .int .i64 (r - 1)) 1 X9.out rfl
  have z0 := cell_of (v := .bool false) 0 Z9.out rfl
  have z1 := cell_of (v := .int .i64 0) 1 Z9.out rfl
  have zf0 := free_of 0 Z9.out
  have zf1 := free_of 1 Z9.out
  go_wp2_with fail
  refine bodyPost_ret (v := .agg #[.bool false, .int .i64 (r - 1)]) (by simp [results, Try.results29, go_sem, z0, z1]) rfl ⟨by rw [HF.out], ?_⟩
  repeat' (first | exact B9.out | refine Below.setCell ?_ ?_ _ | refine Below.alloc ?_ ?_ _)
  all_goals (first | (simp; done) | (simp; omega) | omega)

set_option maxRecDepth 100000 in
set_option maxHeartbeats 4000000 in
theorem rfit_t (run r f : Int) (w : World) (h1 : -9223372036854775808 ≤ run) (h2 : run ≤ 9223372036854775807) (hs : maySet r f = true) (hrn : f ≤ run) : Calls Try.prog 29 #[.agg #[.bool true, .int .i64 run], .agg #[.int .i64 r, .int .i64 f]] w fun e w' =>
    e = .returned (.agg #[.bool true, .int .i64 (fitR true run r f)]) ∧ Below w.heap.size w w' := by
  obtain ⟨r0, r1, f0, f1⟩ := maySet_iff.1 hs
  have SET := Lib.hid (fun W => rmaySet_any r f W)
  have HF : Hid (fitR true run r f = f - 1) := by
    have e : need true r f = f := rfl
    show _ = _
    unfold fitR
    rw [if_pos hs, e]; omega
  have M0 : Hid (∀ W, Calls Try.prog 27 #[.agg #[.bool true, .int .i64 run], .agg #[.int .i64 r, .int .i64 f]] W fun e w' => e = .returned (.bool false) ∧ Below W.heap.size W w') := fun W => by
    have := rhmay_any true run r f W; rwa [show hmay true run r f = false from by unfold hmay need; simp; omega] at this
  have M1 : Hid (∀ W, Calls Try.prog 27 #[.agg #[.bool true, .int .i64 (f - 1)], .agg #[.int .i64 r, .int .i64 f]] W fun e w' => e = .returned (.bool true) ∧ Below W.heap.size W w') := fun W => by
    have := rhmay_any true (f - 1) r f W; rwa [show hmay true (f - 1) r f = true from by unfold hmay need; rw [hs]; simp; omega] at this
  rw [hs] at SET
  clear hs
  have B := below_three w (Obj.cells #[.bool true, .int .i64 run] 37) (Obj.cells #[.int .i64 r, .int .i64 f] 39) (Obj.cells #[.bool false, .int .i64 0] 37)
  obtain ⟨hx, hy, hz⟩ := (heap_three w (Obj.cells #[.bool true, .int .i64 run] 37) (Obj.cells #[.int .i64 r, .int .i64 f] 39) (Obj.cells #[.bool false, .int .i64 0] 37))
  have X := Lib.hid hx
  have Y := Lib.hid hy
  have Z := Lib.hid hz
  have B1 := Lib.hid B
  clear B hx hy hz
  go_enter Try.func29, Try.ntmps29
  go_wp2_with fail
  generalize ((w.alloc (Obj.cells #[.bool true, .int .i64 run] 37)).alloc (Obj.cells #[.int .i64 r, .int .i64 f] 39)).alloc (Obj.cells #[.bool false, .int .i64 0] 37) = w1 at *
  refine (SET.out _).mono ?_
  rintro e w2 ⟨rfl, hb⟩
  have X3 := Lib.hid (Below.at hb X.out (lt_of_heap X.out))
  have Y3 := Lib.hid (Below.at hb Y.out (lt_of_heap Y.out))
  have Z3 := Lib.hid (Below.at hb Z.out (lt_of_heap Z.out))
  have B3 := Lib.hid (B1.out.trans (hb.mono B1.out.size))
  clear hb X Y Z B1
  have x0 := cell_of (v := .bool true) 0 X3.out rfl
  have x1 := cell_of (v := .int .i64 run) 1 X3.out rfl
  have xf1 := free_of 1 X3.out
  have y0 := cell_of (v := .int .i64 r) 0 Y3.out rfl
  have y1 := cell_of (v := .int .i64 f) 1 Y3.out rfl
  go_wp2_with fail
  refine wp_loop_rounds 2 ?_
  rw [rounds_succ]
  go_wp2_with fail
  refine (M0.out _).mono ?_
  rintro e w4 ⟨rfl, hb⟩
  have X4 := Lib.hid (Below.at hb X3.out (lt_of_heap X3.out))
  have Y4 := Lib.hid (Below.at hb Y3.out (lt_of_heap Y3.out))
  have Z4 := Lib.hid (Below.at hb Z3.out (lt_of_heap Z3.out))
  have B4 := Lib.hid (B3.out.trans (hb.mono B3.out.size))
  clear hb X3 Y3 Z3 B3 x0 x1 xf1 y0 y1
  have x0 := cell_of (v := .bool true) 0 X4.out rfl
  have x1 := cell_of (v := .int .i64 run) 1 X4.out rfl
  have xf1 := free_of 1 X4.out
  have y0 := cell_of (v := .int .i64 r) 0 Y4.out rfl
  have y1 := cell_of (v := .int .i64 f) 1 Y4.out rfl
  go_wp2_with fail
  have X5 : Hid ((w4.setCell ⟨w.heap.size, 1, none⟩ (.int .i64 (f - 1))).heap[w.heap.size]? = some (.cells #[.bool true, .int .i64 (f - 1)] 37 (0, 0))) := heap_setCell X4.out
  have Y5 := Lib.hid ((But.set1 w4 w.heap.size 1 (.int .i64 (f - 1))).at Y4.out (by omega))
  have Z5 := Lib.hid ((But.set1 w4 w.heap.size 1 (.int .i64 (f - 1))).at Z4.out (by omega))
  have B5 : Hid (Below w.heap.size w (w4.setCell ⟨w.heap.size, 1, none⟩ (.int .i64 (f - 1)))) := B4.out.setCell (p := ⟨w.heap.size, 1, none⟩) (Nat.le_refl _) _
  generalize w4.setCell ⟨w.heap.size, 1, none⟩ (.int .i64 (f - 1)) = w5 at *
  clear X4 Y4 Z4 B4 x0 x1 xf1 y0 y1
  have x0 := cell_of (v := .bool true) 0 X5.out rfl
  have x1 := cell_of (v := .int .i64 (f - 1)) 1 X5.out rfl
  have xf1 := free_of 1 X5.out
  have y0 := cell_of (v := .int .i64 r) 0 Y5.out rfl
  have y1 := cell_of (v := .int .i64 f) 1 Y5.out rfl
  rw [rounds_succ]
  go_wp2_with fail
  refine (M1.out _).mono ?_
  rintro e w9 ⟨rfl, hb⟩
  have X9 := Lib.hid (Below.at hb X5.out (lt_of_heap X5.out))
  have Z9 := Lib.hid (Below.at hb Z5.out (lt_of_heap Z5.out))
  have B9 := Lib.hid (B5.out.trans (hb.mono B5.out.size))
  clear hb X5 Y5 Z5 B5 x0 x1 xf1 y0 y1
  have x0 := cell_of (v := .bool true) 0 X9.out rfl
  have x1 := cell_of (v := .int .i64 (f - 1)) 1 X9.out rfl
  have z0 := cell_of (v := .bool false) 0 Z9.out rfl
  have z1 := cell_of (v := .int .i64 0) 1 Z9.out rfl
  have zf0 := free_of 0 Z9.out
  have zf1 := free_of 1 Z9.out
  go_wp2_with fail
  refine bodyPost_ret (v := .agg #[.bool true, .int .i64 (f - 1)]) (by simp [results, Try.results29, go_sem, z0, z1]) rfl ⟨by rw [HF.out], ?_⟩
  repeat' (first | exact B9.out | refine Below.setCell ?_ ?_ _ | refine Below.alloc ?_ ?_ _)
  all_goals (first | (simp; done) | (simp; omega) | omega)

set_option maxRecDepth 100000 in
set_option maxHeartbeats 4000000 in
theorem rfit_any (up : Bool) (run r f : Int) (w : World) (h1 : -9223372036854775808 ≤ run) (h2 : run ≤ 9223372036854775807) : Calls Try.prog 29 #[.agg #[.bool up, .int .i64 run], .agg #[.int .i64 r, .int .i64 f]] w fun e w' =>
    e = .returned (.agg #[.bool up, .int .i64 (fitR up run r f)]) ∧ Below w.heap.size w w' := by
  have SET := Lib.hid (fun W => rmaySet_any r f W)
  have MAY := Lib.hid (fun x W => rhmay_any up x r f W)
  have HMAY : Hid (∀ x, hmay up x r f = (maySet r f && decide (0 ≤ x) && decide (x < need up r f))) := fun _ => rfl
  have HF : Hid (fitR up run r f = if maySet r f = true then max 0 (min run (need up r f - 1)) else 0) := rfl
  have HND : Hid (maySet r f = true → 1 ≤ need up r f ∧ need up r f ≤ 10) := fun h => by
    have := maySet_iff.1 h
    unfold need; split <;> omega
  have B := below_three w (Obj.cells #[.bool up, .int .i64 run] 37) (Obj.cells #[.int .i64 r, .int .i64 f] 39) (Obj.cells #[.bool false, .int .i64 0] 37)
  obtain ⟨hx, hy, hz⟩ := (heap_three w (Obj.cells #[.bool up, .int .i64 run] 37) (Obj.cells #[.int .i64 r, .int .i64 f] 39) (Obj.cells #[.bool false, .int .i64 0] 37))
  have X := Lib.hid hx
  have Y := Lib.hid hy
  have Z := Lib.hid hz
  have B1 := Lib.hid B
  clear B hx hy hz
  have HS : maySet r f = true ∨ maySet r f = false := by cases maySet r f <;> simp
  rcases HS with hs | hs
  · have hs0 := hs
    have nd := HND.out hs
    rw [hs] at SET HF HMAY
    rw [if_pos rfl] at HF
    clear hs HND
    obtain ⟨n, hn⟩ : ∃ n, need up r f = n := ⟨_, rfl⟩
    rw [hn] at HF HMAY nd
    have HN := Lib.hid hn
    clear hn
    by_cases hr0 : run < 0
    · have M0 : Hid (∀ W, Calls Try.prog 27 #[.agg #[.bool up, .int .i64 0], .agg #[.int .i64 r, .int .i64 f]] W fun e w' => e = .returned (.bool true) ∧ Below W.heap.size W w') := fun W => by
        have := MAY.out 0 W; rwa [show hmay up 0 r f = true from by rw [HMAY.out]; simp; omega] at this
      go_enter Try.func29, Try.ntmps29
      go_wp2_with fail
      generalize ((w.alloc (Obj.cells #[.bool up, .int .i64 run] 37)).alloc (Obj.cells #[.int .i64 r, .int .i64 f] 39)).alloc (Obj.cells #[.bool false, .int .i64 0] 37) = w1 at *
      refine (SET.out _).mono ?_
      rintro e w2 ⟨rfl, hb⟩
      have X2 := Lib.hid (Below.at hb X.out (lt_of_heap X.out))
      have Y2 := Lib.hid (Below.at hb Y.out (lt_of_heap Y.out))
      have Z2 := Lib.hid (Below.at hb Z.out (lt_of_heap Z.out))
      have B2 := Lib.hid (B1.out.trans (hb.mono B1.out.size))
      clear hb X Y Z B1
      have x0 := cell_of (v := .bool up) 0 X2.out rfl
      have x1 := cell_of (v := .int .i64 run) 1 X2.out rfl
      have xf1 := free_of 1 X2.out
      have y0 := cell_of (v := .int .i64 r) 0 Y2.out rfl
      have y1 := cell_of (v := .int .i64 f) 1 Y2.out rfl
      go_wp2_with fail
      have X3 : Hid ((w2.setCell ⟨w.heap.size, 1, none⟩ (.int .i64 0)).heap[w.heap.size]? = some (.cells #[.bool up, .int .i64 0] 37 (0, 0))) := heap_setCell X2.out
      have Y3 := Lib.hid ((But.set1 w2 w.heap.size 1 (.int .i64 0)).at Y2.out (by omega))
      have Z3 := Lib.hid ((But.set1 w2 w.heap.size 1 (.int .i64 0)).at Z2.out (by omega))
      have B3 : Hid (Below w.heap.size w (w2.setCell ⟨w.heap.size, 1, none⟩ (.int .i64 0))) := B2.out.setCell (p := ⟨w.heap.size, 1, none⟩) (Nat.le_refl _) _
      generalize w2.setCell ⟨w.heap.size, 1, none⟩ (.int .i64 0) = w3 at *
      clear X2 Y2 Z2 B2 x0 x1 xf1 y0 y1
      refine wp_loop_rounds 1 ?_
      rw [rounds_succ]
      have x0 := cell_of (v := .bool up) 0 X3.out rfl
      have x1 := cell_of (v := .int .i64 0) 1 X3.out rfl
      have xf1 := free_of 1 X3.out
      have y0 := cell_of (v := .int .i64 r) 0 Y3.out rfl
      have y1 := cell_of (v := .int .i64 f) 1 Y3.out rfl
      go_wp2_with fail
      refine (M0.out _).mono ?_
      rintro e w9 ⟨rfl, hb⟩
      have X9 := Lib.hid (Below.at hb X3.out (lt_of_heap X3.out))
      have Z9 := Lib.hid (Below.at hb Z3.out (lt_of_heap Z3.out))
      have B9 := Lib.hid (B3.out.trans (hb.mono B3.out.size))
      clear hb X3 Y3 Z3 B3 x0 x1 xf1 y0 y1
      have x0 := cell_of (v := .bool up) 0 X9.out rfl
      have x1 := cell_of (v := .int .i64 0) 1 X9.out rfl
      have z0 := cell_of (v := .bool false) 0 Z9.out rfl
      have z1 := cell_of (v := .int .i64 0) 1 Z9.out rfl
      have zf0 := free_of 0 Z9.out
      have zf1 := free_of 1 Z9.out
      go_wp2_with fail
      refine bodyPost_ret (v := .agg #[.bool up, .int .i64 0]) (by simp [results, Try.results29, go_sem, z0, z1]) rfl ⟨by rw [HF.out, show max 0 (min run (n - 1)) = 0 from by omega], ?_⟩
      repeat' (first | exact B9.out | refine Below.setCell ?_ ?_ _ | refine Below.alloc ?_ ?_ _)
      all_goals (first | (simp; done) | (simp; omega) | omega)

    · by_cases hrn : run < n
      · have M0 : Hid (∀ W, Calls Try.prog 27 #[.agg #[.bool up, .int .i64 run], .agg #[.int .i64 r, .int .i64 f]] W fun e w' => e = .returned (.bool true) ∧ Below W.heap.size W w') := fun W => by
          have := MAY.out run W; rwa [show hmay up run r f = true from by rw [HMAY.out]; simp; omega] at this
        go_enter Try.func29, Try.ntmps29
        go_wp2_with fail
        generalize ((w.alloc (Obj.cells #[.bool up, .int .i64 run] 37)).alloc (Obj.cells #[.int .i64 r, .int .i64 f] 39)).alloc (Obj.cells #[.bool false, .int .i64 0] 37) = w1 at *
        refine (SET.out _).mono ?_
        rintro e w2 ⟨rfl, hb⟩
        have X2 := Lib.hid (Below.at hb X.out (lt_of_heap X.out))
        have Y2 := Lib.hid (Below.at hb Y.out (lt_of_heap Y.out))
        have Z2 := Lib.hid (Below.at hb Z.out (lt_of_heap Z.out))
        have B2 := Lib.hid (B1.out.trans (hb.mono B1.out.size))
        clear hb X Y Z B1
        have x0 := cell_of (v := .bool up) 0 X2.out rfl
        have x1 := cell_of (v := .int .i64 run) 1 X2.out rfl
        have xf1 := free_of 1 X2.out
        have y0 := cell_of (v := .int .i64 r) 0 Y2.out rfl
        have y1 := cell_of (v := .int .i64 f) 1 Y2.out rfl
        go_wp2_with fail
        have X3 := X2
        have Y3 := Y2
        have Z3 := Z2
        have B3 := B2
        clear X2 Y2 Z2 B2 x0 x1 xf1 y0 y1
        refine wp_loop_rounds 1 ?_
        rw [rounds_succ]
        have x0 := cell_of (v := .bool up) 0 X3.out rfl
        have x1 := cell_of (v := .int .i64 run) 1 X3.out rfl
        have xf1 := free_of 1 X3.out
        have y0 := cell_of (v := .int .i64 r) 0 Y3.out rfl
        have y1 := cell_of (v := .int .i64 f) 1 Y3.out rfl
        go_wp2_with fail
        refine (M0.out _).mono ?_
        rintro e w9 ⟨rfl, hb⟩
        have X9 := Lib.hid (Below.at hb X3.out (lt_of_heap X3.out))
        have Z9 := Lib.hid (Below.at hb Z3.out (lt_of_heap Z3.out))
        have B9 := Lib.hid (B3.out.trans (hb.mono B3.out.size))
        clear hb X3 Y3 Z3 B3 x0 x1 xf1 y0 y1
        have x0 := cell_of (v := .bool up) 0 X9.out rfl
        have x1 := cell_of (v := .int .i64 run) 1 X9.out rfl
        have z0 := cell_of (v := .bool false) 0 Z9.out rfl
        have z1 := cell_of (v := .int .i64 0) 1 Z9.out rfl
        have zf0 := free_of 0 Z9.out
        have zf1 := free_of 1 Z9.out
        go_wp2_with fail
        refine bodyPost_ret (v := .agg #[.bool up, .int .i64 run]) (by simp [results, Try.results29, go_sem, z0, z1]) rfl ⟨by rw [HF.out, show max 0 (min run (n - 1)) = run from by omega], ?_⟩
        repeat' (first | exact B9.out | refine Below.setCell ?_ ?_ _ | refine Below.alloc ?_ ?_ _)
        all_goals (first | (simp; done) | (simp; omega) | omega)
      · cases up
        · exact rfit_f run r f w h1 h2 hs0 (by have h := HN.out; simp [need] at h; omega)
        · exact rfit_t run r f w h1 h2 hs0 (by have h := HN.out; simp [need] at h; omega)
  · rw [hs] at SET HF HMAY
    clear hs HND
    have M0 : Hid (∀ W, Calls Try.prog 27 #[.agg #[.bool up, .int .i64 0], .agg #[.int .i64 r, .int .i64 f]] W fun e w' => e = .returned (.bool false) ∧ Below W.heap.size W w') := fun W => by
      have := MAY.out 0 W; rwa [HMAY.out] at this
    go_enter Try.func29, Try.ntmps29
    go_wp2_with fail
    generalize ((w.alloc (Obj.cells #[.bool up, .int .i64 run] 37)).alloc (Obj.cells #[.int .i64 r, .int .i64 f] 39)).alloc (Obj.cells #[.bool false, .int .i64 0] 37) = w1 at *
    refine (SET.out _).mono ?_
    rintro e w2 ⟨rfl, hb⟩
    have X2 := Lib.hid (Below.at hb X.out (lt_of_heap X.out))
    have Y2 := Lib.hid (Below.at hb Y.out (lt_of_heap Y.out))
    have Z2 := Lib.hid (Below.at hb Z.out (lt_of_heap Z.out))
    have B2 := Lib.hid (B1.out.trans (hb.mono B1.out.size))
    clear hb X Y Z B1
    have x0 := cell_of (v := .bool up) 0 X2.out rfl
    have x1 := cell_of (v := .int .i64 run) 1 X2.out rfl
    have xf1 := free_of 1 X2.out
    have y0 := cell_of (v := .int .i64 r) 0 Y2.out rfl
    have y1 := cell_of (v := .int .i64 f) 1 Y2.out rfl
    go_wp2_with fail
    have X3 : Hid ((w2.setCell ⟨w.heap.size, 1, none⟩ (.int .i64 0)).heap[w.heap.size]? = some (.cells #[.bool up, .int .i64 0] 37 (0, 0))) := heap_setCell X2.out
    have Y3 := Lib.hid ((But.set1 w2 w.heap.size 1 (.int .i64 0)).at Y2.out (by omega))
    have Z3 := Lib.hid ((But.set1 w2 w.heap.size 1 (.int .i64 0)).at Z2.out (by omega))
    have B3 : Hid (Below w.heap.size w (w2.setCell ⟨w.heap.size, 1, none⟩ (.int .i64 0))) := B2.out.setCell (p := ⟨w.heap.size, 1, none⟩) (Nat.le_refl _) _
    generalize w2.setCell ⟨w.heap.size, 1, none⟩ (.int .i64 0) = w3 at *
    clear X2 Y2 Z2 B2 x0 x1 xf1 y0 y1
    refine wp_loop_rounds 1 ?_
    rw [rounds_succ]
    have x0 := cell_of (v := .bool up) 0 X3.out rfl
    have x1 := cell_of (v := .int .i64 0) 1 X3.out rfl
    have xf1 := free_of 1 X3.out
    have y0 := cell_of (v := .int .i64 r) 0 Y3.out rfl
    have y1 := cell_of (v := .int .i64 f) 1 Y3.out rfl
    go_wp2_with fail
    refine (M0.out _).mono ?_
    rintro e w9 ⟨rfl, hb⟩
    have X9 := Lib.hid (Below.at hb X3.out (lt_of_heap X3.out))
    have Z9 := Lib.hid (Below.at hb Z3.out (lt_of_heap Z3.out))
    have B9 := Lib.hid (B3.out.trans (hb.mono B3.out.size))
    clear hb X3 Y3 Z3 B3 x0 x1 xf1 y0 y1
    have x0 := cell_of (v := .bool up) 0 X9.out rfl
    have x1 := cell_of (v := .int .i64 0) 1 X9.out rfl
    have z0 := cell_of (v := .bool false) 0 Z9.out rfl
    have z1 := cell_of (v := .int .i64 0) 1 Z9.out rfl
    have zf0 := free_of 0 Z9.out
    have zf1 := free_of 1 Z9.out
    go_wp2_with fail
    refine bodyPost_ret (v := .agg #[.bool up, .int .i64 0]) (by simp [results, Try.results29, go_sem, z0, z1]) rfl ⟨by rw [HF.out]; rfl, ?_⟩
    repeat' (first | exact B9.out | refine Below.setCell ?_ ?_ _ | refine Below.alloc ?_ ?_ _)
    all_goals (first | (simp; done) | (simp; omega) | omega)
end Go.Proofs.Ytamjhaomdfeemaa
