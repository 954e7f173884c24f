/- Walks of the examples of package health's page. -/
import Derived.Test.YtamjhaomdfeemaaHg
namespace Go.Proofs.Ytamjhaomdfeemaa
open Go.RowKit Go.Wb
set_option linter.unusedVariables false

theorem rep_same (x : Int) (w : World) (h0 : 0 ≤ x) (h1 : x < 3) : Calls Try.prog 23 #[.agg #[.bool true, .int .i64 x], .agg #[.int .i64 2, .int .i64 3], .bool true] w fun e w' =>
    e = .returned (.tuple #[.agg #[.bool true, .int .i64 0], .bool false, .int .i64 0]) ∧ Below w.heap.size w w' := by
  have := reply_yes true x 2 3 true w (by unfold hmay need; simp [maySet]; omega)
  simpa [need] using this
theorem rep_less (x : Int) (w : World) (h0 : 0 ≤ x) (h1 : x < 2) : Calls Try.prog 23 #[.agg #[.bool true, .int .i64 x], .agg #[.int .i64 2, .int .i64 3], .bool false] w fun e w' =>
    e = .returned (.tuple #[.agg #[.bool true, .int .i64 (x + 1)], .bool false, .int .i64 0]) ∧ Below w.heap.size w w' := by
  have := reply_yes true x 2 3 false w (by unfold hmay need; simp [maySet]; omega)
  have e : x + 1 < 3 := by omega
  simpa [need, e] using this
theorem rep_last (w : World) : Calls Try.prog 23 #[.agg #[.bool true, .int .i64 2], .agg #[.int .i64 2, .int .i64 3], .bool false] w fun e w' =>
    e = .returned (.tuple #[.agg #[.bool false, .int .i64 0], .bool true, .int .i64 0]) ∧ Below w.heap.size w w' := by
  have := reply_yes true 2 2 3 false w (by decide)
  simpa [need] using this

def at5 (k : Nat) : Int := [0, 1, 2, 0, 1, 2].getD k 0

set_option maxRecDepth 100000 in
set_option maxHeartbeats 4000000 in
theorem known21_any (w : World) : Calls Try.prog 31 #[] w fun e w' => e = .returned (.bool true) ∧ Below w.heap.size w w' := by
  have i0 : ∀ w, (Instr.index 103 (.agg #[.bool false, .bool false, .bool true, .bool false, .bool false]) (.int .i64 0)).run Try.prog w = .ok (.bool false) w := fun _ => by kernel_rfl
  have i1 : ∀ w, (Instr.index 103 (.agg #[.bool false, .bool false, .bool true, .bool false, .bool false]) (.int .i64 1)).run Try.prog w = .ok (.bool false) w := fun _ => by kernel_rfl
  have i2 : ∀ w, (Instr.index 103 (.agg #[.bool false, .bool false, .bool true, .bool false, .bool false]) (.int .i64 2)).run Try.prog w = .ok (.bool true) w := fun _ => by kernel_rfl
  have i3 : ∀ w, (Instr.index 103 (.agg #[.bool false, .bool false, .bool true, .bool false, .bool false]) (.int .i64 3)).run Try.prog w = .ok (.bool false) w := fun _ => by kernel_rfl
  have i4 : ∀ w, (Instr.index 103 (.agg #[.bool false, .bool false, .bool true, .bool false, .bool false]) (.int .i64 4)).run Try.prog w = .ok (.bool false) w := fun _ => by kernel_rfl
  go_enter Try.func31, Try.ntmps31
  go_wp2_with fail
  refine (first_any _).mono ?_
  rintro e w1 ⟨rfl, hb⟩
  have B1 := Lib.hid hb
  clear hb
  go_wp2_with fail
  have HT := heap_two w1 (Obj.cells #[.bool true, .int .i64 0] 37) (Obj.cells #[.int .i64 2, .int .i64 3] 39)
  have X := Lib.hid HT.1
  have Y := Lib.hid HT.2
  have B2 := Lib.hid ((B1.out.alloc B1.out.size (Obj.cells #[.bool true, .int .i64 0] 37)).alloc (by have := B1.out.size; simp; omega) (Obj.cells #[.int .i64 2, .int .i64 3] 39))
  clear HT
  generalize (w1.alloc (Obj.cells #[.bool true, .int .i64 0] 37)).alloc (Obj.cells #[.int .i64 2, .int .i64 3] 39) = w2 at *
  go_loopw [14] (fun i wr => ∃ (k : Nat) (q : Int), k ≤ 5 ∧ q = k ∧ i = .int .i64 q ∧ Hid (Below w.heap.size w wr) ∧ Hid (wr.heap[w1.heap.size]? = some (.cells #[.bool true, .int .i64 (at5 k)] 37 (0, 0))) ∧ Hid (wr.heap[w1.heap.size + 1]? = some (.cells #[.int .i64 2, .int .i64 3] 39 (0, 0)))) (fun i _ => 5 - (intOf i).toNat)
  case atStart => exact ⟨0, 0, by omega, rfl, rfl, B2, X, Y⟩
  case round =>
    obtain ⟨k, q, hk, hq, rfl, hB, hX, hY⟩ := hrel
    clear X Y B2
    rcases (by omega : k = 0 ∨ k = 1 ∨ k = 2 ∨ k = 3 ∨ k = 4 ∨ k = 5) with h | h | h | h | h | h
    · obtain rfl : k = 0 := by omega
      obtain rfl : q = 0 := by omega
      clear hk hq h
      have hX' : Hid (wr.heap[w1.heap.size]? = some (.cells #[.bool true, .int .i64 0] 37 (0, 0))) := hX
      clear hX
      have x0 := cell_of (v := .bool true) 0 hX'.out rfl
      have x1 := cell_of (v := .int .i64 0) 1 hX'.out rfl
      have y0 := cell_of (v := .int .i64 2) 0 hY.out rfl
      have y1 := cell_of (v := .int .i64 3) 1 hY.out rfl
      go_wp2_with fail
      refine (rep_less 0 _ (by omega) (by omega)).mono ?_
      rintro e w3 ⟨rfl, hb⟩
      have X3 := Lib.hid (Below.at hb hX'.out (lt_of_heap hX'.out))
      have Y3 := Lib.hid (Below.at hb hY.out (lt_of_heap hY.out))
      have B3 := Lib.hid (hB.out.trans (hb.mono hB.out.size))
      clear hb hX' hY hB x0 x1 y0 y1
      have x0 := cell_of (v := .bool true) 0 X3.out rfl
      have x1 := cell_of (v := .int .i64 0) 1 X3.out rfl
      have f0 := free_of 0 X3.out
      have f1 := free_of 1 X3.out
      have hlt3 : w1.heap.size < w3.heap.size := lt_of_heap X3.out
      go_wp2_with fail
      go_roundw
      case rel =>
        refine ⟨0 + 1, 1, by omega, by omega, rfl, ?_, ?_, ?_⟩
        · exact ((B3.out.setCell (p := ⟨w1.heap.size, 0, none⟩) B1.out.size _).setCell (p := ⟨w1.heap.size, 1, none⟩) B1.out.size _).alloc (by simpa [World.setCell] using B3.out.size) _
        · have := hold_alloc (o' := Obj.cells #[.bool true, .int .i64 1] 37) (heap_setCell (i := 1) (u := .int .i64 1) (heap_setCell (i := 0) (u := .bool true) X3.out))
          exact this
        · exact hold_alloc ((But.set1 _ _ _ _).at ((But.set1 _ _ _ _).at Y3.out (by omega)) (by omega))
      case measure => simp [intOf]
    · obtain rfl : k = 1 := by omega
      obtain rfl : q = 1 := by omega
      clear hk hq h
      have hX' : Hid (wr.heap[w1.heap.size]? = some (.cells #[.bool true, .int .i64 1] 37 (0, 0))) := hX
      clear hX
      have x0 := cell_of (v := .bool true) 0 hX'.out rfl
      have x1 := cell_of (v := .int .i64 1) 1 hX'.out rfl
      have y0 := cell_of (v := .int .i64 2) 0 hY.out rfl
      have y1 := cell_of (v := .int .i64 3) 1 hY.out rfl
      go_wp2_with fail
      refine (rep_less 1 _ (by omega) (by omega)).mono ?_
      rintro e w3 ⟨rfl, hb⟩
      have X3 := Lib.hid (Below.at hb hX'.out (lt_of_heap hX'.out))
      have Y3 := Lib.hid (Below.at hb hY.out (lt_of_heap hY.out))
      have B3 := Lib.hid (hB.out.trans (hb.mono hB.out.size))
      clear hb hX' hY hB x0 x1 y0 y1
      have x0 := cell_of (v := .bool true) 0 X3.out rfl
      have x1 := cell_of (v := .int .i64 1) 1 X3.out rfl
      have f0 := free_of 0 X3.out
      have f1 := free_of 1 X3.out
      have hlt3 : w1.heap.size < w3.heap.size := lt_of_heap X3.out
      go_wp2_with fail
      go_roundw
      case rel =>
        refine ⟨1 + 1, 2, by omega, by omega, rfl, ?_, ?_, ?_⟩
        · exact ((B3.out.setCell (p := ⟨w1.heap.size, 0, none⟩) B1.out.size _).setCell (p := ⟨w1.heap.size, 1, none⟩) B1.out.size _).alloc (by simpa [World.setCell] using B3.out.size) _
        · have := hold_alloc (o' := Obj.cells #[.bool true, .int .i64 2] 37) (heap_setCell (i := 1) (u := .int .i64 2) (heap_setCell (i := 0) (u := .bool true) X3.out))
          exact this
        · exact hold_alloc ((But.set1 _ _ _ _).at ((But.set1 _ _ _ _).at Y3.out (by omega)) (by omega))
      case measure => simp [intOf]
    · obtain rfl : k = 2 := by omega
      obtain rfl : q = 2 := by omega
      clear hk hq h
      have hX' : Hid (wr.heap[w1.heap.size]? = some (.cells #[.bool true, .int .i64 2] 37 (0, 0))) := hX
      clear hX
      have x0 := cell_of (v := .bool true) 0 hX'.out rfl
      have x1 := cell_of (v := .int .i64 2) 1 hX'.out rfl
      have y0 := cell_of (v := .int .i64 2) 0 hY.out rfl
      have y1 := cell_of (v := .int .i64 3) 1 hY.out rfl
      go_wp2_with fail
      refine (rep_same 2 _ (by omega) (by omega)).mono ?_
      rintro e w3 ⟨rfl, hb⟩
      have X3 := Lib.hid (Below.at hb hX'.out (lt_of_heap hX'.out))
      have Y3 := Lib.hid (Below.at hb hY.out (lt_of_heap hY.out))
      have B3 := Lib.hid (hB.out.trans (hb.mono hB.out.size))
      clear hb hX' hY hB x0 x1 y0 y1
      have x0 := cell_of (v := .bool true) 0 X3.out rfl
      have x1 := cell_of (v := .int .i64 2) 1 X3.out rfl
      have f0 := free_of 0 X3.out
      have f1 := free_of 1 X3.out
      have hlt3 : w1.heap.size < w3.heap.size := lt_of_heap X3.out
      go_wp2_with fail
      go_roundw
      case rel =>
        refine ⟨2 + 1, 3, by omega, by omega, rfl, ?_, ?_, ?_⟩
        · exact ((B3.out.setCell (p := ⟨w1.heap.size, 0, none⟩) B1.out.size _).setCell (p := ⟨w1.heap.size, 1, none⟩) B1.out.size _).alloc (by simpa [World.setCell] using B3.out.size) _
        · have := hold_alloc (o' := Obj.cells #[.bool true, .int .i64 0] 37) (heap_setCell (i := 1) (u := .int .i64 0) (heap_setCell (i := 0) (u := .bool true) X3.out))
          exact this
        · exact hold_alloc ((But.set1 _ _ _ _).at ((But.set1 _ _ _ _).at Y3.out (by omega)) (by omega))
      case measure => simp [intOf]
    · obtain rfl : k = 3 := by omega
      obtain rfl : q = 3 := by omega
      clear hk hq h
      have hX' : Hid (wr.heap[w1.heap.size]? = some (.cells #[.bool true, .int .i64 0] 37 (0, 0))) := hX
      clear hX
      have x0 := cell_of (v := .bool true) 0 hX'.out rfl
      have x1 := cell_of (v := .int .i64 0) 1 hX'.out rfl
      have y0 := cell_of (v := .int .i64 2) 0 hY.out rfl
      have y1 := cell_of (v := .int .i64 3) 1 hY.out rfl
      go_wp2_with fail
      refine (rep_less 0 _ (by omega) (by omega)).mono ?_
      rintro e w3 ⟨rfl, hb⟩
      have X3 := Lib.hid (Below.at hb hX'.out (lt_of_heap hX'.out))
      have Y3 := Lib.hid (Below.at hb hY.out (lt_of_heap hY.out))
      have B3 := Lib.hid (hB.out.trans (hb.mono hB.out.size))
      clear hb hX' hY hB x0 x1 y0 y1
      have x0 := cell_of (v := .bool true) 0 X3.out rfl
      have x1 := cell_of (v := .int .i64 0) 1 X3.out rfl
      have f0 := free_of 0 X3.out
      have f1 := free_of 1 X3.out
      have hlt3 : w1.heap.size < w3.heap.size := lt_of_heap X3.out
      go_wp2_with fail
      go_roundw
      case rel =>
        refine ⟨3 + 1, 4, by omega, by omega, rfl, ?_, ?_, ?_⟩
        · exact ((B3.out.setCell (p := ⟨w1.heap.size, 0, none⟩) B1.out.size _).setCell (p := ⟨w1.heap.size, 1, none⟩) B1.out.size _).alloc (by simpa [World.setCell] using B3.out.size) _
        · have := hold_alloc (o' := Obj.cells #[.bool true, .int .i64 1] 37) (heap_setCell (i := 1) (u := .int .i64 1) (heap_setCell (i := 0) (u := .bool true) X3.out))
          exact this
        · exact hold_alloc ((But.set1 _ _ _ _).at ((But.set1 _ _ _ _).at Y3.out (by omega)) (by omega))
      case measure => simp [intOf]
    · obtain rfl : k = 4 := by omega
      obtain rfl : q = 4 := by omega
      clear hk hq h
      have hX' : Hid (wr.heap[w1.heap.size]? = some (.cells #[.bool true, .int .i64 1] 37 (0, 0))) := hX
      clear hX
      have x0 := cell_of (v := .bool true) 0 hX'.out rfl
      have x1 := cell_of (v := .int .i64 1) 1 hX'.out rfl
      have y0 := cell_of (v := .int .i64 2) 0 hY.out rfl
      have y1 := cell_of (v := .int .i64 3) 1 hY.out rfl
      go_wp2_with fail
      refine (rep_less 1 _ (by omega) (by omega)).mono ?_
      rintro e w3 ⟨rfl, hb⟩
      have X3 := Lib.hid (Below.at hb hX'.out (lt_of_heap hX'.out))
      have Y3 := Lib.hid (Below.at hb hY.out (lt_of_heap hY.out))
      have B3 := Lib.hid (hB.out.trans (hb.mono hB.out.size))
      clear hb hX' hY hB x0 x1 y0 y1
      have x0 := cell_of (v := .bool true) 0 X3.out rfl
      have x1 := cell_of (v := .int .i64 1) 1 X3.out rfl
      have f0 := free_of 0 X3.out
      have f1 := free_of 1 X3.out
      have hlt3 : w1.heap.size < w3.heap.size := lt_of_heap X3.out
      go_wp2_with fail
      go_roundw
      case rel =>
        refine ⟨4 + 1, 5, by omega, by omega, rfl, ?_, ?_, ?_⟩
        · exact ((B3.out.setCell (p := ⟨w1.heap.size, 0, none⟩) B1.out.size _).setCell (p := ⟨w1.heap.size, 1, none⟩) B1.out.size _).alloc (by simpa [World.setCell] using B3.out.size) _
        · have := hold_alloc (o' := Obj.cells #[.bool true, .int .i64 2] 37) (heap_setCell (i := 1) (u := .int .i64 2) (heap_setCell (i := 0) (u := .bool true) X3.out))
          exact this
        · exact hold_alloc ((But.set1 _ _ _ _).at ((But.set1 _ _ _ _).at Y3.out (by omega)) (by omega))
      case measure => simp [intOf]
    · obtain rfl : k = 5 := by omega
      obtain rfl : q = 5 := by omega
      clear hk hq h
      have hX' : Hid (wr.heap[w1.heap.size]? = some (.cells #[.bool true, .int .i64 2] 37 (0, 0))) := hX
      clear hX
      have x0 := cell_of (v := .bool true) 0 hX'.out rfl
      have x1 := cell_of (v := .int .i64 2) 1 hX'.out rfl
      have y0 := cell_of (v := .int .i64 2) 0 hY.out rfl
      have y1 := cell_of (v := .int .i64 3) 1 hY.out rfl
      go_wp2_with fail
      refine (rep_last _).mono ?_
      rintro e w3 ⟨rfl, hb⟩
      have X3 := Lib.hid (Below.at hb hX'.out (lt_of_heap hX'.out))
      have B3 := Lib.hid (hB.out.trans (hb.mono hB.out.size))
      clear hb hX' hY hB x0 x1 y0 y1
      have x0 := cell_of (v := .bool true) 0 X3.out rfl
      have x1 := cell_of (v := .int .i64 2) 1 X3.out rfl
      have hlt3 : w1.heap.size < w3.heap.size := lt_of_heap X3.out
      go_wp2_with fail
      go_ret
      exact ⟨rfl, B3.out.alloc B3.out.size _⟩
end Go.Proofs.Ytamjhaomdfeemaa
