/- Walks of package health and of its reference: Fit. -/
import Derived.Test.YtamjhaomdfeemaaHg
import Derived.Deep.DeepCutAuto
import Derived.Deep.RegionWith
namespace Go.Proofs.Ytamjhaomdfeemaa
open Go.RowKit Go.Wb
set_option linter.unusedVariables false


set_option maxRecDepth 100000 in
set_option maxHeartbeats 8000000 in
theorem fit_any (up : Bool) (run r f : Int) (w : World) : Calls Try.prog 28 #[.agg #[.bool up, .int .i64 run], .agg #[.int .i64 r, .int .i64 f]] w fun e w' =>
    e = .returned (.agg #[.bool up, .int .i64 (fitR up run r f)]) ∧ Below w.heap.size w w' := by
  have MOST := Lib.hid (fun W => most_any up run r f W)
  have SET := Lib.hid (fun W => maySet_any r f W)
  have HF : Hid (maySet r f = true → fitR up run r f = max 0 (min run (IntKind.i64.wrap (need up r f - 1)))) := fun h => by
    have := maySet_iff.1 h
    unfold fitR
    rw [if_pos h, IntWalk.i64_in _ (by unfold need; split <;> omega)]
  have HF2 : Hid (maySet r f = false → fitR up run r f = 0) := fun h => by unfold fitR; rw [h]; rfl
  have B := below_three w (Obj.cells #[.bool up, .int .i64 run] 37) (Obj.cells #[.int .i64 r, .int .i64 f] 39) (Obj.cells #[.bool false, .int .i64 0] 37)
  obtain ⟨hx, hy, hz⟩ := (heap_three w (Obj.cells #[.bool up, .int .i64 run] 37) (Obj.cells #[.int .i64 r, .int .i64 f] 39) (Obj.cells #[.bool false, .int .i64 0] 37))
  have X := Lib.hid hx
  have Y := Lib.hid hy
  have Z := Lib.hid hz
  have B1 := Lib.hid B
  clear B hx hy hz
  obtain ⟨nd, hnd⟩ : ∃ nd, need up r f = nd := ⟨_, rfl⟩
  rw [hnd] at MOST HF
  obtain ⟨m, hm⟩ : ∃ m, IntKind.i64.wrap (nd - 1) = m := ⟨_, rfl⟩
  rw [hm] at HF
  obtain ⟨v, hv⟩ : ∃ v, max 0 (min run m) = v := ⟨_, rfl⟩
  rw [hv] at HF
  have HV : Hid ((run ≤ m ∧ 0 ≤ run → v = run) ∧ (run ≤ m ∧ run < 0 → v = 0) ∧ (m < run ∧ 0 ≤ m → v = m) ∧ (m < run ∧ m < 0 → v = 0)) := by
    rw [← hv]; refine ⟨?_, ?_, ?_, ?_⟩ <;> intro h <;> omega
  obtain ⟨x, hx⟩ : ∃ x, fitR up run r f = x := ⟨_, rfl⟩
  rw [hx] at HF HF2 ⊢
  clear hnd hx hv
  go_enter Try.func28, Try.ntmps28
  go_wp2_with fail
  generalize ((w.alloc (Obj.cells #[.bool up, .int .i64 run] 37)).alloc (Obj.cells #[.int .i64 r, .int .i64 f] 39)).alloc (Obj.cells #[.bool false, .int .i64 0] 37) = w1 at *
  have x0 := cell_of (v := .bool up) 0 X.out rfl
  have x1 := cell_of (v := .int .i64 run) 1 X.out rfl
  have y0 := cell_of (v := .int .i64 r) 0 Y.out rfl
  have y1 := cell_of (v := .int .i64 f) 1 Y.out rfl
  have xf1 := free_of 1 X.out
  go_upto_region 1 with fail
  go_cut [2] (fun p wx => p = .pointer (some ⟨w.heap.size, 0, none⟩) ∧ Hid (Below w.heap.size w wx) ∧ Hid (wx.heap[w.heap.size]? = some (.cells #[.bool up, .int .i64 v] 37 (0, 0))) ∧ Hid (wx.heap[w.heap.size + 1]? = some (.cells #[.int .i64 r, .int .i64 f] 39 (0, 0))) ∧ Hid (wx.heap[w.heap.size + 1 + 1]? = some (.cells #[.bool false, .int .i64 0] 37 (0, 0))))
  case first =>
    first | (go_region_with (go_at_call 67; refine (MOST.out _).mono ?_; rintro e W' ⟨rfl, hb'⟩; have B2 : Hid (Below w1.heap.size w1 W') := ⟨hb'.os, hb'.tape, hb'.output, hb'.size, hb'.block⟩; have X2 := Lib.hid (Below.at B2.out X.out (lt_of_heap X.out)); have Y2 := Lib.hid (Below.at B2.out Y.out (lt_of_heap Y.out)); have Z2 := Lib.hid (Below.at B2.out Z.out (lt_of_heap Z.out)); have x0' := cell_of (v := .bool up) 0 X2.out rfl; have x1' := cell_of (v := .int .i64 run) 1 X2.out rfl; have y0' := cell_of (v := .int .i64 r) 0 Y2.out rfl; have y1' := cell_of (v := .int .i64 f) 1 Y2.out rfl; have xf1' := free_of 1 X2.out; clear hb')) | fail
    all_goals go_wp2_with fail
    all_goals
      go_meet
      refine ⟨rfl, ?_, ?_, ?_, ?_⟩
      · exact Below.setCell (B1.out.trans (B2.out.mono B1.out.size)) (p := ⟨w.heap.size, 1, none⟩) (Nat.le_refl _) _
      · show Hid (_ = _)
        rw [heap_setCell X2.out]
        have hv4 := HV.out
        have e : ∀ z : Int, z = v → some (Obj.cells (#[Value.bool up, Value.int .i64 run].setIfInBounds 1 (.int .i64 z)) 37 (0, 0)) = some (Obj.cells #[Value.bool up, Value.int .i64 v] 37 (0, 0)) := fun z hz => by rw [hz]; rfl
        exact e _ (by omega)
      · exact (But.set1 _ _ _ _).at Y2.out (by omega)
      · exact (But.set1 _ _ _ _).at Z2.out (by omega)
  case rest =>
    obtain ⟨rfl, B3, X3, Y3, Z3⟩ := hcut
    clear MOST X Y Z x0 x1 y0 y1 xf1 B1
    have x0 := cell_of (v := .bool up) 0 X3.out rfl
    have x1 := cell_of (v := .int .i64 v) 1 X3.out rfl
    have xf0 := free_of 0 X3.out
    have xf1 := free_of 1 X3.out
    have y0 := cell_of (v := .int .i64 r) 0 Y3.out rfl
    have y1 := cell_of (v := .int .i64 f) 1 Y3.out rfl
    have HS : maySet r f = true ∨ maySet r f = false := by cases maySet r f <;> simp
    rcases HS with hs | hs
    all_goals
      rw [hs] at SET HF HF2
      clear hs
      go_wp2_with fail
      refine (SET.out _).mono ?_
      rintro e w4 ⟨rfl, hb⟩
      have X4 := Lib.hid (Below.at hb X3.out (lt_of_heap X3.out))
      have Z4 := Lib.hid (Below.at hb Z3.out (lt_of_heap Z3.out))
      have B4 := Lib.hid (B3.out.trans (hb.mono B3.out.size))
      clear hb X3 Y3 Z3 x0 x1 y0 y1 xf0 xf1 B3
      have x0 := cell_of (v := .bool up) 0 X4.out rfl
      have x1 := cell_of (v := .int .i64 v) 1 X4.out rfl
      have xf0 := free_of 0 X4.out
      have xf1 := free_of 1 X4.out
      have z0 := cell_of (v := .bool false) 0 Z4.out rfl
      have z1 := cell_of (v := .int .i64 0) 1 Z4.out rfl
      have zf0 := free_of 0 Z4.out
      have zf1 := free_of 1 Z4.out
      go_wp2_with fail
    · refine bodyPost_ret (v := .agg #[.bool up, .int .i64 v]) (by simp [results, Try.results28, go_sem, z0, z1]) rfl ⟨by rw [HF.out (by simp)], ?_⟩
      repeat' (first | exact B4.out | refine Below.setCell ?_ ?_ _ | refine Below.alloc ?_ ?_ _)
      all_goals (first | (simp; done) | (simp; omega) | omega)
    · refine bodyPost_ret (v := .agg #[.bool up, .int .i64 0]) (by simp [results, Try.results28, go_sem, z0, z1]) rfl ⟨by rw [HF2.out (by simp)], ?_⟩
      repeat' (first | exact B4.out | refine Below.setCell ?_ ?_ _ | refine Below.alloc ?_ ?_ _)
      all_goals (first | (simp; done) | (simp; omega) | omega)
end Go.Proofs.Ytamjhaomdfeemaa
