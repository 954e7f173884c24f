/- Walks of package health: Reply. -/
import Derived.Test.YtamjhaomdfeemaaHf
namespace Go.Proofs.Ytamjhaomdfeemaa
open Go.RowKit Go.Wb
set_option linter.unusedVariables false

/-- A health, settings, and a result, each in a block of the call's own. -/
def H3 (up : Bool) (run r f : Int) (w : World) : World := ((w.alloc (Obj.cells #[.bool up, .int .i64 run] 37)).alloc (Obj.cells #[.int .i64 r, .int .i64 f] 39)).alloc (Obj.cells #[.bool false, .int .i64 0] 37)

set_option maxRecDepth 100000 in
set_option maxHeartbeats 2000000 in
theorem reply_no (up : Bool) (run r f : Int) (good : Bool) (w : World) (h : hmay up run r f = false) : Calls Try.prog 23 #[.agg #[.bool up, .int .i64 run], .agg #[.int .i64 r, .int .i64 f], .bool good] w fun e w' =>
    e = .returned (.tuple #[.agg #[.bool false, .int .i64 0], .bool false, .int .i64 2]) ∧ Below w.heap.size w w' := by
  have MAY := fun W => hmay_any up run r f W
  rw [h] at MAY
  have HMAY := Lib.hid MAY
  clear MAY h
  go_enter Try.func23, Try.ntmps23
  go_wp2_with fail
  refine (HMAY.out _).mono ?_
  rintro e w2 ⟨rfl, hb⟩
  have B := below_three w (Obj.cells #[.bool up, .int .i64 run] 37) (Obj.cells #[.int .i64 r, .int .i64 f] 39) (Obj.cells #[.bool false, .int .i64 0] 37)
  have hz := (heap_three w (Obj.cells #[.bool up, .int .i64 run] 37) (Obj.cells #[.int .i64 r, .int .i64 f] 39) (Obj.cells #[.bool false, .int .i64 0] 37)).2.2
  have Z := Lib.hid (Below.at hb hz (lt_of_heap hz))
  have B2 := Lib.hid (B.trans (hb.mono B.size))
  clear hb hz B
  have z0 := cell_of (v := .bool false) 0 Z.out rfl
  have z1 := cell_of (v := .int .i64 0) 1 Z.out rfl
  have zf0 := free_of 0 Z.out
  have zf1 := free_of 1 Z.out
  go_wp2_with fail
  refine bodyPost_ret (v := .tuple #[.agg #[.bool false, .int .i64 0], .bool false, .int .i64 2]) (by simp [results, Try.results23, go_sem, z0, z1]) rfl ⟨rfl, ?_⟩
  repeat' (first | exact B2.out | refine Below.setCell ?_ ?_ _ | refine Below.alloc ?_ ?_ _)
  all_goals (first | (simp; done) | (simp; omega) | omega)

set_option maxRecDepth 100000 in
set_option maxHeartbeats 4000000 in
theorem reply_yes (up : Bool) (run r f : Int) (good : Bool) (w : World) (h : hmay up run r f = true) : Calls Try.prog 23 #[.agg #[.bool up, .int .i64 run], .agg #[.int .i64 r, .int .i64 f], .bool good] w fun e w' =>
    e = .returned (.tuple #[.agg #[.bool (if good = up then up else if run + 1 < need up r f then up else !up), .int .i64 (if good = up then 0 else if run + 1 < need up r f then run + 1 else 0)], .bool (if good = up then false else if run + 1 < need up r f then false else true), .int .i64 0]) ∧ Below w.heap.size w w' := by
  have hm : 1 ≤ r ∧ r ≤ 10 ∧ 1 ≤ f ∧ f ≤ 10 ∧ 0 ≤ run ∧ run < need up r f := by
    unfold hmay at h
    simp only [Bool.and_eq_true, decide_eq_true_eq] at h
    have := maySet_iff.1 h.1.1
    omega
  have MAY := fun W => hmay_any up run r f W
  rw [h] at MAY
  have HMAY := Lib.hid MAY
  clear MAY h
  obtain ⟨r0, r1, f0, f1, n0, n1⟩ := hm
  have hnb : need up r f ≤ 10 := by unfold need; split <;> omega
  have MOST := Lib.hid (fun W => most_any up run r f W)
  obtain ⟨nd, hnd⟩ : ∃ nd, need up r f = nd := ⟨_, rfl⟩
  rw [hnd] at hnb n1 MOST ⊢
  clear hnd
  go_enter Try.func23, Try.ntmps23
  go_wp2_with fail
  refine (HMAY.out _).mono ?_
  rintro e w2 ⟨rfl, hb⟩
  have B := below_three w (Obj.cells #[.bool up, .int .i64 run] 37) (Obj.cells #[.int .i64 r, .int .i64 f] 39) (Obj.cells #[.bool false, .int .i64 0] 37)
  obtain ⟨hx, hy, hz⟩ := (heap_three w (Obj.cells #[.bool up, .int .i64 run] 37) (Obj.cells #[.int .i64 r, .int .i64 f] 39) (Obj.cells #[.bool false, .int .i64 0] 37))
  have X := Lib.hid (Below.at hb hx (lt_of_heap hx))
  have Y := Lib.hid (Below.at hb hy (lt_of_heap hy))
  have Z := Lib.hid (Below.at hb hz (lt_of_heap hz))
  have B2 := Lib.hid (B.trans (hb.mono B.size))
  clear hb hx hy hz B HMAY
  have z0 := cell_of (v := .bool false) 0 Z.out rfl
  have z1 := cell_of (v := .int .i64 0) 1 Z.out rfl
  have zf0 := free_of 0 Z.out
  have zf1 := free_of 1 Z.out
  have x0 := cell_of (v := .bool up) 0 X.out rfl
  have x1 := cell_of (v := .int .i64 run) 1 X.out rfl
  have xf0 := free_of 0 X.out
  have xf1 := free_of 1 X.out
  by_cases hg : good = up
  · subst hg
    go_wp2_with fail
    refine bodyPost_ret (v := .tuple #[.agg #[.bool good, .int .i64 0], .bool false, .int .i64 0]) (by simp [results, Try.results23, go_sem, z0, z1]) rfl ⟨by simp, ?_⟩
    repeat' (first | exact B2.out | refine Below.setCell ?_ ?_ _ | refine Below.alloc ?_ ?_ _)
    all_goals (first | (simp; done) | (simp; omega) | omega)
  · have hgu : (good == up) = false := by simp; exact hg
    have HG := Lib.hid hg
    clear hg
    go_wp2_with fail
    have KEEP : Hid (∀ W, Hid (Below w2.heap.size w2 W) → (fun W => Hid (Below w2.heap.size w2 W) ∧ W.cell? ⟨w.heap.size, 0, none⟩ = some (.bool up) ∧ W.cell? ⟨w.heap.size, 1, none⟩ = some (.int .i64 run) ∧ W.cell? ⟨w.heap.size + 1, 0, none⟩ = some (.int .i64 r) ∧ W.cell? ⟨w.heap.size + 1, 1, none⟩ = some (.int .i64 f)) W) := fun W h =>
      ⟨h, cell_of 0 (Below.at h.out X.out (lt_of_heap X.out)) rfl, cell_of 1 (Below.at h.out X.out (lt_of_heap X.out)) rfl, cell_of 0 (Below.at h.out Y.out (lt_of_heap Y.out)) rfl, cell_of 1 (Below.at h.out Y.out (lt_of_heap Y.out)) rfl⟩
    have start : Hid (Below w2.heap.size w2 w2) := Below.refl _ _
    clear z0 z1 zf0 zf1 x0 x1 xf0 xf1
    have j0 : IntKind.i64.wrap (run + 1) = run + 1 := IntWalk.i64_in _ (by omega)
    go_region_held3 (fun W => Hid (Below w2.heap.size w2 W) ∧ W.cell? ⟨w.heap.size, 0, none⟩ = some (.bool up) ∧ W.cell? ⟨w.heap.size, 1, none⟩ = some (.int .i64 run) ∧ W.cell? ⟨w.heap.size + 1, 0, none⟩ = some (.int .i64 r) ∧ W.cell? ⟨w.heap.size + 1, 1, none⟩ = some (.int .i64 f))
      (first | exact KEEP.out _ (by assumption) | exact KEEP.out _ (below_drew (by assumption)))
      (first | (go_at_call 67; have hh := (‹Hid (Below w2.heap.size w2 _) ∧ _›).1; refine (MOST.out _).mono ?_; rintro e W' ⟨rfl, hb'⟩; have hb2 := below_next hh hb'; clear hb' hh))
    have hh := (‹Hid (Below w2.heap.size w2 _) ∧ _›).1
    have X3 := Lib.hid (Below.at hh.out X.out (lt_of_heap X.out))
    have Z3 := Lib.hid (Below.at hh.out Z.out (lt_of_heap Z.out))
    have B3 := Lib.hid (B2.out.trans (hh.out.mono B2.out.size))
    clear X Y Z hh KEEP start MOST j0 B2
    have z0 := cell_of (v := .bool false) 0 Z3.out rfl
    have z1 := cell_of (v := .int .i64 0) 1 Z3.out rfl
    have zf0 := free_of 0 Z3.out
    have zf1 := free_of 1 Z3.out
    have x0 := cell_of (v := .bool up) 0 X3.out rfl
    have x1 := cell_of (v := .int .i64 run) 1 X3.out rfl
    have xf0 := free_of 0 X3.out
    have xf1 := free_of 1 X3.out
    by_cases hlt : run + 1 < nd
    · go_wp2_with fail
      refine bodyPost_ret (v := .tuple #[.agg #[.bool up, .int .i64 (run + 1)], .bool false, .int .i64 0]) (by simp [results, Try.results23, go_sem, z0, z1]) rfl ⟨by first | rfl | (simp; done) | (have := HG.out; simp [this]; omega), ?_⟩
      repeat' (first | exact B3.out | refine Below.setCell ?_ ?_ _ | refine Below.alloc ?_ ?_ _)
      all_goals (first | (simp; done) | (simp; omega) | omega)
    · have heq : (run + 1 == nd) = true := by simp; omega
      have hgv : good = !up := by have := HG.out; cases good <;> cases up <;> simp_all
      subst hgv
      go_wp2_with fail
      refine bodyPost_ret (v := .tuple #[.agg #[.bool (!up), .int .i64 0], .bool true, .int .i64 0]) (by simp [results, Try.results23, go_sem, z0, z1]) rfl ⟨by first | rfl | (simp; done) | (have := HG.out; simp [this]; omega), ?_⟩
      repeat' (first | exact B3.out | refine Below.setCell ?_ ?_ _ | refine Below.alloc ?_ ?_ _)
      all_goals (first | (simp; done) | (simp; omega) | omega)
end Go.Proofs.Ytamjhaomdfeemaa
