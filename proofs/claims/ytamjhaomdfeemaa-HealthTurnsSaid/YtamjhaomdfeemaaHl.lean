/- Walks of package health and of its reference. -/
import Derived.Test.YtamjhaomdfeemaaRows
import Derived.Test.YtamjhaomdfeemaaKp
import Derived.WalkLawsBesides
import Derived.Outline
import Derived.Deep.RegionHeld3
namespace Go.Proofs.Ytamjhaomdfeemaa
open Go.RowKit Go.Wb
set_option linter.unusedVariables false

def maySet (r f : Int) : Bool := decide (1 ≤ r) && decide (r ≤ 10) && (decide (1 ≤ f) && decide (f ≤ 10))
def need (up : Bool) (r f : Int) : Int := if up then f else r
def hmay (up : Bool) (run r f : Int) : Bool := maySet r f && decide (0 ≤ run) && decide (run < need up r f)
theorem maySet_iff {r f : Int} : maySet r f = true ↔ 1 ≤ r ∧ r ≤ 10 ∧ 1 ≤ f ∧ f ≤ 10 := by unfold maySet; simp; omega

theorem below_next {w0 w w' : World} (h : Hid (Below w0.heap.size w0 w)) (k : Below w.heap.size w w') : Hid (Below w0.heap.size w0 w') := h.out.trans (k.mono h.out.size)
theorem below_drew {w0 w : World} (h : Hid (Below w0.heap.size w0 w)) : Hid (Below w0.heap.size w0 w.drew) := Below.drew h.out
theorem b1 (w : World) (o : Obj) : Below w.heap.size w (w.alloc o) := (Below.refl _ _).alloc (Nat.le_refl _) _
theorem b2 (w : World) (o o2 : Obj) : Below w.heap.size w ((w.alloc o).alloc o2) := (b1 w o).alloc (by simp) _
theorem b3 (w : World) (o o2 o3 : Obj) : Below w.heap.size w (((w.alloc o).alloc o2).alloc o3) := (b2 w o o2).alloc (by simp; omega) _

theorem is_any (n : Int) (w : World) : Calls Try.prog 68 #[.int .i64 n] w fun e w' => e = .returned (.bool (decide (1 ≤ n) && decide (n ≤ 10))) ∧ w = w' := by
  by_cases h1 : 1 ≤ n <;> by_cases h2 : n ≤ 10
  all_goals
    go_enter Try.func68, Try.ntmps68
    go_wp2_with fail
    go_ret
    exact ⟨ret_bool (by simp [*]), rfl⟩

theorem most_any (up : Bool) (run r f : Int) (w : World) : Calls Try.prog 67 #[.agg #[.bool up, .int .i64 run], .agg #[.int .i64 r, .int .i64 f]] w fun e w' => e = .returned (.int .i64 (need up r f)) ∧ Below w.heap.size w w' := by
  cases up
  all_goals
    go_enter Try.func67, Try.ntmps67
    go_wp2_with fail
    go_ret
    exact ⟨rfl, b2 _ _ _⟩

theorem maySet_any (r f : Int) (w : World) : Calls Try.prog 24 #[.agg #[.int .i64 r, .int .i64 f]] w fun e w' => e = .returned (.bool (maySet r f)) ∧ Below w.heap.size w w' := by
  unfold maySet
  cases h1 : decide (1 ≤ r) && decide (r ≤ 10)
  · go_enter Try.func24, Try.ntmps24
    go_wp2_with fail
    refine (is_any _ _).mono ?_
    rintro e w' ⟨rfl, rfl⟩
    rw [h1]
    go_wp2_with fail
    go_ret
    exact ⟨rfl, b1 _ _⟩
  · go_enter Try.func24, Try.ntmps24
    go_wp2_with fail
    refine (is_any _ _).mono ?_
    rintro e w' ⟨rfl, rfl⟩
    rw [h1]
    go_wp2_with fail
    refine (is_any _ _).mono ?_
    rintro e w' ⟨rfl, rfl⟩
    go_wp2_with fail
    go_ret
    exact ⟨ret_bool (by simp), b1 _ _⟩

theorem rmaySet_any (r f : Int) (w : World) : Calls Try.prog 25 #[.agg #[.int .i64 r, .int .i64 f]] w fun e w' => e = .returned (.bool (maySet r f)) ∧ Below w.heap.size w w' := by
  have HM : Hid (∀ b : Bool, (b = true ↔ 1 ≤ r ∧ r ≤ 10 ∧ 1 ≤ f ∧ f ≤ 10) → b = maySet r f) := fun b h => Bool.eq_iff_iff.2 (h.trans maySet_iff.symm)
  rcases (by omega : r ≤ 0 ∨ 10 < r ∨ (0 < r ∧ r ≤ 10)) with h1 | h1 | ⟨h1, h2⟩
  · go_enter Try.func25, Try.ntmps25
    go_wp2_with fail
    go_ret
    exact ⟨ret_bool (HM.out _ (by simp; omega)), b1 _ _⟩
  · go_enter Try.func25, Try.ntmps25
    go_wp2_with fail
    go_ret
    exact ⟨ret_bool (HM.out _ (by simp; omega)), b1 _ _⟩
  · rcases (by omega : f ≤ 0 ∨ 10 < f ∨ (0 < f ∧ f ≤ 10)) with h3 | h3 | ⟨h3, h4⟩
    all_goals
      go_enter Try.func25, Try.ntmps25
      go_wp2_with fail
      go_ret
      exact ⟨ret_bool (HM.out _ (by simp <;> omega)), b1 _ _⟩

theorem first_any (w : World) : Calls Try.prog 30 #[] w fun e w' => e = .returned (.agg #[.bool true, .int .i64 0]) ∧ Below w.heap.size w w' := by
  go_enter Try.func30, Try.ntmps30
  go_wp2_with fail
  refine bodyPost_ret (v := .agg #[.bool true, .int .i64 0]) (by simp [results, Try.results30, go_sem]) rfl ⟨rfl, ?_⟩
  repeat (first | exact Below.refl _ _ | (refine Below.setCell ?_ (by simp) _) | (refine Below.alloc ?_ (by simp) _))

set_option maxRecDepth 100000 in
set_option maxHeartbeats 1000000 in
theorem hmay_any (up : Bool) (run r f : Int) (w : World) : Calls Try.prog 26 #[.agg #[.bool up, .int .i64 run], .agg #[.int .i64 r, .int .i64 f]] w fun e w' => e = .returned (.bool (hmay up run r f)) ∧ Below w.heap.size w w' := by
  go_enter Try.func26, Try.ntmps26
  go_wp2_with fail
  have HB := Lib.hid (b2 w (Obj.cells #[Value.bool up, Value.int IntKind.i64 run] 37) (Obj.cells #[Value.int IntKind.i64 r, Value.int IntKind.i64 f] 39))
  have X : Hid (((w.alloc (Obj.cells #[Value.bool up, Value.int IntKind.i64 run] 37)).alloc (Obj.cells #[Value.int IntKind.i64 r, Value.int IntKind.i64 f] 39)).heap[w.heap.size]? = some (.cells #[.bool up, .int .i64 run] 37 (0, 0))) := hold_alloc (heap_alloc_new w _)
  have Y : Hid (((w.alloc (Obj.cells #[Value.bool up, Value.int IntKind.i64 run] 37)).alloc (Obj.cells #[Value.int IntKind.i64 r, Value.int IntKind.i64 f] 39)).heap[w.heap.size + 1]? = some (.cells #[.int .i64 r, .int .i64 f] 39 (0, 0))) := by
    have := heap_alloc_new (w.alloc (Obj.cells #[Value.bool up, Value.int IntKind.i64 run] 37)) (Obj.cells #[Value.int IntKind.i64 r, Value.int IntKind.i64 f] 39); rwa [World.size_alloc] at this
  generalize (w.alloc (Obj.cells #[Value.bool up, Value.int IntKind.i64 run] 37)).alloc (Obj.cells #[Value.int IntKind.i64 r, Value.int IntKind.i64 f] 39) = w1 at *
  have KEEP : Hid (∀ W, Hid (Below w1.heap.size w1 W) → (fun W => Hid (Below w1.heap.size w1 W) ∧ W.cell? ⟨w.heap.size, 0, none⟩ = some (.bool up) ∧ W.cell? ⟨w.heap.size, 1, none⟩ = some (.int .i64 run) ∧ W.cell? ⟨w.heap.size + 1, 0, none⟩ = some (.int .i64 r) ∧ W.cell? ⟨w.heap.size + 1, 1, none⟩ = some (.int .i64 f)) W) := fun W h =>
    ⟨h, cell_of 0 (Below.at h.out X.out (lt_of_heap X.out)) rfl, cell_of 1 (Below.at h.out X.out (lt_of_heap X.out)) rfl, cell_of 0 (Below.at h.out Y.out (lt_of_heap Y.out)) rfl, cell_of 1 (Below.at h.out Y.out (lt_of_heap Y.out)) rfl⟩
  have start : Hid (Below w1.heap.size w1 w1) := Below.refl _ _
  have SET := Lib.hid (fun W => maySet_any r f W)
  have MOST := Lib.hid (fun W => most_any up run r f W)
  have HF : Hid (hmay up run r f = (maySet r f && decide (0 ≤ run) && decide (run < need up r f))) := rfl
  have HS : maySet r f = true ∨ maySet r f = false := by cases maySet r f <;> simp
  rcases HS with hs | hs
  all_goals
    rw [hs] at SET HF
    clear hs
  · by_cases hr : 0 ≤ run
    · by_cases hn : run < need up r f
      all_goals
        go_region_held3 (fun W => Hid (Below w1.heap.size w1 W) ∧ W.cell? ⟨w.heap.size, 0, none⟩ = some (.bool up) ∧ W.cell? ⟨w.heap.size, 1, none⟩ = some (.int .i64 run) ∧ W.cell? ⟨w.heap.size + 1, 0, none⟩ = some (.int .i64 r) ∧ W.cell? ⟨w.heap.size + 1, 1, none⟩ = some (.int .i64 f))
          (first | exact KEEP.out _ (by assumption) | exact KEEP.out _ (below_drew (by assumption)))
          (first
            | (go_at_call 24; have hh := (‹Hid (Below w1.heap.size w1 _) ∧ _›).1; refine (SET.out _).mono ?_; rintro e W' ⟨rfl, hb'⟩; have hb2 := below_next hh hb'; clear hb' hh)
            | (go_at_call 67; have hh := (‹Hid (Below w1.heap.size w1 _) ∧ _›).1; refine (MOST.out _).mono ?_; rintro e W' ⟨rfl, hb'⟩; have hb2 := below_next hh hb'; clear hb' hh))
        have hh := (‹Hid (Below w1.heap.size w1 _) ∧ _›).1
        have BF := Lib.hid (HB.out.trans (hh.out.mono HB.out.size))
        clear hh KEEP start SET MOST
        go_wp2_with fail
        go_ret
        exact ⟨ret_bool (by rw [HF.out]; simp <;> omega), BF.out⟩
    · have hd : decide (0 ≤ run) = false := decide_eq_false hr
      have p2 := (KEEP.out w1 start).2.2.2.1
      have p3 := (KEEP.out w1 start).2.2.2.2
      have p0 := (KEEP.out w1 start).2.1
      have p1 := (KEEP.out w1 start).2.2.1
      first | (go_region_with (go_at_call 24; refine (SET.out _).mono ?_; rintro e W' ⟨rfl, hb'⟩; have B2 : Hid (Below w1.heap.size w1 W') := ⟨hb'.os, hb'.tape, hb'.output, hb'.size, hb'.block⟩; have q0 := (KEEP.out W' B2).2.1; have q1 := (KEEP.out W' B2).2.2.1; have q2 := (KEEP.out W' B2).2.2.2.1; have q3 := (KEEP.out W' B2).2.2.2.2; clear hb')) | fail
      all_goals
        have BF := Lib.hid (HB.out.trans (B2.out.mono HB.out.size))
        go_wp2_with fail
        go_ret
        exact ⟨ret_bool (by rw [HF.out]; simp; omega), BF.out⟩
  · have p2 := (KEEP.out w1 start).2.2.2.1
    have p3 := (KEEP.out w1 start).2.2.2.2
    have p0 := (KEEP.out w1 start).2.1
    have p1 := (KEEP.out w1 start).2.2.1
    first | (go_region_with (go_at_call 24; refine (SET.out _).mono ?_; rintro e W' ⟨rfl, hb'⟩; have B2 : Hid (Below w1.heap.size w1 W') := ⟨hb'.os, hb'.tape, hb'.output, hb'.size, hb'.block⟩; have q0 := (KEEP.out W' B2).2.1; have q1 := (KEEP.out W' B2).2.2.1; have q2 := (KEEP.out W' B2).2.2.2.1; have q3 := (KEEP.out W' B2).2.2.2.2; clear hb')) | fail
    all_goals
      have BF := Lib.hid (HB.out.trans (B2.out.mono HB.out.size))
      go_wp2_with fail
      go_ret
      exact ⟨ret_bool (by rw [HF.out]; simp), BF.out⟩
end Go.Proofs.Ytamjhaomdfeemaa
