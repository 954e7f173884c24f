/- Walks of package emit: its tallies. -/
import Derived.Test.YtamjhaomdfeemaaRows
import Derived.Test.YtamjhaomdfeemaaKp
import Derived.WalkLawsBesides
import Derived.Outline
import Derived.Deep.DeepCutAuto
import Derived.LoopN
namespace Go.Proofs.Ytamjhaomdfeemaa
open Go.RowKit Go.Wb
set_option linter.unusedVariables false

theorem em_drewN {B : Nat} {w0 w : World} (h : Hid (Below B w0 w)) (n : Nat) : Below B w0 (w.drewN n) := ⟨h.out.os, h.out.tape, h.out.output, h.out.size, h.out.block⟩
def most : Int := 4611686018427387904

theorem over1_any (x n : Int) (ok : Bool) (p q : Nat) (w : World) (hp : w.heap[p]? = some (.cells #[.bool ok] 4 (0, 0))) (hq : w.heap[q]? = some (.cells #[.int .u64 n] 31 (0, 0))) (hn : p ≠ q) :
    Calls Try.prog 79 #[.int .u64 x, .pointer (some ⟨p, 0, none⟩), .pointer (some ⟨q, 0, none⟩)] w fun e w' => e = .returned (.tuple #[]) ∧ w' = (w.setCell ⟨p, 0, none⟩ (.bool (ok && decide (x ≤ 4611686018427387904)))).setCell ⟨q, 0, none⟩ (.int .u64 (IntKind.u64.wrap (n + x))) := by
  have p0 := cell_of (v := .bool ok) 0 hp rfl
  have pf := free_of 0 hp
  have q0 := cell_of (v := .int .u64 n) 0 hq rfl
  have qf := free_of 0 hq
  clear hp hq
  cases ok
  · go_enter Try.func79, Try.ntmps79
    go_wp2_with fail
    go_end0
    exact ⟨rfl, rfl⟩
  · by_cases hx : x ≤ 4611686018427387904
    all_goals
      go_enter Try.func79, Try.ntmps79
      go_wp2_with fail
      go_end0
      exact ⟨rfl, by first | (rw [decide_eq_true hx]; done) | (rw [decide_eq_true hx]; rfl) | (rw [decide_eq_false (show ¬ x ≤ 4611686018427387904 by omega)]; done) | (rw [decide_eq_false (show ¬ x ≤ 4611686018427387904 by omega)]; rfl)⟩

def tl (a e b d0 d1 d2 d3 : Int) : Array Value := #[.int .u64 a, .int .u64 e, .int .u64 b, .int .u64 d0, .int .u64 d1, .int .u64 d2, .int .u64 d3]

theorem idx0 (d0 d1 d2 d3 : Int) (w : World) : (Instr.index 72 (.agg #[.int .u64 d0, .int .u64 d1, .int .u64 d2, .int .u64 d3]) (.int .i64 0)).run Try.prog w = .ok (.int .u64 d0) w := by kernel_rfl
theorem idx1 (d0 d1 d2 d3 : Int) (w : World) : (Instr.index 72 (.agg #[.int .u64 d0, .int .u64 d1, .int .u64 d2, .int .u64 d3]) (.int .i64 1)).run Try.prog w = .ok (.int .u64 d1) w := by kernel_rfl
theorem idx2 (d0 d1 d2 d3 : Int) (w : World) : (Instr.index 72 (.agg #[.int .u64 d0, .int .u64 d1, .int .u64 d2, .int .u64 d3]) (.int .i64 2)).run Try.prog w = .ok (.int .u64 d2) w := by kernel_rfl
theorem idx3 (d0 d1 d2 d3 : Int) (w : World) : (Instr.index 72 (.agg #[.int .u64 d0, .int .u64 d1, .int .u64 d2, .int .u64 d3]) (.int .i64 3)).run Try.prog w = .ok (.int .u64 d3) w := by kernel_rfl

theorem over1_step (x n : Int) (ok : Bool) (p q : Nat) (w : World) (hp : w.heap[p]? = some (.cells #[.bool ok] 4 (0, 0))) (hq : w.heap[q]? = some (.cells #[.int .u64 n] 31 (0, 0))) (hn : p ≠ q) :
    Calls Try.prog 79 #[.int .u64 x, .pointer (some ⟨p, 0, none⟩), .pointer (some ⟨q, 0, none⟩)] w fun e w' => e = .returned (.tuple #[]) ∧ w'.heap[p]? = some (.cells #[.bool (ok && decide (x ≤ 4611686018427387904))] 4 (0, 0)) ∧ w'.heap[q]? = some (.cells #[.int .u64 (IntKind.u64.wrap (n + x))] 31 (0, 0)) ∧
      (∀ b o, b ≠ p → b ≠ q → w.heap[b]? = some o → w'.heap[b]? = some o) ∧ (∀ B w0, Below B w0 w → B ≤ p → B ≤ q → Below B w0 w') := by
  refine (over1_any x n ok p q w hp hq hn).mono fun e w' h => ?_
  obtain ⟨h1, rfl⟩ := h
  refine ⟨h1, (But.set1 _ _ _ _).at (heap_setCell hp) hn, heap_setCell ((But.set1 _ _ _ _).at hq hn.symm), fun b o hb1 hb2 hb => (But.set1 _ _ _ _).at ((But.set1 _ _ _ _).at hb hb1) hb2, fun B w0 hB h1 h2 => (hB.setCell (p := ⟨p, 0, none⟩) h1 _).setCell (p := ⟨q, 0, none⟩) h2 _⟩

def ovn (e d0 d1 d2 d3 : Int) : Int := IntKind.u64.wrap (IntKind.u64.wrap (IntKind.u64.wrap (IntKind.u64.wrap (e + d0) + d1) + d2) + d3)
def ovk (a e b d0 d1 d2 d3 : Int) : Bool := ((((true && decide (d0 ≤ 4611686018427387904)) && decide (d1 ≤ 4611686018427387904)) && decide (d2 ≤ 4611686018427387904)) && decide (d3 ≤ 4611686018427387904)) && decide (e ≤ 4611686018427387904) && decide (a ≤ 4611686018427387904) && decide (b ≤ 4611686018427387904)

set_option maxRecDepth 100000 in
set_option maxHeartbeats 4000000 in
theorem over_any (a e b d0 d1 d2 d3 : Int) (w : World) : Calls Try.prog 73 #[.agg (tl a e b d0 d1 d2 d3)] w fun en w' => en = .returned (.tuple #[.int .u64 (ovn e d0 d1 d2 d3), .bool (ovk a e b d0 d1 d2 d3)]) ∧ Below w.heap.size w w' := by
  have HT := heap_three w (Obj.cells (tl a e b d0 d1 d2 d3) 74) (Obj.cells #[.int .u64 e] 31) (Obj.cells #[.bool true] 4)
  have B := Lib.hid (below_three w (Obj.cells (tl a e b d0 d1 d2 d3) 74) (Obj.cells #[.int .u64 e] 31) (Obj.cells #[.bool true] 4))
  have X := Lib.hid HT.1
  have Q := Lib.hid HT.2.1
  have P := Lib.hid HT.2.2
  clear HT
  have i0 := idx0 d0 d1 d2 d3
  have i1 := idx1 d0 d1 d2 d3
  have i2 := idx2 d0 d1 d2 d3
  have i3 := idx3 d0 d1 d2 d3
  unfold tl at *
  go_enter Try.func73, Try.ntmps73
  go_wp2_with fail
  generalize ((w.alloc (Obj.cells #[.int .u64 a, .int .u64 e, .int .u64 b, .int .u64 d0, .int .u64 d1, .int .u64 d2, .int .u64 d3] 74)).alloc (Obj.cells #[.int .u64 e] 31)).alloc (Obj.cells #[.bool true] 4) = w0 at *
  refine wp_loop_rounds 5 ?_
  rw [rounds_succ]
  go_wp2_with fail
  refine (over1_step d0 _ _ _ _ w0 P.out Q.out (by omega)).mono ?_
  rintro en w1 ⟨rfl, hP, hQ, hS, hL⟩
  have P' := Lib.hid hP
  have Q' := Lib.hid hQ
  have X' := Lib.hid (hS _ _ (by omega) (by omega) X.out)
  have B' := Lib.hid (hL _ _ B.out (by omega) (by omega))
  clear hP hQ hS hL P Q X B
  obtain ⟨P, Q, X, B⟩ := And.intro P' (And.intro Q' (And.intro X' B'))
  clear P' Q' X' B'
  go_wp2_with fail
  rw [rounds_succ]
  go_wp2_with fail
  refine (over1_step d1 _ _ _ _ w1 P.out Q.out (by omega)).mono ?_
  rintro en w2 ⟨rfl, hP, hQ, hS, hL⟩
  have P' := Lib.hid hP
  have Q' := Lib.hid hQ
  have X' := Lib.hid (hS _ _ (by omega) (by omega) X.out)
  have B' := Lib.hid (hL _ _ B.out (by omega) (by omega))
  clear hP hQ hS hL P Q X B
  obtain ⟨P, Q, X, B⟩ := And.intro P' (And.intro Q' (And.intro X' B'))
  clear P' Q' X' B'
  go_wp2_with fail
  rw [rounds_succ]
  go_wp2_with fail
  refine (over1_step d2 _ _ _ _ w2 P.out Q.out (by omega)).mono ?_
  rintro en w3 ⟨rfl, hP, hQ, hS, hL⟩
  have P' := Lib.hid hP
  have Q' := Lib.hid hQ
  have X' := Lib.hid (hS _ _ (by omega) (by omega) X.out)
  have B' := Lib.hid (hL _ _ B.out (by omega) (by omega))
  clear hP hQ hS hL P Q X B
  obtain ⟨P, Q, X, B⟩ := And.intro P' (And.intro Q' (And.intro X' B'))
  clear P' Q' X' B'
  go_wp2_with fail
  rw [rounds_succ]
  go_wp2_with fail
  refine (over1_step d3 _ _ _ _ w3 P.out Q.out (by omega)).mono ?_
  rintro en w4 ⟨rfl, hP, hQ, hS, hL⟩
  have P' := Lib.hid hP
  have Q' := Lib.hid hQ
  have X' := Lib.hid (hS _ _ (by omega) (by omega) X.out)
  have B' := Lib.hid (hL _ _ B.out (by omega) (by omega))
  clear hP hQ hS hL P Q X B
  obtain ⟨P, Q, X, B⟩ := And.intro P' (And.intro Q' (And.intro X' B'))
  clear P' Q' X' B'
  go_wp2_with fail
  rw [rounds_succ]
  have HK : Hid (∃ k4, k4 = ((((true && decide (d0 ≤ 4611686018427387904)) && decide (d1 ≤ 4611686018427387904)) && decide (d2 ≤ 4611686018427387904)) && decide (d3 ≤ 4611686018427387904)) ∧ w4.heap[w.heap.size + 1 + 1]? = some (.cells #[.bool k4] 4 (0, 0))) := ⟨_, rfl, P.out⟩
  have HQ : Hid (w4.heap[w.heap.size + 1]? = some (.cells #[.int .u64 (ovn e d0 d1 d2 d3)] 31 (0, 0))) := Q.out
  obtain ⟨k4, hk4, hP⟩ := HK.out
  have HK4 : Hid (ovk a e b d0 d1 d2 d3 = (k4 && decide (e ≤ 4611686018427387904) && decide (a ≤ 4611686018427387904) && decide (b ≤ 4611686018427387904))) := by
    show _ = _; rw [hk4]; rfl
  have q0 := cell_of (v := .int .u64 (ovn e d0 d1 d2 d3)) 0 HQ.out rfl
  have p0 := cell_of (v := .bool k4) 0 hP rfl
  have x0 := cell_of (v := .int .u64 a) 0 X.out rfl
  have x1 := cell_of (v := .int .u64 e) 1 X.out rfl
  have x2 := cell_of (v := .int .u64 b) 2 X.out rfl
  clear hk4 hP HK P Q X i0 i1 i2 i3
  obtain ⟨n4, hn4⟩ : ∃ n4, ovn e d0 d1 d2 d3 = n4 := ⟨_, rfl⟩
  rw [hn4] at q0
  have HN := Lib.hid hn4
  clear hn4 HQ
  cases k4
  · go_wp2_with fail
    go_quiet (fail)
    go_wp2_with fail
    go_ret2
    exact ⟨by rw [HK4.out, HN.out]; simp, em_drewN B _⟩
  · have c1 := (by cases decide (e ≤ 4611686018427387904) <;> simp : decide (e ≤ 4611686018427387904) = true ∨ decide (e ≤ 4611686018427387904) = false)
    have c2 := (by cases decide (a ≤ 4611686018427387904) <;> simp : decide (a ≤ 4611686018427387904) = true ∨ decide (a ≤ 4611686018427387904) = false)
    have c3 := (by cases decide (b ≤ 4611686018427387904) <;> simp : decide (b ≤ 4611686018427387904) = true ∨ decide (b ≤ 4611686018427387904) = false)
    rcases c1 with c1 | c1 <;> rcases c2 with c2 | c2 <;> rcases c3 with c3 | c3
    all_goals
      rw [c1, c2, c3] at HK4
      go_wp2_with fail
      go_quiet (fail)
      go_wp2_with fail
      go_ret2
      exact ⟨by rw [HK4.out, HN.out]; simp, em_drewN B _⟩
end Go.Proofs.Ytamjhaomdfeemaa
