/- Walks of package emit: may a tally be. -/
import Derived.Test.YtamjhaomdfeemaaEm
import Derived.Test.YtamjhaomdfeemaaRd
import Derived.Deep.RegionLawGrows
namespace Go.Proofs.Ytamjhaomdfeemaa
open Go.RowKit Go.Wb
set_option linter.unusedVariables false

theorem info31 : (Try.prog.info? 31).map (fun i => (i.zero, i.size, i.bytes)) = some (some (.int .u64 0), 1, 8) := by kernel_rfl

theorem lies {W : World} {b off : Nat} {cs : Array Value} {t : TypeId} {l r : List Value} (h : W.heap[b]? = some (.cells cs t (0, 0))) (hp : cs.toList.drop off = l ++ r) :
    ∀ j u, l[j]? = some u → W.cell? (Addr.add ⟨b, off, none⟩ j) = some u := by
  intro j u hj
  rw [add_none]
  refine cell_of _ h ?_
  have : (cs.toList.drop off)[j]? = some u := by
    rw [hp, List.getElem?_append_left (List.getElem?_eq_some_iff.1 hj).1]; exact hj
  rwa [List.getElem?_drop, Array.getElem?_toList] at this

theorem own_at {W : World} {base n : Nat} {e : TypeId} {v : Value} {xs : List Value} (h : W.ownsRow base e 1 v n xs) (hn : 0 < n) :
    ∃ g cap, v = .slice (some ⟨g, 0, none⟩) n cap ∧ base ≤ g ∧ g < W.heap.size ∧ ∀ i u, xs[i]? = some u → W.cell? ⟨g, i, none⟩ = some u := by
  obtain ⟨hl, h⟩ := h
  rcases h with ⟨rfl, h0⟩ | ⟨g, cap, cur, rfl, hb, hh, hc, hm, hs, ht⟩
  · omega
  · refine ⟨g, cap, rfl, hb, lt_of_heap hh, fun i u hi => cell_of _ hh ?_⟩
    have := hi
    rw [← ht] at this
    rw [List.getElem?_take] at this
    split at this
    · simpa using this
    · cases this

/-- May a tally be. -/
def tm (a e b d0 d1 d2 d3 : Int) : Bool := decide (a ≤ 4611686018427387904 ∧ b ≤ 4611686018427387904 ∧ e + d0 + d1 + d2 + d3 ≤ a)

theorem ovk_no {a e b d0 d1 d2 d3 : Int} (h : ovk a e b d0 d1 d2 d3 = false) (a0 : 0 ≤ a) (e0 : 0 ≤ e) (b0 : 0 ≤ b) (p0 : 0 ≤ d0) (p1 : 0 ≤ d1) (p2 : 0 ≤ d2) (p3 : 0 ≤ d3) : tm a e b d0 d1 d2 d3 = false := by
  unfold ovk at h
  unfold tm
  simp only [Bool.true_and, Bool.and_eq_false_iff, decide_eq_false_iff_not] at h ⊢
  omega
theorem ovk_yes {a e b d0 d1 d2 d3 : Int} (h : ovk a e b d0 d1 d2 d3 = true) : a ≤ 4611686018427387904 ∧ e ≤ 4611686018427387904 ∧ b ≤ 4611686018427387904 ∧ d0 ≤ 4611686018427387904 ∧ d1 ≤ 4611686018427387904 ∧ d2 ≤ 4611686018427387904 ∧ d3 ≤ 4611686018427387904 := by
  unfold ovk at h
  simp only [Bool.true_and, Bool.and_eq_true, decide_eq_true_eq] at h
  omega

set_option maxRecDepth 100000 in
set_option maxHeartbeats 2000000 in
theorem may_no (a e b d0 d1 d2 d3 : Int) (w : World) (h : ovk a e b d0 d1 d2 d3 = false) : Calls Try.prog 45 #[.agg (tl a e b d0 d1 d2 d3)] w fun en w' => en = .returned (.bool false) ∧ Below w.heap.size w w' := by
  have OV := fun W => over_any a e b d0 d1 d2 d3 W
  rw [h] at OV
  have HOV := Lib.hid OV
  clear OV h
  unfold tl at *
  go_enter Try.func45, Try.ntmps45
  go_wp2_with fail
  refine (HOV.out _).mono ?_
  rintro en w1 ⟨rfl, hb⟩
  have B := Lib.hid ((((Below.refl w.heap.size w).alloc (Nat.le_refl _) (Obj.cells #[.int .u64 a, .int .u64 e, .int .u64 b, .int .u64 d0, .int .u64 d1, .int .u64 d2, .int .u64 d3] 74))).trans (hb.mono (by simp)))
  clear hb
  go_wp2_with fail
  go_ret
  exact ⟨rfl, B.out⟩

set_option maxRecDepth 100000 in
set_option maxHeartbeats 4000000 in
theorem may_yes (a e b d0 d1 d2 d3 : Int) (w : World) (h : ovk a e b d0 d1 d2 d3 = true) (a0 : 0 ≤ a) (e0 : 0 ≤ e) (b0 : 0 ≤ b) (p0 : 0 ≤ d0) (p1 : 0 ≤ d1) (p2 : 0 ≤ d2) (p3 : 0 ≤ d3) :
    Calls Try.prog 45 #[.agg (tl a e b d0 d1 d2 d3)] w fun en w' => en = .returned (.bool (tm a e b d0 d1 d2 d3)) ∧ Below w.heap.size w w' := by
  obtain ⟨i0, hi, hz0, hz1, hz2⟩ := info_parts info31
  have OV := fun W => over_any a e b d0 d1 d2 d3 W
  rw [h] at OV
  have HOV := Lib.hid OV
  have hbd := ovk_yes h
  obtain ⟨a1, e1, b1, q0, q1, q2, q3⟩ := hbd
  clear OV h
  have FIN : Hid (∀ {en : Ending} (v : Bool), en = .returned (.bool v) → (v = true ↔ e + d0 + d1 + d2 + d3 ≤ a) → en = .returned (.bool (tm a e b d0 d1 d2 d3))) := by
    intro en v h1 h2
    rw [h1]
    refine ret_bool ?_
    unfold tm
    rw [Bool.eq_iff_iff, h2]
    simp [a1, b1]
  unfold tl at *
  go_enter Try.func45, Try.ntmps45
  go_wp2_with fail
  refine (HOV.out _).mono ?_
  rintro en w1 ⟨rfl, hb⟩
  have B := Lib.hid ((((Below.refl w.heap.size w).alloc (Nat.le_refl _) (Obj.cells #[.int .u64 a, .int .u64 e, .int .u64 b, .int .u64 d0, .int .u64 d1, .int .u64 d2, .int .u64 d3] 74))).trans (hb.mono (by simp)))
  have hx := heap_alloc_new w (Obj.cells #[.int .u64 a, .int .u64 e, .int .u64 b, .int .u64 d0, .int .u64 d1, .int .u64 d2, .int .u64 d3] 74)
  have X := Lib.hid (Below.at hb hx (lt_of_heap hx))
  clear hb hx HOV
  have x1 := cell_of (v := .int .u64 e) 1 X.out rfl
  have x3 := cell_of (v := .int .u64 d0) 3 X.out rfl
  have x4 := cell_of (v := .int .u64 d1) 4 X.out rfl
  have x5 := cell_of (v := .int .u64 d2) 5 X.out rfl
  have x6 := cell_of (v := .int .u64 d3) 6 X.out rfl
  have hlt : w.heap.size < w1.heap.size := lt_of_heap X.out
  go_wp2_with fail
  go_region_law ((refine step_append_grows rfl _ _ 111 (by rfl) 31 i0 (.int .u64 0) 1 8 Try.underlying111 hi hz0 hz1 hz2 rfl (by decide) (some ⟨w.heap.size, 3, none⟩) 4 4 [.int .u64 d0, .int .u64 d1, .int .u64 d2, .int .u64 d3] (by rfl) (by intro h; cases h) rfl (by intro b hb; cases hb; exact lies (hold_alloc X.out) (r := []) rfl) ⟨w1.heap.size, 0, none⟩ 1 1 [.int .u64 e] (by rfl) rfl (lies (heap_alloc_new w1 _) (r := []) rfl) (by simp [Value.oneCell']) (by decide) (by unfold maxLen; omega) (by omega) ?_; intro v' w2 hown hgr; obtain ⟨g, cap, rfl, hg, hgl, hcs⟩ := own_at hown (by decide); have CS := Lib.hid hcs; have GR := Lib.hid hgr; clear hown hgr hcs))
  have c0 := CS.out 0 _ rfl
  have c1 := CS.out 1 _ rfl
  have c2 := CS.out 2 _ rfl
  have c3 := CS.out 3 _ rfl
  have c4 := CS.out 4 _ rfl
  have B2 : Hid (Below w.heap.size w w2) := by
    have := B.out
    have h1 : Below w.heap.size w ((w1.alloc (Obj.cells #[.int .u64 e] 31)).drew) := Below.drew (this.alloc (by omega) _)
    exact h1.grown GR.out h1.size (by intro q hq; cases hq)
  clear B X x1 x3 x4 x5 x6 CS GR
  go_wp2_with fail
  refine wp_loop_rounds 6 ?_
  rw [rounds_succ]
  by_cases h0 : a < d0
  · go_wp2_with fail
    go_ret
    exact ⟨FIN.out false rfl (by simp; omega), B2.out⟩
  go_wp2_with fail
  rw [rounds_succ]
  by_cases h1 : a - d0 < d1
  · go_wp2_with fail
    go_ret
    exact ⟨FIN.out false rfl (by simp; omega), B2.out⟩
  go_wp2_with fail
  rw [rounds_succ]
  by_cases h2 : a - d0 - d1 < d2
  · go_wp2_with fail
    go_ret
    exact ⟨FIN.out false rfl (by simp; omega), B2.out⟩
  go_wp2_with fail
  rw [rounds_succ]
  by_cases h3 : a - d0 - d1 - d2 < d3
  · go_wp2_with fail
    go_ret
    exact ⟨FIN.out false rfl (by simp; omega), B2.out⟩
  go_wp2_with fail
  rw [rounds_succ]
  by_cases h4 : a - d0 - d1 - d2 - d3 < e
  · go_wp2_with fail
    go_ret
    exact ⟨FIN.out false rfl (by simp; omega), B2.out⟩
  go_wp2_with fail
  rw [rounds_succ]
  go_wp2_with fail
  go_ret
  exact ⟨FIN.out true rfl (by simp; omega), B2.out⟩
end Go.Proofs.Ytamjhaomdfeemaa
