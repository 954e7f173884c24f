/- Walks of the reference of the token bucket. -/
import Derived.Test.YtamjhaomdfeemaaBl
import Derived.StillTailTactics
namespace Go.Proofs.Ytamjhaomdfeemaa
open Go.RowKit Go.Wb
set_option linter.unusedVariables false

def Rk (r u t : Int) : Obj := .cells #[.int .i64 r, .int .i64 u, .int .i64 t] 92 (0, 0)
theorem Rk.c0 {w : World} {b : Nat} {r u t : Int} (h : w.heap[b]? = some (Rk r u t)) : w.cell? ⟨b, 0, none⟩ = some (.int .i64 r) := cell_of 0 h rfl
theorem Rk.c1 {w : World} {b : Nat} {r u t : Int} (h : w.heap[b]? = some (Rk r u t)) : w.cell? ⟨b, 1, none⟩ = some (.int .i64 u) := cell_of 1 h rfl
theorem Rk.c2 {w : World} {b : Nat} {r u t : Int} (h : w.heap[b]? = some (Rk r u t)) : w.cell? ⟨b, 2, none⟩ = some (.int .i64 t) := cell_of 2 h rfl
theorem Rk.f {w : World} {b : Nat} {r u t : Int} (h : w.heap[b]? = some (Rk r u t)) (i : Nat) : w.frozen? ⟨b, i, none⟩ = false := free_of i h

theorem rmay_any (r u : Int) (w : World) (r0 : 0 ≤ r) :
    Calls Try.prog 56 #[.int .u32 r, .int .u32 u] w fun e w' => e = .returned (.bool (may r u)) ∧ w = w' := by
  have HM : Hid (may r u = (decide (0 < r) && decide (r ≤ u) && decide (u ≤ 1073741824))) := rfl
  by_cases h1 : 0 < r <;> by_cases h2 : r ≤ u <;> by_cases h3 : u ≤ 1073741824
  all_goals
    go_enter Try.func56, Try.ntmps56
    go_wp2_with fail
    go_ret
    exact ⟨ret_bool (by rw [HM.out]; simp [*]), rfl⟩

theorem rnew_any (r u : Int) (w : World) (r0 : 0 ≤ r) (r1 : r ≤ 4294967295) (u0 : 0 ≤ u) (u1 : u ≤ 4294967295) :
    Calls Try.prog 57 #[.int .u32 r, .int .u32 u] w fun e w' => e = .returned (.pointer (some ⟨w.heap.size, 0, none⟩)) ∧ w' = w.alloc (Rk r u u) := by
  go_enter Try.func57, Try.ntmps57
  go_wp2_with fail
  go_ret
  exact ⟨rfl, rfl⟩

theorem rcopy_at (b : Nat) (r u t : Int) (w : World) (hb : w.heap[b]? = some (Rk r u t)) :
    Calls Try.prog 62 #[.pointer (some ⟨b, 0, none⟩)] w fun e w' => e = .returned (.pointer (some ⟨w.heap.size, 0, none⟩)) ∧ w' = w.alloc (Rk r u t) := by
  have c0 := Rk.c0 hb
  have c1 := Rk.c1 hb
  have c2 := Rk.c2 hb
  clear hb
  go_enter Try.func62, Try.ntmps62
  go_wp2_with fail
  go_ret
  exact ⟨rfl, rfl⟩

theorem rtake_at (b : Nat) (r u t n : Int) (w : World) (hb : w.heap[b]? = some (Rk r u t)) (h0 : 0 ≤ n) (n1 : n ≤ 4294967295) (ht : 0 ≤ t) (ht' : t ≤ 4294967295) :
    Calls Try.prog 59 #[.pointer (some ⟨b, 0, none⟩), .int .u32 n] w fun e w' => e = .returned (.bool (decide (n ≤ t))) ∧ But b w w' ∧ w'.heap[b]? = some (Rk r u (if n ≤ t then t - n else t)) := by
  have h2 := Rk.c2 hb
  have f2 := Rk.f hb 2
  have HB := Lib.hid hb
  clear hb
  by_cases hn : n ≤ t
  · go_enter Try.func59, Try.ntmps59
    go_wp2_with fail
    go_ret
    refine ⟨by simp, But.set1 _ _ _ _, ?_⟩
    rw [heap_setCell HB.out]; simp [Rk]
  · go_enter Try.func59, Try.ntmps59
    go_wp2_with fail
    go_ret
    refine ⟨by simp, (But.refl _ _), ?_⟩
    rw [HB.out]

set_option maxRecDepth 100000 in
set_option maxHeartbeats 1000000 in
theorem rlapse_at (b : Nat) (r u t n : Int) (w : World) (hb : w.heap[b]? = some (Rk r u t)) (h1 : 1 ≤ r) (hu : u ≤ 1073741824) (ht : 0 ≤ t) (ht' : t ≤ u) (hr' : r ≤ u) (hn : 0 ≤ n) (hn' : n ≤ 18446744073709551615) :
    Calls Try.prog 58 #[.pointer (some ⟨b, 0, none⟩), .int .u64 n] w fun e w' => e = .returned (.tuple #[]) ∧ But b w w' ∧ w'.heap[b]? = some (Rk r u (lapse r u t n)) := by
  have c0 := Rk.c0 hb
  have c1 := Rk.c1 hb
  have c2 := Rk.c2 hb
  have f2 := Rk.f hb 2
  have HB := Lib.hid hb
  clear hb
  have q0 : 0 ≤ (u - t) / r := Int.ediv_nonneg (by omega) (by omega)
  have q1 : (u - t) / r ≤ 1073741824 := Int.le_trans (Int.ediv_le_self _ (by omega)) (by omega)
  by_cases hn : (u - t) / r < n
  · go_enter Try.func58, Try.ntmps58
    go_wp2_with fail
    go_quiet (fail)
    go_wp2_with fail
    refine bodyPost_ret (results_none rfl _ _ _) rfl ?_
    refine ⟨rfl, ((But.refl _ _).drewN _).trans (But.set1 _ _ _ _), ?_⟩
    rw [heap_setCell (w := w.drewN _) HB.out]
    unfold lapse
    rw [if_pos (by omega)]; rfl
  · have m0 : 0 ≤ n * r := Int.mul_nonneg (by omega) (by omega)
    have m1 : n * r ≤ u - t := by
      have : n ≤ (u - t) / r := by omega
      have h2 : n * r ≤ (u - t) / r * r := Int.mul_le_mul_of_nonneg_right this (by omega)
      exact Int.le_trans h2 (Int.ediv_mul_le _ (by omega))
    go_enter Try.func58, Try.ntmps58
    go_wp2_with fail
    go_quiet (fail)
    go_wp2_with fail
    have e0 : (w.drewN nq).cell? ⟨b, 0, none⟩ = some (.int .i64 r) := c0
    have e1 : (w.drewN nq).cell? ⟨b, 1, none⟩ = some (.int .i64 u) := c1
    have e2 : (w.drewN nq).cell? ⟨b, 2, none⟩ = some (.int .i64 t) := c2
    have g2 : (w.drewN nq).frozen? ⟨b, 2, none⟩ = false := f2
    have HB1 : Hid ((w.drewN nq).heap[b]? = some (Rk r u t)) := HB
    have K1 : But b w (w.drewN nq) := (But.refl _ _).drewN _
    generalize w.drewN nq = w1 at *
    clear c0 c1 c2 f2
    have j0 : IntKind.i64.wrap n = n := IntWalk.i64_in _ (by omega)
    have j1 : IntKind.i64.wrap (n * r) = n * r := IntWalk.i64_in _ (by omega)
    have j2 : IntKind.i64.wrap (t + n * r) = t + n * r := IntWalk.i64_in _ (by omega)
    go_still_tail 15, (by kernel_rfl)
    change wpList _ _ _ _ _ w1.drew
    go_wp2_with fail
    have HB2 : Hid (((w1.setCell ⟨b, 2, none⟩ (.int .i64 (t + n * r))).drew).heap[b]? = some (Rk r u (t + n * r))) := heap_setCell_drew HB1.out
    have K2 : Hid (But b w ((w1.setCell ⟨b, 2, none⟩ (.int .i64 (t + n * r))).drew)) := K1.trans (But.set1drew _ _ _ _)
    clear e0 e1 e2 g2 HB1 K1 j0 j1 j2
    generalize (w1.setCell ⟨b, 2, none⟩ (.int .i64 (t + n * r))).drew = w2 at *
    have c1 := Rk.c1 HB2.out
    have c2 := Rk.c2 HB2.out
    have m2 : ¬ u < t + n * r := by omega
    go_quiet (fail)
    go_wp2_with fail
    go_end0
    refine ⟨rfl, K2.out.drewN _, ?_⟩
    unfold lapse
    rw [if_neg (by omega)]
    exact HB2.out

theorem rset_no (b : Nat) (r u t n m : Int) (w : World) (hb : w.heap[b]? = some (Rk r u t)) (n0 : 0 ≤ n) (hm : may n m = false) :
    Calls Try.prog 61 #[.pointer (some ⟨b, 0, none⟩), .int .u32 n, .int .u32 m] w fun e w' => e = .returned (.int .i64 2) ∧ w = w' := by
  have CM := rmay_any n m w n0
  rw [hm] at CM
  have HM := Lib.hid CM
  clear CM hm
  go_enter Try.func61, Try.ntmps61
  go_wp2_with fail
  refine (HM.out).mono ?_
  rintro e w' ⟨rfl, rfl⟩
  go_wp2_with fail
  go_ret
  exact ⟨rfl, rfl⟩

set_option maxRecDepth 100000 in
set_option maxHeartbeats 1000000 in
theorem rset_yes (b : Nat) (r u t n m : Int) (w : World) (hb : w.heap[b]? = some (Rk r u t)) (n0 : 0 ≤ n) (n1 : n ≤ 4294967295) (m0 : 0 ≤ m) (m1 : m ≤ 4294967295) (hm : may n m = true) :
    Calls Try.prog 61 #[.pointer (some ⟨b, 0, none⟩), .int .u32 n, .int .u32 m] w fun e w' => e = .returned (.int .i64 0) ∧ But b w w' ∧ w'.heap[b]? = some (Rk n m (min t m)) := by
  have CM := rmay_any n m w n0
  rw [hm] at CM
  have HM := Lib.hid CM
  have c0 := Rk.c0 hb
  have c1 := Rk.c1 hb
  have c2 := Rk.c2 hb
  have f0 := Rk.f hb 0
  have f1 := Rk.f hb 1
  have HB := Lib.hid hb
  clear CM hm hb
  go_enter Try.func61, Try.ntmps61
  go_wp2_with fail
  refine (HM.out).mono ?_
  rintro e w' ⟨rfl, rfl⟩
  go_wp2_with fail
  have HB2 : Hid (((w.setCell ⟨b, 0, none⟩ (.int .i64 n)).setCell ⟨b, 1, none⟩ (.int .i64 m)).heap[b]? = some (Rk n m t)) := heap_setCell (heap_setCell HB.out)
  have K2 : Hid (But b w ((w.setCell ⟨b, 0, none⟩ (.int .i64 n)).setCell ⟨b, 1, none⟩ (.int .i64 m))) := (But.set1 _ _ _ _).trans (But.set1 _ _ _ _)
  generalize (w.setCell ⟨b, 0, none⟩ (.int .i64 n)).setCell ⟨b, 1, none⟩ (.int .i64 m) = w2 at *
  clear c0 c1 c2 f0 f1 HM
  have c1 := Rk.c1 HB2.out
  have c2 := Rk.c2 HB2.out
  have f2 := Rk.f HB2.out 2
  by_cases htm : m < t
  · go_quiet (fail)
    go_wp2_with fail
    go_ret
    refine ⟨rfl, (K2.out.drewN _).trans (But.set1 _ _ _ _), ?_⟩
    rw [heap_setCell (w := w2.drewN _) HB2.out, show min t m = m from by omega]; rfl
  · go_quiet (fail)
    go_wp2_with fail
    go_ret
    refine ⟨rfl, K2.out.drewN _, ?_⟩
    rw [show min t m = t from by omega]; exact HB2.out

theorem ret_u {k : IntKind} {a b : Int} {p q : Bool} (h : a = b) (h2 : q = p) : Ending.returned (.tuple #[.int k a, .bool p]) = .returned (.tuple #[.int k b, .bool q]) := by rw [h, h2]

theorem until_eq {l r : Int} (h1 : 1 ≤ r) (hl : 0 < l) : (l + r - 1) / r = if 0 < l % r then l / r + 1 else l / r := by
  have e := Int.emod_add_mul_ediv l r
  have e1 := Int.emod_nonneg l (by omega : r ≠ 0)
  have e2 := Int.emod_lt_of_pos l (by omega : 0 < r)
  split
  · rw [show l + r - 1 = (l % r - 1) + r * (l / r + 1) from by rw [Int.mul_add, Int.mul_one]; omega, Int.add_mul_ediv_left _ _ (by omega), Int.ediv_eq_zero_of_lt (by omega) (by omega)]
    omega
  · rw [show l + r - 1 = (r - 1) + r * (l / r) from by omega, Int.add_mul_ediv_left _ _ (by omega), Int.ediv_eq_zero_of_lt (by omega) (by omega)]
    omega

set_option maxRecDepth 100000 in
set_option maxHeartbeats 1000000 in
theorem runtil_at (b : Nat) (r u t n : Int) (w : World) (hb : w.heap[b]? = some (Rk r u t)) (h1 : 1 ≤ r) (hu : u ≤ 1073741824) (ht : 0 ≤ t) (ht' : t ≤ u) (hr' : r ≤ u) (hn0 : 0 ≤ n) (hn' : n ≤ 4294967295) :
    Calls Try.prog 63 #[.pointer (some ⟨b, 0, none⟩), .int .u32 n] w fun e w' => e = .returned (.tuple #[.int .u64 (until1 r u t n), .bool (decide (n ≤ u))]) ∧ w = w' := by
  have c0 := Rk.c0 hb
  have c1 := Rk.c1 hb
  have c2 := Rk.c2 hb
  clear hb
  have HU : Hid (until1 r u t n = if u < n then 0 else if n ≤ t then 0 else if 0 < (n - t) % r then (n - t) / r + 1 else (n - t) / r) := by
    unfold until1
    show _ = _
    split
    · rfl
    · split
      · rfl
      · rw [until_eq h1 (by omega)]
  by_cases hn : u < n
  · go_enter Try.func63, Try.ntmps63
    go_wp2_with fail
    go_ret2
    exact ⟨ret_u (by rw [HU.out, if_pos (by omega)]) (decide_eq_false (by omega)), rfl⟩
  · by_cases hn2 : n ≤ t
    · go_enter Try.func63, Try.ntmps63
      go_wp2_with fail
      go_ret2
      exact ⟨ret_u (by rw [HU.out, if_neg (by omega), if_pos (by omega)]) rfl, rfl⟩
    · have g0 : 0 ≤ (n - t) / r := Int.ediv_nonneg (by omega) (by omega)
      have g1 : (n - t) / r ≤ n - t := Int.ediv_le_self _ (by omega)
      by_cases hr0 : 0 < (n - t) % r
      all_goals
        go_enter Try.func63, Try.ntmps63
        go_wp2_with fail
        go_ret2
        exact ⟨ret_u (by rw [HU.out, if_neg (by omega), if_neg (by omega)]; first | rw [if_pos (by omega)] | rw [if_neg (by omega)]) rfl, rfl⟩
end Go.Proofs.Ytamjhaomdfeemaa
