/- Walks of the token bucket (package bucket) and of the law BucketNone; no condition on the input. -/
import Derived.Test.YtamjhaomdfeemaaBk
import Derived.StillTailTactics
namespace Go.Proofs.Ytamjhaomdfeemaa
open Go.RowKit Go.Wb

theorem left_at (b : Nat) (r u t : Int) (w : World) (hb : w.heap[b]? = some (Bk r u t)) (hr : (r == 0) = false) :
    Calls Try.prog 40 #[.pointer (some ⟨b, 0, none⟩)] w fun e w' => e = .returned (.int .u32 t) ∧ w = w' := by
  have h2 := Bk.c2 hb
  have C := none_at b r w (Bk.c0 hb)
  rw [hr] at C
  have HC := Lib.hid C
  have HB := Lib.hid hb
  clear hb C hr
  go_enter Try.func40, Try.ntmps40
  go_wp2_with fail
  refine (HC.out).mono ?_
  rintro e w' ⟨rfl, rfl⟩
  go_wp2_with fail
  go_ret
  exact ⟨rfl, rfl⟩

theorem take_at (b : Nat) (r u t n : Int) (w : World) (hb : w.heap[b]? = some (Bk r u t)) (hr : (r == 0) = false) (h0 : 0 ≤ n) (ht : 0 ≤ t) (ht' : t ≤ 4294967295) :
    Calls Try.prog 38 #[.pointer (some ⟨b, 0, none⟩), .int .u32 n] w fun e w' => e = .returned (.bool (decide (n ≤ t))) ∧ But b w w' ∧ w'.heap[b]? = some (Bk r u (if n ≤ t then t - n else t)) := by
  have h2 := Bk.c2 hb
  have f2 := Bk.f hb 2
  have C := none_at b r w (Bk.c0 hb)
  rw [hr] at C
  have HC := Lib.hid C
  have HB := Lib.hid hb
  clear hb C hr
  by_cases hn : n ≤ t
  · go_enter Try.func38, Try.ntmps38
    go_wp2_with fail
    refine (HC.out).mono ?_
    rintro e w' ⟨rfl, rfl⟩
    go_wp2_with fail
    go_ret
    refine ⟨by simp, But.set1 _ _ _ _, ?_⟩
    rw [heap_setCell HB.out]; simp [Bk]
  · go_enter Try.func38, Try.ntmps38
    go_wp2_with fail
    refine (HC.out).mono ?_
    rintro e w' ⟨rfl, rfl⟩
    go_wp2_with fail
    go_ret
    refine ⟨by simp, (But.refl _ _), ?_⟩
    rw [HB.out]
def lapse (r u t n : Int) : Int := if (u - t) / r + 1 ≤ n then u else t + n * r
set_option maxRecDepth 100000 in
set_option maxHeartbeats 400000 in
theorem lapse_at (b : Nat) (r u t n : Int) (w : World) (hb : w.heap[b]? = some (Bk r u t)) (hr : (r == 0) = false) (h1 : 1 ≤ r) (hu : u ≤ 1073741824) (ht : 0 ≤ t) (ht' : t ≤ u) (hr' : r ≤ u) (hn : 0 ≤ n) (hn' : n ≤ 18446744073709551615) :
    Calls Try.prog 39 #[.pointer (some ⟨b, 0, none⟩), .int .u64 n] w fun e w' => e = .returned (.tuple #[]) ∧ But b w w' ∧ w'.heap[b]? = some (Bk r u (lapse r u t n)) := by
  have c0 := Bk.c0 hb
  have c1 := Bk.c1 hb
  have c2 := Bk.c2 hb
  have f2 := Bk.f hb 2
  have C := none_at b r w (Bk.c0 hb)
  rw [hr] at C
  have HC := Lib.hid C
  have HB := Lib.hid hb
  clear hb C hr
  have q0 : 0 ≤ (u - t) / r := Int.ediv_nonneg (by omega) (by omega)
  have q1 : (u - t) / r ≤ 1073741824 := Int.le_trans (Int.ediv_le_self _ (by omega)) (by omega)
  by_cases hn : (u - t) / r + 1 ≤ n
  · go_enter Try.func39, Try.ntmps39
    go_wp2_with fail
    refine (HC.out).mono ?_
    rintro e w' ⟨rfl, rfl⟩
    go_wp2_with fail
    go_quiet (fail)
    go_wp2_with fail
    refine bodyPost_ret (results_none rfl _ _ _) rfl ?_
    refine ⟨rfl, ((But.refl _ _).drewN _).trans (But.set1 _ _ _ _), ?_⟩
    rw [heap_setCell (w := w.drewN _) HB.out]; simp [Bk, lapse, hn]
  · have m0 : 0 ≤ n * r := Int.mul_nonneg (by omega) (by omega)
    have m1 : n * r ≤ u - t := by
      have : n ≤ (u - t) / r := by omega
      have h2 : n * r ≤ (u - t) / r * r := Int.mul_le_mul_of_nonneg_right this (by omega)
      exact Int.le_trans h2 (Int.ediv_mul_le _ (by omega))
    go_enter Try.func39, Try.ntmps39
    go_wp2_with fail
    refine (HC.out).mono ?_
    rintro e w' ⟨rfl, rfl⟩
    go_wp2_with fail
    go_quiet (fail)
    go_wp2_with fail
    have e0 : (w.drewN nq).cell? ⟨b, 0, none⟩ = some (.int .u32 r) := c0
    have e2 : (w.drewN nq).cell? ⟨b, 2, none⟩ = some (.int .u32 t) := c2
    have g2 : (w.drewN nq).frozen? ⟨b, 2, none⟩ = false := f2
    have HB1 : Hid ((w.drewN nq).heap[b]? = some (Bk r u t)) := HB
    have K1 : But b w (w.drewN nq) := (But.refl _ _).drewN _
    generalize w.drewN nq = w1 at *
    clear c0 c1 c2 f2 HC
    go_still_tail 17, (by kernel_rfl)
    change wpList _ _ _ _ _ w1.drew
    have m2 : IntKind.u64.wrap r = r := IntWalk.u64_in _ (by omega)
    have m3 : IntKind.u64.wrap (n * r) = n * r := IntWalk.u64_in _ (by omega)
    rw [m2, m3]
    have M := Lib.hid m1
    go_wp2_with fail
    all_goals
      go_end0
      refine ⟨rfl, K1.trans (But.set1drew _ _ _ _), ?_⟩
      rw [heap_setCell_drew HB1.out]
      unfold lapse
      rw [if_neg (by omega)]
      first | rfl | (simp [Bk]; have := M.out; omega)
end Go.Proofs.Ytamjhaomdfeemaa
