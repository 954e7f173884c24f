/- Plain facts on a bucket's numbers: how many tokens a lapse makes, and when a number is there. -/
import Derived.Test.YtamjhaomdfeemaaBk4
namespace Go.Proofs.Ytamjhaomdfeemaa
open Go.RowKit Go.Wb

theorem may_iff {r u : Int} (h : may r u = true) : 1 ≤ r ∧ r ≤ u ∧ u ≤ 1073741824 := by
  unfold may at h; simp at h; omega

theorem lapse_eq {r u t n : Int} (h1 : 1 ≤ r) (ht : t ≤ u) (hn : 0 ≤ n) : lapse r u t n = min u (t + n * r) := by
  unfold lapse
  have e := Int.emod_add_mul_ediv (u - t) r
  have e1 := Int.emod_nonneg (u - t) (by omega : r ≠ 0)
  have e2 := Int.emod_lt_of_pos (u - t) (by omega : 0 < r)
  split
  · rename_i h
    have : ((u - t) / r + 1) * r ≤ n * r := Int.mul_le_mul_of_nonneg_right h (by omega)
    rw [Int.add_mul, Int.one_mul, Int.mul_comm] at this
    omega
  · rename_i h
    have : n * r ≤ ((u - t) / r) * r := Int.mul_le_mul_of_nonneg_right (by omega) (by omega)
    rw [Int.mul_comm ((u - t) / r)] at this
    omega

theorem lapse_le {r u t n : Int} (h1 : 1 ≤ r) (ht : t ≤ u) (ht0 : 0 ≤ t) (hn : 0 ≤ n) : 0 ≤ lapse r u t n ∧ t ≤ lapse r u t n ∧ lapse r u t n ≤ u := by
  rw [lapse_eq h1 ht hn]
  have : 0 ≤ n * r := Int.mul_nonneg hn (by omega)
  omega

/-- A lapse is its parts. -/
theorem lapse_parts {r u t a c : Int} (h1 : 1 ≤ r) (hu : u ≤ 1073741824) (ht : t ≤ u) (ht0 : 0 ≤ t) (ha : 0 ≤ a) (ha' : a ≤ 18446744073709551615) (hc : 0 ≤ c) (hc' : c ≤ 18446744073709551615) :
    lapse r u (lapse r u t a) c = lapse r u t (a + min c (18446744073709551615 - a)) := by
  have hl := lapse_le h1 ht ht0 ha
  rw [lapse_eq h1 hl.2.2 hc, lapse_eq h1 ht ha, lapse_eq h1 ht (by omega)]
  have m0 : 0 ≤ a * r := Int.mul_nonneg ha (by omega)
  have m1 : 0 ≤ c * r := Int.mul_nonneg hc (by omega)
  by_cases h : a + c ≤ 18446744073709551615
  · rw [show a + min c (18446744073709551615 - a) = a + c from by omega, Int.add_mul]
    omega
  · rw [show a + min c (18446744073709551615 - a) = 18446744073709551615 from by omega]
    have : (a + c) * r ≥ (a + c) * 1 := Int.mul_le_mul_of_nonneg_left h1 (by omega)
    rw [Int.add_mul] at this
    omega

theorem until_there {r u t n : Int} (h1 : 1 ≤ r) (hu : u ≤ 1073741824) (ht : t ≤ u) (ht0 : 0 ≤ t) (hn : n ≤ u) (hn0 : 0 ≤ n) :
    0 ≤ until1 r u t n ∧ until1 r u t n ≤ 4294967296 ∧ n ≤ lapse r u t (until1 r u t n) ∧ (0 < until1 r u t n → lapse r u t (until1 r u t n - 1) < n) := by
  unfold until1
  rw [if_neg (by omega)]
  split
  · rw [lapse_eq h1 ht (by omega)]; omega
  · rename_i h
    have e := Int.emod_add_mul_ediv (n - t + r - 1) r
    have e1 := Int.emod_nonneg (n - t + r - 1) (by omega : r ≠ 0)
    have e2 := Int.emod_lt_of_pos (n - t + r - 1) (by omega : 0 < r)
    have q0 : 0 ≤ (n - t + r - 1) / r := Int.ediv_nonneg (by omega) (by omega)
    have q1 : 1 ≤ (n - t + r - 1) / r := by
      have : 1 * r ≤ n - t + r - 1 := by omega
      exact (Int.le_ediv_iff_mul_le (by omega)).2 this
    have q2 : (n - t + r - 1) / r ≤ n - t := by
      have h3 : (n - t) * 1 ≤ (n - t) * r := Int.mul_le_mul_of_nonneg_left h1 (by omega)
      have h4 : 0 ≤ (n - t - 1) * (r - 1) := Int.mul_nonneg (by omega) (by omega)
      have h5 : (n - t - 1) * (r - 1) = (n - t) * r - (n - t) - r + 1 := by
        rw [Int.sub_mul, Int.mul_sub, Int.one_mul, Int.mul_one]; omega
      have h6 : (n - t + r - 1) / r ≤ (n - t) * r / r := Int.ediv_le_ediv (by omega) (by omega)
      rwa [Int.mul_ediv_cancel _ (by omega)] at h6
    rw [Int.mul_comm] at e
    refine ⟨q0, by omega, ?_, fun _ => ?_⟩
    · rw [lapse_eq h1 ht q0]; omega
    · rw [lapse_eq h1 ht (by omega), Int.sub_mul, Int.one_mul]; omega
end Go.Proofs.Ytamjhaomdfeemaa
