/- Chains of headers: the plain law. -/
import Derived.Test.YtamjhaomdfeemaaCh
namespace Go.Proofs.Ytamjhaomdfeemaa
open Go.RowKit Go.Wb
set_option linter.unusedVariables false
set_option linter.unusedSimpArgs false

def kindOf (x : Int) : Int := if x % 3 = 0 then 43 else if x % 3 = 1 then 60 else 44
def wordsOf (x : Int) : Nat := if x % 3 = 2 then 0 else (x / 3 % 4).toNat
/-- A header: the next one's kind, how many words more, nothing else. -/
def hdr (nx : Int) (w : Nat) : List Int := nx :: (w : Int) :: List.replicate (6 + 8 * w) 0
/-- The chain of a list, and the kind of its first header. -/
def bld (proto : Int) : List Int → List Int × Int
  | [] => ([], proto)
  | x :: xs => (hdr (bld proto xs).2 (wordsOf x) ++ (bld proto xs).1, kindOf x)

theorem wordsOf_le (x : Int) : wordsOf x ≤ 3 := by unfold wordsOf; split <;> omega
theorem hdr_len (nx : Int) (w : Nat) : (hdr nx w).length = 8 + 8 * w := by simp [hdr]; omega
theorem kindOf_cases (x : Int) : kindOf x = 43 ∨ kindOf x = 60 ∨ (kindOf x = 44 ∧ wordsOf x = 0) := by
  unfold kindOf wordsOf
  by_cases h0 : x % 3 = 0
  · simp [h0]
  · by_cases h1 : x % 3 = 1
    · simp [h1]
    · have : x % 3 = 2 := by omega
      simp [this]
theorem kindOf_ext (x : Int) : isExt (kindOf x) := by
  unfold isExt; rcases kindOf_cases x with h | h | h <;> omega
theorem kindOf_range (x : Int) : 0 ≤ kindOf x ∧ kindOf x ≤ 255 := by rcases kindOf_cases x with h | h | h <;> omega
theorem bld_range (proto : Int) (p0 : 0 ≤ proto) (p1 : proto ≤ 255) : ∀ l, (∀ x ∈ (bld proto l).1, 0 ≤ x ∧ x ≤ 255) ∧ 0 ≤ (bld proto l).2 ∧ (bld proto l).2 ≤ 255
  | [] => ⟨by simp [bld], p0, p1⟩
  | x :: xs => by
    obtain ⟨h1, h2, h3⟩ := bld_range proto p0 p1 xs
    refine ⟨fun y hy => ?_, kindOf_range x⟩
    rcases List.mem_append.1 hy with hy | hy
    · have := wordsOf_le x
      simp only [hdr, List.mem_cons, List.mem_replicate] at hy
      rcases hy with rfl | rfl | ⟨_, rfl⟩ <;> omega
    · exact h1 y hy
theorem bld_len (proto : Int) : ∀ l, (bld proto l).1.length ≤ 32 * l.length
  | [] => by simp [bld]
  | x :: xs => by
    have := bld_len proto xs
    have := wordsOf_le x
    simp only [bld, List.length_append, hdr_len, List.length_cons]
    omega
theorem bld_pos (proto : Int) {l : List Int} (h : l ≠ []) : 8 ≤ (bld proto l).1.length := by
  cases l with
  | nil => exact absurd rfl h
  | cons x xs => simp only [bld, List.length_append, hdr_len]; omega

theorem hdr_getD {nx : Int} {w : Nat} {b : List Int} : (hdr nx w ++ b).getD 0 0 = nx ∧ (hdr nx w ++ b).getD 1 0 = w ∧ (hdr nx w ++ b).getD 2 0 = 0 ∧ (hdr nx w ++ b).getD 3 0 = 0 := by
  have h : List.replicate (6 + 8 * w) (0 : Int) = 0 :: 0 :: List.replicate (4 + 8 * w) 0 := by
    rw [show 6 + 8 * w = (4 + 8 * w) + 1 + 1 from by omega, List.replicate_succ, List.replicate_succ]
  simp [hdr, h]
theorem hlen_hdr {x nx : Int} {b : List Int} : hlen (kindOf x) (hdr nx (wordsOf x) ++ b) = 8 + 8 * (wordsOf x : Int) := by
  unfold hlen
  rw [hdr_getD.2.1]
  rcases kindOf_cases x with h | h | ⟨h, hw⟩
  · rw [if_neg (by omega)]; omega
  · rw [if_neg (by omega)]; omega
  · rw [if_pos h, hw]; rfl
theorem herr_hdr {x nx : Int} {b : List Int} : herr2 (kindOf x) (hdr nx (wordsOf x) ++ b) = 0 := by
  unfold herr2 k3e k4e
  rw [hdr_getD.2.2.1, hdr_getD.2.2.2]
  split
  · rfl
  · split <;> rfl
theorem kindOf_ne (x : Int) : kindOf x ≠ 0 := by rcases kindOf_cases x with h | h | h <;> omega

/-- One header of such a chain. -/
theorem chain_hdr {f j : Nat} {x nx k : Int} {b : List Int} (hj : j < 8) : chainF (f + 1) (kindOf x) (hdr nx (wordsOf x) ++ b) j k = chainF f nx b (j + 1) (k + (8 + 8 * (wordsOf x : Int))) := by
  rw [chainF, if_neg (by simpa using kindOf_ext x), if_neg (by omega), if_neg (fun h => kindOf_ne x h.1), if_neg (by rw [List.length_append, hdr_len]; omega),
    if_neg (by rw [hlen_hdr, List.length_append, hdr_len]; omega), if_pos herr_hdr, hlen_hdr, hdr_getD.1]
  have e : (8 + 8 * (wordsOf x : Int)).toNat = (hdr nx (wordsOf x)).length := by rw [hdr_len]; omega
  rw [e, List.drop_left]

theorem chain_good (proto : Int) (hp : ¬ isExt proto) : ∀ (l : List Int) (f j : Nat) (k : Int), l.length < f → j + l.length ≤ 8 → chainF f (bld proto l).2 (bld proto l).1 j k = (proto, k + (bld proto l).1.length, 0)
  | [], f + 1, j, k, _, _ => by rw [chainF, if_pos (show ¬ isExt (bld proto []).2 from hp)]; simp [bld]
  | x :: xs, f + 1, j, k, hf, hj => by
    have ih := chain_good proto hp xs f (j + 1) (k + (8 + 8 * (wordsOf x : Int))) (by simpa using hf) (by simp at hj; omega)
    rw [bld]
    simp only
    rw [chain_hdr (by simp at hj; omega), ih]
    simp only [List.length_append, hdr_len]
    congr 2
    omega

theorem chain_long (proto : Int) : ∀ (l : List Int) (f j : Nat) (k : Int), 9 ≤ f + j → j ≤ 8 → 8 < j + l.length → chainF f (bld proto l).2 (bld proto l).1 j k = (0, 0, 3)
  | [], f, j, k, _, h1, h2 => by simp at h2; omega
  | x :: xs, 0, j, k, h0, h1, h2 => by omega
  | x :: xs, f + 1, j, k, h0, h1, h2 => by
    by_cases hj : j = 8
    · subst hj
      rw [bld, chainF, if_neg (by simpa using kindOf_ext x), if_pos (by omega)]
    · have ih := chain_long proto xs f (j + 1) (k + (8 + 8 * (wordsOf x : Int))) (by omega) (by omega) (by simp at h2; omega)
      rw [bld]
      simp only
      rw [chain_hdr (by omega), ih]

theorem chain_cut (proto : Int) : ∀ (l : List Int) (f j m : Nat) (k : Int), l.length < f → j + l.length ≤ 8 → m < (bld proto l).1.length → ∃ q r, chainF f (bld proto l).2 ((bld proto l).1.take m) j k = (q, r, 4)
  | [], f, j, m, k, _, _, hm => by simp [bld] at hm
  | x :: xs, f + 1, j, m, k, hf, hj, hm => by
    rw [bld]
    simp only
    rw [bld] at hm
    simp only [List.length_append, hdr_len] at hm
    simp only [List.length_cons] at hj hf
    have hlt : ((hdr (bld proto xs).2 (wordsOf x) ++ (bld proto xs).1).take m).length = m := by rw [List.length_take, List.length_append, hdr_len]; omega
    by_cases h8 : m < 8
    · refine ⟨0, 0, ?_⟩
      rw [chainF, if_neg (by simpa using kindOf_ext x), if_neg (by omega), if_neg (fun h => kindOf_ne x h.1), if_pos (by rw [hlt]; exact h8)]
    · by_cases hw : m < 8 + 8 * wordsOf x
      · refine ⟨0, 0, ?_⟩
        have hg : ((hdr (bld proto xs).2 (wordsOf x) ++ (bld proto xs).1).take m).getD 1 0 = (wordsOf x : Int) := by
          rw [List.getD_eq_getElem?_getD, List.getElem?_take_of_lt (by omega), ← List.getD_eq_getElem?_getD, hdr_getD.2.1]
        rw [chainF, if_neg (by simpa using kindOf_ext x), if_neg (by omega), if_neg (fun h => kindOf_ne x h.1), if_neg (by rw [hlt]; exact h8), if_pos]
        rw [hlt]
        unfold hlen
        rw [hg]
        rcases kindOf_cases x with h | h | ⟨h, h0⟩
        · rw [if_neg (by omega)]; omega
        · rw [if_neg (by omega)]; omega
        · omega
      · obtain ⟨m', rfl⟩ : ∃ m', m = (hdr (bld proto xs).2 (wordsOf x)).length + m' := ⟨m - (8 + 8 * wordsOf x), by rw [hdr_len]; omega⟩
        rw [List.take_length_add_append]
        rw [hdr_len] at hm
        obtain ⟨q, r, h⟩ := chain_cut proto xs f (j + 1) m' (k + (8 + 8 * (wordsOf x : Int))) (by omega) (by omega) (by omega)
        exact ⟨q, r, by rw [chain_hdr (by omega), h]⟩
end Go.Proofs.Ytamjhaomdfeemaa
