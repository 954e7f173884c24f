/- A machine of values: arrays of bytes compared; bytes turned by a loop. -/
import Derived.Test.YtmdafjegddnecaaGa
namespace Go.Proofs.Ytmdafjegddnecaa
open Go.Pm
set_option linter.unusedVariables false
set_option linter.unusedSimpArgs false
@[simp] theorem valsOf_B8 (zs : List Int) : valsOf (B8 zs) = some (zs.map (Value.int .u8)) := by
  induction zs with
  | nil => rfl
  | cons z zs ih => show (valsOf (B8 zs)).map _ = _; rw [ih]; rfl
theorem pairOk_ints {ss ds : List Int} (h : ss.length = ds.length) : pairOk (ss.map fun _ => LK.int) (ss.map (Value.int .u8)) (ds.map (Value.int .u8)) = true := by
  induction ss generalizing ds with
  | nil => cases ds with
    | nil => rfl
    | cons d ds => simp at h
  | cons s ss ih => cases ds with
    | nil => simp at h
    | cons d ds => simp only [List.map_cons, pairOk, leafOk, decide_true, Bool.true_and]; exact ih (by simpa using h)
theorem kinds_of {n : Nat} {ss : List Int} (h : ss.length = n) : (ss.map fun _ => LK.int) = List.replicate n LK.int := by
  subst h
  induction ss with
  | nil => rfl
  | cons s ss ih => simp [List.replicate_succ]; exact ih
theorem pairOk16 {ss ds : List Int} (h : ss.length = 16) (h2 : ds.length = 16) : pairOk [.int, .int, .int, .int, .int, .int, .int, .int, .int, .int, .int, .int, .int, .int, .int, .int] (ss.map (Value.int .u8)) (ds.map (Value.int .u8)) = true := by
  have := pairOk_ints (ss := ss) (ds := ds) (by omega)
  rwa [kinds_of h] at this
theorem pairOk12 {ss ds : List Int} (h : ss.length = 12) (h2 : ds.length = 12) : pairOk [.int, .int, .int, .int, .int, .int, .int, .int, .int, .int, .int, .int] (ss.map (Value.int .u8)) (ds.map (Value.int .u8)) = true := by
  have := pairOk_ints (ss := ss) (ds := ds) (by omega)
  rwa [kinds_of h] at this
theorem eqV_ints {ss ds : List Int} (h : ss.length = ds.length) : eqV (ss.map (Value.int .u8)) (ds.map (Value.int .u8)) = decide (ss = ds) := by
  unfold eqV
  induction ss generalizing ds with
  | nil => cases ds with
    | nil => rfl
    | cons d ds => simp at h
  | cons s ss ih => cases ds with
    | nil => simp at h
    | cons d ds =>
      have := ih (ds := ds) (by simpa using h)
      rw [List.map_cons, List.map_cons, List.zip_cons_cons, List.all_cons, this, show vEq (Value.int .u8 s, Value.int .u8 d).1 (Value.int .u8 s, Value.int .u8 d).2 = (s == d) from rfl]
      by_cases h1 : s = d
      · subst h1; simp
      · simp [h1]
theorem eqV_same (ss : List Int) : eqV (ss.map (Value.int .u8)) (ss.map (Value.int .u8)) = true := by rw [eqV_ints rfl]; simp
theorem asB8_nil'' : asB8 [] = some [] := rfl
theorem asB8_cons'' (z : Int) (xs : List AV) : asB8 (.v (.int .u8 z) :: xs) = (asB8 xs).map (z :: ·) := rfl
end Go.Proofs.Ytmdafjegddnecaa
