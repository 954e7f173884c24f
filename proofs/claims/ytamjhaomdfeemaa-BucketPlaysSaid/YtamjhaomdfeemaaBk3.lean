/- Walks of the token bucket (package bucket) and of the law BucketNone; no condition on the input. -/
import Derived.Test.YtamjhaomdfeemaaBk2
namespace Go.Proofs.Ytamjhaomdfeemaa
open Go.RowKit Go.Wb
set_option linter.unusedVariables false

theorem copy_at (b : Nat) (r u t : Int) (w : World) (hb : w.heap[b]? = some (Bk r u t)) (hr : (r == 0) = false) :
    Calls Try.prog 43 #[.pointer (some ⟨b, 0, none⟩)] w fun e w' => e = .returned (.pointer (some ⟨w.heap.size, 0, none⟩)) ∧ w' = w.alloc (Bk r u t) := by
  have c0 := Bk.c0 hb
  have c1 := Bk.c1 hb
  have c2 := Bk.c2 hb
  have C := none_at b r w (Bk.c0 hb)
  rw [hr] at C
  have HC := Lib.hid C
  have HB := Lib.hid hb
  clear hb C hr
  go_enter Try.func43, Try.ntmps43
  go_wp2_with fail
  refine (HC.out).mono ?_
  rintro e w' ⟨rfl, rfl⟩
  go_wp2_with fail
  go_ret
  exact ⟨rfl, rfl⟩

def until1 (r u t n : Int) : Int := if u < n then 0 else if n ≤ t then 0 else (n - t + r - 1) / r
set_option maxRecDepth 100000 in
theorem until_at (b : Nat) (r u t n : Int) (w : World) (hb : w.heap[b]? = some (Bk r u t)) (hr : (r == 0) = false) (h1 : 1 ≤ r) (hu : u ≤ 1073741824) (ht : 0 ≤ t) (ht' : t ≤ u) (hr' : r ≤ u) (hn0 : 0 ≤ n) (hn' : n ≤ 4294967295) :
    Calls Try.prog 44 #[.pointer (some ⟨b, 0, none⟩), .int .u32 n] w fun e w' => e = .returned (.tuple #[.int .u64 (until1 r u t n), .bool (decide (n ≤ u))]) ∧ But b w w' ∧ w'.heap[b]? = some (Bk r u t) := by
  have c0 := Bk.c0 hb
  have c1 := Bk.c1 hb
  have c2 := Bk.c2 hb
  have C := none_at b r w (Bk.c0 hb)
  rw [hr] at C
  have HC := Lib.hid C
  have HB := Lib.hid hb
  clear hb C hr
  by_cases hn : u < n
  · go_enter Try.func44, Try.ntmps44
    go_wp2_with fail
    refine (HC.out).mono ?_
    rintro e w' ⟨rfl, rfl⟩
    go_wp2_with fail
    go_ret2
    exact ⟨by simp [until1, hn], But.refl _ _, HB.out⟩
  · by_cases hn2 : n ≤ t
    · go_enter Try.func44, Try.ntmps44
      go_wp2_with fail
      refine (HC.out).mono ?_
      rintro e w' ⟨rfl, rfl⟩
      go_wp2_with fail
      go_ret2
      exact ⟨by simp [until1, hn, hn2], But.refl _ _, HB.out⟩
    · go_enter Try.func44, Try.ntmps44
      go_wp2_with fail
      refine (HC.out).mono ?_
      rintro e w' ⟨rfl, rfl⟩
      go_wp2_with fail
      go_quiet (fail)
      go_wp2_with fail
      go_ret2
      refine ⟨?_, (But.refl _ _).drewN _, HB.out⟩
      simp [until1, hn]; omega

set_option maxRecDepth 100000 in
theorem set_at (b : Nat) (r u t n m : Int) (w : World) (hb : w.heap[b]? = some (Bk r u t)) (hr : (r == 0) = false) :
    Calls Try.prog 60 #[.pointer (some ⟨b, 0, none⟩), .int .u32 n, .int .u32 m] w fun e w' => e = .returned (.int .i64 (if may n m then 0 else 2)) ∧ But b w w' ∧
      w'.heap[b]? = some (if may n m then Bk n m (min t m) else Bk r u t) := by
  have c0 := Bk.c0 hb
  have c1 := Bk.c1 hb
  have c2 := Bk.c2 hb
  have f0 := Bk.f hb 0
  have f1 := Bk.f hb 1
  have f2 := Bk.f hb 2
  have C := none_at b r w (Bk.c0 hb)
  rw [hr] at C
  have HC := Lib.hid C
  have HB := Lib.hid hb
  clear hb C hr
  cases hm : may n m
  · have CM := may_any n m w
    rw [hm] at CM
    have HM := Lib.hid CM
    clear CM hm
    go_enter Try.func60, Try.ntmps60
    go_wp2_with fail
    refine (HC.out).mono ?_
    rintro e w' ⟨rfl, rfl⟩
    go_wp2_with fail
    refine (HM.out).mono ?_
    rintro e w' ⟨rfl, rfl⟩
    go_wp2_with fail
    go_ret
    exact ⟨by simp, But.refl _ _, by rw [HB.out]⟩
  · have CM := may_any n m w
    rw [hm] at CM
    have HM := Lib.hid CM
    clear CM hm
    go_enter Try.func60, Try.ntmps60
    go_wp2_with fail
    refine (HC.out).mono ?_
    rintro e w' ⟨rfl, rfl⟩
    go_wp2_with fail
    refine (HM.out).mono ?_
    rintro e w' ⟨rfl, rfl⟩
    go_wp2_with fail
    all_goals
      go_ret
      refine ⟨by simp, ((But.set1 _ _ _ _).trans (But.set1 _ _ _ _)).trans (But.set1 _ _ _ _), ?_⟩
      rw [heap_setCell (heap_setCell (heap_setCell HB.out))]
      simp [Bk]
      omega
end Go.Proofs.Ytamjhaomdfeemaa
