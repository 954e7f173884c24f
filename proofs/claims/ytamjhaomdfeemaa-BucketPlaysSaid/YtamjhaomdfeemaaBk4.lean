/- Walks of the token bucket (package bucket) and of the law BucketNone; no condition on the input. -/
import Derived.Test.YtamjhaomdfeemaaBk3
namespace Go.Proofs.Ytamjhaomdfeemaa
open Go.RowKit Go.Wb
set_option linter.unusedVariables false

/-! one that is not there -/
theorem left_nil (w : World) : Calls Try.prog 40 #[.pointer none] w fun e w' => e = .returned (.int .u32 0) ∧ w = w' := by
  have HC := Lib.hid (none_nil w)
  go_enter Try.func40, Try.ntmps40
  go_wp2_with fail
  refine (HC.out).mono ?_
  rintro e w' ⟨rfl, rfl⟩
  go_wp2_with fail
  go_ret
  exact ⟨rfl, rfl⟩
theorem copy_nil (w : World) : Calls Try.prog 43 #[.pointer none] w fun e w' => e = .returned (.pointer none) ∧ w = w' := by
  have HC := Lib.hid (none_nil w)
  go_enter Try.func43, Try.ntmps43
  go_wp2_with fail
  refine (HC.out).mono ?_
  rintro e w' ⟨rfl, rfl⟩
  go_wp2_with fail
  go_ret
  exact ⟨rfl, rfl⟩
theorem take_nil (n : Int) (w : World) : Calls Try.prog 38 #[.pointer none, .int .u32 n] w fun e w' => e = .returned (.bool false) ∧ w = w' := by
  have HC := Lib.hid (none_nil w)
  go_enter Try.func38, Try.ntmps38
  go_wp2_with fail
  refine (HC.out).mono ?_
  rintro e w' ⟨rfl, rfl⟩
  go_wp2_with fail
  go_ret
  exact ⟨rfl, rfl⟩
theorem lapse_nil (n : Int) (w : World) : Calls Try.prog 39 #[.pointer none, .int .u64 n] w fun e w' => e = .returned (.tuple #[]) ∧ w = w' := by
  have HC := Lib.hid (none_nil w)
  go_enter Try.func39, Try.ntmps39
  go_wp2_with fail
  refine (HC.out).mono ?_
  rintro e w' ⟨rfl, rfl⟩
  go_wp2_with fail
  refine bodyPost_ret (results_none rfl _ _ _) rfl ?_
  exact ⟨rfl, rfl⟩
theorem until_nil (n : Int) (w : World) : Calls Try.prog 44 #[.pointer none, .int .u32 n] w fun e w' => e = .returned (.tuple #[.int .u64 0, .bool false]) ∧ w = w' := by
  have HC := Lib.hid (none_nil w)
  go_enter Try.func44, Try.ntmps44
  go_wp2_with fail
  refine (HC.out).mono ?_
  rintro e w' ⟨rfl, rfl⟩
  go_wp2_with fail
  go_ret2
  exact ⟨rfl, rfl⟩
theorem set_nil (n m : Int) (w : World) : Calls Try.prog 60 #[.pointer none, .int .u32 n, .int .u32 m] w fun e w' => e = .returned (.int .i64 1) ∧ w = w' := by
  have HC := Lib.hid (none_nil w)
  go_enter Try.func60, Try.ntmps60
  go_wp2_with fail
  refine (HC.out).mono ?_
  rintro e w' ⟨rfl, rfl⟩
  go_wp2_with fail
  go_ret
  exact ⟨rfl, rfl⟩

/-! one that was not made -/
section
variable (b : Nat) (w : World) (h0 : w.cell? ⟨b, 0, none⟩ = some (.int .u32 0))
include h0
theorem none_zero : Calls Try.prog 71 #[.pointer (some ⟨b, 0, none⟩)] w fun e w' => e = .returned (.bool true) ∧ w = w' :=
  (none_at b 0 w h0).mono fun _ _ h => ⟨h.1, h.2⟩
theorem left_zero : Calls Try.prog 40 #[.pointer (some ⟨b, 0, none⟩)] w fun e w' => e = .returned (.int .u32 0) ∧ w = w' := by
  have HC := Lib.hid (none_zero b w h0)
  go_enter Try.func40, Try.ntmps40
  go_wp2_with fail
  refine (HC.out).mono ?_
  rintro e w' ⟨rfl, rfl⟩
  go_wp2_with fail
  go_ret
  exact ⟨rfl, rfl⟩
theorem copy_zero : Calls Try.prog 43 #[.pointer (some ⟨b, 0, none⟩)] w fun e w' => e = .returned (.pointer none) ∧ w = w' := by
  have HC := Lib.hid (none_zero b w h0)
  go_enter Try.func43, Try.ntmps43
  go_wp2_with fail
  refine (HC.out).mono ?_
  rintro e w' ⟨rfl, rfl⟩
  go_wp2_with fail
  go_ret
  exact ⟨rfl, rfl⟩
theorem take_zero (n : Int) : Calls Try.prog 38 #[.pointer (some ⟨b, 0, none⟩), .int .u32 n] w fun e w' => e = .returned (.bool false) ∧ w = w' := by
  have HC := Lib.hid (none_zero b w h0)
  go_enter Try.func38, Try.ntmps38
  go_wp2_with fail
  refine (HC.out).mono ?_
  rintro e w' ⟨rfl, rfl⟩
  go_wp2_with fail
  go_ret
  exact ⟨rfl, rfl⟩
theorem lapse_zero (n : Int) : Calls Try.prog 39 #[.pointer (some ⟨b, 0, none⟩), .int .u64 n] w fun e w' => e = .returned (.tuple #[]) ∧ w = w' := by
  have HC := Lib.hid (none_zero b w h0)
  go_enter Try.func39, Try.ntmps39
  go_wp2_with fail
  refine (HC.out).mono ?_
  rintro e w' ⟨rfl, rfl⟩
  go_wp2_with fail
  refine bodyPost_ret (results_none rfl _ _ _) rfl ?_
  exact ⟨rfl, rfl⟩
theorem until_zero (n : Int) : Calls Try.prog 44 #[.pointer (some ⟨b, 0, none⟩), .int .u32 n] w fun e w' => e = .returned (.tuple #[.int .u64 0, .bool false]) ∧ w = w' := by
  have HC := Lib.hid (none_zero b w h0)
  go_enter Try.func44, Try.ntmps44
  go_wp2_with fail
  refine (HC.out).mono ?_
  rintro e w' ⟨rfl, rfl⟩
  go_wp2_with fail
  go_ret2
  exact ⟨rfl, rfl⟩
theorem set_zero (n m : Int) : Calls Try.prog 60 #[.pointer (some ⟨b, 0, none⟩), .int .u32 n, .int .u32 m] w fun e w' => e = .returned (.int .i64 1) ∧ w = w' := by
  have HC := Lib.hid (none_zero b w h0)
  go_enter Try.func60, Try.ntmps60
  go_wp2_with fail
  refine (HC.out).mono ?_
  rintro e w' ⟨rfl, rfl⟩
  go_wp2_with fail
  go_ret
  exact ⟨rfl, rfl⟩
end

theorem new_yes (r u : Int) (w : World) (hm : may r u = true) :
    Calls Try.prog 36 #[.int .u32 r, .int .u32 u] w fun e w' => e = .returned (.tuple #[.pointer (some ⟨w.heap.size, 0, none⟩), .int .i64 0]) ∧ w' = w.alloc (Bk r u u) :=
  (new_any r u w).mono fun _ _ h => h.1 hm
theorem new_no (r u : Int) (w : World) (hm : may r u = false) :
    Calls Try.prog 36 #[.int .u32 r, .int .u32 u] w fun e w' => e = .returned (.tuple #[.pointer none, .int .i64 2]) ∧ w = w' :=
  (new_any r u w).mono fun _ _ h => ⟨(h.2 hm).1, (h.2 hm).2.symm⟩

set_option maxRecDepth 100000 in
theorem known_any (w : World) : Calls Try.prog 37 #[] w fun e w' => e = .returned (.bool true) ∧ Below w.heap.size w w' := by
  go_enter Try.func37, Try.ntmps37
  go_wp2_with fail
  refine (new_yes 2 5 w rfl).mono ?_
  rintro e w1 ⟨rfl, rfl⟩
  go_wp2_with fail
  have hb0 := Lib.hid (heap_alloc_new w (Bk 2 5 5))
  have k0 := Lib.hid ((But.refl w.heap.size w).alloc (Bk 2 5 5))
  generalize w.alloc (Bk 2 5 5) = w1 at *
  refine (take_at _ 2 5 5 4 w1 hb0.out rfl (by omega) (by omega) (by omega)).mono ?_
  rintro e w2 ⟨rfl, hk, hb⟩
  have k1 := Lib.hid (k0.out.trans hk)
  have hb1 := Lib.hid hb
  clear hk hb k0 hb0
  rw [if_pos (by omega)] at hb1
  go_wp2_with fail
  refine (take_at _ 2 5 (5 - 4) 2 w2 hb1.out rfl (by omega) (by omega) (by omega)).mono ?_
  rintro e w3 ⟨rfl, hk, hb⟩
  have k2 := Lib.hid (k1.out.trans hk)
  have hb2 := Lib.hid hb
  clear hk hb k1 hb1
  rw [if_neg (by omega)] at hb2
  go_wp2_with fail
  refine (until_at _ 2 5 (5 - 4) 2 w3 hb2.out rfl (by omega) (by omega) (by omega) (by omega) (by omega) (by omega) (by omega)).mono ?_
  rintro e w4 ⟨rfl, hk, hb⟩
  have k3 := Lib.hid (k2.out.trans hk)
  have hb3 := Lib.hid hb
  clear hk hb k2 hb2
  rw [show until1 2 5 (5 - 4) 2 = 1 from by decide]
  go_wp2_with fail
  refine (lapse_at _ 2 5 (5 - 4) 1 w4 hb3.out rfl (by omega) (by omega) (by omega) (by omega) (by omega) (by omega) (by omega)).mono ?_
  rintro e w5 ⟨rfl, hk, hb⟩
  have k4 := Lib.hid (k3.out.trans hk)
  have hb4 := Lib.hid hb
  clear hk hb k3 hb3
  rw [show lapse 2 5 (5 - 4) 1 = 3 from by decide] at hb4
  go_wp2_with fail
  refine (take_at _ 2 5 3 2 w5 hb4.out rfl (by omega) (by omega) (by omega)).mono ?_
  rintro e w6 ⟨rfl, hk, hb⟩
  have k5 := Lib.hid (k4.out.trans hk)
  have hb5 := Lib.hid hb
  clear hk hb k4 hb4
  rw [if_pos (by omega)] at hb5
  go_wp2_with fail
  refine (left_at _ 2 5 (3 - 2) w6 hb5.out rfl).mono ?_
  rintro e w7 ⟨rfl, rfl⟩
  go_wp2_with fail
  go_ret
  exact ⟨rfl, k5.out.below (Nat.le_refl _) (Nat.le_refl _)⟩
end Go.Proofs.Ytamjhaomdfeemaa
