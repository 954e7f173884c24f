/- The walk of the page's own example of package emit's tallies. -/
import Derived.Test.YtamjhaomdfeemaaAe
import Derived.Test.YtamjhaomdfeemaaEaP
import Derived.Test.YtamjhaomdfeemaaEeP
import Derived.Test.YtamjhaomdfeemaaEdP
namespace Go.Proofs.Ytamjhaomdfeemaa
open Go.RowKit Go.Wb
set_option linter.unusedVariables false

theorem ka (n : Int) (w : World) (n0 : 0 ≤ n) (n1 : n < 10) : Calls Try.prog 49 #[.agg (tl n 0 0 0 0 0 0)] w fun en w' => en = .returned (.tuple #[.agg (tl (n + 1) 0 0 0 0 0 0), .int .i64 0]) ∧ Below w.heap.size w w' :=
  acceptP_yes n 0 0 0 0 0 0 w n0 (Int.le_refl _) (Int.le_refl _) (Int.le_refl _) (Int.le_refl _) (Int.le_refl _) (Int.le_refl _) (by unfold tm; simp; omega) (by omega)
theorem ke (w : World) : Calls Try.prog 51 #[.agg (tl 2 0 0 0 0 0 0), .int .i64 60] w fun en w' => en = .returned (.tuple #[.agg (tl 2 1 60 0 0 0 0), .int .i64 0]) ∧ Below w.heap.size w w' := by
  have := emitP_yes 2 0 0 0 0 0 0 60 w (by omega) (Int.le_refl _) (Int.le_refl _) (Int.le_refl _) (Int.le_refl _) (Int.le_refl _) (Int.le_refl _) (by omega) (by unfold tm; simp) (by omega) (by omega) (by omega)
  simpa using this
theorem kd (w : World) : Calls Try.prog 53 #[.agg (tl 2 1 60 0 0 0 0), .int .u8 0] w fun en w' => en = .returned (.tuple #[.agg (tl 2 1 60 1 0 0 0), .int .i64 0]) ∧ Below w.heap.size w w' := by
  have := dropP_y0 2 1 60 0 0 0 0 0 w (by omega) (by omega) (by omega) (Int.le_refl _) (Int.le_refl _) (Int.le_refl _) (Int.le_refl _) rfl (by unfold tm; simp) (by omega)
  simpa using this
theorem kq1 (w : World) : Calls Try.prog 47 #[.agg (tl 2 1 60 0 0 0 0)] w fun en w' => en = .returned (.int .u64 1) ∧ Below w.heap.size w w' := by
  have := queuedP_yes 2 1 60 0 0 0 0 w (by omega) (by omega) (by omega) (Int.le_refl _) (Int.le_refl _) (Int.le_refl _) (Int.le_refl _) (by unfold tm; simp)
  simpa using this
theorem kq0 (w : World) : Calls Try.prog 47 #[.agg (tl 2 1 60 1 0 0 0)] w fun en w' => en = .returned (.int .u64 0) ∧ Below w.heap.size w w' := by
  have := queuedP_yes 2 1 60 1 0 0 0 w (by omega) (by omega) (by omega) (by omega) (Int.le_refl _) (Int.le_refl _) (Int.le_refl _) (by unfold tm; simp)
  simpa using this

theorem size31 (w : World) : (sizeOf 31).run Try.prog w = .ok 1 w := by kernel_rfl
theorem eq4_same (a b c d : Int) (w : World) : (Op.equalIn 9999 72 (.agg #[.int .u64 a, .int .u64 b, .int .u64 c, .int .u64 d]) (.agg #[.int .u64 a, .int .u64 b, .int .u64 c, .int .u64 d])).run Try.prog w = .ok true w := by
  have := run_equalIn_ints (P := Try.prog) w 9997 72 31 4 .u64 Try.underlying72 Try.underlying31 size31 [a, b, c, d] [a, b, c, d] rfl rfl
  simpa using this

set_option maxRecDepth 100000 in
set_option maxHeartbeats 2000000 in
theorem known30_any (w : World) : Calls Try.prog 55 #[] w fun e w' => e = .returned (.bool true) ∧ Below w.heap.size w w' := by
  have KA0 : Hid (∀ W : World, Calls Try.prog 49 #[.agg (tl 0 0 0 0 0 0 0)] W fun en w' => en = .returned (.tuple #[.agg (tl 1 0 0 0 0 0 0), .int .i64 0]) ∧ Below W.heap.size W w') := (fun W => ka 0 W (by omega) (by omega))
  have KA1 : Hid (∀ W : World, Calls Try.prog 49 #[.agg (tl 1 0 0 0 0 0 0)] W fun en w' => en = .returned (.tuple #[.agg (tl 2 0 0 0 0 0 0), .int .i64 0]) ∧ Below W.heap.size W w') := (fun W => ka 1 W (by omega) (by omega))
  have KE := Lib.hid ke
  have KD := Lib.hid kd
  have KQ1 := Lib.hid kq1
  have KQ0 := Lib.hid kq0
  have EQ := eq4_same 1 0 0 0
  unfold tl at *
  go_enter Try.func55, Try.ntmps55
  go_wp2_with fail
  refine (KA0.out _).mono ?_
  rintro e w1 ⟨rfl, hb⟩
  obtain ⟨hc1, hf1⟩ := bcell hb
  have hs1 := hb.size
  simp only [World.size_alloc] at hs1
  have B1 := Lib.hid (((Below.refl w.heap.size w).alloc (Nat.le_refl _) _).trans (hb.mono (by simp)))
  clear hb
  go_wp2_with fail
  refine (KA1.out _).mono ?_
  rintro e w2 ⟨rfl, hb⟩
  obtain ⟨hc2, hf2⟩ := bcell hb
  have hs2 := hb.size
  simp only [World.size_alloc] at hs2
  have B2 := Lib.hid ((B1.out.alloc (by omega) _).trans (hb.mono (by simp; omega)))
  clear hb
  go_wp2_with fail
  refine (KE.out _).mono ?_
  rintro e w3 ⟨rfl, hb⟩
  obtain ⟨hc3, hf3⟩ := bcell hb
  have hs3 := hb.size
  simp only [World.size_alloc] at hs3
  have B3 := Lib.hid ((B2.out.alloc (by omega) _).trans (hb.mono (by simp; omega)))
  clear hb
  go_wp2_with fail
  refine (KD.out _).mono ?_
  rintro e w4 ⟨rfl, hb⟩
  obtain ⟨hc4, hf4⟩ := bcell hb
  have hs4 := hb.size
  simp only [World.size_alloc] at hs4
  have hz4 : w3.heap.size < w4.heap.size := by omega
  have B4 := Lib.hid ((B3.out.alloc (by omega) _).trans (hb.mono (by simp; omega)))
  clear hb
  go_wp2_with fail
  refine (KQ1.out _).mono ?_
  rintro e w5 ⟨rfl, hb⟩
  obtain ⟨hc5, hf5⟩ := bcell hb
  have hs5 := hb.size
  simp only [World.size_alloc] at hs5
  have hz5 : w4.heap.size < w5.heap.size := by omega
  have B5 := Lib.hid ((B4.out.alloc (by omega) _).trans (hb.mono (by simp; omega)))
  clear hb
  go_wp2_with fail
  refine (KQ0.out _).mono ?_
  rintro e w6 ⟨rfl, hb⟩
  have B6 := Lib.hid (B5.out.trans (hb.mono (by omega)))
  clear hb
  go_wp2_with fail
  go_ret
  exact ⟨rfl, B6.out⟩
end Go.Proofs.Ytamjhaomdfeemaa
