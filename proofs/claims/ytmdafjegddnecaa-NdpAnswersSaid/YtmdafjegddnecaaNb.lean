/- Neighbours' messages: an advertisement's bytes, by the reference's writer. -/
import Derived.Test.YtmdafjegddnecaaTx
import Derived.Test.YtmdafjegddnecaaNa
namespace Go.Proofs.Ytmdafjegddnecaa
open Go.Pm Go.Wb
set_option linter.unusedVariables false
set_option linter.unusedSimpArgs false
set_option maxRecDepth 1000000
set_option maxHeartbeats 32000000 in
theorem nrwrite_run (S D : List Int) (s : Bool) (q0 q1 q2 q3 q4 q5 q6 q7 q8 q9 q10 q11 q12 q13 q14 q15 m0 m1 m2 m3 m4 m5 : Int) (hS : S.length = 16) (hD : D.length = 16) (bS : bytesB S = true) (bD : bytesB D = true) (bT : bytesB [q0, q1, q2, q3, q4, q5, q6, q7, q8, q9, q10, q11, q12, q13, q14, q15] = true) (bM : bytesB [m0, m1, m2, m3, m4, m5] = true) : runF Try.prog KNW Dm 100000 1 125 [.agg (B8 S), .agg (B8 D), ndA true false s true [q0, q1, q2, q3, q4, q5, q6, q7, q8, q9, q10, q11, q12, q13, q14, q15] true [m0, m1, m2, m3, m4, m5]] = some (nwV S D s [q0, q1, q2, q3, q4, q5, q6, q7, q8, q9, q10, q11, q12, q13, q14, q15] [m0, m1, m2, m3, m4, m5]) := by
  have t1 : S.take 16 = S := List.take_of_length_le (by omega)
  have t2 : D.take 16 = D := List.take_of_length_le (by omega)
  have k1 : IntKind.u8.wrap 1 = 1 := by decide
  have k2 : IntKind.u8.wrap 2 = 2 := by decide
  have k3 : IntKind.u8.wrap 32 = 32 := by decide
  have k4 : IntKind.u8.wrap 64 = 64 := by decide
  have k5 : IntKind.u8.wrap 96 = 96 := by decide
  have o1 : bits .or .u8 0 64 = 64 := by decide
  have o2 : bits .or .u8 64 32 = 96 := by decide
  have o3 : bits .or .u8 0 32 = 32 := by decide
  unfold runF nwV
  rw [pvCall_own (fn := Try.f125) rfl Try.func125 rfl (by decide) rfl rfl (by simp)]
  by_cases h : q0 = 255
  · subst h
    have h1 : gb [255, q1, q2, q3, q4, q5, q6, q7, q8, q9, q10, q11, q12, q13, q14, q15] 0 = 255 := rfl
    simp -implicitDefEqProofs [h1, ndA, fNMany, asB8_nil'', asB8_cons'', B8vc, B8vn, hS, hD, t1, t2, ewE, splice]
  have h1 : ¬ gb [q0, q1, q2, q3, q4, q5, q6, q7, q8, q9, q10, q11, q12, q13, q14, q15] 0 = 255 := h
  have h2 : (q0 == 255) = false := by simp [h]
  have hgm : ∀ b : Int, 0 ≤ b → b ≤ 255 → goodM S D (136 :: 0 :: 0 :: 0 :: b :: 0 :: 0 :: 0 :: ([q0, q1, q2, q3, q4, q5, q6, q7, q8, q9, q10, q11, q12, q13, q14, q15] ++ (2 :: 1 :: [m0, m1, m2, m3, m4, m5]))) 32 := fun b b0 b1 => ⟨rfl, by decide, hS, hD, by simp only [bytesB_cons, bytesB_append, bT, bM]; simp [b0, b1], bS, bD⟩
  have bz : ∀ b : Int, 0 ≤ b → b ≤ 255 → bytesB (136 :: 0 :: 0 :: 0 :: b :: 0 :: 0 :: 0 :: ([q0, q1, q2, q3, q4, q5, q6, q7, q8, q9, q10, q11, q12, q13, q14, q15] ++ (2 :: 1 :: [m0, m1, m2, m3, m4, m5]))) = true := fun b b0 b1 => (hgm b b0 b1).2.2.2.2.1
  simp only [List.cons_append, List.nil_append] at hgm bz
  cases s with
  | true =>
    have hgk := hgm 96 (by decide) (by decide)
    have hbk := bz 96 (by decide) (by decide)
    have hK := eskV_range (v6 := true) hgk.2.2.2.2.1 bS bD
    have hX : nwX true [q0, q1, q2, q3, q4, q5, q6, q7, q8, q9, q10, q11, q12, q13, q14, q15] [m0, m1, m2, m3, m4, m5] = 96 :: 0 :: 0 :: 0 :: ([q0, q1, q2, q3, q4, q5, q6, q7, q8, q9, q10, q11, q12, q13, q14, q15] ++ (2 :: 1 :: [m0, m1, m2, m3, m4, m5])) := rfl
    rw [hX]
    simp only [List.cons_append, List.nil_append] at hK ⊢
    generalize hKe : skV true S D [136, 0, 0, 0, 96, 0, 0, 0, q0, q1, q2, q3, q4, q5, q6, q7, q8, q9, q10, q11, q12, q13, q14, q15, 2, 1, m0, m1, m2, m3, m4, m5] = K at *
    have hKc : ck true S D 58 [136, 0, 0, 0, 96, 0, 0, 0, q0, q1, q2, q3, q4, q5, q6, q7, q8, q9, q10, q11, q12, q13, q14, q15, 2, 1, m0, m1, m2, m3, m4, m5] = K := hKe
    have r1 : K.fdiv 256 = K / 256 := Int.fdiv_eq_ediv_of_nonneg _ (by omega)
    have r2 : K.tdiv 256 = K / 256 := Int.tdiv_eq_ediv_of_nonneg (by omega)
    have r3 : K.tmod 256 = K % 256 := Int.tmod_eq_emod_of_nonneg (by omega)
    have r4 : IntKind.u8.wrap (K / 256) = K / 256 := wrapu8_id (by omega) (by omega)
    have r5 : IntKind.u8.wrap (K % 256) = K % 256 := wrapu8_id (by omega) (by omega)
    have r6 : IntKind.u8.wrap K = K % 256 := by simp [IntKind.wrap, IntKind.signed, IntKind.bits]
    have r7 : IntKind.u16.wrap (K / 256) = K / 256 := wrapu16_id (by omega) (by omega)
    have r8 : IntKind.u16.wrap (K % 256) = K % 256 := wrapu16_id (by omega) (by omega)
    simp (maxSteps := 3000000) -implicitDefEqProofs [k1, k2, k3, k4, k5, o1, o2, o3, h, h1, h2, hgk, hbk, hKe, hKc, r1, r2, r3, r4, r5, r6, r7, r8, ndA, nwM, fNMany, fNSeal, fSealed, fCk, hS, hD, bS, bD, t1, t2, loopK_pos, asB8_nil'', asB8_cons'', B8vc, B8vn, ewC, IntKind.bits, Nat.testBit_eq_decide_div_mod_eq, List.replicate_succ, splice]
  | false =>
    have hgk := hgm 32 (by decide) (by decide)
    have hbk := bz 32 (by decide) (by decide)
    have hK := eskV_range (v6 := true) hgk.2.2.2.2.1 bS bD
    have hX : nwX false [q0, q1, q2, q3, q4, q5, q6, q7, q8, q9, q10, q11, q12, q13, q14, q15] [m0, m1, m2, m3, m4, m5] = 32 :: 0 :: 0 :: 0 :: ([q0, q1, q2, q3, q4, q5, q6, q7, q8, q9, q10, q11, q12, q13, q14, q15] ++ (2 :: 1 :: [m0, m1, m2, m3, m4, m5])) := rfl
    rw [hX]
    simp only [List.cons_append, List.nil_append] at hK ⊢
    generalize hKe : skV true S D [136, 0, 0, 0, 32, 0, 0, 0, q0, q1, q2, q3, q4, q5, q6, q7, q8, q9, q10, q11, q12, q13, q14, q15, 2, 1, m0, m1, m2, m3, m4, m5] = K at *
    have hKc : ck true S D 58 [136, 0, 0, 0, 32, 0, 0, 0, q0, q1, q2, q3, q4, q5, q6, q7, q8, q9, q10, q11, q12, q13, q14, q15, 2, 1, m0, m1, m2, m3, m4, m5] = K := hKe
    have r1 : K.fdiv 256 = K / 256 := Int.fdiv_eq_ediv_of_nonneg _ (by omega)
    have r2 : K.tdiv 256 = K / 256 := Int.tdiv_eq_ediv_of_nonneg (by omega)
    have r3 : K.tmod 256 = K % 256 := Int.tmod_eq_emod_of_nonneg (by omega)
    have r4 : IntKind.u8.wrap (K / 256) = K / 256 := wrapu8_id (by omega) (by omega)
    have r5 : IntKind.u8.wrap (K % 256) = K % 256 := wrapu8_id (by omega) (by omega)
    have r6 : IntKind.u8.wrap K = K % 256 := by simp [IntKind.wrap, IntKind.signed, IntKind.bits]
    have r7 : IntKind.u16.wrap (K / 256) = K / 256 := wrapu16_id (by omega) (by omega)
    have r8 : IntKind.u16.wrap (K % 256) = K % 256 := wrapu16_id (by omega) (by omega)
    simp (maxSteps := 3000000) -implicitDefEqProofs [k1, k2, k3, k4, k5, o1, o2, o3, h, h1, h2, hgk, hbk, hKe, hKc, r1, r2, r3, r4, r5, r6, r7, r8, ndA, nwM, fNMany, fNSeal, fSealed, fCk, hS, hD, bS, bD, t1, t2, loopK_pos, asB8_nil'', asB8_cons'', B8vc, B8vn, ewC, IntKind.bits, Nat.testBit_eq_decide_div_mod_eq, List.replicate_succ, splice]
end Go.Proofs.Ytmdafjegddnecaa
