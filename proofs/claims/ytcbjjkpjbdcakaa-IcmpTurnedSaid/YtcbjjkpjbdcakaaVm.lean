/- The law IcmpTurned as a function of values. -/
import Derived.Test.YtcbjjkpjbdcakaaVh
namespace Go.Proofs.Ytcbjjkpjbdcakaa
open Go.Pm Go.Wb
set_option linter.unusedVariables false
set_option linter.unusedSimpArgs false
set_option maxRecDepth 1000000
noncomputable def KT : Nat → Option Con
  | 43 => some fWithin
  | 44 => some fKnown6
  | _ => none
theorem kt_ok : KOk Try.prog KT := fun f F h => by
  unfold KT at h
  split at h
  · cases h; exact ⟨within_pure, _, Try.func43, rfl, by decide⟩
  · cases h; exact ⟨known6_pure, _, Try.func44, rfl, by decide⟩
  · cases h
section
variable {D : FuncId → Nat → List Nat} {L d px : Nat} {args : List AV} {m : Mem}
theorem ckt_within : pvCall Try.prog KT D L d px 43 args m = callBy fWithin m px args := pvCall_by rfl
theorem ckt_known : pvCall Try.prog KT D L d px 44 args m = callBy fKnown6 m px args := pvCall_by rfl
end
theorem ekt_within : KT 43 = some (.pure fWithin) := rfl
theorem ekt_known : KT 44 = some (.pure fKnown6) := rfl
attribute [simp] ckt_within ekt_within ckt_known ekt_known
theorem hdE_4 (zs : List Int) : hdE false zs = hd4E zs := rfl
theorem and224 (z : Int) (h0 : 0 ≤ z) (h1 : z ≤ 255) : bits .and .u8 z 224 = z / 32 * 32 := by
  have h : z < 256 := by omega
  go_bits2
theorem ty4t {s0 s1 s2 s3 s4 s5 s6 s7 s8 s9 s10 s11 s12 s13 s14 s15 d0 d1 d2 d3 d4 d5 d6 d7 d8 d9 d10 d11 d12 d13 d14 d15 h0 h1 h2 h3 h4 h5 h6 h7 h8 h9 h10 h11 h12 h13 h14 h15 h16 h17 h18 h19 sp dp : Int} (hs : bytesB [s0, s1, s2, s3, s4, s5, s6, s7, s8, s9, s10, s11, s12, s13, s14, s15] = true) (hd : bytesB [d0, d1, d2, d3, d4, d5, d6, d7, d8, d9, d10, d11, d12, d13, d14, d15] = true) (hh : bytesB [h0, h1, h2, h3, h4, h5, h6, h7, h8, h9, h10, h11, h12, h13, h14, h15, h16, h17, h18, h19] = true) (sp0 : 0 ≤ sp) (sp1 : sp ≤ 65535) (dp0 : 0 ≤ dp) (dp1 : dp ≤ 65535) : bytesB [69, h1, h2, h3, h4, h5, h6 / 32 * 32, 0, h8, 6, h10, h11, s0, s1, s2, s3, d0, d1, d2, d3, sp / 256, sp % 256, dp / 256, dp % 256, 1, 2, 3, 4] = true := by
  simp only [bytesB_cons, Bool.and_eq_true, decide_eq_true_eq] at hs hd hh ⊢
  refine ⟨by omega, by omega, by omega, by omega, by omega, by omega, by omega, by omega, by omega, by omega, by omega, by omega, by omega, by omega, by omega, by omega, by omega, by omega, by omega, by omega, by omega, by omega, by omega, by omega, by omega, by omega, by omega, by omega, rfl⟩
theorem te4t {s0 s1 s2 s3 s4 s5 s6 s7 s8 s9 s10 s11 s12 s13 s14 s15 d0 d1 d2 d3 d4 d5 d6 d7 d8 d9 d10 d11 d12 d13 d14 d15 h0 h1 h2 h3 h4 h5 h6 h7 h8 h9 h10 h11 h12 h13 h14 h15 h16 h17 h18 h19 sp dp : Int} : wiE false [69, h1, h2, h3, h4, h5, h6 / 32 * 32, 0, h8, 6, h10, h11, s0, s1, s2, s3, d0, d1, d2, d3, sp / 256, sp % 256, dp / 256, dp % 256, 1, 2, 3, 4] = 0 := by
  have e : hdE false [69, h1, h2, h3, h4, h5, h6 / 32 * 32, 0, h8, 6, h10, h11, s0, s1, s2, s3, d0, d1, d2, d3, sp / 256, sp % 256, dp / 256, dp % 256, 1, 2, 3, 4] = 0 := by
    rw [hdE_4]
    unfold hd4E
    rw [if_neg (by show ¬ 28 < 20; decide), if_neg (by show ¬ ¬ (69 : Int) / 16 = 4; decide), if_neg (by show ¬ ((69 : Int) % 16 * 4).toNat < 20; decide), if_neg (by show ¬ 28 < ((69 : Int) % 16 * 4).toNat; decide), if_neg (by show ¬ ¬ (h6 / 32 * 32 * 256 + 0) % 8192 = 0; omega)]
  unfold wiE
  rw [e]
  rw [if_neg (by decide), if_neg (by show ¬ (¬ (6 : Int) = 6 ∧ ¬ (6 : Int) = 17); decide), if_neg (by show ¬ 28 < 20 + 4; decide)]
theorem tt4t {s0 s1 s2 s3 s4 s5 s6 s7 s8 s9 s10 s11 s12 s13 s14 s15 d0 d1 d2 d3 d4 d5 d6 d7 d8 d9 d10 d11 d12 d13 d14 d15 h0 h1 h2 h3 h4 h5 h6 h7 h8 h9 h10 h11 h12 h13 h14 h15 h16 h17 h18 h19 sp dp : Int} (sp0 : 0 ≤ sp) (sp1 : sp ≤ 65535) (dp0 : 0 ≤ dp) (dp1 : dp ≤ 65535) : wiT false [69, h1, h2, h3, h4, h5, h6 / 32 * 32, 0, h8, 6, h10, h11, s0, s1, s2, s3, d0, d1, d2, d3, sp / 256, sp % 256, dp / 256, dp % 256, 1, 2, 3, 4] = tupA false 6 [d0, d1, d2, d3, 0, 0, 0, 0, 0, 0, 0, 0, 0, 0, 0, 0] [s0, s1, s2, s3, 0, 0, 0, 0, 0, 0, 0, 0, 0, 0, 0, 0] dp sp := by
  unfold wiT
  rw [if_pos (@te4t s0 s1 s2 s3 s4 s5 s6 s7 s8 s9 s10 s11 s12 s13 s14 s15 d0 d1 d2 d3 d4 d5 d6 d7 d8 d9 d10 d11 d12 d13 d14 d15 h0 h1 h2 h3 h4 h5 h6 h7 h8 h9 h10 h11 h12 h13 h14 h15 h16 h17 h18 h19 sp dp)]
  have e1 : sp / 256 * 256 + sp % 256 = sp := by omega
  have e2 : dp / 256 * 256 + dp % 256 = dp := by omega
  show tupA _ _ _ _ (dp / 256 * 256 + dp % 256) (sp / 256 * 256 + sp % 256) = _
  rw [e1, e2]
  rfl
theorem tn4t {s0 s1 s2 s3 s4 s5 s6 s7 s8 s9 s10 s11 s12 s13 s14 s15 d0 d1 d2 d3 d4 d5 d6 d7 d8 d9 d10 d11 d12 d13 d14 d15 h0 h1 h2 h3 h4 h5 h6 h7 h8 h9 h10 h11 h12 h13 h14 h15 h16 h17 h18 h19 sp dp : Int} : wiE true [69, h1, h2, h3, h4, h5, h6 / 32 * 32, 0, h8, 6, h10, h11, s0, s1, s2, s3, d0, d1, d2, d3, sp / 256, sp % 256, dp / 256, dp % 256, 1, 2, 3, 4] = 4 := rfl
theorem tm4t {s0 s1 s2 s3 s4 s5 s6 s7 s8 s9 s10 s11 s12 s13 s14 s15 d0 d1 d2 d3 d4 d5 d6 d7 d8 d9 d10 d11 d12 d13 d14 d15 h0 h1 h2 h3 h4 h5 h6 h7 h8 h9 h10 h11 h12 h13 h14 h15 h16 h17 h18 h19 sp dp : Int} : wiT true [69, h1, h2, h3, h4, h5, h6 / 32 * 32, 0, h8, 6, h10, h11, s0, s1, s2, s3, d0, d1, d2, d3, sp / 256, sp % 256, dp / 256, dp % 256, 1, 2, 3, 4] = noTup := by
  unfold wiT
  rw [if_neg (by rw [@tn4t s0 s1 s2 s3 s4 s5 s6 s7 s8 s9 s10 s11 s12 s13 s14 s15 d0 d1 d2 d3 d4 d5 d6 d7 d8 d9 d10 d11 d12 d13 d14 d15 h0 h1 h2 h3 h4 h5 h6 h7 h8 h9 h10 h11 h12 h13 h14 h15 h16 h17 h18 h19 sp dp]; decide)]
set_option maxHeartbeats 16000000 in
theorem turned4t_run (p sp dp : Int) (s0 s1 s2 s3 s4 s5 s6 s7 s8 s9 s10 s11 s12 s13 s14 s15 d0 d1 d2 d3 d4 d5 d6 d7 d8 d9 d10 d11 d12 d13 d14 d15 h0 h1 h2 h3 h4 h5 h6 h7 h8 h9 h10 h11 h12 h13 h14 h15 h16 h17 h18 h19 : Int) (hs : bytesB [s0, s1, s2, s3, s4, s5, s6, s7, s8, s9, s10, s11, s12, s13, s14, s15] = true) (hd : bytesB [d0, d1, d2, d3, d4, d5, d6, d7, d8, d9, d10, d11, d12, d13, d14, d15] = true) (hh : bytesB [h0, h1, h2, h3, h4, h5, h6, h7, h8, h9, h10, h11, h12, h13, h14, h15, h16, h17, h18, h19] = true) (sp0 : 0 ≤ sp) (sp1 : sp ≤ 65535) (dp0 : 0 ≤ dp) (dp1 : dp ≤ 65535) : (pvCall Try.prog KT Dm 100000 1 0 11 [tupA false p [s0, s1, s2, s3, s4, s5, s6, s7, s8, s9, s10, s11, s12, s13, s14, s15] [d0, d1, d2, d3, d4, d5, d6, d7, d8, d9, d10, d11, d12, d13, d14, d15] sp dp, .v (.bool true), .agg (B8 [h0, h1, h2, h3, h4, h5, h6, h7, h8, h9, h10, h11, h12, h13, h14, h15, h16, h17, h18, h19])] (fun _ => none)).map (·.1) = some (.v (.bool true)) := by
  have g6 := and224 h6 (by simp only [bytesB_cons, Bool.and_eq_true, decide_eq_true_eq] at hh; omega) (by simp only [bytesB_cons, Bool.and_eq_true, decide_eq_true_eq] at hh; omega)
  have hB := ty4t hs hd hh sp0 sp1 dp0 dp1
  have hE := @te4t s0 s1 s2 s3 s4 s5 s6 s7 s8 s9 s10 s11 s12 s13 s14 s15 d0 d1 d2 d3 d4 d5 d6 d7 d8 d9 d10 d11 d12 d13 d14 d15 h0 h1 h2 h3 h4 h5 h6 h7 h8 h9 h10 h11 h12 h13 h14 h15 h16 h17 h18 h19 sp dp
  have hT := @tt4t s0 s1 s2 s3 s4 s5 s6 s7 s8 s9 s10 s11 s12 s13 s14 s15 d0 d1 d2 d3 d4 d5 d6 d7 d8 d9 d10 d11 d12 d13 d14 d15 h0 h1 h2 h3 h4 h5 h6 h7 h8 h9 h10 h11 h12 h13 h14 h15 h16 h17 h18 h19 sp dp sp0 sp1 dp0 dp1
  have hN := @tn4t s0 s1 s2 s3 s4 s5 s6 s7 s8 s9 s10 s11 s12 s13 s14 s15 d0 d1 d2 d3 d4 d5 d6 d7 d8 d9 d10 d11 d12 d13 d14 d15 h0 h1 h2 h3 h4 h5 h6 h7 h8 h9 h10 h11 h12 h13 h14 h15 h16 h17 h18 h19 sp dp
  have hM := @tm4t s0 s1 s2 s3 s4 s5 s6 s7 s8 s9 s10 s11 s12 s13 s14 s15 d0 d1 d2 d3 d4 d5 d6 d7 d8 d9 d10 d11 d12 d13 d14 d15 h0 h1 h2 h3 h4 h5 h6 h7 h8 h9 h10 h11 h12 h13 h14 h15 h16 h17 h18 h19 sp dp
  have p1 : sp.fdiv 256 = sp / 256 := Int.fdiv_eq_ediv_of_nonneg _ (by omega)
  have p2 : dp.fdiv 256 = dp / 256 := Int.fdiv_eq_ediv_of_nonneg _ (by omega)
  have p3 : IntKind.u8.wrap (sp / 256) = sp / 256 := wrapu8_id (by omega) (by omega)
  have p4 : IntKind.u8.wrap (dp / 256) = dp / 256 := wrapu8_id (by omega) (by omega)
  have p5 : IntKind.u8.wrap sp = sp % 256 := by simp [IntKind.wrap, IntKind.signed, IntKind.bits]
  have p6 : IntKind.u8.wrap dp = dp % 256 := by simp [IntKind.wrap, IntKind.signed, IntKind.bits]
  have p7 : IntKind.u16.wrap (sp / 256) = sp / 256 := wrapu16_id (by omega) (by omega)
  have p8 : IntKind.u16.wrap (dp / 256) = dp / 256 := wrapu16_id (by omega) (by omega)
  rw [pvCall_own (fn := Try.f11) rfl Try.func11 rfl (by decide) rfl rfl (by simp)]
  simp -implicitDefEqProofs [tupA, B8vc, B8vn, g6, hB, hE, hT, hN, hM, noTup, t16, p1, p2, p3, p4, p5, p6, p7, p8, fWithin, fKnown6, splice, zeros, asB8_nil'', asB8_cons'', IntKind.bits, List.replicate_succ, eqV_ci, eqV_cb, eqV_n, Nat.testBit_eq_decide_div_mod_eq]
theorem ty4u {s0 s1 s2 s3 s4 s5 s6 s7 s8 s9 s10 s11 s12 s13 s14 s15 d0 d1 d2 d3 d4 d5 d6 d7 d8 d9 d10 d11 d12 d13 d14 d15 h0 h1 h2 h3 h4 h5 h6 h7 h8 h9 h10 h11 h12 h13 h14 h15 h16 h17 h18 h19 sp dp : Int} (hs : bytesB [s0, s1, s2, s3, s4, s5, s6, s7, s8, s9, s10, s11, s12, s13, s14, s15] = true) (hd : bytesB [d0, d1, d2, d3, d4, d5, d6, d7, d8, d9, d10, d11, d12, d13, d14, d15] = true) (hh : bytesB [h0, h1, h2, h3, h4, h5, h6, h7, h8, h9, h10, h11, h12, h13, h14, h15, h16, h17, h18, h19] = true) (sp0 : 0 ≤ sp) (sp1 : sp ≤ 65535) (dp0 : 0 ≤ dp) (dp1 : dp ≤ 65535) : bytesB [69, h1, h2, h3, h4, h5, h6 / 32 * 32, 0, h8, 17, h10, h11, s0, s1, s2, s3, d0, d1, d2, d3, sp / 256, sp % 256, dp / 256, dp % 256, 1, 2, 3, 4] = true := by
  simp only [bytesB_cons, Bool.and_eq_true, decide_eq_true_eq] at hs hd hh ⊢
  refine ⟨by omega, by omega, by omega, by omega, by omega, by omega, by omega, by omega, by omega, by omega, by omega, by omega, by omega, by omega, by omega, by omega, by omega, by omega, by omega, by omega, by omega, by omega, by omega, by omega, by omega, by omega, by omega, by omega, rfl⟩
theorem te4u {s0 s1 s2 s3 s4 s5 s6 s7 s8 s9 s10 s11 s12 s13 s14 s15 d0 d1 d2 d3 d4 d5 d6 d7 d8 d9 d10 d11 d12 d13 d14 d15 h0 h1 h2 h3 h4 h5 h6 h7 h8 h9 h10 h11 h12 h13 h14 h15 h16 h17 h18 h19 sp dp : Int} : wiE false [69, h1, h2, h3, h4, h5, h6 / 32 * 32, 0, h8, 17, h10, h11, s0, s1, s2, s3, d0, d1, d2, d3, sp / 256, sp % 256, dp / 256, dp % 256, 1, 2, 3, 4] = 0 := by
  have e : hdE false [69, h1, h2, h3, h4, h5, h6 / 32 * 32, 0, h8, 17, h10, h11, s0, s1, s2, s3, d0, d1, d2, d3, sp / 256, sp % 256, dp / 256, dp % 256, 1, 2, 3, 4] = 0 := by
    rw [hdE_4]
    unfold hd4E
    rw [if_neg (by show ¬ 28 < 20; decide), if_neg (by show ¬ ¬ (69 : Int) / 16 = 4; decide), if_neg (by show ¬ ((69 : Int) % 16 * 4).toNat < 20; decide), if_neg (by show ¬ 28 < ((69 : Int) % 16 * 4).toNat; decide), if_neg (by show ¬ ¬ (h6 / 32 * 32 * 256 + 0) % 8192 = 0; omega)]
  unfold wiE
  rw [e]
  rw [if_neg (by decide), if_neg (by show ¬ (¬ (17 : Int) = 6 ∧ ¬ (17 : Int) = 17); decide), if_neg (by show ¬ 28 < 20 + 4; decide)]
theorem tt4u {s0 s1 s2 s3 s4 s5 s6 s7 s8 s9 s10 s11 s12 s13 s14 s15 d0 d1 d2 d3 d4 d5 d6 d7 d8 d9 d10 d11 d12 d13 d14 d15 h0 h1 h2 h3 h4 h5 h6 h7 h8 h9 h10 h11 h12 h13 h14 h15 h16 h17 h18 h19 sp dp : Int} (sp0 : 0 ≤ sp) (sp1 : sp ≤ 65535) (dp0 : 0 ≤ dp) (dp1 : dp ≤ 65535) : wiT false [69, h1, h2, h3, h4, h5, h6 / 32 * 32, 0, h8, 17, h10, h11, s0, s1, s2, s3, d0, d1, d2, d3, sp / 256, sp % 256, dp / 256, dp % 256, 1, 2, 3, 4] = tupA false 17 [d0, d1, d2, d3, 0, 0, 0, 0, 0, 0, 0, 0, 0, 0, 0, 0] [s0, s1, s2, s3, 0, 0, 0, 0, 0, 0, 0, 0, 0, 0, 0, 0] dp sp := by
  unfold wiT
  rw [if_pos (@te4u s0 s1 s2 s3 s4 s5 s6 s7 s8 s9 s10 s11 s12 s13 s14 s15 d0 d1 d2 d3 d4 d5 d6 d7 d8 d9 d10 d11 d12 d13 d14 d15 h0 h1 h2 h3 h4 h5 h6 h7 h8 h9 h10 h11 h12 h13 h14 h15 h16 h17 h18 h19 sp dp)]
  have e1 : sp / 256 * 256 + sp % 256 = sp := by omega
  have e2 : dp / 256 * 256 + dp % 256 = dp := by omega
  show tupA _ _ _ _ (dp / 256 * 256 + dp % 256) (sp / 256 * 256 + sp % 256) = _
  rw [e1, e2]
  rfl
theorem tn4u {s0 s1 s2 s3 s4 s5 s6 s7 s8 s9 s10 s11 s12 s13 s14 s15 d0 d1 d2 d3 d4 d5 d6 d7 d8 d9 d10 d11 d12 d13 d14 d15 h0 h1 h2 h3 h4 h5 h6 h7 h8 h9 h10 h11 h12 h13 h14 h15 h16 h17 h18 h19 sp dp : Int} : wiE true [69, h1, h2, h3, h4, h5, h6 / 32 * 32, 0, h8, 17, h10, h11, s0, s1, s2, s3, d0, d1, d2, d3, sp / 256, sp % 256, dp / 256, dp % 256, 1, 2, 3, 4] = 4 := rfl
theorem tm4u {s0 s1 s2 s3 s4 s5 s6 s7 s8 s9 s10 s11 s12 s13 s14 s15 d0 d1 d2 d3 d4 d5 d6 d7 d8 d9 d10 d11 d12 d13 d14 d15 h0 h1 h2 h3 h4 h5 h6 h7 h8 h9 h10 h11 h12 h13 h14 h15 h16 h17 h18 h19 sp dp : Int} : wiT true [69, h1, h2, h3, h4, h5, h6 / 32 * 32, 0, h8, 17, h10, h11, s0, s1, s2, s3, d0, d1, d2, d3, sp / 256, sp % 256, dp / 256, dp % 256, 1, 2, 3, 4] = noTup := by
  unfold wiT
  rw [if_neg (by rw [@tn4u s0 s1 s2 s3 s4 s5 s6 s7 s8 s9 s10 s11 s12 s13 s14 s15 d0 d1 d2 d3 d4 d5 d6 d7 d8 d9 d10 d11 d12 d13 d14 d15 h0 h1 h2 h3 h4 h5 h6 h7 h8 h9 h10 h11 h12 h13 h14 h15 h16 h17 h18 h19 sp dp]; decide)]
set_option maxHeartbeats 16000000 in
theorem turned4u_run (p sp dp : Int) (s0 s1 s2 s3 s4 s5 s6 s7 s8 s9 s10 s11 s12 s13 s14 s15 d0 d1 d2 d3 d4 d5 d6 d7 d8 d9 d10 d11 d12 d13 d14 d15 h0 h1 h2 h3 h4 h5 h6 h7 h8 h9 h10 h11 h12 h13 h14 h15 h16 h17 h18 h19 : Int) (hs : bytesB [s0, s1, s2, s3, s4, s5, s6, s7, s8, s9, s10, s11, s12, s13, s14, s15] = true) (hd : bytesB [d0, d1, d2, d3, d4, d5, d6, d7, d8, d9, d10, d11, d12, d13, d14, d15] = true) (hh : bytesB [h0, h1, h2, h3, h4, h5, h6, h7, h8, h9, h10, h11, h12, h13, h14, h15, h16, h17, h18, h19] = true) (sp0 : 0 ≤ sp) (sp1 : sp ≤ 65535) (dp0 : 0 ≤ dp) (dp1 : dp ≤ 65535) : (pvCall Try.prog KT Dm 100000 1 0 11 [tupA false p [s0, s1, s2, s3, s4, s5, s6, s7, s8, s9, s10, s11, s12, s13, s14, s15] [d0, d1, d2, d3, d4, d5, d6, d7, d8, d9, d10, d11, d12, d13, d14, d15] sp dp, .v (.bool false), .agg (B8 [h0, h1, h2, h3, h4, h5, h6, h7, h8, h9, h10, h11, h12, h13, h14, h15, h16, h17, h18, h19])] (fun _ => none)).map (·.1) = some (.v (.bool true)) := by
  have g6 := and224 h6 (by simp only [bytesB_cons, Bool.and_eq_true, decide_eq_true_eq] at hh; omega) (by simp only [bytesB_cons, Bool.and_eq_true, decide_eq_true_eq] at hh; omega)
  have hB := ty4u hs hd hh sp0 sp1 dp0 dp1
  have hE := @te4u s0 s1 s2 s3 s4 s5 s6 s7 s8 s9 s10 s11 s12 s13 s14 s15 d0 d1 d2 d3 d4 d5 d6 d7 d8 d9 d10 d11 d12 d13 d14 d15 h0 h1 h2 h3 h4 h5 h6 h7 h8 h9 h10 h11 h12 h13 h14 h15 h16 h17 h18 h19 sp dp
  have hT := @tt4u s0 s1 s2 s3 s4 s5 s6 s7 s8 s9 s10 s11 s12 s13 s14 s15 d0 d1 d2 d3 d4 d5 d6 d7 d8 d9 d10 d11 d12 d13 d14 d15 h0 h1 h2 h3 h4 h5 h6 h7 h8 h9 h10 h11 h12 h13 h14 h15 h16 h17 h18 h19 sp dp sp0 sp1 dp0 dp1
  have hN := @tn4u s0 s1 s2 s3 s4 s5 s6 s7 s8 s9 s10 s11 s12 s13 s14 s15 d0 d1 d2 d3 d4 d5 d6 d7 d8 d9 d10 d11 d12 d13 d14 d15 h0 h1 h2 h3 h4 h5 h6 h7 h8 h9 h10 h11 h12 h13 h14 h15 h16 h17 h18 h19 sp dp
  have hM := @tm4u s0 s1 s2 s3 s4 s5 s6 s7 s8 s9 s10 s11 s12 s13 s14 s15 d0 d1 d2 d3 d4 d5 d6 d7 d8 d9 d10 d11 d12 d13 d14 d15 h0 h1 h2 h3 h4 h5 h6 h7 h8 h9 h10 h11 h12 h13 h14 h15 h16 h17 h18 h19 sp dp
  have p1 : sp.fdiv 256 = sp / 256 := Int.fdiv_eq_ediv_of_nonneg _ (by omega)
  have p2 : dp.fdiv 256 = dp / 256 := Int.fdiv_eq_ediv_of_nonneg _ (by omega)
  have p3 : IntKind.u8.wrap (sp / 256) = sp / 256 := wrapu8_id (by omega) (by omega)
  have p4 : IntKind.u8.wrap (dp / 256) = dp / 256 := wrapu8_id (by omega) (by omega)
  have p5 : IntKind.u8.wrap sp = sp % 256 := by simp [IntKind.wrap, IntKind.signed, IntKind.bits]
  have p6 : IntKind.u8.wrap dp = dp % 256 := by simp [IntKind.wrap, IntKind.signed, IntKind.bits]
  have p7 : IntKind.u16.wrap (sp / 256) = sp / 256 := wrapu16_id (by omega) (by omega)
  have p8 : IntKind.u16.wrap (dp / 256) = dp / 256 := wrapu16_id (by omega) (by omega)
  rw [pvCall_own (fn := Try.f11) rfl Try.func11 rfl (by decide) rfl rfl (by simp)]
  simp -implicitDefEqProofs [tupA, B8vc, B8vn, g6, hB, hE, hT, hN, hM, noTup, t16, p1, p2, p3, p4, p5, p6, p7, p8, fWithin, fKnown6, splice, zeros, asB8_nil'', asB8_cons'', IntKind.bits, List.replicate_succ, eqV_ci, eqV_cb, eqV_n, Nat.testBit_eq_decide_div_mod_eq]
theorem ty6t {s0 s1 s2 s3 s4 s5 s6 s7 s8 s9 s10 s11 s12 s13 s14 s15 d0 d1 d2 d3 d4 d5 d6 d7 d8 d9 d10 d11 d12 d13 d14 d15 h0 h1 h2 h3 h4 h5 h6 h7 h8 h9 h10 h11 h12 h13 h14 h15 h16 h17 h18 h19 sp dp : Int} (hs : bytesB [s0, s1, s2, s3, s4, s5, s6, s7, s8, s9, s10, s11, s12, s13, s14, s15] = true) (hd : bytesB [d0, d1, d2, d3, d4, d5, d6, d7, d8, d9, d10, d11, d12, d13, d14, d15] = true) (hh : bytesB [h0, h1, h2, h3, h4, h5, h6, h7, h8, h9, h10, h11, h12, h13, h14, h15, h16, h17, h18, h19] = true) (sp0 : 0 ≤ sp) (sp1 : sp ≤ 65535) (dp0 : 0 ≤ dp) (dp1 : dp ≤ 65535) : bytesB [96, h1, h2, h3, h4, h5, 6, h7, s0, s1, s2, s3, s4, s5, s6, s7, s8, s9, s10, s11, s12, s13, s14, s15, d0, d1, d2, d3, d4, d5, d6, d7, d8, d9, d10, d11, d12, d13, d14, d15, sp / 256, sp % 256, dp / 256, dp % 256, 1, 2, 3, 4] = true := by
  simp only [bytesB_cons, Bool.and_eq_true, decide_eq_true_eq] at hs hd hh ⊢
  refine ⟨by omega, by omega, by omega, by omega, by omega, by omega, by omega, by omega, by omega, by omega, by omega, by omega, by omega, by omega, by omega, by omega, by omega, by omega, by omega, by omega, by omega, by omega, by omega, by omega, by omega, by omega, by omega, by omega, by omega, by omega, by omega, by omega, by omega, by omega, by omega, by omega, by omega, by omega, by omega, by omega, by omega, by omega, by omega, by omega, by omega, by omega, by omega, by omega, rfl⟩
theorem tc6t {s0 s1 s2 s3 s4 s5 s6 s7 s8 s9 s10 s11 s12 s13 s14 s15 d0 d1 d2 d3 d4 d5 d6 d7 d8 d9 d10 d11 d12 d13 d14 d15 h0 h1 h2 h3 h4 h5 h6 h7 h8 h9 h10 h11 h12 h13 h14 h15 h16 h17 h18 h19 sp dp : Int} : chainF 9 (gb [96, h1, h2, h3, h4, h5, 6, h7, s0, s1, s2, s3, s4, s5, s6, s7, s8, s9, s10, s11, s12, s13, s14, s15, d0, d1, d2, d3, d4, d5, d6, d7, d8, d9, d10, d11, d12, d13, d14, d15, sp / 256, sp % 256, dp / 256, dp % 256, 1, 2, 3, 4] 6) (List.drop 40 [96, h1, h2, h3, h4, h5, 6, h7, s0, s1, s2, s3, s4, s5, s6, s7, s8, s9, s10, s11, s12, s13, s14, s15, d0, d1, d2, d3, d4, d5, d6, d7, d8, d9, d10, d11, d12, d13, d14, d15, sp / 256, sp % 256, dp / 256, dp % 256, 1, 2, 3, 4]) 0 0 = (6, 0, 0) := rfl
theorem te6t {s0 s1 s2 s3 s4 s5 s6 s7 s8 s9 s10 s11 s12 s13 s14 s15 d0 d1 d2 d3 d4 d5 d6 d7 d8 d9 d10 d11 d12 d13 d14 d15 h0 h1 h2 h3 h4 h5 h6 h7 h8 h9 h10 h11 h12 h13 h14 h15 h16 h17 h18 h19 sp dp : Int} : wiE true [96, h1, h2, h3, h4, h5, 6, h7, s0, s1, s2, s3, s4, s5, s6, s7, s8, s9, s10, s11, s12, s13, s14, s15, d0, d1, d2, d3, d4, d5, d6, d7, d8, d9, d10, d11, d12, d13, d14, d15, sp / 256, sp % 256, dp / 256, dp % 256, 1, 2, 3, 4] = 0 := by
  have e : hdE true [96, h1, h2, h3, h4, h5, 6, h7, s0, s1, s2, s3, s4, s5, s6, s7, s8, s9, s10, s11, s12, s13, s14, s15, d0, d1, d2, d3, d4, d5, d6, d7, d8, d9, d10, d11, d12, d13, d14, d15, sp / 256, sp % 256, dp / 256, dp % 256, 1, 2, 3, 4] = 0 := rfl
  unfold wiE
  rw [e]
  rw [if_neg (by decide), if_neg (by show ¬ (¬ (6 : Int) = 6 ∧ ¬ (6 : Int) = 17); decide), if_neg (by show ¬ 48 < 40 + 4; decide)]
theorem tt6t {s0 s1 s2 s3 s4 s5 s6 s7 s8 s9 s10 s11 s12 s13 s14 s15 d0 d1 d2 d3 d4 d5 d6 d7 d8 d9 d10 d11 d12 d13 d14 d15 h0 h1 h2 h3 h4 h5 h6 h7 h8 h9 h10 h11 h12 h13 h14 h15 h16 h17 h18 h19 sp dp : Int} (sp0 : 0 ≤ sp) (sp1 : sp ≤ 65535) (dp0 : 0 ≤ dp) (dp1 : dp ≤ 65535) : wiT true [96, h1, h2, h3, h4, h5, 6, h7, s0, s1, s2, s3, s4, s5, s6, s7, s8, s9, s10, s11, s12, s13, s14, s15, d0, d1, d2, d3, d4, d5, d6, d7, d8, d9, d10, d11, d12, d13, d14, d15, sp / 256, sp % 256, dp / 256, dp % 256, 1, 2, 3, 4] = tupA true 6 [d0, d1, d2, d3, d4, d5, d6, d7, d8, d9, d10, d11, d12, d13, d14, d15] [s0, s1, s2, s3, s4, s5, s6, s7, s8, s9, s10, s11, s12, s13, s14, s15] dp sp := by
  unfold wiT
  rw [if_pos (@te6t s0 s1 s2 s3 s4 s5 s6 s7 s8 s9 s10 s11 s12 s13 s14 s15 d0 d1 d2 d3 d4 d5 d6 d7 d8 d9 d10 d11 d12 d13 d14 d15 h0 h1 h2 h3 h4 h5 h6 h7 h8 h9 h10 h11 h12 h13 h14 h15 h16 h17 h18 h19 sp dp)]
  have e1 : sp / 256 * 256 + sp % 256 = sp := by omega
  have e2 : dp / 256 * 256 + dp % 256 = dp := by omega
  show tupA _ _ _ _ (dp / 256 * 256 + dp % 256) (sp / 256 * 256 + sp % 256) = _
  rw [e1, e2]
  rfl
theorem tn6t {s0 s1 s2 s3 s4 s5 s6 s7 s8 s9 s10 s11 s12 s13 s14 s15 d0 d1 d2 d3 d4 d5 d6 d7 d8 d9 d10 d11 d12 d13 d14 d15 h0 h1 h2 h3 h4 h5 h6 h7 h8 h9 h10 h11 h12 h13 h14 h15 h16 h17 h18 h19 sp dp : Int} : wiE false [96, h1, h2, h3, h4, h5, 6, h7, s0, s1, s2, s3, s4, s5, s6, s7, s8, s9, s10, s11, s12, s13, s14, s15, d0, d1, d2, d3, d4, d5, d6, d7, d8, d9, d10, d11, d12, d13, d14, d15, sp / 256, sp % 256, dp / 256, dp % 256, 1, 2, 3, 4] = 5 := rfl
theorem tm6t {s0 s1 s2 s3 s4 s5 s6 s7 s8 s9 s10 s11 s12 s13 s14 s15 d0 d1 d2 d3 d4 d5 d6 d7 d8 d9 d10 d11 d12 d13 d14 d15 h0 h1 h2 h3 h4 h5 h6 h7 h8 h9 h10 h11 h12 h13 h14 h15 h16 h17 h18 h19 sp dp : Int} : wiT false [96, h1, h2, h3, h4, h5, 6, h7, s0, s1, s2, s3, s4, s5, s6, s7, s8, s9, s10, s11, s12, s13, s14, s15, d0, d1, d2, d3, d4, d5, d6, d7, d8, d9, d10, d11, d12, d13, d14, d15, sp / 256, sp % 256, dp / 256, dp % 256, 1, 2, 3, 4] = noTup := by
  unfold wiT
  rw [if_neg (by rw [@tn6t s0 s1 s2 s3 s4 s5 s6 s7 s8 s9 s10 s11 s12 s13 s14 s15 d0 d1 d2 d3 d4 d5 d6 d7 d8 d9 d10 d11 d12 d13 d14 d15 h0 h1 h2 h3 h4 h5 h6 h7 h8 h9 h10 h11 h12 h13 h14 h15 h16 h17 h18 h19 sp dp]; decide)]
set_option maxHeartbeats 16000000 in
theorem turned6t_run (p sp dp : Int) (s0 s1 s2 s3 s4 s5 s6 s7 s8 s9 s10 s11 s12 s13 s14 s15 d0 d1 d2 d3 d4 d5 d6 d7 d8 d9 d10 d11 d12 d13 d14 d15 h0 h1 h2 h3 h4 h5 h6 h7 h8 h9 h10 h11 h12 h13 h14 h15 h16 h17 h18 h19 : Int) (hs : bytesB [s0, s1, s2, s3, s4, s5, s6, s7, s8, s9, s10, s11, s12, s13, s14, s15] = true) (hd : bytesB [d0, d1, d2, d3, d4, d5, d6, d7, d8, d9, d10, d11, d12, d13, d14, d15] = true) (hh : bytesB [h0, h1, h2, h3, h4, h5, h6, h7, h8, h9, h10, h11, h12, h13, h14, h15, h16, h17, h18, h19] = true) (sp0 : 0 ≤ sp) (sp1 : sp ≤ 65535) (dp0 : 0 ≤ dp) (dp1 : dp ≤ 65535) : (pvCall Try.prog KT Dm 100000 1 0 11 [tupA true p [s0, s1, s2, s3, s4, s5, s6, s7, s8, s9, s10, s11, s12, s13, s14, s15] [d0, d1, d2, d3, d4, d5, d6, d7, d8, d9, d10, d11, d12, d13, d14, d15] sp dp, .v (.bool true), .agg (B8 [h0, h1, h2, h3, h4, h5, h6, h7, h8, h9, h10, h11, h12, h13, h14, h15, h16, h17, h18, h19])] (fun _ => none)).map (·.1) = some (.v (.bool true)) := by
  have g6 := and224 h6 (by simp only [bytesB_cons, Bool.and_eq_true, decide_eq_true_eq] at hh; omega) (by simp only [bytesB_cons, Bool.and_eq_true, decide_eq_true_eq] at hh; omega)
  have hB := ty6t hs hd hh sp0 sp1 dp0 dp1
  have hE := @te6t s0 s1 s2 s3 s4 s5 s6 s7 s8 s9 s10 s11 s12 s13 s14 s15 d0 d1 d2 d3 d4 d5 d6 d7 d8 d9 d10 d11 d12 d13 d14 d15 h0 h1 h2 h3 h4 h5 h6 h7 h8 h9 h10 h11 h12 h13 h14 h15 h16 h17 h18 h19 sp dp
  have hT := @tt6t s0 s1 s2 s3 s4 s5 s6 s7 s8 s9 s10 s11 s12 s13 s14 s15 d0 d1 d2 d3 d4 d5 d6 d7 d8 d9 d10 d11 d12 d13 d14 d15 h0 h1 h2 h3 h4 h5 h6 h7 h8 h9 h10 h11 h12 h13 h14 h15 h16 h17 h18 h19 sp dp sp0 sp1 dp0 dp1
  have hN := @tn6t s0 s1 s2 s3 s4 s5 s6 s7 s8 s9 s10 s11 s12 s13 s14 s15 d0 d1 d2 d3 d4 d5 d6 d7 d8 d9 d10 d11 d12 d13 d14 d15 h0 h1 h2 h3 h4 h5 h6 h7 h8 h9 h10 h11 h12 h13 h14 h15 h16 h17 h18 h19 sp dp
  have hM := @tm6t s0 s1 s2 s3 s4 s5 s6 s7 s8 s9 s10 s11 s12 s13 s14 s15 d0 d1 d2 d3 d4 d5 d6 d7 d8 d9 d10 d11 d12 d13 d14 d15 h0 h1 h2 h3 h4 h5 h6 h7 h8 h9 h10 h11 h12 h13 h14 h15 h16 h17 h18 h19 sp dp
  have p1 : sp.fdiv 256 = sp / 256 := Int.fdiv_eq_ediv_of_nonneg _ (by omega)
  have p2 : dp.fdiv 256 = dp / 256 := Int.fdiv_eq_ediv_of_nonneg _ (by omega)
  have p3 : IntKind.u8.wrap (sp / 256) = sp / 256 := wrapu8_id (by omega) (by omega)
  have p4 : IntKind.u8.wrap (dp / 256) = dp / 256 := wrapu8_id (by omega) (by omega)
  have p5 : IntKind.u8.wrap sp = sp % 256 := by simp [IntKind.wrap, IntKind.signed, IntKind.bits]
  have p6 : IntKind.u8.wrap dp = dp % 256 := by simp [IntKind.wrap, IntKind.signed, IntKind.bits]
  have p7 : IntKind.u16.wrap (sp / 256) = sp / 256 := wrapu16_id (by omega) (by omega)
  have p8 : IntKind.u16.wrap (dp / 256) = dp / 256 := wrapu16_id (by omega) (by omega)
  rw [pvCall_own (fn := Try.f11) rfl Try.func11 rfl (by decide) rfl rfl (by simp)]
  simp -implicitDefEqProofs [tupA, B8vc, B8vn, g6, hB, hE, hT, hN, hM, noTup, t16, p1, p2, p3, p4, p5, p6, p7, p8, fWithin, fKnown6, splice, zeros, asB8_nil'', asB8_cons'', IntKind.bits, List.replicate_succ, eqV_ci, eqV_cb, eqV_n, Nat.testBit_eq_decide_div_mod_eq]
theorem ty6u {s0 s1 s2 s3 s4 s5 s6 s7 s8 s9 s10 s11 s12 s13 s14 s15 d0 d1 d2 d3 d4 d5 d6 d7 d8 d9 d10 d11 d12 d13 d14 d15 h0 h1 h2 h3 h4 h5 h6 h7 h8 h9 h10 h11 h12 h13 h14 h15 h16 h17 h18 h19 sp dp : Int} (hs : bytesB [s0, s1, s2, s3, s4, s5, s6, s7, s8, s9, s10, s11, s12, s13, s14, s15] = true) (hd : bytesB [d0, d1, d2, d3, d4, d5, d6, d7, d8, d9, d10, d11, d12, d13, d14, d15] = true) (hh : bytesB [h0, h1, h2, h3, h4, h5, h6, h7, h8, h9, h10, h11, h12, h13, h14, h15, h16, h17, h18, h19] = true) (sp0 : 0 ≤ sp) (sp1 : sp ≤ 65535) (dp0 : 0 ≤ dp) (dp1 : dp ≤ 65535) : bytesB [96, h1, h2, h3, h4, h5, 17, h7, s0, s1, s2, s3, s4, s5, s6, s7, s8, s9, s10, s11, s12, s13, s14, s15, d0, d1, d2, d3, d4, d5, d6, d7, d8, d9, d10, d11, d12, d13, d14, d15, sp / 256, sp % 256, dp / 256, dp % 256, 1, 2, 3, 4] = true := by
  simp only [bytesB_cons, Bool.and_eq_true, decide_eq_true_eq] at hs hd hh ⊢
  refine ⟨by omega, by omega, by omega, by omega, by omega, by omega, by omega, by omega, by omega, by omega, by omega, by omega, by omega, by omega, by omega, by omega, by omega, by omega, by omega, by omega, by omega, by omega, by omega, by omega, by omega, by omega, by omega, by omega, by omega, by omega, by omega, by omega, by omega, by omega, by omega, by omega, by omega, by omega, by omega, by omega, by omega, by omega, by omega, by omega, by omega, by omega, by omega, by omega, rfl⟩
theorem tc6u {s0 s1 s2 s3 s4 s5 s6 s7 s8 s9 s10 s11 s12 s13 s14 s15 d0 d1 d2 d3 d4 d5 d6 d7 d8 d9 d10 d11 d12 d13 d14 d15 h0 h1 h2 h3 h4 h5 h6 h7 h8 h9 h10 h11 h12 h13 h14 h15 h16 h17 h18 h19 sp dp : Int} : chainF 9 (gb [96, h1, h2, h3, h4, h5, 17, h7, s0, s1, s2, s3, s4, s5, s6, s7, s8, s9, s10, s11, s12, s13, s14, s15, d0, d1, d2, d3, d4, d5, d6, d7, d8, d9, d10, d11, d12, d13, d14, d15, sp / 256, sp % 256, dp / 256, dp % 256, 1, 2, 3, 4] 6) (List.drop 40 [96, h1, h2, h3, h4, h5, 17, h7, s0, s1, s2, s3, s4, s5, s6, s7, s8, s9, s10, s11, s12, s13, s14, s15, d0, d1, d2, d3, d4, d5, d6, d7, d8, d9, d10, d11, d12, d13, d14, d15, sp / 256, sp % 256, dp / 256, dp % 256, 1, 2, 3, 4]) 0 0 = (17, 0, 0) := rfl
theorem te6u {s0 s1 s2 s3 s4 s5 s6 s7 s8 s9 s10 s11 s12 s13 s14 s15 d0 d1 d2 d3 d4 d5 d6 d7 d8 d9 d10 d11 d12 d13 d14 d15 h0 h1 h2 h3 h4 h5 h6 h7 h8 h9 h10 h11 h12 h13 h14 h15 h16 h17 h18 h19 sp dp : Int} : wiE true [96, h1, h2, h3, h4, h5, 17, h7, s0, s1, s2, s3, s4, s5, s6, s7, s8, s9, s10, s11, s12, s13, s14, s15, d0, d1, d2, d3, d4, d5, d6, d7, d8, d9, d10, d11, d12, d13, d14, d15, sp / 256, sp % 256, dp / 256, dp % 256, 1, 2, 3, 4] = 0 := by
  have e : hdE true [96, h1, h2, h3, h4, h5, 17, h7, s0, s1, s2, s3, s4, s5, s6, s7, s8, s9, s10, s11, s12, s13, s14, s15, d0, d1, d2, d3, d4, d5, d6, d7, d8, d9, d10, d11, d12, d13, d14, d15, sp / 256, sp % 256, dp / 256, dp % 256, 1, 2, 3, 4] = 0 := rfl
  unfold wiE
  rw [e]
  rw [if_neg (by decide), if_neg (by show ¬ (¬ (17 : Int) = 6 ∧ ¬ (17 : Int) = 17); decide), if_neg (by show ¬ 48 < 40 + 4; decide)]
theorem tt6u {s0 s1 s2 s3 s4 s5 s6 s7 s8 s9 s10 s11 s12 s13 s14 s15 d0 d1 d2 d3 d4 d5 d6 d7 d8 d9 d10 d11 d12 d13 d14 d15 h0 h1 h2 h3 h4 h5 h6 h7 h8 h9 h10 h11 h12 h13 h14 h15 h16 h17 h18 h19 sp dp : Int} (sp0 : 0 ≤ sp) (sp1 : sp ≤ 65535) (dp0 : 0 ≤ dp) (dp1 : dp ≤ 65535) : wiT true [96, h1, h2, h3, h4, h5, 17, h7, s0, s1, s2, s3, s4, s5, s6, s7, s8, s9, s10, s11, s12, s13, s14, s15, d0, d1, d2, d3, d4, d5, d6, d7, d8, d9, d10, d11, d12, d13, d14, d15, sp / 256, sp % 256, dp / 256, dp % 256, 1, 2, 3, 4] = tupA true 17 [d0, d1, d2, d3, d4, d5, d6, d7, d8, d9, d10, d11, d12, d13, d14, d15] [s0, s1, s2, s3, s4, s5, s6, s7, s8, s9, s10, s11, s12, s13, s14, s15] dp sp := by
  unfold wiT
  rw [if_pos (@te6u s0 s1 s2 s3 s4 s5 s6 s7 s8 s9 s10 s11 s12 s13 s14 s15 d0 d1 d2 d3 d4 d5 d6 d7 d8 d9 d10 d11 d12 d13 d14 d15 h0 h1 h2 h3 h4 h5 h6 h7 h8 h9 h10 h11 h12 h13 h14 h15 h16 h17 h18 h19 sp dp)]
  have e1 : sp / 256 * 256 + sp % 256 = sp := by omega
  have e2 : dp / 256 * 256 + dp % 256 = dp := by omega
  show tupA _ _ _ _ (dp / 256 * 256 + dp % 256) (sp / 256 * 256 + sp % 256) = _
  rw [e1, e2]
  rfl
theorem tn6u {s0 s1 s2 s3 s4 s5 s6 s7 s8 s9 s10 s11 s12 s13 s14 s15 d0 d1 d2 d3 d4 d5 d6 d7 d8 d9 d10 d11 d12 d13 d14 d15 h0 h1 h2 h3 h4 h5 h6 h7 h8 h9 h10 h11 h12 h13 h14 h15 h16 h17 h18 h19 sp dp : Int} : wiE false [96, h1, h2, h3, h4, h5, 17, h7, s0, s1, s2, s3, s4, s5, s6, s7, s8, s9, s10, s11, s12, s13, s14, s15, d0, d1, d2, d3, d4, d5, d6, d7, d8, d9, d10, d11, d12, d13, d14, d15, sp / 256, sp % 256, dp / 256, dp % 256, 1, 2, 3, 4] = 5 := rfl
theorem tm6u {s0 s1 s2 s3 s4 s5 s6 s7 s8 s9 s10 s11 s12 s13 s14 s15 d0 d1 d2 d3 d4 d5 d6 d7 d8 d9 d10 d11 d12 d13 d14 d15 h0 h1 h2 h3 h4 h5 h6 h7 h8 h9 h10 h11 h12 h13 h14 h15 h16 h17 h18 h19 sp dp : Int} : wiT false [96, h1, h2, h3, h4, h5, 17, h7, s0, s1, s2, s3, s4, s5, s6, s7, s8, s9, s10, s11, s12, s13, s14, s15, d0, d1, d2, d3, d4, d5, d6, d7, d8, d9, d10, d11, d12, d13, d14, d15, sp / 256, sp % 256, dp / 256, dp % 256, 1, 2, 3, 4] = noTup := by
  unfold wiT
  rw [if_neg (by rw [@tn6u s0 s1 s2 s3 s4 s5 s6 s7 s8 s9 s10 s11 s12 s13 s14 s15 d0 d1 d2 d3 d4 d5 d6 d7 d8 d9 d10 d11 d12 d13 d14 d15 h0 h1 h2 h3 h4 h5 h6 h7 h8 h9 h10 h11 h12 h13 h14 h15 h16 h17 h18 h19 sp dp]; decide)]
set_option maxHeartbeats 16000000 in
theorem turned6u_run (p sp dp : Int) (s0 s1 s2 s3 s4 s5 s6 s7 s8 s9 s10 s11 s12 s13 s14 s15 d0 d1 d2 d3 d4 d5 d6 d7 d8 d9 d10 d11 d12 d13 d14 d15 h0 h1 h2 h3 h4 h5 h6 h7 h8 h9 h10 h11 h12 h13 h14 h15 h16 h17 h18 h19 : Int) (hs : bytesB [s0, s1, s2, s3, s4, s5, s6, s7, s8, s9, s10, s11, s12, s13, s14, s15] = true) (hd : bytesB [d0, d1, d2, d3, d4, d5, d6, d7, d8, d9, d10, d11, d12, d13, d14, d15] = true) (hh : bytesB [h0, h1, h2, h3, h4, h5, h6, h7, h8, h9, h10, h11, h12, h13, h14, h15, h16, h17, h18, h19] = true) (sp0 : 0 ≤ sp) (sp1 : sp ≤ 65535) (dp0 : 0 ≤ dp) (dp1 : dp ≤ 65535) : (pvCall Try.prog KT Dm 100000 1 0 11 [tupA true p [s0, s1, s2, s3, s4, s5, s6, s7, s8, s9, s10, s11, s12, s13, s14, s15] [d0, d1, d2, d3, d4, d5, d6, d7, d8, d9, d10, d11, d12, d13, d14, d15] sp dp, .v (.bool false), .agg (B8 [h0, h1, h2, h3, h4, h5, h6, h7, h8, h9, h10, h11, h12, h13, h14, h15, h16, h17, h18, h19])] (fun _ => none)).map (·.1) = some (.v (.bool true)) := by
  have g6 := and224 h6 (by simp only [bytesB_cons, Bool.and_eq_true, decide_eq_true_eq] at hh; omega) (by simp only [bytesB_cons, Bool.and_eq_true, decide_eq_true_eq] at hh; omega)
  have hB := ty6u hs hd hh sp0 sp1 dp0 dp1
  have hE := @te6u s0 s1 s2 s3 s4 s5 s6 s7 s8 s9 s10 s11 s12 s13 s14 s15 d0 d1 d2 d3 d4 d5 d6 d7 d8 d9 d10 d11 d12 d13 d14 d15 h0 h1 h2 h3 h4 h5 h6 h7 h8 h9 h10 h11 h12 h13 h14 h15 h16 h17 h18 h19 sp dp
  have hT := @tt6u s0 s1 s2 s3 s4 s5 s6 s7 s8 s9 s10 s11 s12 s13 s14 s15 d0 d1 d2 d3 d4 d5 d6 d7 d8 d9 d10 d11 d12 d13 d14 d15 h0 h1 h2 h3 h4 h5 h6 h7 h8 h9 h10 h11 h12 h13 h14 h15 h16 h17 h18 h19 sp dp sp0 sp1 dp0 dp1
  have hN := @tn6u s0 s1 s2 s3 s4 s5 s6 s7 s8 s9 s10 s11 s12 s13 s14 s15 d0 d1 d2 d3 d4 d5 d6 d7 d8 d9 d10 d11 d12 d13 d14 d15 h0 h1 h2 h3 h4 h5 h6 h7 h8 h9 h10 h11 h12 h13 h14 h15 h16 h17 h18 h19 sp dp
  have hM := @tm6u s0 s1 s2 s3 s4 s5 s6 s7 s8 s9 s10 s11 s12 s13 s14 s15 d0 d1 d2 d3 d4 d5 d6 d7 d8 d9 d10 d11 d12 d13 d14 d15 h0 h1 h2 h3 h4 h5 h6 h7 h8 h9 h10 h11 h12 h13 h14 h15 h16 h17 h18 h19 sp dp
  have p1 : sp.fdiv 256 = sp / 256 := Int.fdiv_eq_ediv_of_nonneg _ (by omega)
  have p2 : dp.fdiv 256 = dp / 256 := Int.fdiv_eq_ediv_of_nonneg _ (by omega)
  have p3 : IntKind.u8.wrap (sp / 256) = sp / 256 := wrapu8_id (by omega) (by omega)
  have p4 : IntKind.u8.wrap (dp / 256) = dp / 256 := wrapu8_id (by omega) (by omega)
  have p5 : IntKind.u8.wrap sp = sp % 256 := by simp [IntKind.wrap, IntKind.signed, IntKind.bits]
  have p6 : IntKind.u8.wrap dp = dp % 256 := by simp [IntKind.wrap, IntKind.signed, IntKind.bits]
  have p7 : IntKind.u16.wrap (sp / 256) = sp / 256 := wrapu16_id (by omega) (by omega)
  have p8 : IntKind.u16.wrap (dp / 256) = dp / 256 := wrapu16_id (by omega) (by omega)
  rw [pvCall_own (fn := Try.f11) rfl Try.func11 rfl (by decide) rfl rfl (by simp)]
  simp -implicitDefEqProofs [tupA, B8vc, B8vn, g6, hB, hE, hT, hN, hM, noTup, t16, p1, p2, p3, p4, p5, p6, p7, p8, fWithin, fKnown6, splice, zeros, asB8_nil'', asB8_cons'', IntKind.bits, List.replicate_succ, eqV_ci, eqV_cb, eqV_n, Nat.testBit_eq_decide_div_mod_eq]
end Go.Proofs.Ytcbjjkpjbdcakaa

