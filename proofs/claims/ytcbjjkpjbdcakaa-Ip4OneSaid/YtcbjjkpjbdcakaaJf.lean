/- The reference's reader of IPv4 as a function of values. -/
import Derived.Test.YtcbjjkpjbdcakaaJe
namespace Go.Proofs.Ytcbjjkpjbdcakaa
open Go.Pm Go.Wb
set_option linter.unusedVariables false
set_option linter.unusedSimpArgs false
set_option maxRecDepth 1000000
theorem w84 : IntKind.u8.wrap 4 = 4 := by decide
set_option maxHeartbeats 32000000 in
theorem rip4_ok (zs : List Int) (nn : Bool) (cap : Option Nat) (hz : bytesB zs = true) (hl : zs.length ≤ 500000) (h : chk4 zs = 0) : runF Try.prog KG Dm 100000 1 28 [.sl nn (B8 zs) zs.length cap] = some (ip4R zs (hl4 zs) (w16 zs 2).toNat) := by
  obtain ⟨h20, h4, hn, hnl, hof, hT, hTl, h6, hop, hfr⟩ := chk4_ok h
  have r2 := w16_range (bytesB_iff.1 hz) 2
  have r6 := w16_range (bytesB_iff.1 hz) 6
  have r4 := w16_range (bytesB_iff.1 hz) 4
  obtain ⟨e1, e2⟩ := hl4_range hz
  have g0 := gb_range hz 0
  have n4 := and15v (gb zs 0) g0.1 g0.2
  have w0 : IntKind.i64.wrap (gb zs 0 % 16) = gb zs 0 % 16 := wrap64_id (by omega) (by omega)
  have w1 : IntKind.i64.wrap (4 * (gb zs 0 % 16)) = (hl4 zs : Int) := by rw [wrap64_id (by omega) (by omega)]; omega
  have w1' : IntKind.i64.wrap (gb zs 0 % 16 * 4) = (hl4 zs : Int) := by rw [wrap64_id (by omega) (by omega)]; omega
  have s1 : (gb zs 0).fdiv 16 = gb zs 0 / 16 := Int.fdiv_eq_ediv_of_nonneg _ (by omega)
  have w4 : IntKind.u16.wrap (w16 zs 4) = w16 zs 4 := wrapu16_id (by omega) (by omega)
  obtain ⟨T, hTe⟩ := Int.eq_ofNat_of_zero_le r2.1
  generalize hl4 zs = n at *
  rw [hTe] at hT hTl ⊢
  simp only [Int.toNat_natCast]
  have hT' : n ≤ T := by omega
  have hTl' : T ≤ zs.length := by omega
  have a0 := B8_at00 zs (by omega)
  have a1 := B8_at0 zs 1 (by omega)
  have a8 := B8_at0 zs 8 (by omega)
  have a9 := B8_at0 zs 9 (by omega)
  have l0 : 0 < zs.length := by omega
  have l1 : 1 < zs.length := by omega
  have l8 : 8 < zs.length := by omega
  have l9 : 9 < zs.length := by omega
  have i0 : (0 : Int) < (zs.length : Int) := by omega
  have i1 : (1 : Int) < (zs.length : Int) := by omega
  have i8 : (8 : Int) < (zs.length : Int) := by omega
  have i9 : (9 : Int) < (zs.length : Int) := by omega
  have i3 : (3 : Int) < (zs.length : Int) := by omega
  have i5 : (5 : Int) < (zs.length : Int) := by omega
  have i7 : (7 : Int) < (zs.length : Int) := by omega
  have k1 : zs.length ≤ 1099511627776 := by omega
  have k2 : (12 : Int) ≤ (zs.length : Int) := by omega
  have k3 : (16 : Int) ≤ (zs.length : Int) := by omega
  have k4 : (20 : Int) ≤ (n : Int) := by omega
  have k5 : (n : Int) ≤ (zs.length : Int) := by omega
  have k6 : (n : Int) ≤ (T : Int) := by omega
  have k7 : (T : Int) ≤ (zs.length : Int) := by omega
  have k8 : 12 ≤ zs.length := by omega
  have k9 : 16 ≤ zs.length := by omega
  have k10 : min (n - 20) (zs.length - 20) = n - 20 := by omega
  have k11 : min (T - n) (zs.length - n) = T - n := by omega
  have k12 : n - 20 ≤ 549755813888 := by omega
  have k13 : T - n ≤ 549755813888 := by omega
  have k14 : n ≤ 549755813908 := by omega
  have k15 : T ≤ 549755813888 + n := by omega
  have k16 : n - 20 ≤ zs.length - 20 := by omega
  have k17 : T - n ≤ zs.length - n := by omega
  have k18 : min 4 (zs.length - 12) = 4 := by omega
  have k19 : min 4 (zs.length - 16) = 4 := by omega
  have k20 : 4 ≤ zs.length - 12 := by omega
  have k21 : 4 ≤ zs.length - 16 := by omega
  have k22 : 20 ≤ n := hn
  have k23 : n ≤ zs.length := hnl
  have x1 : (zs.drop 12).take 4 = [gb zs 12, gb zs 13, gb zs 14, gb zs 15] := by rw [take4_eq (by simp; omega), gb_drop, gb_drop, gb_drop, gb_drop]
  have x2 : (zs.drop 16).take 4 = [gb zs 16, gb zs 17, gb zs 18, gb zs 19] := by rw [take4_eq (by simp; omega), gb_drop, gb_drop, gb_drop, gb_drop]
  have x3 : (zs.drop 12).take (zs.length - 12) = zs.drop 12 := List.take_of_length_le (by simp)
  have x4 : (zs.drop 16).take (zs.length - 16) = zs.drop 16 := List.take_of_length_le (by simp)
  have x5 : ((zs.drop 20).take (n - 20)).take (n - 20) = (zs.drop 20).take (n - 20) := List.take_of_length_le (by simp; omega)
  have x6 : ((zs.drop n).take (T - n)).take (T - n) = (zs.drop n).take (T - n) := List.take_of_length_le (by simp; omega)
  have t0 : (gb zs 0).tmod 16 = gb zs 0 % 16 := Int.tmod_eq_emod_of_nonneg (by omega)
  have t1 : (gb zs 0).tdiv 16 = gb zs 0 / 16 := Int.tdiv_eq_ediv_of_nonneg (by omega)
  have t2 : IntKind.u8.wrap (gb zs 0 % 16) = gb zs 0 % 16 := wrapu8_id (by omega) (by omega)
  have t3 : IntKind.u8.wrap (gb zs 0 / 16) = gb zs 0 / 16 := wrapu8_id (by omega) (by omega)
  have t4 : (w16 zs 6).tmod 16384 = w16 zs 6 % 16384 := Int.tmod_eq_emod_of_nonneg (by omega)
  have t5 : IntKind.i64.wrap (w16 zs 6 % 16384) = w16 zs 6 % 16384 := wrap64_id (by omega) (by omega)
  have t6 : ¬ (zs.length : Int) < 20 := by omega
  have t7 : ¬ (n : Int) < 20 := by omega
  have t8 : ¬ (zs.length : Int) < (n : Int) := by omega
  have t9 : ¬ (T : Int) < (n : Int) := by omega
  have t10 : ¬ (zs.length : Int) < (T : Int) := by omega
  have t11 : ¬ (32768 : Int) ≤ w16 zs 6 := by omega
  have t12 : bytesB (zs.take n) = true := bytesB_take hz n
  have t13 : min n zs.length = n := by omega
  have t14 : n ≤ 1099511627776 := by omega
  have t15 : ((zs.drop 20).take (n - 20)).length = n - 20 := by simp; omega
  have t16 : n - 20 ≤ 9223372036854775807 := by omega
  have t17 : bytesB ((zs.drop 20).take (n - 20)) = true := bytesB_take (bytesB_drop hz _) _
  have t18 : 4 ≤ zs.length - 12 := by omega
  unfold runF ip4R ip4A
  rw [pvCall_own (fn := Try.f28) rfl Try.func28 rfl (by decide) rfl rfl (by simp)]
  simp -implicitDefEqProofs [h, hz, hl, fCheck, fWord4, fClone, fAddr, n4, w0, w1, w1', s1, w4, hTe, hT', hTl', a0, a1, a8, a9, l0, l1, l8, l9, i0, i1, i8, i9, i3, i5, i7, k1, k2, k3, k4, k5, k6, k7, k8, k9, k10, k11, k12, k13, k14, k15, k16, k17, k18, k19, k20, k21, k22, k23, x1, x2, x3, x4, x5, x6, ad4, gb_drop, B8c, B8n, splice, IntKind.bits, Nat.testBit_eq_decide_div_mod_eq, w84, t0, t1, t2, t3, t4, t5, t6, t7, t8, t9, t10, t11, t12, t13, t14, t15, t16, t17, t18, h4, hof, hop, hfr, fOf, fOpt]
set_option maxHeartbeats 64000000 in
theorem rip4_err (zs : List Int) (nn : Bool) (cap : Option Nat) (hz : bytesB zs = true) (hl : zs.length ≤ 500000) (h : ¬ chk4 zs = 0) : runF Try.prog KG Dm 100000 1 28 [.sl nn (B8 zs) zs.length cap] = some (err4 (chk4 zs)) := by
  unfold chk4 at h
  unfold runF err4 noH4 ip4A zz16 chk4
  rw [pvCall_own (fn := Try.f28) rfl Try.func28 rfl (by decide) rfl rfl (by simp)]
  by_cases h20 : zs.length < 20
  · have i20 : (zs.length : Int) < 20 := by omega
    rw [if_pos h20]
    simp -implicitDefEqProofs [i20, splice, B8c, B8n]
  rw [if_neg h20] at h ⊢
  have i20 : ¬ (zs.length : Int) < 20 := by omega
  have a0 := B8_at00 zs (by omega)
  have l0 : 0 < zs.length := by omega
  have i0 : (0 : Int) < (zs.length : Int) := by omega
  have g0 := gb_range hz 0
  have w0 : IntKind.i64.wrap (gb zs 0 % 16) = gb zs 0 % 16 := wrap64_id (by omega) (by omega)
  obtain ⟨e1, e2⟩ := hl4_range hz
  have w1 : IntKind.i64.wrap (gb zs 0 % 16 * 4) = (hl4 zs : Int) := by rw [wrap64_id (by omega) (by omega)]; omega
  have t0 : (gb zs 0).tmod 16 = gb zs 0 % 16 := Int.tmod_eq_emod_of_nonneg (by omega)
  have t1 : (gb zs 0).tdiv 16 = gb zs 0 / 16 := Int.tdiv_eq_ediv_of_nonneg (by omega)
  have t2 : IntKind.u8.wrap (gb zs 0 % 16) = gb zs 0 % 16 := wrapu8_id (by omega) (by omega)
  have t3 : IntKind.u8.wrap (gb zs 0 / 16) = gb zs 0 / 16 := wrapu8_id (by omega) (by omega)
  generalize hl4 zs = n at *
  by_cases h1 : gb zs 0 / 16 = 4
  case neg =>
    have h1n : (gb zs 0 / 16 != 4) = true := by simp [h1]
    have h1e : (gb zs 0 / 16 == 4) = false := by simp [h1]
    rw [if_pos (.inl h1)]
    simp -implicitDefEqProofs [i20, a0, l0, i0, w84, w0, w1, t0, t1, t2, t3, splice, B8c, B8n, IntKind.bits, h1n, h1e, h1]
  by_cases h2 : n < 20
  · have h2i : (n : Int) < 20 := by omega
    rw [if_pos (.inr h2)]
    simp -implicitDefEqProofs [i20, a0, l0, i0, w84, w0, w1, t0, t1, t2, t3, splice, B8c, B8n, IntKind.bits, h1, h2, h2i]
  rw [if_neg (by omega)] at h ⊢
  have h2i : ¬ (n : Int) < 20 := by omega
  by_cases h3 : zs.length < n
  · have h3i : (zs.length : Int) < (n : Int) := by omega
    rw [if_pos h3]
    simp -implicitDefEqProofs [i20, a0, l0, i0, w84, w0, w1, t0, t1, t2, t3, splice, B8c, B8n, IntKind.bits, h1, h2, h2i, h3i]
  rw [if_neg h3] at h ⊢
  have h3i : ¬ (zs.length : Int) < (n : Int) := by omega
  have r1 : (n : Int) ≤ (zs.length : Int) := by omega
  have r2 : n ≤ zs.length := by omega
  have r3 : n ≤ 1099511627776 := by omega
  have r4 : bytesB (zs.take n) = true := bytesB_take hz n
  have r5 : min n zs.length = n := by omega
  have r6 := w16_range (bytesB_iff.1 hz) 2
  have r7 := w16_range (bytesB_iff.1 hz) 6
  have r8 : zs.length ≤ 1099511627776 := by omega
  have r11 : (3 : Int) < (zs.length : Int) := by omega
  have r12 : (7 : Int) < (zs.length : Int) := by omega
  have r13 : (20 : Int) ≤ (n : Int) := by omega
  have r14 : ((zs.drop 20).take (n - 20)).length = n - 20 := by simp; omega
  have r15 : n - 20 ≤ 9223372036854775807 := by omega
  have r16 : bytesB ((zs.drop 20).take (n - 20)) = true := bytesB_take (bytesB_drop hz _) _
  have r17 : 20 ≤ n := by omega
  have t4 : (w16 zs 6).tmod 16384 = w16 zs 6 % 16384 := Int.tmod_eq_emod_of_nonneg (by omega)
  have t5 : IntKind.i64.wrap (w16 zs 6 % 16384) = w16 zs 6 % 16384 := wrap64_id (by omega) (by omega)
  by_cases h4 : ofV (zs.take n) = 0
  case neg =>
    have h4n : (ofV (zs.take n) != 0) = true := by simp [h4]
    have h4e : (ofV (zs.take n) == 0) = false := by simp [h4]
    rw [if_pos h4]
    simp -implicitDefEqProofs [i20, a0, l0, i0, w84, w0, w1, t0, t1, t2, t3, splice, B8c, B8n, IntKind.bits, h1, h2, h2i, h3i, r1, r2, r3, r4, r5, r8, r11, r12, r13, r14, r15, r16, r17, t4, t5, hz, fOf, fWord4, fOpt, h4, h4n, h4e]
  rw [if_neg (by simpa using h4)] at h ⊢
  by_cases h5 : w16 zs 2 < (n : Int)
  · rw [if_pos h5]
    simp -implicitDefEqProofs [i20, a0, l0, i0, w84, w0, w1, t0, t1, t2, t3, splice, B8c, B8n, IntKind.bits, h1, h2, h2i, h3i, r1, r2, r3, r4, r5, r8, r11, r12, r13, r14, r15, r16, r17, t4, t5, hz, fOf, fWord4, fOpt, h4, h5]
  rw [if_neg h5] at h ⊢
  by_cases h6 : (zs.length : Int) < w16 zs 2
  · rw [if_pos h6]
    simp -implicitDefEqProofs [i20, a0, l0, i0, w84, w0, w1, t0, t1, t2, t3, splice, B8c, B8n, IntKind.bits, h1, h2, h2i, h3i, r1, r2, r3, r4, r5, r8, r11, r12, r13, r14, r15, r16, r17, t4, t5, hz, fOf, fWord4, fOpt, h4, h5, h6]
  rw [if_neg h6] at h ⊢
  by_cases h7 : 32768 ≤ w16 zs 6
  · rw [if_pos h7]
    simp -implicitDefEqProofs [i20, a0, l0, i0, w84, w0, w1, t0, t1, t2, t3, splice, B8c, B8n, IntKind.bits, h1, h2, h2i, h3i, r1, r2, r3, r4, r5, r8, r11, r12, r13, r14, r15, r16, r17, t4, t5, hz, fOf, fWord4, fOpt, h4, h5, h6, h7]
  rw [if_neg h7] at h ⊢
  by_cases h8 : optE ((zs.drop 20).take (n - 20)) = 0
  case neg =>
    have h8n : (optE ((zs.drop 20).take (n - 20)) != 0) = true := by simp [h8]
    have h8e : (optE ((zs.drop 20).take (n - 20)) == 0) = false := by simp [h8]
    rw [if_pos h8]
    simp -implicitDefEqProofs [i20, a0, l0, i0, w84, w0, w1, t0, t1, t2, t3, splice, B8c, B8n, IntKind.bits, h1, h2, h2i, h3i, r1, r2, r3, r4, r5, r8, r11, r12, r13, r14, r15, r16, r17, t4, t5, hz, fOf, fWord4, fOpt, h4, h5, h6, h7, h8, h8n, h8e]
  rw [if_neg (by simpa using h8)] at h ⊢
  by_cases h9 : w16 zs 6 % 16384 = 0
  case neg =>
    have h9p : 0 < w16 zs 6 % 16384 := by omega
    rw [if_pos h9]
    simp -implicitDefEqProofs [i20, a0, l0, i0, w84, w0, w1, t0, t1, t2, t3, splice, B8c, B8n, IntKind.bits, h1, h2, h2i, h3i, r1, r2, r3, r4, r5, r8, r11, r12, r13, r14, r15, r16, r17, t4, t5, hz, fOf, fWord4, fOpt, h4, h5, h6, h7, h8, h9, h9p]
  rw [if_neg (by simpa using h9)] at h
  exact absurd rfl h
def ip4V (zs : List Int) : AV × List (List AV) := if chk4 zs = 0 then ip4R zs (hl4 zs) (w16 zs 2).toNat else err4 (chk4 zs)
def fIP4 : Fun
  | [.sl nn b len cap] => (asB8 b).bind fun zs => if zs.length = len ∧ len ≤ 500000 ∧ bytesB zs = true then some (ip4V zs) else none
  | _ => none
theorem ip4_pure : Pure Try.prog 27 fIP4 := (runF_pure kg_ok follows_mixed dm_ok 100000 1 27).weaken fun args r h => by
  unfold fIP4 at h
  split at h
  · rename_i nn b len cap
    obtain ⟨zs, hz, he⟩ := Option.bind_eq_some_iff.1 h
    clear h
    split at he
    case isFalse => cases he
    rename_i hh
    obtain ⟨rfl, h1, h2⟩ := hh
    obtain rfl := asB8_eq hz
    rw [← he]
    unfold ip4V
    split
    · rename_i q; exact pip4_ok zs nn cap h2 h1 q
    · rename_i q; exact pip4_err zs nn cap h2 h1 q
  · cases h
theorem rip4_pure : Pure Try.prog 28 fIP4 := (runF_pure kg_ok follows_mixed dm_ok 100000 1 28).weaken fun args r h => by
  unfold fIP4 at h
  split at h
  · rename_i nn b len cap
    obtain ⟨zs, hz, he⟩ := Option.bind_eq_some_iff.1 h
    clear h
    split at he
    case isFalse => cases he
    rename_i hh
    obtain ⟨rfl, h1, h2⟩ := hh
    obtain rfl := asB8_eq hz
    rw [← he]
    unfold ip4V
    split
    · rename_i q; exact rip4_ok zs nn cap h2 h1 q
    · rename_i q; exact rip4_err zs nn cap h2 h1 q
  · cases h
end Go.Proofs.Ytcbjjkpjbdcakaa
