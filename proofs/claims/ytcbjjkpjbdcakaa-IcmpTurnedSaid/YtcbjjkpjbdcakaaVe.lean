/- The reference's addresses and headers within as functions of values. -/
import Derived.Test.YtcbjjkpjbdcakaaVc
namespace Go.Proofs.Ytcbjjkpjbdcakaa
open Go.Pm Go.Wb
set_option linter.unusedVariables false
set_option linter.unusedSimpArgs false
set_option maxRecDepth 1000000
theorem take16_of {zs : List Int} {k : Nat} (h : k + 16 ≤ zs.length) : (zs.drop k).take 16 = (List.range 16).map fun i => gb zs (k + i) := by
  apply List.ext_getElem?
  intro i
  rw [List.getElem?_take, List.getElem?_drop, List.getElem?_map]
  by_cases hi : i < 16
  · rw [if_pos hi, List.getElem?_range hi]
    show _ = some (gb zs (k + i))
    unfold gb
    rw [List.getD_eq_getElem?_getD, List.getElem?_eq_getElem (by omega)]; rfl
  · rw [if_neg hi, List.getElem?_eq_none (by simp; omega)]; rfl
set_option maxHeartbeats 8000000 in
theorem raddr16_run (zs : List Int) (nn : Bool) (cap : Option Nat) (h : 20 ≤ zs.length) : runF Try.prog K0 Dm 100000 1 88 [.sl nn (B8 zs) zs.length cap, .v (.int .i64 16), .v (.int .i64 4)] = some (.agg (B8 (ad4 (zs.drop 16))), []) := by
  have l16 : 16 < zs.length := by omega
  have i16 : (16 : Int) < (zs.length : Int) := by omega
  have a16 := B8_at0 zs 16 (by omega)
  have l17 : 17 < zs.length := by omega
  have i17 : (17 : Int) < (zs.length : Int) := by omega
  have a17 := B8_at0 zs 17 (by omega)
  have l18 : 18 < zs.length := by omega
  have i18 : (18 : Int) < (zs.length : Int) := by omega
  have a18 := B8_at0 zs 18 (by omega)
  have l19 : 19 < zs.length := by omega
  have i19 : (19 : Int) < (zs.length : Int) := by omega
  have a19 := B8_at0 zs 19 (by omega)
  unfold runF
  rw [pvCall_own (fn := Try.f88) rfl Try.func88 rfl (by decide) rfl rfl (by simp)]
  simp -implicitDefEqProofs [loopK_pos, splice, ad4, gb_drop', B8vc, B8vn, l16, i16, a16, l17, i17, a17, l18, i18, a18, l19, i19, a19]
set_option maxHeartbeats 8000000 in
theorem raddr12_run (zs : List Int) (nn : Bool) (cap : Option Nat) (h : 16 ≤ zs.length) : runF Try.prog K0 Dm 100000 1 88 [.sl nn (B8 zs) zs.length cap, .v (.int .i64 12), .v (.int .i64 4)] = some (.agg (B8 (ad4 (zs.drop 12))), []) := by
  have l12 : 12 < zs.length := by omega
  have i12 : (12 : Int) < (zs.length : Int) := by omega
  have a12 := B8_at0 zs 12 (by omega)
  have l13 : 13 < zs.length := by omega
  have i13 : (13 : Int) < (zs.length : Int) := by omega
  have a13 := B8_at0 zs 13 (by omega)
  have l14 : 14 < zs.length := by omega
  have i14 : (14 : Int) < (zs.length : Int) := by omega
  have a14 := B8_at0 zs 14 (by omega)
  have l15 : 15 < zs.length := by omega
  have i15 : (15 : Int) < (zs.length : Int) := by omega
  have a15 := B8_at0 zs 15 (by omega)
  unfold runF
  rw [pvCall_own (fn := Try.f88) rfl Try.func88 rfl (by decide) rfl rfl (by simp)]
  simp -implicitDefEqProofs [loopK_pos, splice, ad4, gb_drop', B8vc, B8vn, l12, i12, a12, l13, i13, a13, l14, i14, a14, l15, i15, a15]
set_option maxHeartbeats 8000000 in
theorem raddr24_run (zs : List Int) (nn : Bool) (cap : Option Nat) (h : 40 ≤ zs.length) : runF Try.prog K0 Dm 100000 1 88 [.sl nn (B8 zs) zs.length cap, .v (.int .i64 24), .v (.int .i64 16)] = some (.agg (B8 ((zs.drop 24).take 16)), []) := by
  have l24 : 24 < zs.length := by omega
  have i24 : (24 : Int) < (zs.length : Int) := by omega
  have a24 := B8_at0 zs 24 (by omega)
  have l25 : 25 < zs.length := by omega
  have i25 : (25 : Int) < (zs.length : Int) := by omega
  have a25 := B8_at0 zs 25 (by omega)
  have l26 : 26 < zs.length := by omega
  have i26 : (26 : Int) < (zs.length : Int) := by omega
  have a26 := B8_at0 zs 26 (by omega)
  have l27 : 27 < zs.length := by omega
  have i27 : (27 : Int) < (zs.length : Int) := by omega
  have a27 := B8_at0 zs 27 (by omega)
  have l28 : 28 < zs.length := by omega
  have i28 : (28 : Int) < (zs.length : Int) := by omega
  have a28 := B8_at0 zs 28 (by omega)
  have l29 : 29 < zs.length := by omega
  have i29 : (29 : Int) < (zs.length : Int) := by omega
  have a29 := B8_at0 zs 29 (by omega)
  have l30 : 30 < zs.length := by omega
  have i30 : (30 : Int) < (zs.length : Int) := by omega
  have a30 := B8_at0 zs 30 (by omega)
  have l31 : 31 < zs.length := by omega
  have i31 : (31 : Int) < (zs.length : Int) := by omega
  have a31 := B8_at0 zs 31 (by omega)
  have l32 : 32 < zs.length := by omega
  have i32 : (32 : Int) < (zs.length : Int) := by omega
  have a32 := B8_at0 zs 32 (by omega)
  have l33 : 33 < zs.length := by omega
  have i33 : (33 : Int) < (zs.length : Int) := by omega
  have a33 := B8_at0 zs 33 (by omega)
  have l34 : 34 < zs.length := by omega
  have i34 : (34 : Int) < (zs.length : Int) := by omega
  have a34 := B8_at0 zs 34 (by omega)
  have l35 : 35 < zs.length := by omega
  have i35 : (35 : Int) < (zs.length : Int) := by omega
  have a35 := B8_at0 zs 35 (by omega)
  have l36 : 36 < zs.length := by omega
  have i36 : (36 : Int) < (zs.length : Int) := by omega
  have a36 := B8_at0 zs 36 (by omega)
  have l37 : 37 < zs.length := by omega
  have i37 : (37 : Int) < (zs.length : Int) := by omega
  have a37 := B8_at0 zs 37 (by omega)
  have l38 : 38 < zs.length := by omega
  have i38 : (38 : Int) < (zs.length : Int) := by omega
  have a38 := B8_at0 zs 38 (by omega)
  have l39 : 39 < zs.length := by omega
  have i39 : (39 : Int) < (zs.length : Int) := by omega
  have a39 := B8_at0 zs 39 (by omega)
  rw [take16_of (by omega)]
  unfold runF
  rw [pvCall_own (fn := Try.f88) rfl Try.func88 rfl (by decide) rfl rfl (by simp)]
  simp -implicitDefEqProofs [loopK_pos, splice, ad4, gb_drop', B8vc, B8vn, l24, i24, a24, l25, i25, a25, l26, i26, a26, l27, i27, a27, l28, i28, a28, l29, i29, a29, l30, i30, a30, l31, i31, a31, l32, i32, a32, l33, i33, a33, l34, i34, a34, l35, i35, a35, l36, i36, a36, l37, i37, a37, l38, i38, a38, l39, i39, a39]
  all_goals rfl
set_option maxHeartbeats 8000000 in
theorem raddr8_run (zs : List Int) (nn : Bool) (cap : Option Nat) (h : 24 ≤ zs.length) : runF Try.prog K0 Dm 100000 1 88 [.sl nn (B8 zs) zs.length cap, .v (.int .i64 8), .v (.int .i64 16)] = some (.agg (B8 ((zs.drop 8).take 16)), []) := by
  have l8 : 8 < zs.length := by omega
  have i8 : (8 : Int) < (zs.length : Int) := by omega
  have a8 := B8_at0 zs 8 (by omega)
  have l9 : 9 < zs.length := by omega
  have i9 : (9 : Int) < (zs.length : Int) := by omega
  have a9 := B8_at0 zs 9 (by omega)
  have l10 : 10 < zs.length := by omega
  have i10 : (10 : Int) < (zs.length : Int) := by omega
  have a10 := B8_at0 zs 10 (by omega)
  have l11 : 11 < zs.length := by omega
  have i11 : (11 : Int) < (zs.length : Int) := by omega
  have a11 := B8_at0 zs 11 (by omega)
  have l12 : 12 < zs.length := by omega
  have i12 : (12 : Int) < (zs.length : Int) := by omega
  have a12 := B8_at0 zs 12 (by omega)
  have l13 : 13 < zs.length := by omega
  have i13 : (13 : Int) < (zs.length : Int) := by omega
  have a13 := B8_at0 zs 13 (by omega)
  have l14 : 14 < zs.length := by omega
  have i14 : (14 : Int) < (zs.length : Int) := by omega
  have a14 := B8_at0 zs 14 (by omega)
  have l15 : 15 < zs.length := by omega
  have i15 : (15 : Int) < (zs.length : Int) := by omega
  have a15 := B8_at0 zs 15 (by omega)
  have l16 : 16 < zs.length := by omega
  have i16 : (16 : Int) < (zs.length : Int) := by omega
  have a16 := B8_at0 zs 16 (by omega)
  have l17 : 17 < zs.length := by omega
  have i17 : (17 : Int) < (zs.length : Int) := by omega
  have a17 := B8_at0 zs 17 (by omega)
  have l18 : 18 < zs.length := by omega
  have i18 : (18 : Int) < (zs.length : Int) := by omega
  have a18 := B8_at0 zs 18 (by omega)
  have l19 : 19 < zs.length := by omega
  have i19 : (19 : Int) < (zs.length : Int) := by omega
  have a19 := B8_at0 zs 19 (by omega)
  have l20 : 20 < zs.length := by omega
  have i20 : (20 : Int) < (zs.length : Int) := by omega
  have a20 := B8_at0 zs 20 (by omega)
  have l21 : 21 < zs.length := by omega
  have i21 : (21 : Int) < (zs.length : Int) := by omega
  have a21 := B8_at0 zs 21 (by omega)
  have l22 : 22 < zs.length := by omega
  have i22 : (22 : Int) < (zs.length : Int) := by omega
  have a22 := B8_at0 zs 22 (by omega)
  have l23 : 23 < zs.length := by omega
  have i23 : (23 : Int) < (zs.length : Int) := by omega
  have a23 := B8_at0 zs 23 (by omega)
  rw [take16_of (by omega)]
  unfold runF
  rw [pvCall_own (fn := Try.f88) rfl Try.func88 rfl (by decide) rfl rfl (by simp)]
  simp -implicitDefEqProofs [loopK_pos, splice, ad4, gb_drop', B8vc, B8vn, l8, i8, a8, l9, i9, a9, l10, i10, a10, l11, i11, a11, l12, i12, a12, l13, i13, a13, l14, i14, a14, l15, i15, a15, l16, i16, a16, l17, i17, a17, l18, i18, a18, l19, i19, a19, l20, i20, a20, l21, i21, a21, l22, i22, a22, l23, i23, a23]
  all_goals rfl
def fRAddr : Fun
  | [.sl nn b len cap, .v (.int .i64 k), .v (.int .i64 m)] => (asB8 b).bind fun zs => if zs.length = len ∧ (k + m : Int) ≤ (len : Int) ∧ ((k = 16 ∧ m = 4) ∨ (k = 12 ∧ m = 4) ∨ (k = 24 ∧ m = 16) ∨ (k = 8 ∧ m = 16)) then some (.agg (B8 (if m = 4 then ad4 (zs.drop k.toNat) else (zs.drop k.toNat).take 16)), []) else none
  | _ => none
theorem raddr_pure : Pure Try.prog 88 fRAddr := (runF_pure k0_ok follows_mixed dm_ok 100000 1 88).weaken fun args r h => by
  unfold fRAddr at h
  split at h
  · rename_i nn b len cap k m
    obtain ⟨zs, hz, he⟩ := Option.bind_eq_some_iff.1 h
    clear h
    split at he
    case isFalse => cases he
    rename_i hh
    obtain ⟨rfl, h1, h2⟩ := hh
    obtain rfl := asB8_eq hz
    rw [← he]
    rcases h2 with ⟨rfl, rfl⟩ | ⟨rfl, rfl⟩ | ⟨rfl, rfl⟩ | ⟨rfl, rfl⟩
    · exact raddr16_run zs nn cap (by omega)
    · exact raddr12_run zs nn cap (by omega)
    · exact raddr24_run zs nn cap (by omega)
    · exact raddr8_run zs nn cap (by omega)
  · cases h
noncomputable def KP : Nat → Option Con
  | 42 => some fChain
  | 21 => some fNum
  | 88 => some fRAddr
  | _ => none
theorem kp_ok : KOk Try.prog KP := fun f F h => by
  unfold KP at h
  split at h
  · cases h; exact ⟨rchain_pure, _, Try.func42, rfl, by decide⟩
  · cases h; exact ⟨num_pure, _, Try.func21, rfl, by decide⟩
  · cases h; exact ⟨raddr_pure, _, Try.func88, rfl, by decide⟩
  · cases h
section
variable {D : FuncId → Nat → List Nat} {L d px : Nat} {args : List AV} {m : Mem}
theorem ckp_rchain : pvCall Try.prog KP D L d px 42 args m = callBy fChain m px args := pvCall_by rfl
theorem ckp_num : pvCall Try.prog KP D L d px 21 args m = callBy fNum m px args := pvCall_by rfl
theorem ckp_raddr : pvCall Try.prog KP D L d px 88 args m = callBy fRAddr m px args := pvCall_by rfl
end
theorem ekp_rchain : KP 42 = some (.pure fChain) := rfl
theorem ekp_num : KP 21 = some (.pure fNum) := rfl
theorem ekp_raddr : KP 88 = some (.pure fRAddr) := rfl
attribute [simp] ckp_rchain ekp_rchain ckp_num ekp_num ckp_raddr ekp_raddr
def fourV (zs : List Int) : AV × List (List AV) := (.tup [if hd4E zs = 0 then tupA false (gb zs 9) (ad4 (zs.drop 16)) (ad4 (zs.drop 12)) 0 0 else noTup, .v (.int .i64 (if hd4E zs = 0 then (hn4 zs : Int) else 0)), .v (.int .i64 (hd4E zs))], [])
def sixV (zs : List Int) : AV × List (List AV) := (.tup [if hd6E zs = 0 then tupA true (hdP true zs) (hdS true zs) (hdD true zs) 0 0 else tupA true 0 t16 t16 0 0, .v (.int .i64 (if hd6E zs = 0 then (hdN true zs : Int) else 0)), .v (.int .i64 (hd6E zs))], [])
set_option maxHeartbeats 16000000 in
theorem four_run' (zs : List Int) (nn : Bool) (cap : Option Nat) (hz : bytesB zs = true) (hl : zs.length ≤ 500000) : runF Try.prog KP Dm 100000 1 73 [.sl nn (B8 zs) zs.length cap] = some (fourV zs) := by
  unfold runF fourV hd4E
  rw [pvCall_own (fn := Try.f73) rfl Try.func73 rfl (by decide) rfl rfl (by simp)]
  by_cases h20 : zs.length < 20
  · have i20 : (zs.length : Int) < 20 := by omega
    simp -implicitDefEqProofs [h20, i20, noTup, tupA, t16, B8vc, B8vn, splice]
  rw [if_neg h20]
  have i20 : ¬ (zs.length : Int) < 20 := by omega
  have a0 := B8_at00 zs (by omega)
  have l0 : 0 < zs.length := by omega
  have i0 : (0 : Int) < (zs.length : Int) := by omega
  have g0 := gb_range hz 0
  have w0 : IntKind.i64.wrap (gb zs 0 % 16) = gb zs 0 % 16 := wrap64_id (by omega) (by omega)
  have e1 : (hn4 zs : Int) = gb zs 0 % 16 * 4 := by unfold hn4; omega
  have w1 : IntKind.i64.wrap (gb zs 0 % 16 * 4) = (hn4 zs : Int) := by rw [wrap64_id (by omega) (by omega)]; omega
  have t0 : (gb zs 0).tmod 16 = gb zs 0 % 16 := Int.tmod_eq_emod_of_nonneg (by omega)
  have t1 : (gb zs 0).tdiv 16 = gb zs 0 / 16 := Int.tdiv_eq_ediv_of_nonneg (by omega)
  have t2 : IntKind.u8.wrap (gb zs 0 % 16) = gb zs 0 % 16 := wrapu8_id (by omega) (by omega)
  have t3 : IntKind.u8.wrap (gb zs 0 / 16) = gb zs 0 / 16 := wrapu8_id (by omega) (by omega)
  have t4 : IntKind.u8.wrap 4 = 4 := by decide
  generalize hn4 zs = n at *
  by_cases h4 : gb zs 0 / 16 = 4
  case neg =>
    have h4n : (gb zs 0 / 16 != 4) = true := by simp [h4]
    have h4e : (gb zs 0 / 16 == 4) = false := by simp [h4]
    simp -implicitDefEqProofs [i20, a0, l0, i0, w0, w1, t0, t1, t2, t3, t4, B8vc, B8vn, splice, IntKind.bits, Nat.testBit_eq_decide_div_mod_eq, h4, h4n, h4e, noTup, tupA, t16]
  by_cases h2 : n < 20
  · have h2i : (n : Int) < 20 := by omega
    simp -implicitDefEqProofs [i20, a0, l0, i0, w0, w1, t0, t1, t2, t3, t4, B8vc, B8vn, splice, IntKind.bits, Nat.testBit_eq_decide_div_mod_eq, h4, h2, h2i, noTup, tupA, t16]
  have h2i : ¬ (n : Int) < 20 := by omega
  by_cases h3 : zs.length < n
  · have h3i : (zs.length : Int) < (n : Int) := by omega
    simp -implicitDefEqProofs [i20, a0, l0, i0, w0, w1, t0, t1, t2, t3, t4, B8vc, B8vn, splice, IntKind.bits, Nat.testBit_eq_decide_div_mod_eq, h4, h2, h2i, h3, h3i, noTup, tupA, t16]
  have h3i : ¬ (zs.length : Int) < (n : Int) := by omega
  have r7 := w16_range (bytesB_iff.1 hz) 6
  have l40 : zs.length ≤ 1099511627776 := by omega
  have i7 : (7 : Int) < (zs.length : Int) := by omega
  have u0 : (w16 zs 6).tmod 8192 = w16 zs 6 % 8192 := Int.tmod_eq_emod_of_nonneg (by omega)
  have u1 : IntKind.u32.wrap (w16 zs 6 % 8192) = w16 zs 6 % 8192 := wrapu32_id (by omega) (by omega)
  by_cases hf : w16 zs 6 % 8192 = 0
  case neg =>
    have hfn : (w16 zs 6 % 8192 != 0) = true := by simp [hf]
    simp -implicitDefEqProofs [i20, a0, l0, i0, w0, w1, t0, t1, t2, t3, t4, B8vc, B8vn, splice, IntKind.bits, Nat.testBit_eq_decide_div_mod_eq, h4, h2, h2i, h3, h3i, l40, i7, u0, u1, hf, hfn, hz, fNum, noTup, tupA, t16]
  have a9 := B8_at0 zs 9 (by omega)
  have l9 : 9 < zs.length := by omega
  have i9 : (9 : Int) < (zs.length : Int) := by omega
  have c1 : (16 : Int) + 4 ≤ (zs.length : Int) := by omega
  have c2 : (12 : Int) + 4 ≤ (zs.length : Int) := by omega
  have c3 : (20 : Int) ≤ (zs.length : Int) := by omega
  have c4 : (16 : Int) ≤ (zs.length : Int) := by omega
  simp -implicitDefEqProofs [i20, a0, l0, i0, w0, w1, t0, t1, t2, t3, t4, B8vc, B8vn, splice, IntKind.bits, Nat.testBit_eq_decide_div_mod_eq, h4, h2, h2i, h3, h3i, l40, i7, u0, u1, hf, hz, fNum, a9, l9, i9, c1, c2, c3, c4, fRAddr, tupA, ad4, gb_drop']
set_option maxHeartbeats 16000000 in
theorem six_run' (zs : List Int) (nn : Bool) (cap : Option Nat) (hz : bytesB zs = true) (hl : zs.length ≤ 500000) : runF Try.prog KP Dm 100000 1 74 [.sl nn (B8 zs) zs.length cap] = some (sixV zs) := by
  have hP : hdP true zs = (chainF 9 (gb zs 6) (zs.drop 40) 0 0).1 := rfl
  have hN : hdN true zs = 40 + (chainF 9 (gb zs 6) (zs.drop 40) 0 0).2.1.toNat := rfl
  have hS : hdS true zs = (zs.drop 24).take 16 := rfl
  have hD : hdD true zs = (zs.drop 8).take 16 := rfl
  unfold runF sixV
  rw [hP, hN, hS, hD]
  unfold hd6E
  rw [pvCall_own (fn := Try.f74) rfl Try.func74 rfl (by decide) rfl rfl (by simp)]
  by_cases h40 : zs.length < 40
  · have i40 : (zs.length : Int) < 40 := by omega
    simp -implicitDefEqProofs [h40, i40, tupA, t16, B8vc, B8vn, splice]
  rw [if_neg h40]
  have i40 : ¬ (zs.length : Int) < 40 := by omega
  have a0 := B8_at00 zs (by omega)
  have l0 : 0 < zs.length := by omega
  have i0 : (0 : Int) < (zs.length : Int) := by omega
  have g0 := gb_range hz 0
  have t1 : (gb zs 0).tdiv 16 = gb zs 0 / 16 := Int.tdiv_eq_ediv_of_nonneg (by omega)
  have t3 : IntKind.u8.wrap (gb zs 0 / 16) = gb zs 0 / 16 := wrapu8_id (by omega) (by omega)
  have t4 : IntKind.u8.wrap 6 = 6 := by decide
  by_cases h6 : gb zs 0 / 16 = 6
  case neg =>
    have h6n : (gb zs 0 / 16 != 6) = true := by simp [h6]
    simp -implicitDefEqProofs [i40, a0, l0, i0, t1, t3, h6, h6n, tupA, t16, B8vc, B8vn, splice, IntKind.bits]
  have g6 := gb_range hz 6
  have hb40 : bytesB (zs.drop 40) = true := bytesB_drop hz 40
  have hout := chain_out 9 (gb zs 6) (zs.drop 40) 0 0 g6.1 g6.2 hb40 (by omega) (by omega) (by omega)
  obtain ⟨⟨r1, r2, r3⟩, hc⟩ : ∃ r, chainF 9 (gb zs 6) (zs.drop 40) 0 0 = r := ⟨_, rfl⟩
  rw [hc] at hout ⊢
  simp only at hout ⊢
  have a6 := B8_at0 zs 6 (by omega)
  have l6 : 6 < zs.length := by omega
  have i6 : (6 : Int) < (zs.length : Int) := by omega
  have k2 : (40 : Int) ≤ (zs.length : Int) := by omega
  have k3 : (24 : Int) ≤ (zs.length : Int) := by omega
  have k5 : 40 ≤ zs.length := by omega
  have k8 : (zs.drop 40).length = zs.length - 40 := by simp
  have k9 : zs.length - 40 ≤ 1099511627776 := by omega
  have k10 : (zs.drop 40).take (zs.length - 40) = zs.drop 40 := List.take_of_length_le (by simp)
  by_cases h3 : r3 = 0
  case neg =>
    have h3n : (r3 != 0) = true := by simp [h3]
    simp -implicitDefEqProofs [i40, a0, l0, i0, t1, t3, t4, h6, a6, l6, i6, k2, k5, k8, k9, k10, hb40, hc, g6, fChain, chainV, splice, IntKind.bits, Nat.testBit_eq_decide_div_mod_eq, h3, h3n, tupA, t16, B8vc, B8vn]
  subst h3
  rcases hout with ⟨_, ho1, ho2, ho3, ho4⟩ | ⟨q, _⟩
  case inr => exact absurd rfl q
  obtain ⟨n, rfl⟩ := Int.eq_ofNat_of_zero_le ho1
  have hn : n ≤ zs.length - 40 := by omega
  have m1 : IntKind.i64.wrap (40 + (n : Int)) = 40 + (n : Int) := wrap64_id (by omega) (by omega)
  obtain ⟨S, hSS⟩ : ∃ S, (zs.drop 24).take 16 = S := ⟨_, rfl⟩
  obtain ⟨E, hEE⟩ : ∃ E, (zs.drop 8).take 16 = E := ⟨_, rfl⟩
  have hSl : S.length = 16 := by rw [← hSS]; simp; omega
  have hEl : E.length = 16 := by rw [← hEE]; simp; omega
  rw [hSS, hEE]
  simp -implicitDefEqProofs [i40, a0, l0, i0, t1, t3, t4, h6, a6, l6, i6, k2, k5, k8, k9, k10, hb40, hc, g6, fChain, chainV, splice, IntKind.bits, Nat.testBit_eq_decide_div_mod_eq, m1, hSS, hEE, hSl, hEl, k3, fRAddr, tupA, B8t16 hSl, B8d16 hSl, B8t16 hEl, B8d16 hEl, B8t33 hSl, B8t17 hEl, B8d32 hSl, B8d32 hEl, B8t32 hSl, B8d33 hSl, B8d17 hEl, B8d34 hSl, B8d18 hEl, B8t34 hSl, B8t18 hEl, -B8_append]
def fFour6 : Fun
  | [.sl nn b len cap] => (asB8 b).bind fun zs => if zs.length = len ∧ len ≤ 500000 ∧ bytesB zs = true then some (fourV zs) else none
  | _ => none
def fSix6 : Fun
  | [.sl nn b len cap] => (asB8 b).bind fun zs => if zs.length = len ∧ len ≤ 500000 ∧ bytesB zs = true then some (sixV zs) else none
  | _ => none
theorem four6_pure : Pure Try.prog 73 fFour6 := (runF_pure kp_ok follows_mixed dm_ok 100000 1 73).weaken fun args r h => by
  unfold fFour6 at h
  split at h
  · rename_i nn b len cap
    obtain ⟨zs, hz, he⟩ := Option.bind_eq_some_iff.1 h
    clear h
    split at he
    case isFalse => cases he
    rename_i hh
    obtain ⟨rfl, h1, h2⟩ := hh
    obtain rfl := asB8_eq hz
    rw [← he]
    exact four_run' zs nn cap h2 h1
  · cases h
theorem six6_pure : Pure Try.prog 74 fSix6 := (runF_pure kp_ok follows_mixed dm_ok 100000 1 74).weaken fun args r h => by
  unfold fSix6 at h
  split at h
  · rename_i nn b len cap
    obtain ⟨zs, hz, he⟩ := Option.bind_eq_some_iff.1 h
    clear h
    split at he
    case isFalse => cases he
    rename_i hh
    obtain ⟨rfl, h1, h2⟩ := hh
    obtain rfl := asB8_eq hz
    rw [← he]
    exact six_run' zs nn cap h2 h1
  · cases h
end Go.Proofs.Ytcbjjkpjbdcakaa

