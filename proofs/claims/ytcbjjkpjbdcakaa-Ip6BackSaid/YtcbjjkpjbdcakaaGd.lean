/- The reference's reader of IPv6 as a function of values. -/
import Derived.Test.YtcbjjkpjbdcakaaGc
namespace Go.Proofs.Ytcbjjkpjbdcakaa
open Go.Pm Go.Wb
set_option linter.unusedVariables false
set_option linter.unusedSimpArgs false
set_option maxRecDepth 1000000
theorem take16_eq {zs : List Int} {k : Nat} (h : k + 16 ≤ zs.length) : (zs.drop k).take 16 = (List.range 16).map fun i => gb zs (k + i) := by
  apply List.ext_getElem?
  intro i
  rw [List.getElem?_take, List.getElem?_drop, List.getElem?_map]
  by_cases hi : i < 16
  · rw [if_pos hi, List.getElem?_range hi]
    show _ = some (gb zs (k + i))
    unfold gb
    rw [List.getD_eq_getElem?_getD, List.getElem?_eq_getElem (by omega)]; rfl
  · rw [if_neg hi, List.getElem?_eq_none (by simp; omega)]; rfl
set_option maxHeartbeats 8000000 in
theorem sixt8_run (zs : List Int) (nn : Bool) (cap : Option Nat) (h : 40 ≤ zs.length) : runF Try.prog K0 Dm 100000 1 68 [.sl nn (B8 zs) zs.length cap, .v (.int .i64 8)] = some (.agg (B8 ((zs.drop 8).take 16)), []) := by
  have l8 : 8 < zs.length := by omega
  have i8 : (8 : Int) < (zs.length : Int) := by omega
  have a8 := B8_at0 zs 8 (by omega)
  have l9 : 9 < zs.length := by omega
  have i9 : (9 : Int) < (zs.length : Int) := by omega
  have a9 := B8_at0 zs 9 (by omega)
  have l10 : 10 < zs.length := by omega
  have i10 : (10 : Int) < (zs.length : Int) := by omega
  have a10 := B8_at0 zs 10 (by omega)
  have l11 : 11 < zs.length := by omega
  have i11 : (11 : Int) < (zs.length : Int) := by omega
  have a11 := B8_at0 zs 11 (by omega)
  have l12 : 12 < zs.length := by omega
  have i12 : (12 : Int) < (zs.length : Int) := by omega
  have a12 := B8_at0 zs 12 (by omega)
  have l13 : 13 < zs.length := by omega
  have i13 : (13 : Int) < (zs.length : Int) := by omega
  have a13 := B8_at0 zs 13 (by omega)
  have l14 : 14 < zs.length := by omega
  have i14 : (14 : Int) < (zs.length : Int) := by omega
  have a14 := B8_at0 zs 14 (by omega)
  have l15 : 15 < zs.length := by omega
  have i15 : (15 : Int) < (zs.length : Int) := by omega
  have a15 := B8_at0 zs 15 (by omega)
  have l16 : 16 < zs.length := by omega
  have i16 : (16 : Int) < (zs.length : Int) := by omega
  have a16 := B8_at0 zs 16 (by omega)
  have l17 : 17 < zs.length := by omega
  have i17 : (17 : Int) < (zs.length : Int) := by omega
  have a17 := B8_at0 zs 17 (by omega)
  have l18 : 18 < zs.length := by omega
  have i18 : (18 : Int) < (zs.length : Int) := by omega
  have a18 := B8_at0 zs 18 (by omega)
  have l19 : 19 < zs.length := by omega
  have i19 : (19 : Int) < (zs.length : Int) := by omega
  have a19 := B8_at0 zs 19 (by omega)
  have l20 : 20 < zs.length := by omega
  have i20 : (20 : Int) < (zs.length : Int) := by omega
  have a20 := B8_at0 zs 20 (by omega)
  have l21 : 21 < zs.length := by omega
  have i21 : (21 : Int) < (zs.length : Int) := by omega
  have a21 := B8_at0 zs 21 (by omega)
  have l22 : 22 < zs.length := by omega
  have i22 : (22 : Int) < (zs.length : Int) := by omega
  have a22 := B8_at0 zs 22 (by omega)
  have l23 : 23 < zs.length := by omega
  have i23 : (23 : Int) < (zs.length : Int) := by omega
  have a23 := B8_at0 zs 23 (by omega)
  rw [take16_eq (by omega)]
  unfold runF
  rw [pvCall_own (fn := Try.f68) rfl Try.func68 rfl (by decide) rfl rfl (by simp)]
  simp -implicitDefEqProofs [loopK_pos, splice, l8, i8, a8, l9, i9, a9, l10, i10, a10, l11, i11, a11, l12, i12, a12, l13, i13, a13, l14, i14, a14, l15, i15, a15, l16, i16, a16, l17, i17, a17, l18, i18, a18, l19, i19, a19, l20, i20, a20, l21, i21, a21, l22, i22, a22, l23, i23, a23]
  rfl
set_option maxHeartbeats 8000000 in
theorem sixt24_run (zs : List Int) (nn : Bool) (cap : Option Nat) (h : 40 ≤ zs.length) : runF Try.prog K0 Dm 100000 1 68 [.sl nn (B8 zs) zs.length cap, .v (.int .i64 24)] = some (.agg (B8 ((zs.drop 24).take 16)), []) := by
  have l24 : 24 < zs.length := by omega
  have i24 : (24 : Int) < (zs.length : Int) := by omega
  have a24 := B8_at0 zs 24 (by omega)
  have l25 : 25 < zs.length := by omega
  have i25 : (25 : Int) < (zs.length : Int) := by omega
  have a25 := B8_at0 zs 25 (by omega)
  have l26 : 26 < zs.length := by omega
  have i26 : (26 : Int) < (zs.length : Int) := by omega
  have a26 := B8_at0 zs 26 (by omega)
  have l27 : 27 < zs.length := by omega
  have i27 : (27 : Int) < (zs.length : Int) := by omega
  have a27 := B8_at0 zs 27 (by omega)
  have l28 : 28 < zs.length := by omega
  have i28 : (28 : Int) < (zs.length : Int) := by omega
  have a28 := B8_at0 zs 28 (by omega)
  have l29 : 29 < zs.length := by omega
  have i29 : (29 : Int) < (zs.length : Int) := by omega
  have a29 := B8_at0 zs 29 (by omega)
  have l30 : 30 < zs.length := by omega
  have i30 : (30 : Int) < (zs.length : Int) := by omega
  have a30 := B8_at0 zs 30 (by omega)
  have l31 : 31 < zs.length := by omega
  have i31 : (31 : Int) < (zs.length : Int) := by omega
  have a31 := B8_at0 zs 31 (by omega)
  have l32 : 32 < zs.length := by omega
  have i32 : (32 : Int) < (zs.length : Int) := by omega
  have a32 := B8_at0 zs 32 (by omega)
  have l33 : 33 < zs.length := by omega
  have i33 : (33 : Int) < (zs.length : Int) := by omega
  have a33 := B8_at0 zs 33 (by omega)
  have l34 : 34 < zs.length := by omega
  have i34 : (34 : Int) < (zs.length : Int) := by omega
  have a34 := B8_at0 zs 34 (by omega)
  have l35 : 35 < zs.length := by omega
  have i35 : (35 : Int) < (zs.length : Int) := by omega
  have a35 := B8_at0 zs 35 (by omega)
  have l36 : 36 < zs.length := by omega
  have i36 : (36 : Int) < (zs.length : Int) := by omega
  have a36 := B8_at0 zs 36 (by omega)
  have l37 : 37 < zs.length := by omega
  have i37 : (37 : Int) < (zs.length : Int) := by omega
  have a37 := B8_at0 zs 37 (by omega)
  have l38 : 38 < zs.length := by omega
  have i38 : (38 : Int) < (zs.length : Int) := by omega
  have a38 := B8_at0 zs 38 (by omega)
  have l39 : 39 < zs.length := by omega
  have i39 : (39 : Int) < (zs.length : Int) := by omega
  have a39 := B8_at0 zs 39 (by omega)
  rw [take16_eq (by omega)]
  unfold runF
  rw [pvCall_own (fn := Try.f68) rfl Try.func68 rfl (by decide) rfl rfl (by simp)]
  simp -implicitDefEqProofs [loopK_pos, splice, l24, i24, a24, l25, i25, a25, l26, i26, a26, l27, i27, a27, l28, i28, a28, l29, i29, a29, l30, i30, a30, l31, i31, a31, l32, i32, a32, l33, i33, a33, l34, i34, a34, l35, i35, a35, l36, i36, a36, l37, i37, a37, l38, i38, a38, l39, i39, a39]
  rfl
def fSixt : Fun
  | [.sl nn b len cap, .v (.int .i64 k)] => (asB8 b).bind fun zs => if zs.length = len ∧ 40 ≤ len ∧ (k = 8 ∨ k = 24) then some (.agg (B8 ((zs.drop k.toNat).take 16)), []) else none
  | _ => none
theorem sixt_pure : Pure Try.prog 68 fSixt := (runF_pure k0_ok follows_mixed dm_ok 100000 1 68).weaken fun args r h => by
  unfold fSixt at h
  split at h
  · rename_i nn b len cap k
    obtain ⟨zs, hz, he⟩ := Option.bind_eq_some_iff.1 h
    clear h
    split at he
    case isFalse => cases he
    rename_i hh
    obtain ⟨rfl, h1, h2⟩ := hh
    obtain rfl := asB8_eq hz
    rw [← he]
    rcases h2 with rfl | rfl
    · exact sixt8_run zs nn cap h1
    · exact sixt24_run zs nn cap h1
  · cases h
def KC : Nat → Option Con
  | 68 => some fSixt
  | f => KB f
theorem kc_ok : KOk Try.prog KC := fun f F h => by
  unfold KC at h
  split at h
  · cases h; exact ⟨sixt_pure, _, Try.func68, rfl, by decide⟩
  · exact kb_ok f F h
section
variable {D : FuncId → Nat → List Nat} {L d px : Nat} {args : List AV} {m : Mem}
theorem cc_chain : pvCall Try.prog KC D L d px 41 args m = callBy fChain m px args := pvCall_by rfl
theorem cc_rchain : pvCall Try.prog KC D L d px 42 args m = callBy fChain m px args := pvCall_by rfl
theorem cc_clone : pvCall Try.prog KC D L d px 56 args m = callBy fClone m px args := pvCall_by rfl
theorem cc_sixt : pvCall Try.prog KC D L d px 68 args m = callBy fSixt m px args := pvCall_by rfl
end
theorem kc_chain : KC 41 = some (.pure fChain) := rfl
theorem kc_rchain : KC 42 = some (.pure fChain) := rfl
theorem kc_clone : KC 56 = some (.pure fClone) := rfl
theorem kc_sixt : KC 68 = some (.pure fSixt) := rfl
attribute [simp] cc_chain cc_rchain cc_clone cc_sixt kc_chain kc_rchain kc_clone kc_sixt
theorem wrapu64_id {x : Int} (h0 : 0 ≤ x) (h1 : x < 18446744073709551616) : IntKind.u64.wrap x = x := by simp [IntKind.wrap, IntKind.signed, IntKind.bits]; omega
set_option maxHeartbeats 8000000 in
theorem rip6_short (zs : List Int) (nn : Bool) (cap : Option Nat) (h : zs.length < 40) : runF Try.prog KC Dm 100000 1 37 [.sl nn (B8 zs) zs.length cap] = some (err6 4) := by
  have h1 : (zs.length : Int) < 40 := by omega
  unfold runF err6 noH6 ip6A z16
  rw [pvCall_own (fn := Try.f37) rfl Try.func37 rfl (by decide) rfl rfl (by simp)]
  simp -implicitDefEqProofs [h1, splice, B8_cons]
set_option maxHeartbeats 8000000 in
theorem rip6_form (zs : List Int) (nn : Bool) (cap : Option Nat) (h : 40 ≤ zs.length) (hl : zs.length ≤ 500000) (hz : bytesB zs = true) (h6 : ¬ gb zs 0 / 16 = 6) : runF Try.prog KC Dm 100000 1 37 [.sl nn (B8 zs) zs.length cap] = some (err6 5) := by
  obtain ⟨F, hF⟩ : ∃ F, ((gb zs 0 * 256 + gb zs 1) * 256 + gb zs 2) * 256 + gb zs 3 = F := ⟨_, rfl⟩
  have h1 : ¬ (zs.length : Int) < 40 := by omega
  have l0 : 0 < zs.length := by omega
  have i0 : (0 : Int) < (zs.length : Int) := by omega
  have g0 := gb_range hz 0
  have l1 : 1 < zs.length := by omega
  have i1 : (1 : Int) < (zs.length : Int) := by omega
  have g1 := gb_range hz 1
  have l2 : 2 < zs.length := by omega
  have i2 : (2 : Int) < (zs.length : Int) := by omega
  have g2 := gb_range hz 2
  have l3 : 3 < zs.length := by omega
  have i3 : (3 : Int) < (zs.length : Int) := by omega
  have g3 := gb_range hz 3
  have l4 : 4 < zs.length := by omega
  have i4 : (4 : Int) < (zs.length : Int) := by omega
  have g4 := gb_range hz 4
  have l5 : 5 < zs.length := by omega
  have i5 : (5 : Int) < (zs.length : Int) := by omega
  have g5 := gb_range hz 5
  have l6 : 6 < zs.length := by omega
  have i6 : (6 : Int) < (zs.length : Int) := by omega
  have g6 := gb_range hz 6
  have l7 : 7 < zs.length := by omega
  have i7 : (7 : Int) < (zs.length : Int) := by omega
  have g7 := gb_range hz 7
  have a0 := B8_at00 zs (by omega)
  have a1 := B8_at0 zs 1 (by omega)
  have a2 := B8_at0 zs 2 (by omega)
  have a3 := B8_at0 zs 3 (by omega)
  have a4 := B8_at0 zs 4 (by omega)
  have a5 := B8_at0 zs 5 (by omega)
  have a6 := B8_at0 zs 6 (by omega)
  have a7 := B8_at0 zs 7 (by omega)
  have u0 : IntKind.u64.wrap (gb zs 0) = gb zs 0 := wrapu64_id (by omega) (by omega)
  have u1 : IntKind.u64.wrap (gb zs 1) = gb zs 1 := wrapu64_id (by omega) (by omega)
  have u2 : IntKind.u64.wrap (gb zs 2) = gb zs 2 := wrapu64_id (by omega) (by omega)
  have u3 : IntKind.u64.wrap (gb zs 3) = gb zs 3 := wrapu64_id (by omega) (by omega)
  have u06 : IntKind.u64.wrap 6 = 6 := by decide
  have u00 : IntKind.u64.wrap 0 = 0 := by decide
  have v1 : IntKind.u64.wrap (gb zs 0 * 256) = gb zs 0 * 256 := wrapu64_id (by omega) (by omega)
  have v2 : IntKind.u64.wrap (gb zs 0 * 256 + gb zs 1) = gb zs 0 * 256 + gb zs 1 := wrapu64_id (by omega) (by omega)
  have v3 : IntKind.u64.wrap ((gb zs 0 * 256 + gb zs 1) * 256) = (gb zs 0 * 256 + gb zs 1) * 256 := wrapu64_id (by omega) (by omega)
  have v4 : IntKind.u64.wrap ((gb zs 0 * 256 + gb zs 1) * 256 + gb zs 2) = (gb zs 0 * 256 + gb zs 1) * 256 + gb zs 2 := wrapu64_id (by omega) (by omega)
  have v5 : IntKind.u64.wrap (((gb zs 0 * 256 + gb zs 1) * 256 + gb zs 2) * 256) = ((gb zs 0 * 256 + gb zs 1) * 256 + gb zs 2) * 256 := wrapu64_id (by omega) (by omega)
  have v6 : IntKind.u64.wrap (((gb zs 0 * 256 + gb zs 1) * 256 + gb zs 2) * 256 + gb zs 3) = F := by rw [wrapu64_id (by omega) (by omega), hF]
  have v7 : F.tdiv 268435456 = gb zs 0 / 16 := by rw [Int.tdiv_eq_ediv_of_nonneg (by omega)]; omega
  have v8 : IntKind.u64.wrap (gb zs 0 / 16) = gb zs 0 / 16 := wrapu64_id (by omega) (by omega)
  have w4 : IntKind.i64.wrap (gb zs 4) = gb zs 4 := wrap64_id (by omega) (by omega)
  have w5 : IntKind.i64.wrap (gb zs 5) = gb zs 5 := wrap64_id (by omega) (by omega)
  have w6 : IntKind.i64.wrap (gb zs 4 * 256) = gb zs 4 * 256 := wrap64_id (by omega) (by omega)
  have w7 : IntKind.i64.wrap (gb zs 4 * 256 + gb zs 5) = (len6 zs : Int) := by rw [wrap64_id (by omega) (by omega)]; unfold len6; omega
  have w8 : IntKind.i64.wrap ((zs.length : Int) - 40) = (zs.length : Int) - 40 := wrap64_id (by omega) (by omega)
  have h6n : (gb zs 0 / 16 != 6) = true := by simp [h6]
  unfold runF err6 noH6 ip6A z16
  rw [pvCall_own (fn := Try.f37) rfl Try.func37 rfl (by decide) rfl rfl (by simp)]
  simp -implicitDefEqProofs [h1, splice, loopK_pos, u00, l0, i0, a0, l1, i1, a1, l2, i2, a2, l3, i3, a3, l4, i4, a4, l5, i5, a5, l6, i6, a6, l7, i7, a7, u06, u0, u1, u2, u3, v1, v2, v3, v4, v5, v6, v7, v8, w4, w5, w6, w7, w8, IntKind.bits, B8_cons, h6, h6n]
set_option maxHeartbeats 8000000 in
theorem rip6_short2 (zs : List Int) (nn : Bool) (cap : Option Nat) (h : 40 ≤ zs.length) (hl : zs.length ≤ 500000) (hz : bytesB zs = true) (h6 : gb zs 0 / 16 = 6) (hL : zs.length < 40 + len6 zs) : runF Try.prog KC Dm 100000 1 37 [.sl nn (B8 zs) zs.length cap] = some (err6 4) := by
  obtain ⟨F, hF⟩ : ∃ F, ((gb zs 0 * 256 + gb zs 1) * 256 + gb zs 2) * 256 + gb zs 3 = F := ⟨_, rfl⟩
  have h1 : ¬ (zs.length : Int) < 40 := by omega
  have l0 : 0 < zs.length := by omega
  have i0 : (0 : Int) < (zs.length : Int) := by omega
  have g0 := gb_range hz 0
  have l1 : 1 < zs.length := by omega
  have i1 : (1 : Int) < (zs.length : Int) := by omega
  have g1 := gb_range hz 1
  have l2 : 2 < zs.length := by omega
  have i2 : (2 : Int) < (zs.length : Int) := by omega
  have g2 := gb_range hz 2
  have l3 : 3 < zs.length := by omega
  have i3 : (3 : Int) < (zs.length : Int) := by omega
  have g3 := gb_range hz 3
  have l4 : 4 < zs.length := by omega
  have i4 : (4 : Int) < (zs.length : Int) := by omega
  have g4 := gb_range hz 4
  have l5 : 5 < zs.length := by omega
  have i5 : (5 : Int) < (zs.length : Int) := by omega
  have g5 := gb_range hz 5
  have l6 : 6 < zs.length := by omega
  have i6 : (6 : Int) < (zs.length : Int) := by omega
  have g6 := gb_range hz 6
  have l7 : 7 < zs.length := by omega
  have i7 : (7 : Int) < (zs.length : Int) := by omega
  have g7 := gb_range hz 7
  have a0 := B8_at00 zs (by omega)
  have a1 := B8_at0 zs 1 (by omega)
  have a2 := B8_at0 zs 2 (by omega)
  have a3 := B8_at0 zs 3 (by omega)
  have a4 := B8_at0 zs 4 (by omega)
  have a5 := B8_at0 zs 5 (by omega)
  have a6 := B8_at0 zs 6 (by omega)
  have a7 := B8_at0 zs 7 (by omega)
  have u0 : IntKind.u64.wrap (gb zs 0) = gb zs 0 := wrapu64_id (by omega) (by omega)
  have u1 : IntKind.u64.wrap (gb zs 1) = gb zs 1 := wrapu64_id (by omega) (by omega)
  have u2 : IntKind.u64.wrap (gb zs 2) = gb zs 2 := wrapu64_id (by omega) (by omega)
  have u3 : IntKind.u64.wrap (gb zs 3) = gb zs 3 := wrapu64_id (by omega) (by omega)
  have u06 : IntKind.u64.wrap 6 = 6 := by decide
  have u00 : IntKind.u64.wrap 0 = 0 := by decide
  have v1 : IntKind.u64.wrap (gb zs 0 * 256) = gb zs 0 * 256 := wrapu64_id (by omega) (by omega)
  have v2 : IntKind.u64.wrap (gb zs 0 * 256 + gb zs 1) = gb zs 0 * 256 + gb zs 1 := wrapu64_id (by omega) (by omega)
  have v3 : IntKind.u64.wrap ((gb zs 0 * 256 + gb zs 1) * 256) = (gb zs 0 * 256 + gb zs 1) * 256 := wrapu64_id (by omega) (by omega)
  have v4 : IntKind.u64.wrap ((gb zs 0 * 256 + gb zs 1) * 256 + gb zs 2) = (gb zs 0 * 256 + gb zs 1) * 256 + gb zs 2 := wrapu64_id (by omega) (by omega)
  have v5 : IntKind.u64.wrap (((gb zs 0 * 256 + gb zs 1) * 256 + gb zs 2) * 256) = ((gb zs 0 * 256 + gb zs 1) * 256 + gb zs 2) * 256 := wrapu64_id (by omega) (by omega)
  have v6 : IntKind.u64.wrap (((gb zs 0 * 256 + gb zs 1) * 256 + gb zs 2) * 256 + gb zs 3) = F := by rw [wrapu64_id (by omega) (by omega), hF]
  have v7 : F.tdiv 268435456 = gb zs 0 / 16 := by rw [Int.tdiv_eq_ediv_of_nonneg (by omega)]; omega
  have v8 : IntKind.u64.wrap (gb zs 0 / 16) = gb zs 0 / 16 := wrapu64_id (by omega) (by omega)
  have w4 : IntKind.i64.wrap (gb zs 4) = gb zs 4 := wrap64_id (by omega) (by omega)
  have w5 : IntKind.i64.wrap (gb zs 5) = gb zs 5 := wrap64_id (by omega) (by omega)
  have w6 : IntKind.i64.wrap (gb zs 4 * 256) = gb zs 4 * 256 := wrap64_id (by omega) (by omega)
  have w7 : IntKind.i64.wrap (gb zs 4 * 256 + gb zs 5) = (len6 zs : Int) := by rw [wrap64_id (by omega) (by omega)]; unfold len6; omega
  have w8 : IntKind.i64.wrap ((zs.length : Int) - 40) = (zs.length : Int) - 40 := wrap64_id (by omega) (by omega)
  have q : (zs.length : Int) - 40 < (len6 zs : Int) := by omega
  unfold runF err6 noH6 ip6A z16
  rw [pvCall_own (fn := Try.f37) rfl Try.func37 rfl (by decide) rfl rfl (by simp)]
  simp -implicitDefEqProofs [h1, splice, loopK_pos, u00, l0, i0, a0, l1, i1, a1, l2, i2, a2, l3, i3, a3, l4, i4, a4, l5, i5, a5, l6, i6, a6, l7, i7, a7, u06, u0, u1, u2, u3, v1, v2, v3, v4, v5, v6, v7, v8, w4, w5, w6, w7, w8, IntKind.bits, B8_cons, h6, q]
set_option maxHeartbeats 8000000 in
theorem rip6_chain (zs : List Int) (nn : Bool) (cap : Option Nat) (h : 40 ≤ zs.length) (hl : zs.length ≤ 500000) (hz : bytesB zs = true) (h6 : gb zs 0 / 16 = 6) (hL : 40 + len6 zs ≤ zs.length) (r1 r2 r3 : Int) (hc : chainF 9 (gb zs 6) ((zs.drop 40).take (len6 zs)) 0 0 = (r1, r2, r3)) 
    (X : AV × List (List AV)) (hX : (¬ r3 = 0 ∧ X = err6 r3) ∨ (r3 = 0 ∧ ∃ n : Nat, r2 = (n : Int) ∧ n ≤ len6 zs ∧ X = ip6R zs r1 n (len6 zs))) : runF Try.prog KC Dm 100000 1 37 [.sl nn (B8 zs) zs.length cap] = some X := by
  obtain ⟨F, hF⟩ : ∃ F, ((gb zs 0 * 256 + gb zs 1) * 256 + gb zs 2) * 256 + gb zs 3 = F := ⟨_, rfl⟩
  have h1 : ¬ (zs.length : Int) < 40 := by omega
  have l0 : 0 < zs.length := by omega
  have i0 : (0 : Int) < (zs.length : Int) := by omega
  have g0 := gb_range hz 0
  have l1 : 1 < zs.length := by omega
  have i1 : (1 : Int) < (zs.length : Int) := by omega
  have g1 := gb_range hz 1
  have l2 : 2 < zs.length := by omega
  have i2 : (2 : Int) < (zs.length : Int) := by omega
  have g2 := gb_range hz 2
  have l3 : 3 < zs.length := by omega
  have i3 : (3 : Int) < (zs.length : Int) := by omega
  have g3 := gb_range hz 3
  have l4 : 4 < zs.length := by omega
  have i4 : (4 : Int) < (zs.length : Int) := by omega
  have g4 := gb_range hz 4
  have l5 : 5 < zs.length := by omega
  have i5 : (5 : Int) < (zs.length : Int) := by omega
  have g5 := gb_range hz 5
  have l6 : 6 < zs.length := by omega
  have i6 : (6 : Int) < (zs.length : Int) := by omega
  have g6 := gb_range hz 6
  have l7 : 7 < zs.length := by omega
  have i7 : (7 : Int) < (zs.length : Int) := by omega
  have g7 := gb_range hz 7
  have a0 := B8_at00 zs (by omega)
  have a1 := B8_at0 zs 1 (by omega)
  have a2 := B8_at0 zs 2 (by omega)
  have a3 := B8_at0 zs 3 (by omega)
  have a4 := B8_at0 zs 4 (by omega)
  have a5 := B8_at0 zs 5 (by omega)
  have a6 := B8_at0 zs 6 (by omega)
  have a7 := B8_at0 zs 7 (by omega)
  have u0 : IntKind.u64.wrap (gb zs 0) = gb zs 0 := wrapu64_id (by omega) (by omega)
  have u1 : IntKind.u64.wrap (gb zs 1) = gb zs 1 := wrapu64_id (by omega) (by omega)
  have u2 : IntKind.u64.wrap (gb zs 2) = gb zs 2 := wrapu64_id (by omega) (by omega)
  have u3 : IntKind.u64.wrap (gb zs 3) = gb zs 3 := wrapu64_id (by omega) (by omega)
  have u06 : IntKind.u64.wrap 6 = 6 := by decide
  have u00 : IntKind.u64.wrap 0 = 0 := by decide
  have v1 : IntKind.u64.wrap (gb zs 0 * 256) = gb zs 0 * 256 := wrapu64_id (by omega) (by omega)
  have v2 : IntKind.u64.wrap (gb zs 0 * 256 + gb zs 1) = gb zs 0 * 256 + gb zs 1 := wrapu64_id (by omega) (by omega)
  have v3 : IntKind.u64.wrap ((gb zs 0 * 256 + gb zs 1) * 256) = (gb zs 0 * 256 + gb zs 1) * 256 := wrapu64_id (by omega) (by omega)
  have v4 : IntKind.u64.wrap ((gb zs 0 * 256 + gb zs 1) * 256 + gb zs 2) = (gb zs 0 * 256 + gb zs 1) * 256 + gb zs 2 := wrapu64_id (by omega) (by omega)
  have v5 : IntKind.u64.wrap (((gb zs 0 * 256 + gb zs 1) * 256 + gb zs 2) * 256) = ((gb zs 0 * 256 + gb zs 1) * 256 + gb zs 2) * 256 := wrapu64_id (by omega) (by omega)
  have v6 : IntKind.u64.wrap (((gb zs 0 * 256 + gb zs 1) * 256 + gb zs 2) * 256 + gb zs 3) = F := by rw [wrapu64_id (by omega) (by omega), hF]
  have v7 : F.tdiv 268435456 = gb zs 0 / 16 := by rw [Int.tdiv_eq_ediv_of_nonneg (by omega)]; omega
  have v8 : IntKind.u64.wrap (gb zs 0 / 16) = gb zs 0 / 16 := wrapu64_id (by omega) (by omega)
  have w4 : IntKind.i64.wrap (gb zs 4) = gb zs 4 := wrap64_id (by omega) (by omega)
  have w5 : IntKind.i64.wrap (gb zs 5) = gb zs 5 := wrap64_id (by omega) (by omega)
  have w6 : IntKind.i64.wrap (gb zs 4 * 256) = gb zs 4 * 256 := wrap64_id (by omega) (by omega)
  have w7 : IntKind.i64.wrap (gb zs 4 * 256 + gb zs 5) = (len6 zs : Int) := by rw [wrap64_id (by omega) (by omega)]; unfold len6; omega
  have w8 : IntKind.i64.wrap ((zs.length : Int) - 40) = (zs.length : Int) - 40 := wrap64_id (by omega) (by omega)
  have q : ¬ (zs.length : Int) - 40 < (len6 zs : Int) := by omega
  have q1 : 40 + (len6 zs : Int) ≤ (zs.length : Int) := by omega
  have hLb : len6 zs ≤ 65535 := by unfold len6; omega
  generalize hLe : len6 zs = L at *
  have q0 : IntKind.i64.wrap (40 + (L : Int)) = 40 + (L : Int) := wrap64_id (by omega) (by omega)
  have q2 : (40 + (L : Int)).toNat = 40 + L := by omega
  have q3 : (0 : Int) ≤ 40 + (L : Int) := by omega
  have q4 : (40 : Int) ≤ 40 + (L : Int) := by omega
  have q5 : L ≤ zs.length - 40 := by omega
  have q6 : L ≤ 1099511627776 := by omega
  have q7 : ((zs.drop 40).take L).length = L := by simp; omega
  have q8 : bytesB ((zs.drop 40).take L) = true := bytesB_take (bytesB_drop hz _) _
  unfold runF
  rw [pvCall_own (fn := Try.f37) rfl Try.func37 rfl (by decide) rfl rfl (by simp)]
  simp -implicitDefEqProofs [h1, splice, loopK_pos, u00, l0, i0, a0, l1, i1, a1, l2, i2, a2, l3, i3, a3, l4, i4, a4, l5, i5, a5, l6, i6, a6, l7, i7, a7, u06, u0, u1, u2, u3, v1, v2, v3, v4, v5, v6, v7, v8, w4, w5, w6, w7, w8, IntKind.bits, h6, q, q0, q1, q2, q3, q4, q5, q6, q7, q8, hc, g6, chainV, hL, fChain]
  rcases hX with ⟨hr, rfl⟩ | ⟨rfl, n, rfl, hn, rfl⟩
  · have hrn : (r3 != 0) = true := by simp [hr]
    unfold err6 noH6 ip6A z16
    simp -implicitDefEqProofs [hr, hrn, splice, B8_cons, u06]
  · have c1 : F.tdiv 1048576 = F / 1048576 := Int.tdiv_eq_ediv_of_nonneg (by omega)
    have c2 : IntKind.u64.wrap (F / 1048576) = F / 1048576 := wrapu64_id (by omega) (by omega)
    have c3 : (F / 1048576).tmod 256 = gb zs 0 % 16 * 16 + gb zs 1 / 16 := by rw [Int.tmod_eq_emod_of_nonneg (by omega)]; omega
    have c4 : IntKind.u64.wrap (gb zs 0 % 16 * 16 + gb zs 1 / 16) = gb zs 0 % 16 * 16 + gb zs 1 / 16 := wrapu64_id (by omega) (by omega)
    have c5 : IntKind.u8.wrap (gb zs 0 % 16 * 16 + gb zs 1 / 16) = gb zs 0 % 16 * 16 + gb zs 1 / 16 := wrapu8_id (by omega) (by omega)
    have c6 : F.tmod 1048576 = gb zs 1 % 16 * 65536 + gb zs 2 * 256 + gb zs 3 := by rw [Int.tmod_eq_emod_of_nonneg (by omega)]; omega
    have c7 : IntKind.u64.wrap (gb zs 1 % 16 * 65536 + gb zs 2 * 256 + gb zs 3) = gb zs 1 % 16 * 65536 + gb zs 2 * 256 + gb zs 3 := wrapu64_id (by omega) (by omega)
    have c8 : IntKind.u32.wrap (gb zs 1 % 16 * 65536 + gb zs 2 * 256 + gb zs 3) = gb zs 1 % 16 * 65536 + gb zs 2 * 256 + gb zs 3 := wrapu32_id (by omega) (by omega)
    obtain ⟨S, hS⟩ : ∃ S, (zs.drop 8).take 16 = S := ⟨_, rfl⟩
    obtain ⟨E, hE⟩ : ∃ E, (zs.drop 24).take 16 = E := ⟨_, rfl⟩
    have hSl : S.length = 16 := by rw [← hS]; simp; omega
    have hEl : E.length = 16 := by rw [← hE]; simp; omega
    have n6 : min n (zs.length - 40) = n := by omega
    have n7 : min (L - n) (zs.length - (40 + n)) = L - n := by omega
    have n8 : n ≤ 549755813888 := by omega
    have n9 : L - n ≤ 549755813888 := by omega
    have n12 : n ≤ L := hn
    have n13 : n ≤ zs.length - 40 := by omega
    have n14 : L - n ≤ zs.length - (40 + n) := by omega
    have n15 : ((zs.drop 40).take L).take n = (zs.drop 40).take n := by rw [List.take_take, Nat.min_eq_left hn]
    have n16 : ((zs.drop 40).take L).drop n = (zs.drop (40 + n)).take (L - n) := by rw [List.drop_take, List.drop_drop]
    have n17 : ((zs.drop 40).take n).take n = (zs.drop 40).take n := List.take_of_length_le (by simp; omega)
    have n18 : ((zs.drop (40 + n)).take (L - n)).take (L - n) = (zs.drop (40 + n)).take (L - n) := List.take_of_length_le (by simp; omega)
    have n19 : (n : Int) ≤ (L : Int) := by omega
    unfold ip6R ip6A
    simp -implicitDefEqProofs [h, h1, splice, loopK_pos, u00, l0, i0, a0, l1, i1, a1, l2, i2, a2, l3, i3, a3, l4, i4, a4, l5, i5, a5, l6, i6, a6, l7, i7, a7, u06, u0, u1, u2, u3, v1, v2, v3, v4, v5, v6, v7, v8, w4, w5, w6, w7, w8, IntKind.bits, hL, B8_cons, c1, c2, c3, c4, c5, c6, c7, c8, hS, hE, hSl, hEl, n6, n7, n8, n9, n12, n13, n14, n15, n16, n17, n18, n19, q1, q2, q3, fSixt, B8t16 hSl, B8d16 hSl, B8t16 hEl, B8d16 hEl, B8t33 hSl, B8t17 hEl, B8d32 hSl, B8d32 hEl, B8t32 hSl, B8d33 hSl, B8d17 hEl, B8x33 hSl hEl, B8x33d hSl hEl, Nat.testBit_eq_decide_div_mod_eq]
theorem rip6_pure : Pure Try.prog 37 fIP6 := (runF_pure kc_ok follows_mixed dm_ok 100000 1 37).weaken fun args r h => by
  unfold fIP6 at h
  split at h
  · rename_i nn b len cap
    obtain ⟨zs, hz, he⟩ := Option.bind_eq_some_iff.1 h
    clear h
    split at he
    case isFalse => cases he
    rename_i hh
    obtain ⟨rfl, h1, h2⟩ := hh
    obtain rfl := asB8_eq hz
    rw [← he]
    unfold ip6V
    split
    · rename_i q; exact rip6_short zs nn cap q
    split
    · rename_i q0 q; exact rip6_form zs nn cap (by omega) h1 h2 q
    split
    · rename_i q0 q1 q; exact rip6_short2 zs nn cap (by omega) h1 h2 (by omega) q
    · rename_i q0 q1 q2
      exact rip6_chain zs nn cap (by omega) h1 h2 (by omega) (by omega) _ _ _ rfl _ (chain6_out h2 (by omega) _ rfl)
  · cases h
end Go.Proofs.Ytcbjjkpjbdcakaa
