import Derived.Test.YtmdafjegddnecaaTb
import Derived.Test.YtmdafjegddnecaaVb
import Derived.Test.YtmdafjegddnecaaVd
/- More of the table: facts on types, and which operations stand ahead of which. -/
namespace Go.Proofs.Ytmdafjegddnecaa
open Go.Pm
set_option maxRecDepth 1000000
@[simp] theorem dm_14_24 : Dm 14 24 = [0, 0, 0, 0, 0, 16, 48, 112, 240, 0, 512, 1536, 3584, 8176, 0, 16384, 49152, 114688, 245760, 0, 524288, 1572864, 3670016, 8372224, 16777215, 0, 67108863] := rfl
@[simp] theorem dm_53_10 : Dm 53 10 = [0, 1, 3, 0, 8, 24, 0, 127, 255, 511] := rfl
@[simp] theorem dm_79_11 : Dm 79 11 = [0, 1, 3, 0, 8, 24, 0, 127, 255, 511] := rfl
@[simp] theorem dm_163_6 : Dm 163 6 = [0, 1, 3, 0, 8, 31, 63, 127, 127, 127, 255, 1535, 4095] := rfl
end Go.Proofs.Ytmdafjegddnecaa

/- icmp.Within of IPv6 as a function of values; its contract. -/
namespace Go.Proofs.Ytmdafjegddnecaa
open Go.Pm Go.Wb
set_option linter.unusedVariables false
set_option linter.unusedSimpArgs false
set_option maxRecDepth 1000000
set_option maxHeartbeats 64000000 in
theorem within6_run (zs : List Int) (nn : Bool) (cap : Option Nat) (hz : bytesB zs = true) (hl : zs.length ≤ 500000) : runF Try.prog KM Dm 100000 2 116 [.v (.bool true), .sl nn (B8 zs) zs.length cap] = some (.tup [wiT true zs, .v (.int .i64 (wiE true zs))], []) := by
  have hin := fun (px : Nat) (args : List AV) (m : Mem) (hl : args.length ≤ 109) => pvCall_own (P := Try.prog) (K := KM) (D := Dm) (L := 100000) (d := 0) (px := px) (args := args) (m := m) (f := 145) (fn := Try.f145) rfl Try.func145 rfl (by decide) rfl rfl hl
  have hE : hdE true zs = hd6E zs := rfl
  have hP : hdP true zs = (chainF 9 (gb zs 6) (zs.drop 40) 0 0).1 := rfl
  have hN : hdN true zs = 40 + (chainF 9 (gb zs 6) (zs.drop 40) 0 0).2.1.toNat := rfl
  have hS : hdS true zs = (zs.drop 24).take 16 := rfl
  have hD : hdD true zs = (zs.drop 8).take 16 := rfl
  unfold runF wiT wiE
  rw [hE, hP, hN, hS, hD]
  unfold hd6E
  rw [pvCall_own (fn := Try.f116) rfl Try.func116 rfl (by decide) rfl rfl (by simp)]
  by_cases h40 : zs.length < 40
  · have i40 : (zs.length : Int) < 40 := by omega
    simp -implicitDefEqProofs [hin, h40, i40, noTup, tupA, t16, B8vc, B8vn, splice]
  rw [if_neg h40]
  have i40 : ¬ (zs.length : Int) < 40 := by omega
  have a0 := B8_at00 zs (by omega)
  have l0 : 0 < zs.length := by omega
  have i0 : (0 : Int) < (zs.length : Int) := by omega
  have s1 : (gb zs 0).fdiv 16 = gb zs 0 / 16 := Int.fdiv_eq_ediv_of_nonneg _ (by omega)
  by_cases h6 : gb zs 0 / 16 = 6
  case neg =>
    have h6n : (gb zs 0 / 16 != 6) = true := by simp [h6]
    simp -implicitDefEqProofs [hin, i40, a0, l0, i0, s1, h6, h6n, noTup, tupA, t16, B8vc, B8vn, splice, IntKind.bits]
  have g6 := gb_range hz 6
  have hb40 : bytesB (zs.drop 40) = true := bytesB_drop hz 40
  have hout := chain_out 9 (gb zs 6) (zs.drop 40) 0 0 g6.1 g6.2 hb40 (by omega) (by omega) (by omega)
  obtain ⟨⟨r1, r2, r3⟩, hc⟩ : ∃ r, chainF 9 (gb zs 6) (zs.drop 40) 0 0 = r := ⟨_, rfl⟩
  rw [hc] at hout ⊢
  simp only at hout ⊢
  have a6 := B8_at0 zs 6 (by omega)
  have l6 : 6 < zs.length := by omega
  have i6 : (6 : Int) < (zs.length : Int) := by omega
  have k1 : (24 : Int) ≤ (zs.length : Int) := by omega
  have k2 : (40 : Int) ≤ (zs.length : Int) := by omega
  have k3 : 8 ≤ zs.length := by omega
  have k4 : 24 ≤ zs.length := by omega
  have k5 : 40 ≤ zs.length := by omega
  have k6 : min 16 (zs.length - 8) = 16 := by omega
  have k7 : min 16 (zs.length - 24) = 16 := by omega
  have k8 : (zs.drop 40).length = zs.length - 40 := by simp
  have k9 : zs.length - 40 ≤ 1099511627776 := by omega
  have k10 : (zs.drop 40).take (zs.length - 40) = zs.drop 40 := List.take_of_length_le (by simp)
  have k11 : 16 ≤ zs.length - 8 := by omega
  have k12 : 16 ≤ zs.length - 24 := by omega
  obtain ⟨S, hSS⟩ : ∃ S, (zs.drop 24).take 16 = S := ⟨_, rfl⟩
  obtain ⟨E, hEE⟩ : ∃ E, (zs.drop 8).take 16 = E := ⟨_, rfl⟩
  have hSl : S.length = 16 := by rw [← hSS]; simp; omega
  have hEl : E.length = 16 := by rw [← hEE]; simp; omega
  have hSt : S.take 16 = S := List.take_of_length_le (by omega)
  have hEt : E.take 16 = E := List.take_of_length_le (by omega)
  rw [hSS, hEE]
  by_cases h3 : r3 = 0
  case neg =>
    have h3n : (r3 != 0) = true := by simp [h3]
    simp -implicitDefEqProofs [hin, i40, a0, l0, i0, s1, h6, a6, l6, i6, k1, k2, k3, k4, k5, k6, k7, k8, k9, k10, k11, k12, hSS, hEE, hSl, hEl, hSt, hEt, hb40, hc, g6, fChain, chainV, B8vc, B8vn, splice, IntKind.bits, Nat.testBit_eq_decide_div_mod_eq, B8t16 hSl, B8d16 hSl, B8t16 hEl, B8d16 hEl, B8t33 hSl, B8t17 hEl, B8d32 hSl, B8d32 hEl, B8t32 hSl, B8d33 hSl, B8d17 hEl, B8d34 hSl, B8d18 hEl, B8t34 hSl, B8t18 hEl, -B8_append, h3, h3n, noTup, tupA, t16]
  subst h3
  rcases hout with ⟨_, ho1, ho2, ho3, ho4⟩ | ⟨q, _⟩
  case inr => exact absurd rfl q
  obtain ⟨n, rfl⟩ := Int.eq_ofNat_of_zero_le ho1
  have hn : n ≤ zs.length - 40 := by omega
  have m1 : IntKind.i64.wrap (40 + (n : Int)) = 40 + (n : Int) := wrap64_id (by omega) (by omega)
  have m2 : (40 + (n : Int)).toNat = 40 + n := by omega
  have m3 : (0 : Int) ≤ 40 + (n : Int) := by omega
  have m4 : 40 + (n : Int) ≤ (zs.length : Int) := by omega
  have m5 : 40 + n ≤ zs.length := by omega
  have m6 : zs.length - (40 + n) ≤ 1099511627776 := by omega
  have m7 : (zs.drop (40 + n)).length = zs.length - (40 + n) := by simp
  have m8 : bytesB (zs.drop (40 + n)) = true := bytesB_drop hz _
  have m9 : (zs.drop (40 + n)).take (zs.length - (40 + n)) = zs.drop (40 + n) := List.take_of_length_le (by simp)
  by_cases hp6 : r1 = 6
  · subst hp6
    by_cases h5 : zs.length < 40 + n + 4
    · have h5' : zs.length - (40 + n) < 4 := by omega
      simp -implicitDefEqProofs [hin, i40, a0, l0, i0, s1, h6, a6, l6, i6, k1, k2, k3, k4, k5, k6, k7, k8, k9, k10, k11, k12, hSS, hEE, hSl, hEl, hSt, hEt, hb40, hc, g6, fChain, chainV, B8vc, B8vn, splice, IntKind.bits, Nat.testBit_eq_decide_div_mod_eq, B8t16 hSl, B8d16 hSl, B8t16 hEl, B8d16 hEl, B8t33 hSl, B8t17 hEl, B8d32 hSl, B8d32 hEl, B8t32 hSl, B8d33 hSl, B8d17 hEl, B8d34 hSl, B8d18 hEl, B8t34 hSl, B8t18 hEl, -B8_append, m1, m2, m3, m4, m5, m6, m7, m8, m9, fPorts, portsV, h5, h5', noTup, tupA, t16]
    · have h5' : ¬ zs.length - (40 + n) < 4 := by omega
      simp -implicitDefEqProofs [hin, i40, a0, l0, i0, s1, h6, a6, l6, i6, k1, k2, k3, k4, k5, k6, k7, k8, k9, k10, k11, k12, hSS, hEE, hSl, hEl, hSt, hEt, hb40, hc, g6, fChain, chainV, B8vc, B8vn, splice, IntKind.bits, Nat.testBit_eq_decide_div_mod_eq, B8t16 hSl, B8d16 hSl, B8t16 hEl, B8d16 hEl, B8t33 hSl, B8t17 hEl, B8d32 hSl, B8d32 hEl, B8t32 hSl, B8d33 hSl, B8d17 hEl, B8d34 hSl, B8d18 hEl, B8t34 hSl, B8t18 hEl, -B8_append, m1, m2, m3, m4, m5, m6, m7, m8, m9, fPorts, portsV, h5, h5', tupA, w16_drop]
  · have hp6n : (r1 != 6) = true := by simp [hp6]
    have hp6e : (r1 == 6) = false := by simp [hp6]
    by_cases hp17 : r1 = 17
    · subst hp17
      by_cases h5 : zs.length < 40 + n + 4
      · have h5' : zs.length - (40 + n) < 4 := by omega
        simp -implicitDefEqProofs [hin, i40, a0, l0, i0, s1, h6, a6, l6, i6, k1, k2, k3, k4, k5, k6, k7, k8, k9, k10, k11, k12, hSS, hEE, hSl, hEl, hSt, hEt, hb40, hc, g6, fChain, chainV, B8vc, B8vn, splice, IntKind.bits, Nat.testBit_eq_decide_div_mod_eq, B8t16 hSl, B8d16 hSl, B8t16 hEl, B8d16 hEl, B8t33 hSl, B8t17 hEl, B8d32 hSl, B8d32 hEl, B8t32 hSl, B8d33 hSl, B8d17 hEl, B8d34 hSl, B8d18 hEl, B8t34 hSl, B8t18 hEl, -B8_append, m1, m2, m3, m4, m5, m6, m7, m8, m9, fPorts, portsV, h5, h5', noTup, tupA, t16]
      · have h5' : ¬ zs.length - (40 + n) < 4 := by omega
        simp -implicitDefEqProofs [hin, i40, a0, l0, i0, s1, h6, a6, l6, i6, k1, k2, k3, k4, k5, k6, k7, k8, k9, k10, k11, k12, hSS, hEE, hSl, hEl, hSt, hEt, hb40, hc, g6, fChain, chainV, B8vc, B8vn, splice, IntKind.bits, Nat.testBit_eq_decide_div_mod_eq, B8t16 hSl, B8d16 hSl, B8t16 hEl, B8d16 hEl, B8t33 hSl, B8t17 hEl, B8d32 hSl, B8d32 hEl, B8t32 hSl, B8d33 hSl, B8d17 hEl, B8d34 hSl, B8d18 hEl, B8t34 hSl, B8t18 hEl, -B8_append, m1, m2, m3, m4, m5, m6, m7, m8, m9, fPorts, portsV, h5, h5', tupA, w16_drop]
    · have hp17n : (r1 != 17) = true := by simp [hp17]
      simp -implicitDefEqProofs [hin, i40, a0, l0, i0, s1, h6, a6, l6, i6, k1, k2, k3, k4, k5, k6, k7, k8, k9, k10, k11, k12, hSS, hEE, hSl, hEl, hSt, hEt, hb40, hc, g6, fChain, chainV, B8vc, B8vn, splice, IntKind.bits, Nat.testBit_eq_decide_div_mod_eq, B8t16 hSl, B8d16 hSl, B8t16 hEl, B8d16 hEl, B8t33 hSl, B8t17 hEl, B8d32 hSl, B8d32 hEl, B8t32 hSl, B8d33 hSl, B8d17 hEl, B8d34 hSl, B8d18 hEl, B8t34 hSl, B8t18 hEl, -B8_append, m1, m2, m3, m4, m5, m6, m7, m8, m9, fPorts, portsV, hp6, hp6n, hp6e, hp17, hp17n, noTup, tupA, t16]
def fWithin : Fun
  | [.v (.bool v6), .sl nn b len cap] => (asB8 b).bind fun zs => if zs.length = len ∧ len ≤ 500000 ∧ bytesB zs = true then some (.tup [wiT v6 zs, .v (.int .i64 (wiE v6 zs))], []) else none
  | _ => none
theorem within_pure : Pure Try.prog 116 fWithin := (runF_pure km_ok follows_mixed dm_ok 100000 2 116).weaken fun args r h => by
  unfold fWithin at h
  split at h
  · rename_i v6 nn b len cap
    obtain ⟨zs, hz, he⟩ := Option.bind_eq_some_iff.1 h
    clear h
    split at he
    case isFalse => cases he
    rename_i hh
    obtain ⟨rfl, h1, h2⟩ := hh
    obtain rfl := asB8_eq hz
    rw [← he]
    cases v6 with
    | true => exact within6_run zs nn cap h2 h1
    | false => exact within4_run zs nn cap h2 h1
  · cases h
end Go.Proofs.Ytmdafjegddnecaa

/- The reference's addresses and headers within as functions of values. -/
namespace Go.Proofs.Ytmdafjegddnecaa
open Go.Pm Go.Wb
set_option linter.unusedVariables false
set_option linter.unusedSimpArgs false
set_option maxRecDepth 1000000
theorem take16_of {zs : List Int} {k : Nat} (h : k + 16 ≤ zs.length) : (zs.drop k).take 16 = (List.range 16).map fun i => gb zs (k + i) := by
  apply List.ext_getElem?
  intro i
  rw [List.getElem?_take, List.getElem?_drop, List.getElem?_map]
  by_cases hi : i < 16
  · rw [if_pos hi, List.getElem?_range hi]
    show _ = some (gb zs (k + i))
    unfold gb
    rw [List.getD_eq_getElem?_getD, List.getElem?_eq_getElem (by omega)]; rfl
  · rw [if_neg hi, List.getElem?_eq_none (by simp; omega)]; rfl
set_option maxHeartbeats 8000000 in
theorem raddr16_run (zs : List Int) (nn : Bool) (cap : Option Nat) (h : 20 ≤ zs.length) : runF Try.prog K0 Dm 100000 1 178 [.sl nn (B8 zs) zs.length cap, .v (.int .i64 16), .v (.int .i64 4)] = some (.agg (B8 (ad4 (zs.drop 16))), []) := by
  have l16 : 16 < zs.length := by omega
  have i16 : (16 : Int) < (zs.length : Int) := by omega
  have a16 := B8_at0 zs 16 (by omega)
  have l17 : 17 < zs.length := by omega
  have i17 : (17 : Int) < (zs.length : Int) := by omega
  have a17 := B8_at0 zs 17 (by omega)
  have l18 : 18 < zs.length := by omega
  have i18 : (18 : Int) < (zs.length : Int) := by omega
  have a18 := B8_at0 zs 18 (by omega)
  have l19 : 19 < zs.length := by omega
  have i19 : (19 : Int) < (zs.length : Int) := by omega
  have a19 := B8_at0 zs 19 (by omega)
  unfold runF
  rw [pvCall_own (fn := Try.f178) rfl Try.func178 rfl (by decide) rfl rfl (by simp)]
  simp -implicitDefEqProofs [loopK_pos, splice, ad4, gb_drop', B8vc, B8vn, l16, i16, a16, l17, i17, a17, l18, i18, a18, l19, i19, a19]
set_option maxHeartbeats 8000000 in
theorem raddr12_run (zs : List Int) (nn : Bool) (cap : Option Nat) (h : 16 ≤ zs.length) : runF Try.prog K0 Dm 100000 1 178 [.sl nn (B8 zs) zs.length cap, .v (.int .i64 12), .v (.int .i64 4)] = some (.agg (B8 (ad4 (zs.drop 12))), []) := by
  have l12 : 12 < zs.length := by omega
  have i12 : (12 : Int) < (zs.length : Int) := by omega
  have a12 := B8_at0 zs 12 (by omega)
  have l13 : 13 < zs.length := by omega
  have i13 : (13 : Int) < (zs.length : Int) := by omega
  have a13 := B8_at0 zs 13 (by omega)
  have l14 : 14 < zs.length := by omega
  have i14 : (14 : Int) < (zs.length : Int) := by omega
  have a14 := B8_at0 zs 14 (by omega)
  have l15 : 15 < zs.length := by omega
  have i15 : (15 : Int) < (zs.length : Int) := by omega
  have a15 := B8_at0 zs 15 (by omega)
  unfold runF
  rw [pvCall_own (fn := Try.f178) rfl Try.func178 rfl (by decide) rfl rfl (by simp)]
  simp -implicitDefEqProofs [loopK_pos, splice, ad4, gb_drop', B8vc, B8vn, l12, i12, a12, l13, i13, a13, l14, i14, a14, l15, i15, a15]
set_option maxHeartbeats 8000000 in
theorem raddr24_run (zs : List Int) (nn : Bool) (cap : Option Nat) (h : 40 ≤ zs.length) : runF Try.prog K0 Dm 100000 1 178 [.sl nn (B8 zs) zs.length cap, .v (.int .i64 24), .v (.int .i64 16)] = some (.agg (B8 ((zs.drop 24).take 16)), []) := by
  have l24 : 24 < zs.length := by omega
  have i24 : (24 : Int) < (zs.length : Int) := by omega
  have a24 := B8_at0 zs 24 (by omega)
  have l25 : 25 < zs.length := by omega
  have i25 : (25 : Int) < (zs.length : Int) := by omega
  have a25 := B8_at0 zs 25 (by omega)
  have l26 : 26 < zs.length := by omega
  have i26 : (26 : Int) < (zs.length : Int) := by omega
  have a26 := B8_at0 zs 26 (by omega)
  have l27 : 27 < zs.length := by omega
  have i27 : (27 : Int) < (zs.length : Int) := by omega
  have a27 := B8_at0 zs 27 (by omega)
  have l28 : 28 < zs.length := by omega
  have i28 : (28 : Int) < (zs.length : Int) := by omega
  have a28 := B8_at0 zs 28 (by omega)
  have l29 : 29 < zs.length := by omega
  have i29 : (29 : Int) < (zs.length : Int) := by omega
  have a29 := B8_at0 zs 29 (by omega)
  have l30 : 30 < zs.length := by omega
  have i30 : (30 : Int) < (zs.length : Int) := by omega
  have a30 := B8_at0 zs 30 (by omega)
  have l31 : 31 < zs.length := by omega
  have i31 : (31 : Int) < (zs.length : Int) := by omega
  have a31 := B8_at0 zs 31 (by omega)
  have l32 : 32 < zs.length := by omega
  have i32 : (32 : Int) < (zs.length : Int) := by omega
  have a32 := B8_at0 zs 32 (by omega)
  have l33 : 33 < zs.length := by omega
  have i33 : (33 : Int) < (zs.length : Int) := by omega
  have a33 := B8_at0 zs 33 (by omega)
  have l34 : 34 < zs.length := by omega
  have i34 : (34 : Int) < (zs.length : Int) := by omega
  have a34 := B8_at0 zs 34 (by omega)
  have l35 : 35 < zs.length := by omega
  have i35 : (35 : Int) < (zs.length : Int) := by omega
  have a35 := B8_at0 zs 35 (by omega)
  have l36 : 36 < zs.length := by omega
  have i36 : (36 : Int) < (zs.length : Int) := by omega
  have a36 := B8_at0 zs 36 (by omega)
  have l37 : 37 < zs.length := by omega
  have i37 : (37 : Int) < (zs.length : Int) := by omega
  have a37 := B8_at0 zs 37 (by omega)
  have l38 : 38 < zs.length := by omega
  have i38 : (38 : Int) < (zs.length : Int) := by omega
  have a38 := B8_at0 zs 38 (by omega)
  have l39 : 39 < zs.length := by omega
  have i39 : (39 : Int) < (zs.length : Int) := by omega
  have a39 := B8_at0 zs 39 (by omega)
  rw [take16_of (by omega)]
  unfold runF
  rw [pvCall_own (fn := Try.f178) rfl Try.func178 rfl (by decide) rfl rfl (by simp)]
  simp -implicitDefEqProofs [loopK_pos, splice, ad4, gb_drop', B8vc, B8vn, l24, i24, a24, l25, i25, a25, l26, i26, a26, l27, i27, a27, l28, i28, a28, l29, i29, a29, l30, i30, a30, l31, i31, a31, l32, i32, a32, l33, i33, a33, l34, i34, a34, l35, i35, a35, l36, i36, a36, l37, i37, a37, l38, i38, a38, l39, i39, a39]
  all_goals rfl
set_option maxHeartbeats 8000000 in
theorem raddr8_run (zs : List Int) (nn : Bool) (cap : Option Nat) (h : 24 ≤ zs.length) : runF Try.prog K0 Dm 100000 1 178 [.sl nn (B8 zs) zs.length cap, .v (.int .i64 8), .v (.int .i64 16)] = some (.agg (B8 ((zs.drop 8).take 16)), []) := by
  have l8 : 8 < zs.length := by omega
  have i8 : (8 : Int) < (zs.length : Int) := by omega
  have a8 := B8_at0 zs 8 (by omega)
  have l9 : 9 < zs.length := by omega
  have i9 : (9 : Int) < (zs.length : Int) := by omega
  have a9 := B8_at0 zs 9 (by omega)
  have l10 : 10 < zs.length := by omega
  have i10 : (10 : Int) < (zs.length : Int) := by omega
  have a10 := B8_at0 zs 10 (by omega)
  have l11 : 11 < zs.length := by omega
  have i11 : (11 : Int) < (zs.length : Int) := by omega
  have a11 := B8_at0 zs 11 (by omega)
  have l12 : 12 < zs.length := by omega
  have i12 : (12 : Int) < (zs.length : Int) := by omega
  have a12 := B8_at0 zs 12 (by omega)
  have l13 : 13 < zs.length := by omega
  have i13 : (13 : Int) < (zs.length : Int) := by omega
  have a13 := B8_at0 zs 13 (by omega)
  have l14 : 14 < zs.length := by omega
  have i14 : (14 : Int) < (zs.length : Int) := by omega
  have a14 := B8_at0 zs 14 (by omega)
  have l15 : 15 < zs.length := by omega
  have i15 : (15 : Int) < (zs.length : Int) := by omega
  have a15 := B8_at0 zs 15 (by omega)
  have l16 : 16 < zs.length := by omega
  have i16 : (16 : Int) < (zs.length : Int) := by omega
  have a16 := B8_at0 zs 16 (by omega)
  have l17 : 17 < zs.length := by omega
  have i17 : (17 : Int) < (zs.length : Int) := by omega
  have a17 := B8_at0 zs 17 (by omega)
  have l18 : 18 < zs.length := by omega
  have i18 : (18 : Int) < (zs.length : Int) := by omega
  have a18 := B8_at0 zs 18 (by omega)
  have l19 : 19 < zs.length := by omega
  have i19 : (19 : Int) < (zs.length : Int) := by omega
  have a19 := B8_at0 zs 19 (by omega)
  have l20 : 20 < zs.length := by omega
  have i20 : (20 : Int) < (zs.length : Int) := by omega
  have a20 := B8_at0 zs 20 (by omega)
  have l21 : 21 < zs.length := by omega
  have i21 : (21 : Int) < (zs.length : Int) := by omega
  have a21 := B8_at0 zs 21 (by omega)
  have l22 : 22 < zs.length := by omega
  have i22 : (22 : Int) < (zs.length : Int) := by omega
  have a22 := B8_at0 zs 22 (by omega)
  have l23 : 23 < zs.length := by omega
  have i23 : (23 : Int) < (zs.length : Int) := by omega
  have a23 := B8_at0 zs 23 (by omega)
  rw [take16_of (by omega)]
  unfold runF
  rw [pvCall_own (fn := Try.f178) rfl Try.func178 rfl (by decide) rfl rfl (by simp)]
  simp -implicitDefEqProofs [loopK_pos, splice, ad4, gb_drop', B8vc, B8vn, l8, i8, a8, l9, i9, a9, l10, i10, a10, l11, i11, a11, l12, i12, a12, l13, i13, a13, l14, i14, a14, l15, i15, a15, l16, i16, a16, l17, i17, a17, l18, i18, a18, l19, i19, a19, l20, i20, a20, l21, i21, a21, l22, i22, a22, l23, i23, a23]
  all_goals rfl
def fRAddr : Fun
  | [.sl nn b len cap, .v (.int .i64 k), .v (.int .i64 m)] => (asB8 b).bind fun zs => if zs.length = len ∧ (k + m : Int) ≤ (len : Int) ∧ ((k = 16 ∧ m = 4) ∨ (k = 12 ∧ m = 4) ∨ (k = 24 ∧ m = 16) ∨ (k = 8 ∧ m = 16)) then some (.agg (B8 (if m = 4 then ad4 (zs.drop k.toNat) else (zs.drop k.toNat).take 16)), []) else none
  | _ => none
theorem raddr_pure : Pure Try.prog 178 fRAddr := (runF_pure k0_ok follows_mixed dm_ok 100000 1 178).weaken fun args r h => by
  unfold fRAddr at h
  split at h
  · rename_i nn b len cap k m
    obtain ⟨zs, hz, he⟩ := Option.bind_eq_some_iff.1 h
    clear h
    split at he
    case isFalse => cases he
    rename_i hh
    obtain ⟨rfl, h1, h2⟩ := hh
    obtain rfl := asB8_eq hz
    rw [← he]
    rcases h2 with ⟨rfl, rfl⟩ | ⟨rfl, rfl⟩ | ⟨rfl, rfl⟩ | ⟨rfl, rfl⟩
    · exact raddr16_run zs nn cap (by omega)
    · exact raddr12_run zs nn cap (by omega)
    · exact raddr24_run zs nn cap (by omega)
    · exact raddr8_run zs nn cap (by omega)
  · cases h
noncomputable def KP : Nat → Option Con
  | 151 => some fChain
  | 97 => some fNum
  | 178 => some fRAddr
  | _ => none
theorem kp_ok : KOk Try.prog KP := fun f F h => by
  unfold KP at h
  split at h
  · cases h; exact ⟨rchain_pure, _, Try.func151, rfl, by decide⟩
  · cases h; exact ⟨num_pure, _, Try.func97, rfl, by decide⟩
  · cases h; exact ⟨raddr_pure, _, Try.func178, rfl, by decide⟩
  · cases h
section
variable {D : FuncId → Nat → List Nat} {L d px : Nat} {args : List AV} {m : Mem}
theorem ckp_rchain : pvCall Try.prog KP D L d px 151 args m = callBy fChain m px args := pvCall_by rfl
theorem ckp_num : pvCall Try.prog KP D L d px 97 args m = callBy fNum m px args := pvCall_by rfl
theorem ckp_raddr : pvCall Try.prog KP D L d px 178 args m = callBy fRAddr m px args := pvCall_by rfl
end
theorem ekp_rchain : KP 151 = some (.pure fChain) := rfl
theorem ekp_num : KP 97 = some (.pure fNum) := rfl
theorem ekp_raddr : KP 178 = some (.pure fRAddr) := rfl
attribute [simp] ckp_rchain ekp_rchain ckp_num ekp_num ckp_raddr ekp_raddr
def fourV (zs : List Int) : AV × List (List AV) := (.tup [if hd4E zs = 0 then tupA false (gb zs 9) (ad4 (zs.drop 16)) (ad4 (zs.drop 12)) 0 0 else noTup, .v (.int .i64 (if hd4E zs = 0 then (hn4 zs : Int) else 0)), .v (.int .i64 (hd4E zs))], [])
def sixV (zs : List Int) : AV × List (List AV) := (.tup [if hd6E zs = 0 then tupA true (hdP true zs) (hdS true zs) (hdD true zs) 0 0 else tupA true 0 t16 t16 0 0, .v (.int .i64 (if hd6E zs = 0 then (hdN true zs : Int) else 0)), .v (.int .i64 (hd6E zs))], [])
set_option maxHeartbeats 16000000 in
theorem four_run' (zs : List Int) (nn : Bool) (cap : Option Nat) (hz : bytesB zs = true) (hl : zs.length ≤ 500000) : runF Try.prog KP Dm 100000 1 162 [.sl nn (B8 zs) zs.length cap] = some (fourV zs) := by
  unfold runF fourV hd4E
  rw [pvCall_own (fn := Try.f162) rfl Try.func162 rfl (by decide) rfl rfl (by simp)]
  by_cases h20 : zs.length < 20
  · have i20 : (zs.length : Int) < 20 := by omega
    simp -implicitDefEqProofs [h20, i20, noTup, tupA, t16, B8vc, B8vn, splice]
  rw [if_neg h20]
  have i20 : ¬ (zs.length : Int) < 20 := by omega
  have a0 := B8_at00 zs (by omega)
  have l0 : 0 < zs.length := by omega
  have i0 : (0 : Int) < (zs.length : Int) := by omega
  have g0 := gb_range hz 0
  have w0 : IntKind.i64.wrap (gb zs 0 % 16) = gb zs 0 % 16 := wrap64_id (by omega) (by omega)
  have e1 : (hn4 zs : Int) = gb zs 0 % 16 * 4 := by unfold hn4; omega
  have w1 : IntKind.i64.wrap (gb zs 0 % 16 * 4) = (hn4 zs : Int) := by rw [wrap64_id (by omega) (by omega)]; omega
  have t0 : (gb zs 0).tmod 16 = gb zs 0 % 16 := Int.tmod_eq_emod_of_nonneg (by omega)
  have t1 : (gb zs 0).tdiv 16 = gb zs 0 / 16 := Int.tdiv_eq_ediv_of_nonneg (by omega)
  have t2 : IntKind.u8.wrap (gb zs 0 % 16) = gb zs 0 % 16 := wrapu8_id (by omega) (by omega)
  have t3 : IntKind.u8.wrap (gb zs 0 / 16) = gb zs 0 / 16 := wrapu8_id (by omega) (by omega)
  have t4 : IntKind.u8.wrap 4 = 4 := by decide
  generalize hn4 zs = n at *
  by_cases h4 : gb zs 0 / 16 = 4
  case neg =>
    have h4n : (gb zs 0 / 16 != 4) = true := by simp [h4]
    have h4e : (gb zs 0 / 16 == 4) = false := by simp [h4]
    simp -implicitDefEqProofs [i20, a0, l0, i0, w0, w1, t0, t1, t2, t3, t4, B8vc, B8vn, splice, IntKind.bits, Nat.testBit_eq_decide_div_mod_eq, h4, h4n, h4e, noTup, tupA, t16]
  by_cases h2 : n < 20
  · have h2i : (n : Int) < 20 := by omega
    simp -implicitDefEqProofs [i20, a0, l0, i0, w0, w1, t0, t1, t2, t3, t4, B8vc, B8vn, splice, IntKind.bits, Nat.testBit_eq_decide_div_mod_eq, h4, h2, h2i, noTup, tupA, t16]
  have h2i : ¬ (n : Int) < 20 := by omega
  by_cases h3 : zs.length < n
  · have h3i : (zs.length : Int) < (n : Int) := by omega
    simp -implicitDefEqProofs [i20, a0, l0, i0, w0, w1, t0, t1, t2, t3, t4, B8vc, B8vn, splice, IntKind.bits, Nat.testBit_eq_decide_div_mod_eq, h4, h2, h2i, h3, h3i, noTup, tupA, t16]
  have h3i : ¬ (zs.length : Int) < (n : Int) := by omega
  have r7 := w16_range (bytesB_iff.1 hz) 6
  have l40 : zs.length ≤ 1099511627776 := by omega
  have i7 : (7 : Int) < (zs.length : Int) := by omega
  have u0 : (w16 zs 6).tmod 8192 = w16 zs 6 % 8192 := Int.tmod_eq_emod_of_nonneg (by omega)
  have u1 : IntKind.u32.wrap (w16 zs 6 % 8192) = w16 zs 6 % 8192 := wrapu32_id (by omega) (by omega)
  by_cases hf : w16 zs 6 % 8192 = 0
  case neg =>
    have hfn : (w16 zs 6 % 8192 != 0) = true := by simp [hf]
    simp -implicitDefEqProofs [i20, a0, l0, i0, w0, w1, t0, t1, t2, t3, t4, B8vc, B8vn, splice, IntKind.bits, Nat.testBit_eq_decide_div_mod_eq, h4, h2, h2i, h3, h3i, l40, i7, u0, u1, hf, hfn, hz, fNum, noTup, tupA, t16]
  have a9 := B8_at0 zs 9 (by omega)
  have l9 : 9 < zs.length := by omega
  have i9 : (9 : Int) < (zs.length : Int) := by omega
  have c1 : (16 : Int) + 4 ≤ (zs.length : Int) := by omega
  have c2 : (12 : Int) + 4 ≤ (zs.length : Int) := by omega
  have c3 : (20 : Int) ≤ (zs.length : Int) := by omega
  have c4 : (16 : Int) ≤ (zs.length : Int) := by omega
  simp -implicitDefEqProofs [i20, a0, l0, i0, w0, w1, t0, t1, t2, t3, t4, B8vc, B8vn, splice, IntKind.bits, Nat.testBit_eq_decide_div_mod_eq, h4, h2, h2i, h3, h3i, l40, i7, u0, u1, hf, hz, fNum, a9, l9, i9, c1, c2, c3, c4, fRAddr, tupA, ad4, gb_drop']
set_option maxHeartbeats 16000000 in
theorem six_run' (zs : List Int) (nn : Bool) (cap : Option Nat) (hz : bytesB zs = true) (hl : zs.length ≤ 500000) : runF Try.prog KP Dm 100000 1 163 [.sl nn (B8 zs) zs.length cap] = some (sixV zs) := by
  have hP : hdP true zs = (chainF 9 (gb zs 6) (zs.drop 40) 0 0).1 := rfl
  have hN : hdN true zs = 40 + (chainF 9 (gb zs 6) (zs.drop 40) 0 0).2.1.toNat := rfl
  have hS : hdS true zs = (zs.drop 24).take 16 := rfl
  have hD : hdD true zs = (zs.drop 8).take 16 := rfl
  unfold runF sixV
  rw [hP, hN, hS, hD]
  unfold hd6E
  rw [pvCall_own (fn := Try.f163) rfl Try.func163 rfl (by decide) rfl rfl (by simp)]
  by_cases h40 : zs.length < 40
  · have i40 : (zs.length : Int) < 40 := by omega
    simp -implicitDefEqProofs [h40, i40, tupA, t16, B8vc, B8vn, splice]
  rw [if_neg h40]
  have i40 : ¬ (zs.length : Int) < 40 := by omega
  have a0 := B8_at00 zs (by omega)
  have l0 : 0 < zs.length := by omega
  have i0 : (0 : Int) < (zs.length : Int) := by omega
  have g0 := gb_range hz 0
  have t1 : (gb zs 0).tdiv 16 = gb zs 0 / 16 := Int.tdiv_eq_ediv_of_nonneg (by omega)
  have t3 : IntKind.u8.wrap (gb zs 0 / 16) = gb zs 0 / 16 := wrapu8_id (by omega) (by omega)
  have t4 : IntKind.u8.wrap 6 = 6 := by decide
  by_cases h6 : gb zs 0 / 16 = 6
  case neg =>
    have h6n : (gb zs 0 / 16 != 6) = true := by simp [h6]
    simp -implicitDefEqProofs [i40, a0, l0, i0, t1, t3, h6, h6n, tupA, t16, B8vc, B8vn, splice, IntKind.bits]
  have g6 := gb_range hz 6
  have hb40 : bytesB (zs.drop 40) = true := bytesB_drop hz 40
  have hout := chain_out 9 (gb zs 6) (zs.drop 40) 0 0 g6.1 g6.2 hb40 (by omega) (by omega) (by omega)
  obtain ⟨⟨r1, r2, r3⟩, hc⟩ : ∃ r, chainF 9 (gb zs 6) (zs.drop 40) 0 0 = r := ⟨_, rfl⟩
  rw [hc] at hout ⊢
  simp only at hout ⊢
  have a6 := B8_at0 zs 6 (by omega)
  have l6 : 6 < zs.length := by omega
  have i6 : (6 : Int) < (zs.length : Int) := by omega
  have k2 : (40 : Int) ≤ (zs.length : Int) := by omega
  have k3 : (24 : Int) ≤ (zs.length : Int) := by omega
  have k5 : 40 ≤ zs.length := by omega
  have k8 : (zs.drop 40).length = zs.length - 40 := by simp
  have k9 : zs.length - 40 ≤ 1099511627776 := by omega
  have k10 : (zs.drop 40).take (zs.length - 40) = zs.drop 40 := List.take_of_length_le (by simp)
  by_cases h3 : r3 = 0
  case neg =>
    have h3n : (r3 != 0) = true := by simp [h3]
    simp -implicitDefEqProofs [i40, a0, l0, i0, t1, t3, t4, h6, a6, l6, i6, k2, k5, k8, k9, k10, hb40, hc, g6, fChain, chainV, splice, IntKind.bits, Nat.testBit_eq_decide_div_mod_eq, h3, h3n, tupA, t16, B8vc, B8vn]
  subst h3
  rcases hout with ⟨_, ho1, ho2, ho3, ho4⟩ | ⟨q, _⟩
  case inr => exact absurd rfl q
  obtain ⟨n, rfl⟩ := Int.eq_ofNat_of_zero_le ho1
  have hn : n ≤ zs.length - 40 := by omega
  have m1 : IntKind.i64.wrap (40 + (n : Int)) = 40 + (n : Int) := wrap64_id (by omega) (by omega)
  obtain ⟨S, hSS⟩ : ∃ S, (zs.drop 24).take 16 = S := ⟨_, rfl⟩
  obtain ⟨E, hEE⟩ : ∃ E, (zs.drop 8).take 16 = E := ⟨_, rfl⟩
  have hSl : S.length = 16 := by rw [← hSS]; simp; omega
  have hEl : E.length = 16 := by rw [← hEE]; simp; omega
  rw [hSS, hEE]
  simp -implicitDefEqProofs [i40, a0, l0, i0, t1, t3, t4, h6, a6, l6, i6, k2, k5, k8, k9, k10, hb40, hc, g6, fChain, chainV, splice, IntKind.bits, Nat.testBit_eq_decide_div_mod_eq, m1, hSS, hEE, hSl, hEl, k3, fRAddr, tupA, B8t16 hSl, B8d16 hSl, B8t16 hEl, B8d16 hEl, B8t33 hSl, B8t17 hEl, B8d32 hSl, B8d32 hEl, B8t32 hSl, B8d33 hSl, B8d17 hEl, B8d34 hSl, B8d18 hEl, B8t34 hSl, B8t18 hEl, -B8_append]
def fFour6 : Fun
  | [.sl nn b len cap] => (asB8 b).bind fun zs => if zs.length = len ∧ len ≤ 500000 ∧ bytesB zs = true then some (fourV zs) else none
  | _ => none
def fSix6 : Fun
  | [.sl nn b len cap] => (asB8 b).bind fun zs => if zs.length = len ∧ len ≤ 500000 ∧ bytesB zs = true then some (sixV zs) else none
  | _ => none
theorem four6_pure : Pure Try.prog 162 fFour6 := (runF_pure kp_ok follows_mixed dm_ok 100000 1 162).weaken fun args r h => by
  unfold fFour6 at h
  split at h
  · rename_i nn b len cap
    obtain ⟨zs, hz, he⟩ := Option.bind_eq_some_iff.1 h
    clear h
    split at he
    case isFalse => cases he
    rename_i hh
    obtain ⟨rfl, h1, h2⟩ := hh
    obtain rfl := asB8_eq hz
    rw [← he]
    exact four_run' zs nn cap h2 h1
  · cases h
theorem six6_pure : Pure Try.prog 163 fSix6 := (runF_pure kp_ok follows_mixed dm_ok 100000 1 163).weaken fun args r h => by
  unfold fSix6 at h
  split at h
  · rename_i nn b len cap
    obtain ⟨zs, hz, he⟩ := Option.bind_eq_some_iff.1 h
    clear h
    split at he
    case isFalse => cases he
    rename_i hh
    obtain ⟨rfl, h1, h2⟩ := hh
    obtain rfl := asB8_eq hz
    rw [← he]
    exact six_run' zs nn cap h2 h1
  · cases h
end Go.Proofs.Ytmdafjegddnecaa

/- The reference's Within as a function of values. -/
namespace Go.Proofs.Ytmdafjegddnecaa
open Go.Pm Go.Wb
set_option linter.unusedVariables false
set_option linter.unusedSimpArgs false
set_option maxRecDepth 1000000
noncomputable def KQw : Nat → Option Con
  | 97 => some fNum
  | 162 => some fFour6
  | 163 => some fSix6
  | _ => none
theorem kqw_ok : KOk Try.prog KQw := fun f F h => by
  unfold KQw at h
  split at h
  · cases h; exact ⟨num_pure, _, Try.func97, rfl, by decide⟩
  · cases h; exact ⟨four6_pure, _, Try.func162, rfl, by decide⟩
  · cases h; exact ⟨six6_pure, _, Try.func163, rfl, by decide⟩
  · cases h
section
variable {D : FuncId → Nat → List Nat} {L d px : Nat} {args : List AV} {m : Mem}
theorem ckqw_num : pvCall Try.prog KQw D L d px 97 args m = callBy fNum m px args := pvCall_by rfl
theorem ckqw_four : pvCall Try.prog KQw D L d px 162 args m = callBy fFour6 m px args := pvCall_by rfl
theorem ckqw_six : pvCall Try.prog KQw D L d px 163 args m = callBy fSix6 m px args := pvCall_by rfl
end
theorem ekqw_num : KQw 97 = some (.pure fNum) := rfl
theorem ekqw_four : KQw 162 = some (.pure fFour6) := rfl
theorem ekqw_six : KQw 163 = some (.pure fSix6) := rfl
attribute [simp] ckqw_num ekqw_num ckqw_four ekqw_four ckqw_six ekqw_six
theorem fourV_eq (zs : List Int) : ∃ (p : Int) (S E : List Int) (n : Int), S.length = 16 ∧ E.length = 16 ∧ fourV zs = (.tup [tupA false p S E 0 0, .v (.int .i64 n), .v (.int .i64 (hd4E zs))], []) ∧ (hd4E zs = 0 → p = gb zs 9 ∧ S = ad4 (zs.drop 16) ∧ E = ad4 (zs.drop 12) ∧ n = (hn4 zs : Int)) := by
  by_cases h : hd4E zs = 0
  · exact ⟨gb zs 9, ad4 (zs.drop 16), ad4 (zs.drop 12), hn4 zs, rfl, rfl, by simp only [fourV, if_pos h], fun _ => ⟨rfl, rfl, rfl, rfl⟩⟩
  · exact ⟨0, t16, t16, 0, rfl, rfl, by simp only [fourV, if_neg h]; rfl, fun q => absurd q h⟩
theorem hd6_len {zs : List Int} (h : hd6E zs = 0) : 40 ≤ zs.length := by
  unfold hd6E at h; split at h
  · cases h
  · omega
theorem sixV_eq (zs : List Int) : ∃ (p : Int) (S E : List Int) (n : Int), S.length = 16 ∧ E.length = 16 ∧ sixV zs = (.tup [tupA true p S E 0 0, .v (.int .i64 n), .v (.int .i64 (hd6E zs))], []) ∧ (hd6E zs = 0 → p = hdP true zs ∧ S = hdS true zs ∧ E = hdD true zs ∧ n = (hdN true zs : Int)) := by
  by_cases h : hd6E zs = 0
  · have hl := hd6_len h
    refine ⟨hdP true zs, hdS true zs, hdD true zs, hdN true zs, ?a, ?b, by simp only [sixV, if_pos h], fun _ => ⟨rfl, rfl, rfl, rfl⟩⟩
    · show ((zs.drop 24).take 16).length = 16; simp; omega
    · show ((zs.drop 8).take 16).length = 16; simp; omega
  · exact ⟨0, t16, t16, 0, rfl, rfl, by simp only [sixV, if_neg h], fun q => absurd q h⟩
theorem hdN_range (v6 : Bool) {zs : List Int} (hz : bytesB zs = true) (hl : zs.length ≤ 500000) (h : hdE v6 zs = 0) : hdN v6 zs ≤ zs.length := by
  cases v6 with
  | false =>
    have h : hd4E zs = 0 := h
    show hn4 zs ≤ _
    unfold hd4E at h
    repeat (split at h; · cases h)
    rename_i h3 _
    first | omega | (split at h; · cases h
                     omega)
  | true =>
    have h : hd6E zs = 0 := h
    have hl40 := hd6_len h
    unfold hd6E at h
    split at h
    · cases h
    split at h
    · cases h
    have g6 := gb_range hz 6
    have hout := chain_out 9 (gb zs 6) (zs.drop 40) 0 0 g6.1 g6.2 (bytesB_drop hz 40) (by omega) (by omega) (by omega)
    show 40 + (chainF 9 (gb zs 6) (zs.drop 40) 0 0).2.1.toNat ≤ _
    have hd : (zs.drop 40).length = zs.length - 40 := by simp
    rcases hout with ⟨_, ho1, ho2, ho3, ho4⟩ | ⟨q, _⟩
    · omega
    · exact absurd h q
set_option maxHeartbeats 16000000 in
theorem rwithin4_run (zs : List Int) (nn : Bool) (cap : Option Nat) (hz : bytesB zs = true) (hl : zs.length ≤ 500000) : runF Try.prog KQw Dm 100000 2 132 [.v (.bool false), .sl nn (B8 zs) zs.length cap] = some (.tup [wiT false zs, .v (.int .i64 (wiE false zs))], []) := by
  obtain ⟨p4, S4, D4, n4, hS4, hD4, h4, c4⟩ := fourV_eq zs
  have c := c4
  have hb := hdN_range false hz hl
  have eE : hdE false zs = hd4E zs := rfl
  have l40 : zs.length ≤ 1099511627776 := by omega
  rw [eE] at hb
  unfold runF wiT wiE
  rw [eE]
  generalize hd4E zs = e at *
  rw [pvCall_own (fn := Try.f132) rfl Try.func132 rfl (by decide) rfl rfl (by simp)]
  by_cases he : e = 0
  case neg =>
    have en : (e != 0) = true := by simp [he]
    have ee : (e == 0) = false := by simp [he]
    simp -implicitDefEqProofs [hz, hl, h4, l40, fNum, fFour6, splice, IntKind.bits, Nat.testBit_eq_decide_div_mod_eq, tupA, hS4, hD4, B8t16 hS4, B8d16 hS4, B8t16 hD4, B8d16 hD4, he, en, ee, noTup, tupA, t16, B8vc, B8vn]
  subst he
  obtain ⟨q1, q2, q3, q4⟩ := c rfl
  have hb := hb rfl
  have q1 : hdP false zs = p4 := q1.symm
  have q2 : hdS false zs = S4 := q2.symm
  have q3 : hdD false zs = D4 := q3.symm
  have q4 : n4 = (hdN false zs : Int) := q4
  rw [q1, q2, q3]
  subst q4
  generalize hdN false zs = N at *
  have i5 : (0 : Int) ≤ (N : Int) := by omega
  have r0 := w16_range (bytesB_iff.1 hz) N
  have r2 := w16_range (bytesB_iff.1 hz) (N + 2)
  have u0 : IntKind.u16.wrap (w16 zs N) = w16 zs N := wrapu16_id (by omega) (by omega)
  have u2 : IntKind.u16.wrap (w16 zs (N + 2)) = w16 zs (N + 2) := wrapu16_id (by omega) (by omega)
  have w1 : IntKind.i64.wrap ((zs.length : Int) - (N : Int)) = (zs.length : Int) - (N : Int) := wrap64_id (by omega) (by omega)
  have w2 : IntKind.i64.wrap ((N : Int) + 2) = (N : Int) + 2 := wrap64_id (by omega) (by omega)
  have t2 : ((N : Int) + 2).toNat = N + 2 := by omega
  have t3 : (0 : Int) ≤ (N : Int) + 2 := by omega
  by_cases hp6 : p4 = 6
  · subst hp6
    by_cases h5 : zs.length < N + 4
    · have d1 : (zs.length : Int) - (N : Int) < 4 := by omega
      simp -implicitDefEqProofs [hz, hl, h4, l40, fNum, fFour6, splice, IntKind.bits, Nat.testBit_eq_decide_div_mod_eq, tupA, hS4, hD4, B8t16 hS4, B8d16 hS4, B8t16 hD4, B8d16 hD4, i5, u0, u2, w1, w2, t2, t3, hz, h5, d1, noTup, tupA, t16, B8vc, B8vn]
    · have d1 : ¬ (zs.length : Int) - (N : Int) < 4 := by omega
      have d2 : (N : Int) + 2 + 1 < (zs.length : Int) := by omega
      have d3 : (N : Int) + 1 < (zs.length : Int) := by omega
      simp -implicitDefEqProofs [hz, hl, h4, l40, fNum, fFour6, splice, IntKind.bits, Nat.testBit_eq_decide_div_mod_eq, tupA, hS4, hD4, B8t16 hS4, B8d16 hS4, B8t16 hD4, B8d16 hD4, i5, u0, u2, w1, w2, t2, t3, hz, h5, d1, d2, d3, tupA, B8t16 hS4, B8d16 hS4, B8t16 hD4, B8d16 hD4, B8t33 hS4, B8t17 hD4, B8d32 hS4, B8d32 hD4, B8t32 hS4, B8d33 hS4, B8d17 hD4, B8d34 hS4, B8d18 hD4, B8t34 hS4, B8t18 hD4, -B8_append]
  have p6n : (p4 != 6) = true := by simp [hp6]
  have p6e : (p4 == 6) = false := by simp [hp6]
  by_cases hp17 : p4 = 17
  · subst hp17
    by_cases h5 : zs.length < N + 4
    · have d1 : (zs.length : Int) - (N : Int) < 4 := by omega
      simp -implicitDefEqProofs [hz, hl, h4, l40, fNum, fFour6, splice, IntKind.bits, Nat.testBit_eq_decide_div_mod_eq, tupA, hS4, hD4, B8t16 hS4, B8d16 hS4, B8t16 hD4, B8d16 hD4, i5, u0, u2, w1, w2, t2, t3, hz, h5, d1, noTup, tupA, t16, B8vc, B8vn]
    · have d1 : ¬ (zs.length : Int) - (N : Int) < 4 := by omega
      have d2 : (N : Int) + 2 + 1 < (zs.length : Int) := by omega
      have d3 : (N : Int) + 1 < (zs.length : Int) := by omega
      simp -implicitDefEqProofs [hz, hl, h4, l40, fNum, fFour6, splice, IntKind.bits, Nat.testBit_eq_decide_div_mod_eq, tupA, hS4, hD4, B8t16 hS4, B8d16 hS4, B8t16 hD4, B8d16 hD4, i5, u0, u2, w1, w2, t2, t3, hz, h5, d1, d2, d3, tupA, B8t16 hS4, B8d16 hS4, B8t16 hD4, B8d16 hD4, B8t33 hS4, B8t17 hD4, B8d32 hS4, B8d32 hD4, B8t32 hS4, B8d33 hS4, B8d17 hD4, B8d34 hS4, B8d18 hD4, B8t34 hS4, B8t18 hD4, -B8_append]
  have p17n : (p4 != 17) = true := by simp [hp17]
  have p17e : (p4 == 17) = false := by simp [hp17]
  simp -implicitDefEqProofs [hz, hl, h4, l40, fNum, fFour6, splice, IntKind.bits, Nat.testBit_eq_decide_div_mod_eq, tupA, hS4, hD4, B8t16 hS4, B8d16 hS4, B8t16 hD4, B8d16 hD4, i5, u0, u2, w1, w2, t2, t3, hp6, hp17, p6n, p6e, p17n, p17e, noTup, tupA, t16, B8vc, B8vn]
set_option maxHeartbeats 16000000 in
theorem rwithin6_run (zs : List Int) (nn : Bool) (cap : Option Nat) (hz : bytesB zs = true) (hl : zs.length ≤ 500000) : runF Try.prog KQw Dm 100000 2 132 [.v (.bool true), .sl nn (B8 zs) zs.length cap] = some (.tup [wiT true zs, .v (.int .i64 (wiE true zs))], []) := by
  obtain ⟨p4, S4, D4, n4, hS4, hD4, h4, c4⟩ := fourV_eq zs
  obtain ⟨p, S, E, n, hS, hE, h6, c⟩ := sixV_eq zs
  have hb := hdN_range true hz hl
  have eE : hdE true zs = hd6E zs := rfl
  have l40 : zs.length ≤ 1099511627776 := by omega
  rw [eE] at hb
  unfold runF wiT wiE
  rw [eE]
  generalize hd6E zs = e at *
  rw [pvCall_own (fn := Try.f132) rfl Try.func132 rfl (by decide) rfl rfl (by simp)]
  by_cases he : e = 0
  case neg =>
    have en : (e != 0) = true := by simp [he]
    have ee : (e == 0) = false := by simp [he]
    simp -implicitDefEqProofs [hz, hl, h4, l40, fNum, fFour6, splice, IntKind.bits, Nat.testBit_eq_decide_div_mod_eq, tupA, hS4, hD4, h6, fSix6, hS, hE, B8t16 hS4, B8d16 hS4, B8t16 hD4, B8d16 hD4, he, en, ee, noTup, tupA, t16, B8vc, B8vn]
  subst he
  obtain ⟨q1, q2, q3, q4⟩ := c rfl
  have hb := hb rfl
  have q1 : hdP true zs = p := q1.symm
  have q2 : hdS true zs = S := q2.symm
  have q3 : hdD true zs = E := q3.symm
  have q4 : n = (hdN true zs : Int) := q4
  rw [q1, q2, q3]
  subst q4
  generalize hdN true zs = N at *
  have i5 : (0 : Int) ≤ (N : Int) := by omega
  have r0 := w16_range (bytesB_iff.1 hz) N
  have r2 := w16_range (bytesB_iff.1 hz) (N + 2)
  have u0 : IntKind.u16.wrap (w16 zs N) = w16 zs N := wrapu16_id (by omega) (by omega)
  have u2 : IntKind.u16.wrap (w16 zs (N + 2)) = w16 zs (N + 2) := wrapu16_id (by omega) (by omega)
  have w1 : IntKind.i64.wrap ((zs.length : Int) - (N : Int)) = (zs.length : Int) - (N : Int) := wrap64_id (by omega) (by omega)
  have w2 : IntKind.i64.wrap ((N : Int) + 2) = (N : Int) + 2 := wrap64_id (by omega) (by omega)
  have t2 : ((N : Int) + 2).toNat = N + 2 := by omega
  have t3 : (0 : Int) ≤ (N : Int) + 2 := by omega
  by_cases hp6 : p = 6
  · subst hp6
    by_cases h5 : zs.length < N + 4
    · have d1 : (zs.length : Int) - (N : Int) < 4 := by omega
      simp -implicitDefEqProofs [hz, hl, h4, l40, fNum, fFour6, splice, IntKind.bits, Nat.testBit_eq_decide_div_mod_eq, tupA, hS4, hD4, h6, fSix6, hS, hE, B8t16 hS4, B8d16 hS4, B8t16 hD4, B8d16 hD4, i5, u0, u2, w1, w2, t2, t3, hz, h5, d1, noTup, tupA, t16, B8vc, B8vn]
    · have d1 : ¬ (zs.length : Int) - (N : Int) < 4 := by omega
      have d2 : (N : Int) + 2 + 1 < (zs.length : Int) := by omega
      have d3 : (N : Int) + 1 < (zs.length : Int) := by omega
      simp -implicitDefEqProofs [hz, hl, h4, l40, fNum, fFour6, splice, IntKind.bits, Nat.testBit_eq_decide_div_mod_eq, tupA, hS4, hD4, h6, fSix6, hS, hE, B8t16 hS4, B8d16 hS4, B8t16 hD4, B8d16 hD4, i5, u0, u2, w1, w2, t2, t3, hz, h5, d1, d2, d3, tupA, B8t16 hS, B8d16 hS, B8t16 hE, B8d16 hE, B8t33 hS, B8t17 hE, B8d32 hS, B8d32 hE, B8t32 hS, B8d33 hS, B8d17 hE, B8d34 hS, B8d18 hE, B8t34 hS, B8t18 hE, -B8_append]
  have p6n : (p != 6) = true := by simp [hp6]
  have p6e : (p == 6) = false := by simp [hp6]
  by_cases hp17 : p = 17
  · subst hp17
    by_cases h5 : zs.length < N + 4
    · have d1 : (zs.length : Int) - (N : Int) < 4 := by omega
      simp -implicitDefEqProofs [hz, hl, h4, l40, fNum, fFour6, splice, IntKind.bits, Nat.testBit_eq_decide_div_mod_eq, tupA, hS4, hD4, h6, fSix6, hS, hE, B8t16 hS4, B8d16 hS4, B8t16 hD4, B8d16 hD4, i5, u0, u2, w1, w2, t2, t3, hz, h5, d1, noTup, tupA, t16, B8vc, B8vn]
    · have d1 : ¬ (zs.length : Int) - (N : Int) < 4 := by omega
      have d2 : (N : Int) + 2 + 1 < (zs.length : Int) := by omega
      have d3 : (N : Int) + 1 < (zs.length : Int) := by omega
      simp -implicitDefEqProofs [hz, hl, h4, l40, fNum, fFour6, splice, IntKind.bits, Nat.testBit_eq_decide_div_mod_eq, tupA, hS4, hD4, h6, fSix6, hS, hE, B8t16 hS4, B8d16 hS4, B8t16 hD4, B8d16 hD4, i5, u0, u2, w1, w2, t2, t3, hz, h5, d1, d2, d3, tupA, B8t16 hS, B8d16 hS, B8t16 hE, B8d16 hE, B8t33 hS, B8t17 hE, B8d32 hS, B8d32 hE, B8t32 hS, B8d33 hS, B8d17 hE, B8d34 hS, B8d18 hE, B8t34 hS, B8t18 hE, -B8_append]
  have p17n : (p != 17) = true := by simp [hp17]
  have p17e : (p == 17) = false := by simp [hp17]
  simp -implicitDefEqProofs [hz, hl, h4, l40, fNum, fFour6, splice, IntKind.bits, Nat.testBit_eq_decide_div_mod_eq, tupA, hS4, hD4, h6, fSix6, hS, hE, B8t16 hS4, B8d16 hS4, B8t16 hD4, B8d16 hD4, i5, u0, u2, w1, w2, t2, t3, hp6, hp17, p6n, p6e, p17n, p17e, noTup, tupA, t16, B8vc, B8vn]
theorem rwithin_pure : Pure Try.prog 132 fWithin := (runF_pure kqw_ok follows_mixed dm_ok 100000 2 132).weaken fun args r h => by
  unfold fWithin at h
  split at h
  · rename_i v6 nn b len cap
    obtain ⟨zs, hz, he⟩ := Option.bind_eq_some_iff.1 h
    clear h
    split at he
    case isFalse => cases he
    rename_i hh
    obtain ⟨rfl, h1, h2⟩ := hh
    obtain rfl := asB8_eq hz
    rw [← he]
    cases v6 with
    | true => exact rwithin6_run zs nn cap h2 h1
    | false => exact rwithin4_run zs nn cap h2 h1
  · cases h
end Go.Proofs.Ytmdafjegddnecaa

/- icmp.Read and the reference's as functions of values. -/
namespace Go.Proofs.Ytmdafjegddnecaa
open Go.Pm Go.Wb
set_option linter.unusedVariables false
set_option linter.unusedSimpArgs false
set_option maxRecDepth 1000000
noncomputable def KR : Nat → Option Con
  | 116 => some fWithin
  | 132 => some fWithin
  | 115 => some fSk
  | 131 => some fSk
  | 109 => some fIse
  | 111 => some fIse
  | _ => none
theorem kr_ok : KOk Try.prog KR := fun f F h => by
  unfold KR at h
  split at h
  · cases h; exact ⟨within_pure, _, Try.func116, rfl, by decide⟩
  · cases h; exact ⟨rwithin_pure, _, Try.func132, rfl, by decide⟩
  · cases h; exact ⟨sk_pure, _, Try.func115, rfl, by decide⟩
  · cases h; exact ⟨rsk_pure, _, Try.func131, rfl, by decide⟩
  · cases h; exact ⟨ise_pure, _, Try.func109, rfl, by decide⟩
  · cases h; exact ⟨rise_pure, _, Try.func111, rfl, by decide⟩
  · cases h
section
variable {D : FuncId → Nat → List Nat} {L d px : Nat} {args : List AV} {m : Mem}
theorem ckr_within : pvCall Try.prog KR D L d px 116 args m = callBy fWithin m px args := pvCall_by rfl
theorem ckr_rwithin : pvCall Try.prog KR D L d px 132 args m = callBy fWithin m px args := pvCall_by rfl
theorem ckr_sealed : pvCall Try.prog KR D L d px 115 args m = callBy fSk m px args := pvCall_by rfl
theorem ckr_right : pvCall Try.prog KR D L d px 131 args m = callBy fSk m px args := pvCall_by rfl
theorem ckr_ise : pvCall Try.prog KR D L d px 109 args m = callBy fIse m px args := pvCall_by rfl
theorem ckr_rise : pvCall Try.prog KR D L d px 111 args m = callBy fIse m px args := pvCall_by rfl
end
theorem ekr_within : KR 116 = some (.pure fWithin) := rfl
theorem ekr_rwithin : KR 132 = some (.pure fWithin) := rfl
theorem ekr_sealed : KR 115 = some (.pure fSk) := rfl
theorem ekr_right : KR 131 = some (.pure fSk) := rfl
theorem ekr_ise : KR 109 = some (.pure fIse) := rfl
theorem ekr_rise : KR 111 = some (.pure fIse) := rfl
attribute [simp] ckr_within ekr_within ckr_rwithin ekr_rwithin ckr_sealed ekr_sealed ckr_right ekr_right ckr_ise ekr_ise ckr_rise ekr_rise
def repA (k c : Int) (v6 : Bool) (pr : Int) (ss ds : List Int) (sp dp : Int) : AV := .agg (.v (.int .u8 k) :: .v (.int .u8 c) :: .v (.bool v6) :: .v (.int .u8 pr) :: (B8 ss ++ (B8 ds ++ [.v (.int .u16 sp), .v (.int .u16 dp)])))
def noRep : AV := repA 0 0 false 0 t16 t16 0 0
def errR (e : Int) : AV × List (List AV) := (.tup [noRep, .v (.int .i64 e)], [])
def rdE (v6 : Bool) (ss ds zs : List Int) : Int := if zs.length < 8 then 4 else if ¬ skV v6 ss ds zs = 0 then 6 else if isE v6 (gb zs 0) = false then 10 else wiE v6 (zs.drop 8)
def rdT (v6 : Bool) (ss ds zs : List Int) : AV := if rdE v6 ss ds zs = 0 then repA (gb zs 0) (gb zs 1) v6 (hdP v6 (zs.drop 8)) (hdS v6 (zs.drop 8)) (hdD v6 (zs.drop 8)) (w16 (zs.drop 8) (hdN v6 (zs.drop 8) + 2)) (w16 (zs.drop 8) (hdN v6 (zs.drop 8))) else noRep
def rdV (v6 : Bool) (ss ds zs : List Int) : AV × List (List AV) := (.tup [rdT v6 ss ds zs, .v (.int .i64 (rdE v6 ss ds zs))], [])
theorem wiE_hd {v6 : Bool} {zs : List Int} (h : wiE v6 zs = 0) : hdE v6 zs = 0 := by
  unfold wiE at h
  split at h
  · rename_i q; exact absurd h q
  · rename_i q; simpa using q
theorem hdSD_len {v6 : Bool} {zs : List Int} (h : hdE v6 zs = 0) : (hdS v6 zs).length = 16 ∧ (hdD v6 zs).length = 16 := by
  cases v6 with
  | false => exact ⟨rfl, rfl⟩
  | true =>
    have hl := hd6_len h
    constructor
    · show ((zs.drop 24).take 16).length = 16; simp; omega
    · show ((zs.drop 8).take 16).length = 16; simp; omega
set_option maxHeartbeats 16000000 in
theorem read_run (v6 : Bool) (ss ds zs : List Int) (nn : Bool) (cap : Option Nat) (hg : goodM ss ds zs zs.length) : runF Try.prog KR Dm 100000 1 53 [.v (.bool v6), .agg (B8 ss), .agg (B8 ds), .sl nn (B8 zs) zs.length cap] = some (rdV v6 ss ds zs) := by
  obtain ⟨_, hl, hs, hd, hz, bs, bd⟩ := id hg
  have t1 : ss.take 16 = ss := List.take_of_length_le (by omega)
  have t2 : ds.take 16 = ds := List.take_of_length_le (by omega)
  unfold runF rdV rdT rdE
  rw [pvCall_own (fn := Try.f53) rfl Try.func53 rfl (by decide) rfl rfl (by simp)]
  by_cases h8 : zs.length < 8
  · have i8 : (zs.length : Int) < 8 := by omega
    simp -implicitDefEqProofs [h8, i8, noRep, repA, hs, hd, t16, B8vc, B8vn, splice]
  have i8 : ¬ (zs.length : Int) < 8 := by omega
  rw [if_neg h8]
  by_cases hk : skV v6 ss ds zs = 0
  case neg =>
    have hkn : (skV v6 ss ds zs != 0) = true := by simp [hk]
    have hke : (skV v6 ss ds zs == 0) = false := by simp [hk]
    simp -implicitDefEqProofs [i8, hg, hk, hkn, hke, fSk, t1, t2, noRep, repA, hs, hd, t16, B8vc, B8vn, splice]
  have a0 := B8_at00 zs (by omega)
  have a1 := B8_at0 zs 1 (by omega)
  have l0 : 0 < zs.length := by omega
  have i0 : (0 : Int) < (zs.length : Int) := by omega
  have l1 : 1 < zs.length := by omega
  have i1 : (1 : Int) < (zs.length : Int) := by omega
  have g0 := (gb_range hz 0).1
  by_cases he : isE v6 (gb zs 0) = false
  · simp -implicitDefEqProofs [i8, hg, hk, he, a0, l0, i0, g0, fSk, fIse, t1, t2, noRep, repA, hs, hd, t16, B8vc, B8vn, splice]
  have he : isE v6 (gb zs 0) = true := by simpa using he
  have k1 : 8 ≤ zs.length := by omega
  have k2 : (8 : Int) ≤ (zs.length : Int) := by omega
  have k3 : (zs.drop 8).length = zs.length - 8 := by simp
  have k4 : zs.length - 8 ≤ 500000 := by omega
  have k5 : (zs.drop 8).take (zs.length - 8) = zs.drop 8 := List.take_of_length_le (by simp)
  have k6 : bytesB (zs.drop 8) = true := bytesB_drop hz 8
  by_cases hw : wiE v6 (zs.drop 8) = 0
  case neg =>
    have hwn : (wiE v6 (zs.drop 8) != 0) = true := by simp [hw]
    have hwe : (wiE v6 (zs.drop 8) == 0) = false := by simp [hw]
    have hwT : wiT v6 (zs.drop 8) = noTup := by unfold wiT; rw [if_neg hw]
    simp -implicitDefEqProofs [i8, hg, hk, he, a0, l0, i0, g0, k1, k2, k3, k4, k5, k6, fSk, fIse, fWithin, t1, t2, splice, hw, hwn, hwe, hwT, noTup, tupA, noRep, repA, hs, hd, t16, B8vc, B8vn]
  have hwT : wiT v6 (zs.drop 8) = tupA v6 (hdP v6 (zs.drop 8)) (hdS v6 (zs.drop 8)) (hdD v6 (zs.drop 8)) (w16 (zs.drop 8) (hdN v6 (zs.drop 8) + 2)) (w16 (zs.drop 8) (hdN v6 (zs.drop 8))) := by unfold wiT; rw [if_pos hw]
  obtain ⟨hS, hE⟩ := hdSD_len (wiE_hd hw)
  generalize hdS v6 (zs.drop 8) = S at *
  generalize hdD v6 (zs.drop 8) = E at *
  generalize hdP v6 (zs.drop 8) = p at *
  generalize w16 (zs.drop 8) (hdN v6 (zs.drop 8) + 2) = sp at *
  generalize w16 (zs.drop 8) (hdN v6 (zs.drop 8)) = dp at *
  simp -implicitDefEqProofs [i8, hg, hk, he, a0, l0, i0, g0, k1, k2, k3, k4, k5, k6, fSk, fIse, fWithin, t1, t2, splice, a1, l1, i1, hw, hwT, tupA, noRep, repA, hs, hd, hS, hE, B8t16 hS, B8d16 hS, B8t16 hE, B8d16 hE, B8t33 hS, B8t17 hE, B8d32 hS, B8d32 hE, B8t32 hS, B8d33 hS, B8d17 hE, B8d34 hS, B8d18 hE, B8t34 hS, B8t18 hE, -B8_append]
set_option maxHeartbeats 16000000 in
theorem rread_run (v6 : Bool) (ss ds zs : List Int) (nn : Bool) (cap : Option Nat) (hg : goodM ss ds zs zs.length) : runF Try.prog KR Dm 100000 1 79 [.v (.bool v6), .agg (B8 ss), .agg (B8 ds), .sl nn (B8 zs) zs.length cap] = some (rdV v6 ss ds zs) := by
  obtain ⟨_, hl, hs, hd, hz, bs, bd⟩ := id hg
  have t1 : ss.take 16 = ss := List.take_of_length_le (by omega)
  have t2 : ds.take 16 = ds := List.take_of_length_le (by omega)
  unfold runF rdV rdT rdE
  rw [pvCall_own (fn := Try.f79) rfl Try.func79 rfl (by decide) rfl rfl (by simp)]
  by_cases h8 : zs.length < 8
  · have i8 : (zs.length : Int) < 8 := by omega
    simp -implicitDefEqProofs [h8, i8, noRep, repA, hs, hd, t16, B8vc, B8vn, splice]
  have i8 : ¬ (zs.length : Int) < 8 := by omega
  rw [if_neg h8]
  by_cases hk : skV v6 ss ds zs = 0
  case neg =>
    have hkn : (skV v6 ss ds zs != 0) = true := by simp [hk]
    have hke : (skV v6 ss ds zs == 0) = false := by simp [hk]
    simp -implicitDefEqProofs [i8, hg, hk, hkn, hke, fSk, t1, t2, noRep, repA, hs, hd, t16, B8vc, B8vn, splice]
  have a0 := B8_at00 zs (by omega)
  have a1 := B8_at0 zs 1 (by omega)
  have l0 : 0 < zs.length := by omega
  have i0 : (0 : Int) < (zs.length : Int) := by omega
  have l1 : 1 < zs.length := by omega
  have i1 : (1 : Int) < (zs.length : Int) := by omega
  have g0 := (gb_range hz 0).1
  by_cases he : isE v6 (gb zs 0) = false
  · simp -implicitDefEqProofs [i8, hg, hk, he, a0, l0, i0, g0, fSk, fIse, t1, t2, noRep, repA, hs, hd, t16, B8vc, B8vn, splice]
  have he : isE v6 (gb zs 0) = true := by simpa using he
  have k1 : 8 ≤ zs.length := by omega
  have k2 : (8 : Int) ≤ (zs.length : Int) := by omega
  have k3 : (zs.drop 8).length = zs.length - 8 := by simp
  have k4 : zs.length - 8 ≤ 500000 := by omega
  have k5 : (zs.drop 8).take (zs.length - 8) = zs.drop 8 := List.take_of_length_le (by simp)
  have k6 : bytesB (zs.drop 8) = true := bytesB_drop hz 8
  by_cases hw : wiE v6 (zs.drop 8) = 0
  case neg =>
    have hwn : (wiE v6 (zs.drop 8) != 0) = true := by simp [hw]
    have hwe : (wiE v6 (zs.drop 8) == 0) = false := by simp [hw]
    have hwT : wiT v6 (zs.drop 8) = noTup := by unfold wiT; rw [if_neg hw]
    simp -implicitDefEqProofs [i8, hg, hk, he, a0, l0, i0, g0, k1, k2, k3, k4, k5, k6, fSk, fIse, fWithin, t1, t2, splice, hw, hwn, hwe, hwT, noTup, tupA, noRep, repA, hs, hd, t16, B8vc, B8vn]
  have hwT : wiT v6 (zs.drop 8) = tupA v6 (hdP v6 (zs.drop 8)) (hdS v6 (zs.drop 8)) (hdD v6 (zs.drop 8)) (w16 (zs.drop 8) (hdN v6 (zs.drop 8) + 2)) (w16 (zs.drop 8) (hdN v6 (zs.drop 8))) := by unfold wiT; rw [if_pos hw]
  obtain ⟨hS, hE⟩ := hdSD_len (wiE_hd hw)
  generalize hdS v6 (zs.drop 8) = S at *
  generalize hdD v6 (zs.drop 8) = E at *
  generalize hdP v6 (zs.drop 8) = p at *
  generalize w16 (zs.drop 8) (hdN v6 (zs.drop 8) + 2) = sp at *
  generalize w16 (zs.drop 8) (hdN v6 (zs.drop 8)) = dp at *
  simp -implicitDefEqProofs [i8, hg, hk, he, a0, l0, i0, g0, k1, k2, k3, k4, k5, k6, fSk, fIse, fWithin, t1, t2, splice, a1, l1, i1, hw, hwT, tupA, noRep, repA, hs, hd, hS, hE, B8t16 hS, B8d16 hS, B8t16 hE, B8d16 hE, B8t33 hS, B8t17 hE, B8d32 hS, B8d32 hE, B8t32 hS, B8d33 hS, B8d17 hE, B8d34 hS, B8d18 hE, B8t34 hS, B8t18 hE, -B8_append]
def fRead : Fun
  | [.v (.bool v6), .agg a, .agg b, .sl nn c len cap] => (asB8 a).bind fun ss => (asB8 b).bind fun ds => (asB8 c).bind fun zs => if goodM ss ds zs len then some (rdV v6 ss ds zs) else none
  | _ => none
theorem read_pure : Pure Try.prog 53 fRead := (runF_pure kr_ok follows_mixed dm_ok 100000 1 53).weaken fun args r h => by
  unfold fRead at h
  split at h
  · rename_i v6 a b nn c len cap
    obtain ⟨ss, e1, h1⟩ := Option.bind_eq_some_iff.1 h
    obtain ⟨ds, e2, h2⟩ := Option.bind_eq_some_iff.1 h1
    obtain ⟨zs, e3, he⟩ := Option.bind_eq_some_iff.1 h2
    clear h h1 h2
    split at he
    case isFalse => cases he
    rename_i hh
    obtain rfl := hh.1
    obtain rfl := asB8_eq e1
    obtain rfl := asB8_eq e2
    obtain rfl := asB8_eq e3
    rw [← he]
    exact read_run v6 ss ds zs nn cap hh
  · cases h
theorem rread_pure : Pure Try.prog 79 fRead := (runF_pure kr_ok follows_mixed dm_ok 100000 1 79).weaken fun args r h => by
  unfold fRead at h
  split at h
  · rename_i v6 a b nn c len cap
    obtain ⟨ss, e1, h1⟩ := Option.bind_eq_some_iff.1 h
    obtain ⟨ds, e2, h2⟩ := Option.bind_eq_some_iff.1 h1
    obtain ⟨zs, e3, he⟩ := Option.bind_eq_some_iff.1 h2
    clear h h1 h2
    split at he
    case isFalse => cases he
    rename_i hh
    obtain rfl := hh.1
    obtain rfl := asB8_eq e1
    obtain rfl := asB8_eq e2
    obtain rfl := asB8_eq e3
    rw [← he]
    exact rread_run v6 ss ds zs nn cap hh
  · cases h
end Go.Proofs.Ytmdafjegddnecaa
