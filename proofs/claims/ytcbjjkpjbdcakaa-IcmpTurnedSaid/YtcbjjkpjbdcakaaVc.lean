/- icmp.Within of IPv6 as a function of values; its contract. -/
import Derived.Test.YtcbjjkpjbdcakaaVb
namespace Go.Proofs.Ytcbjjkpjbdcakaa
open Go.Pm Go.Wb
set_option linter.unusedVariables false
set_option linter.unusedSimpArgs false
set_option maxRecDepth 1000000
set_option maxHeartbeats 64000000 in
theorem within6_run (zs : List Int) (nn : Bool) (cap : Option Nat) (hz : bytesB zs = true) (hl : zs.length ≤ 500000) : runF Try.prog KM Dm 100000 2 43 [.v (.bool true), .sl nn (B8 zs) zs.length cap] = some (.tup [wiT true zs, .v (.int .i64 (wiE true zs))], []) := by
  have hin := fun (px : Nat) (args : List AV) (m : Mem) (hl : args.length ≤ 109) => pvCall_own (P := Try.prog) (K := KM) (D := Dm) (L := 100000) (d := 0) (px := px) (args := args) (m := m) (f := 72) (fn := Try.f72) rfl Try.func72 rfl (by decide) rfl rfl hl
  have hE : hdE true zs = hd6E zs := rfl
  have hP : hdP true zs = (chainF 9 (gb zs 6) (zs.drop 40) 0 0).1 := rfl
  have hN : hdN true zs = 40 + (chainF 9 (gb zs 6) (zs.drop 40) 0 0).2.1.toNat := rfl
  have hS : hdS true zs = (zs.drop 24).take 16 := rfl
  have hD : hdD true zs = (zs.drop 8).take 16 := rfl
  unfold runF wiT wiE
  rw [hE, hP, hN, hS, hD]
  unfold hd6E
  rw [pvCall_own (fn := Try.f43) rfl Try.func43 rfl (by decide) rfl rfl (by simp)]
  by_cases h40 : zs.length < 40
  · have i40 : (zs.length : Int) < 40 := by omega
    simp -implicitDefEqProofs [hin, h40, i40, noTup, tupA, t16, B8vc, B8vn, splice]
  rw [if_neg h40]
  have i40 : ¬ (zs.length : Int) < 40 := by omega
  have a0 := B8_at00 zs (by omega)
  have l0 : 0 < zs.length := by omega
  have i0 : (0 : Int) < (zs.length : Int) := by omega
  have s1 : (gb zs 0).fdiv 16 = gb zs 0 / 16 := Int.fdiv_eq_ediv_of_nonneg _ (by omega)
  by_cases h6 : gb zs 0 / 16 = 6
  case neg =>
    have h6n : (gb zs 0 / 16 != 6) = true := by simp [h6]
    simp -implicitDefEqProofs [hin, i40, a0, l0, i0, s1, h6, h6n, noTup, tupA, t16, B8vc, B8vn, splice, IntKind.bits]
  have g6 := gb_range hz 6
  have hb40 : bytesB (zs.drop 40) = true := bytesB_drop hz 40
  have hout := chain_out 9 (gb zs 6) (zs.drop 40) 0 0 g6.1 g6.2 hb40 (by omega) (by omega) (by omega)
  obtain ⟨⟨r1, r2, r3⟩, hc⟩ : ∃ r, chainF 9 (gb zs 6) (zs.drop 40) 0 0 = r := ⟨_, rfl⟩
  rw [hc] at hout ⊢
  simp only at hout ⊢
  have a6 := B8_at0 zs 6 (by omega)
  have l6 : 6 < zs.length := by omega
  have i6 : (6 : Int) < (zs.length : Int) := by omega
  have k1 : (24 : Int) ≤ (zs.length : Int) := by omega
  have k2 : (40 : Int) ≤ (zs.length : Int) := by omega
  have k3 : 8 ≤ zs.length := by omega
  have k4 : 24 ≤ zs.length := by omega
  have k5 : 40 ≤ zs.length := by omega
  have k6 : min 16 (zs.length - 8) = 16 := by omega
  have k7 : min 16 (zs.length - 24) = 16 := by omega
  have k8 : (zs.drop 40).length = zs.length - 40 := by simp
  have k9 : zs.length - 40 ≤ 1099511627776 := by omega
  have k10 : (zs.drop 40).take (zs.length - 40) = zs.drop 40 := List.take_of_length_le (by simp)
  have k11 : 16 ≤ zs.length - 8 := by omega
  have k12 : 16 ≤ zs.length - 24 := by omega
  obtain ⟨S, hSS⟩ : ∃ S, (zs.drop 24).take 16 = S := ⟨_, rfl⟩
  obtain ⟨E, hEE⟩ : ∃ E, (zs.drop 8).take 16 = E := ⟨_, rfl⟩
  have hSl : S.length = 16 := by rw [← hSS]; simp; omega
  have hEl : E.length = 16 := by rw [← hEE]; simp; omega
  have hSt : S.take 16 = S := List.take_of_length_le (by omega)
  have hEt : E.take 16 = E := List.take_of_length_le (by omega)
  rw [hSS, hEE]
  by_cases h3 : r3 = 0
  case neg =>
    have h3n : (r3 != 0) = true := by simp [h3]
    simp -implicitDefEqProofs [hin, i40, a0, l0, i0, s1, h6, a6, l6, i6, k1, k2, k3, k4, k5, k6, k7, k8, k9, k10, k11, k12, hSS, hEE, hSl, hEl, hSt, hEt, hb40, hc, g6, fChain, chainV, B8vc, B8vn, splice, IntKind.bits, Nat.testBit_eq_decide_div_mod_eq, B8t16 hSl, B8d16 hSl, B8t16 hEl, B8d16 hEl, B8t33 hSl, B8t17 hEl, B8d32 hSl, B8d32 hEl, B8t32 hSl, B8d33 hSl, B8d17 hEl, B8d34 hSl, B8d18 hEl, B8t34 hSl, B8t18 hEl, -B8_append, h3, h3n, noTup, tupA, t16]
  subst h3
  rcases hout with ⟨_, ho1, ho2, ho3, ho4⟩ | ⟨q, _⟩
  case inr => exact absurd rfl q
  obtain ⟨n, rfl⟩ := Int.eq_ofNat_of_zero_le ho1
  have hn : n ≤ zs.length - 40 := by omega
  have m1 : IntKind.i64.wrap (40 + (n : Int)) = 40 + (n : Int) := wrap64_id (by omega) (by omega)
  have m2 : (40 + (n : Int)).toNat = 40 + n := by omega
  have m3 : (0 : Int) ≤ 40 + (n : Int) := by omega
  have m4 : 40 + (n : Int) ≤ (zs.length : Int) := by omega
  have m5 : 40 + n ≤ zs.length := by omega
  have m6 : zs.length - (40 + n) ≤ 1099511627776 := by omega
  have m7 : (zs.drop (40 + n)).length = zs.length - (40 + n) := by simp
  have m8 : bytesB (zs.drop (40 + n)) = true := bytesB_drop hz _
  have m9 : (zs.drop (40 + n)).take (zs.length - (40 + n)) = zs.drop (40 + n) := List.take_of_length_le (by simp)
  by_cases hp6 : r1 = 6
  · subst hp6
    by_cases h5 : zs.length < 40 + n + 4
    · have h5' : zs.length - (40 + n) < 4 := by omega
      simp -implicitDefEqProofs [hin, i40, a0, l0, i0, s1, h6, a6, l6, i6, k1, k2, k3, k4, k5, k6, k7, k8, k9, k10, k11, k12, hSS, hEE, hSl, hEl, hSt, hEt, hb40, hc, g6, fChain, chainV, B8vc, B8vn, splice, IntKind.bits, Nat.testBit_eq_decide_div_mod_eq, B8t16 hSl, B8d16 hSl, B8t16 hEl, B8d16 hEl, B8t33 hSl, B8t17 hEl, B8d32 hSl, B8d32 hEl, B8t32 hSl, B8d33 hSl, B8d17 hEl, B8d34 hSl, B8d18 hEl, B8t34 hSl, B8t18 hEl, -B8_append, m1, m2, m3, m4, m5, m6, m7, m8, m9, fPorts, portsV, h5, h5', noTup, tupA, t16]
    · have h5' : ¬ zs.length - (40 + n) < 4 := by omega
      simp -implicitDefEqProofs [hin, i40, a0, l0, i0, s1, h6, a6, l6, i6, k1, k2, k3, k4, k5, k6, k7, k8, k9, k10, k11, k12, hSS, hEE, hSl, hEl, hSt, hEt, hb40, hc, g6, fChain, chainV, B8vc, B8vn, splice, IntKind.bits, Nat.testBit_eq_decide_div_mod_eq, B8t16 hSl, B8d16 hSl, B8t16 hEl, B8d16 hEl, B8t33 hSl, B8t17 hEl, B8d32 hSl, B8d32 hEl, B8t32 hSl, B8d33 hSl, B8d17 hEl, B8d34 hSl, B8d18 hEl, B8t34 hSl, B8t18 hEl, -B8_append, m1, m2, m3, m4, m5, m6, m7, m8, m9, fPorts, portsV, h5, h5', tupA, w16_drop]
  · have hp6n : (r1 != 6) = true := by simp [hp6]
    have hp6e : (r1 == 6) = false := by simp [hp6]
    by_cases hp17 : r1 = 17
    · subst hp17
      by_cases h5 : zs.length < 40 + n + 4
      · have h5' : zs.length - (40 + n) < 4 := by omega
        simp -implicitDefEqProofs [hin, i40, a0, l0, i0, s1, h6, a6, l6, i6, k1, k2, k3, k4, k5, k6, k7, k8, k9, k10, k11, k12, hSS, hEE, hSl, hEl, hSt, hEt, hb40, hc, g6, fChain, chainV, B8vc, B8vn, splice, IntKind.bits, Nat.testBit_eq_decide_div_mod_eq, B8t16 hSl, B8d16 hSl, B8t16 hEl, B8d16 hEl, B8t33 hSl, B8t17 hEl, B8d32 hSl, B8d32 hEl, B8t32 hSl, B8d33 hSl, B8d17 hEl, B8d34 hSl, B8d18 hEl, B8t34 hSl, B8t18 hEl, -B8_append, m1, m2, m3, m4, m5, m6, m7, m8, m9, fPorts, portsV, h5, h5', noTup, tupA, t16]
      · have h5' : ¬ zs.length - (40 + n) < 4 := by omega
        simp -implicitDefEqProofs [hin, i40, a0, l0, i0, s1, h6, a6, l6, i6, k1, k2, k3, k4, k5, k6, k7, k8, k9, k10, k11, k12, hSS, hEE, hSl, hEl, hSt, hEt, hb40, hc, g6, fChain, chainV, B8vc, B8vn, splice, IntKind.bits, Nat.testBit_eq_decide_div_mod_eq, B8t16 hSl, B8d16 hSl, B8t16 hEl, B8d16 hEl, B8t33 hSl, B8t17 hEl, B8d32 hSl, B8d32 hEl, B8t32 hSl, B8d33 hSl, B8d17 hEl, B8d34 hSl, B8d18 hEl, B8t34 hSl, B8t18 hEl, -B8_append, m1, m2, m3, m4, m5, m6, m7, m8, m9, fPorts, portsV, h5, h5', tupA, w16_drop]
    · have hp17n : (r1 != 17) = true := by simp [hp17]
      simp -implicitDefEqProofs [hin, i40, a0, l0, i0, s1, h6, a6, l6, i6, k1, k2, k3, k4, k5, k6, k7, k8, k9, k10, k11, k12, hSS, hEE, hSl, hEl, hSt, hEt, hb40, hc, g6, fChain, chainV, B8vc, B8vn, splice, IntKind.bits, Nat.testBit_eq_decide_div_mod_eq, B8t16 hSl, B8d16 hSl, B8t16 hEl, B8d16 hEl, B8t33 hSl, B8t17 hEl, B8d32 hSl, B8d32 hEl, B8t32 hSl, B8d33 hSl, B8d17 hEl, B8d34 hSl, B8d18 hEl, B8t34 hSl, B8t18 hEl, -B8_append, m1, m2, m3, m4, m5, m6, m7, m8, m9, fPorts, portsV, hp6, hp6n, hp6e, hp17, hp17n, noTup, tupA, t16]
def fWithin : Fun
  | [.v (.bool v6), .sl nn b len cap] => (asB8 b).bind fun zs => if zs.length = len ∧ len ≤ 500000 ∧ bytesB zs = true then some (.tup [wiT v6 zs, .v (.int .i64 (wiE v6 zs))], []) else none
  | _ => none
theorem within_pure : Pure Try.prog 43 fWithin := (runF_pure km_ok follows_mixed dm_ok 100000 2 43).weaken fun args r h => by
  unfold fWithin at h
  split at h
  · rename_i v6 nn b len cap
    obtain ⟨zs, hz, he⟩ := Option.bind_eq_some_iff.1 h
    clear h
    split at he
    case isFalse => cases he
    rename_i hh
    obtain ⟨rfl, h1, h2⟩ := hh
    obtain rfl := asB8_eq hz
    rw [← he]
    cases v6 with
    | true => exact within6_run zs nn cap h2 h1
    | false => exact within4_run zs nn cap h2 h1
  · cases h
end Go.Proofs.Ytcbjjkpjbdcakaa

