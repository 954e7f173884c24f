/- The reference's Within as a function of values. -/
import Derived.Test.YtcbjjkpjbdcakaaVe
namespace Go.Proofs.Ytcbjjkpjbdcakaa
open Go.Pm Go.Wb
set_option linter.unusedVariables false
set_option linter.unusedSimpArgs false
set_option maxRecDepth 1000000
noncomputable def KQw : Nat → Option Con
  | 21 => some fNum
  | 73 => some fFour6
  | 74 => some fSix6
  | _ => none
theorem kqw_ok : KOk Try.prog KQw := fun f F h => by
  unfold KQw at h
  split at h
  · cases h; exact ⟨num_pure, _, Try.func21, rfl, by decide⟩
  · cases h; exact ⟨four6_pure, _, Try.func73, rfl, by decide⟩
  · cases h; exact ⟨six6_pure, _, Try.func74, rfl, by decide⟩
  · cases h
section
variable {D : FuncId → Nat → List Nat} {L d px : Nat} {args : List AV} {m : Mem}
theorem ckqw_num : pvCall Try.prog KQw D L d px 21 args m = callBy fNum m px args := pvCall_by rfl
theorem ckqw_four : pvCall Try.prog KQw D L d px 73 args m = callBy fFour6 m px args := pvCall_by rfl
theorem ckqw_six : pvCall Try.prog KQw D L d px 74 args m = callBy fSix6 m px args := pvCall_by rfl
end
theorem ekqw_num : KQw 21 = some (.pure fNum) := rfl
theorem ekqw_four : KQw 73 = some (.pure fFour6) := rfl
theorem ekqw_six : KQw 74 = some (.pure fSix6) := rfl
attribute [simp] ckqw_num ekqw_num ckqw_four ekqw_four ckqw_six ekqw_six
theorem fourV_eq (zs : List Int) : ∃ (p : Int) (S E : List Int) (n : Int), S.length = 16 ∧ E.length = 16 ∧ fourV zs = (.tup [tupA false p S E 0 0, .v (.int .i64 n), .v (.int .i64 (hd4E zs))], []) ∧ (hd4E zs = 0 → p = gb zs 9 ∧ S = ad4 (zs.drop 16) ∧ E = ad4 (zs.drop 12) ∧ n = (hn4 zs : Int)) := by
  by_cases h : hd4E zs = 0
  · exact ⟨gb zs 9, ad4 (zs.drop 16), ad4 (zs.drop 12), hn4 zs, rfl, rfl, by simp only [fourV, if_pos h], fun _ => ⟨rfl, rfl, rfl, rfl⟩⟩
  · exact ⟨0, t16, t16, 0, rfl, rfl, by simp only [fourV, if_neg h]; rfl, fun q => absurd q h⟩
theorem hd6_len {zs : List Int} (h : hd6E zs = 0) : 40 ≤ zs.length := by
  unfold hd6E at h; split at h
  · cases h
  · omega
theorem sixV_eq (zs : List Int) : ∃ (p : Int) (S E : List Int) (n : Int), S.length = 16 ∧ E.length = 16 ∧ sixV zs = (.tup [tupA true p S E 0 0, .v (.int .i64 n), .v (.int .i64 (hd6E zs))], []) ∧ (hd6E zs = 0 → p = hdP true zs ∧ S = hdS true zs ∧ E = hdD true zs ∧ n = (hdN true zs : Int)) := by
  by_cases h : hd6E zs = 0
  · have hl := hd6_len h
    refine ⟨hdP true zs, hdS true zs, hdD true zs, hdN true zs, ?a, ?b, by simp only [sixV, if_pos h], fun _ => ⟨rfl, rfl, rfl, rfl⟩⟩
    · show ((zs.drop 24).take 16).length = 16; simp; omega
    · show ((zs.drop 8).take 16).length = 16; simp; omega
  · exact ⟨0, t16, t16, 0, rfl, rfl, by simp only [sixV, if_neg h], fun q => absurd q h⟩
theorem hdN_range (v6 : Bool) {zs : List Int} (hz : bytesB zs = true) (hl : zs.length ≤ 500000) (h : hdE v6 zs = 0) : hdN v6 zs ≤ zs.length := by
  cases v6 with
  | false =>
    have h : hd4E zs = 0 := h
    show hn4 zs ≤ _
    unfold hd4E at h
    repeat (split at h; · cases h)
    rename_i h3 _
    first | omega | (split at h; · cases h
                     omega)
  | true =>
    have h : hd6E zs = 0 := h
    have hl40 := hd6_len h
    unfold hd6E at h
    split at h
    · cases h
    split at h
    · cases h
    have g6 := gb_range hz 6
    have hout := chain_out 9 (gb zs 6) (zs.drop 40) 0 0 g6.1 g6.2 (bytesB_drop hz 40) (by omega) (by omega) (by omega)
    show 40 + (chainF 9 (gb zs 6) (zs.drop 40) 0 0).2.1.toNat ≤ _
    have hd : (zs.drop 40).length = zs.length - 40 := by simp
    rcases hout with ⟨_, ho1, ho2, ho3, ho4⟩ | ⟨q, _⟩
    · omega
    · exact absurd h q
set_option maxHeartbeats 16000000 in
theorem rwithin4_run (zs : List Int) (nn : Bool) (cap : Option Nat) (hz : bytesB zs = true) (hl : zs.length ≤ 500000) : runF Try.prog KQw Dm 100000 2 45 [.v (.bool false), .sl nn (B8 zs) zs.length cap] = some (.tup [wiT false zs, .v (.int .i64 (wiE false zs))], []) := by
  obtain ⟨p4, S4, D4, n4, hS4, hD4, h4, c4⟩ := fourV_eq zs
  have c := c4
  have hb := hdN_range false hz hl
  have eE : hdE false zs = hd4E zs := rfl
  have l40 : zs.length ≤ 1099511627776 := by omega
  rw [eE] at hb
  unfold runF wiT wiE
  rw [eE]
  generalize hd4E zs = e at *
  rw [pvCall_own (fn := Try.f45) rfl Try.func45 rfl (by decide) rfl rfl (by simp)]
  by_cases he : e = 0
  case neg =>
    have en : (e != 0) = true := by simp [he]
    have ee : (e == 0) = false := by simp [he]
    simp -implicitDefEqProofs [hz, hl, h4, l40, fNum, fFour6, splice, IntKind.bits, Nat.testBit_eq_decide_div_mod_eq, tupA, hS4, hD4, B8t16 hS4, B8d16 hS4, B8t16 hD4, B8d16 hD4, he, en, ee, noTup, tupA, t16, B8vc, B8vn]
  subst he
  obtain ⟨q1, q2, q3, q4⟩ := c rfl
  have hb := hb rfl
  have q1 : hdP false zs = p4 := q1.symm
  have q2 : hdS false zs = S4 := q2.symm
  have q3 : hdD false zs = D4 := q3.symm
  have q4 : n4 = (hdN false zs : Int) := q4
  rw [q1, q2, q3]
  subst q4
  generalize hdN false zs = N at *
  have i5 : (0 : Int) ≤ (N : Int) := by omega
  have r0 := w16_range (bytesB_iff.1 hz) N
  have r2 := w16_range (bytesB_iff.1 hz) (N + 2)
  have u0 : IntKind.u16.wrap (w16 zs N) = w16 zs N := wrapu16_id (by omega) (by omega)
  have u2 : IntKind.u16.wrap (w16 zs (N + 2)) = w16 zs (N + 2) := wrapu16_id (by omega) (by omega)
  have w1 : IntKind.i64.wrap ((zs.length : Int) - (N : Int)) = (zs.length : Int) - (N : Int) := wrap64_id (by omega) (by omega)
  have w2 : IntKind.i64.wrap ((N : Int) + 2) = (N : Int) + 2 := wrap64_id (by omega) (by omega)
  have t2 : ((N : Int) + 2).toNat = N + 2 := by omega
  have t3 : (0 : Int) ≤ (N : Int) + 2 := by omega
  by_cases hp6 : p4 = 6
  · subst hp6
    by_cases h5 : zs.length < N + 4
    · have d1 : (zs.length : Int) - (N : Int) < 4 := by omega
      simp -implicitDefEqProofs [hz, hl, h4, l40, fNum, fFour6, splice, IntKind.bits, Nat.testBit_eq_decide_div_mod_eq, tupA, hS4, hD4, B8t16 hS4, B8d16 hS4, B8t16 hD4, B8d16 hD4, i5, u0, u2, w1, w2, t2, t3, hz, h5, d1, noTup, tupA, t16, B8vc, B8vn]
    · have d1 : ¬ (zs.length : Int) - (N : Int) < 4 := by omega
      have d2 : (N : Int) + 2 + 1 < (zs.length : Int) := by omega
      have d3 : (N : Int) + 1 < (zs.length : Int) := by omega
      simp -implicitDefEqProofs [hz, hl, h4, l40, fNum, fFour6, splice, IntKind.bits, Nat.testBit_eq_decide_div_mod_eq, tupA, hS4, hD4, B8t16 hS4, B8d16 hS4, B8t16 hD4, B8d16 hD4, i5, u0, u2, w1, w2, t2, t3, hz, h5, d1, d2, d3, tupA, B8t16 hS4, B8d16 hS4, B8t16 hD4, B8d16 hD4, B8t33 hS4, B8t17 hD4, B8d32 hS4, B8d32 hD4, B8t32 hS4, B8d33 hS4, B8d17 hD4, B8d34 hS4, B8d18 hD4, B8t34 hS4, B8t18 hD4, -B8_append]
  have p6n : (p4 != 6) = true := by simp [hp6]
  have p6e : (p4 == 6) = false := by simp [hp6]
  by_cases hp17 : p4 = 17
  · subst hp17
    by_cases h5 : zs.length < N + 4
    · have d1 : (zs.length : Int) - (N : Int) < 4 := by omega
      simp -implicitDefEqProofs [hz, hl, h4, l40, fNum, fFour6, splice, IntKind.bits, Nat.testBit_eq_decide_div_mod_eq, tupA, hS4, hD4, B8t16 hS4, B8d16 hS4, B8t16 hD4, B8d16 hD4, i5, u0, u2, w1, w2, t2, t3, hz, h5, d1, noTup, tupA, t16, B8vc, B8vn]
    · have d1 : ¬ (zs.length : Int) - (N : Int) < 4 := by omega
      have d2 : (N : Int) + 2 + 1 < (zs.length : Int) := by omega
      have d3 : (N : Int) + 1 < (zs.length : Int) := by omega
      simp -implicitDefEqProofs [hz, hl, h4, l40, fNum, fFour6, splice, IntKind.bits, Nat.testBit_eq_decide_div_mod_eq, tupA, hS4, hD4, B8t16 hS4, B8d16 hS4, B8t16 hD4, B8d16 hD4, i5, u0, u2, w1, w2, t2, t3, hz, h5, d1, d2, d3, tupA, B8t16 hS4, B8d16 hS4, B8t16 hD4, B8d16 hD4, B8t33 hS4, B8t17 hD4, B8d32 hS4, B8d32 hD4, B8t32 hS4, B8d33 hS4, B8d17 hD4, B8d34 hS4, B8d18 hD4, B8t34 hS4, B8t18 hD4, -B8_append]
  have p17n : (p4 != 17) = true := by simp [hp17]
  have p17e : (p4 == 17) = false := by simp [hp17]
  simp -implicitDefEqProofs [hz, hl, h4, l40, fNum, fFour6, splice, IntKind.bits, Nat.testBit_eq_decide_div_mod_eq, tupA, hS4, hD4, B8t16 hS4, B8d16 hS4, B8t16 hD4, B8d16 hD4, i5, u0, u2, w1, w2, t2, t3, hp6, hp17, p6n, p6e, p17n, p17e, noTup, tupA, t16, B8vc, B8vn]
set_option maxHeartbeats 16000000 in
theorem rwithin6_run (zs : List Int) (nn : Bool) (cap : Option Nat) (hz : bytesB zs = true) (hl : zs.length ≤ 500000) : runF Try.prog KQw Dm 100000 2 45 [.v (.bool true), .sl nn (B8 zs) zs.length cap] = some (.tup [wiT true zs, .v (.int .i64 (wiE true zs))], []) := by
  obtain ⟨p4, S4, D4, n4, hS4, hD4, h4, c4⟩ := fourV_eq zs
  obtain ⟨p, S, E, n, hS, hE, h6, c⟩ := sixV_eq zs
  have hb := hdN_range true hz hl
  have eE : hdE true zs = hd6E zs := rfl
  have l40 : zs.length ≤ 1099511627776 := by omega
  rw [eE] at hb
  unfold runF wiT wiE
  rw [eE]
  generalize hd6E zs = e at *
  rw [pvCall_own (fn := Try.f45) rfl Try.func45 rfl (by decide) rfl rfl (by simp)]
  by_cases he : e = 0
  case neg =>
    have en : (e != 0) = true := by simp [he]
    have ee : (e == 0) = false := by simp [he]
    simp -implicitDefEqProofs [hz, hl, h4, l40, fNum, fFour6, splice, IntKind.bits, Nat.testBit_eq_decide_div_mod_eq, tupA, hS4, hD4, h6, fSix6, hS, hE, B8t16 hS4, B8d16 hS4, B8t16 hD4, B8d16 hD4, he, en, ee, noTup, tupA, t16, B8vc, B8vn]
  subst he
  obtain ⟨q1, q2, q3, q4⟩ := c rfl
  have hb := hb rfl
  have q1 : hdP true zs = p := q1.symm
  have q2 : hdS true zs = S := q2.symm
  have q3 : hdD true zs = E := q3.symm
  have q4 : n = (hdN true zs : Int) := q4
  rw [q1, q2, q3]
  subst q4
  generalize hdN true zs = N at *
  have i5 : (0 : Int) ≤ (N : Int) := by omega
  have r0 := w16_range (bytesB_iff.1 hz) N
  have r2 := w16_range (bytesB_iff.1 hz) (N + 2)
  have u0 : IntKind.u16.wrap (w16 zs N) = w16 zs N := wrapu16_id (by omega) (by omega)
  have u2 : IntKind.u16.wrap (w16 zs (N + 2)) = w16 zs (N + 2) := wrapu16_id (by omega) (by omega)
  have w1 : IntKind.i64.wrap ((zs.length : Int) - (N : Int)) = (zs.length : Int) - (N : Int) := wrap64_id (by omega) (by omega)
  have w2 : IntKind.i64.wrap ((N : Int) + 2) = (N : Int) + 2 := wrap64_id (by omega) (by omega)
  have t2 : ((N : Int) + 2).toNat = N + 2 := by omega
  have t3 : (0 : Int) ≤ (N : Int) + 2 := by omega
  by_cases hp6 : p = 6
  · subst hp6
    by_cases h5 : zs.length < N + 4
    · have d1 : (zs.length : Int) - (N : Int) < 4 := by omega
      simp -implicitDefEqProofs [hz, hl, h4, l40, fNum, fFour6, splice, IntKind.bits, Nat.testBit_eq_decide_div_mod_eq, tupA, hS4, hD4, h6, fSix6, hS, hE, B8t16 hS4, B8d16 hS4, B8t16 hD4, B8d16 hD4, i5, u0, u2, w1, w2, t2, t3, hz, h5, d1, noTup, tupA, t16, B8vc, B8vn]
    · have d1 : ¬ (zs.length : Int) - (N : Int) < 4 := by omega
      have d2 : (N : Int) + 2 + 1 < (zs.length : Int) := by omega
      have d3 : (N : Int) + 1 < (zs.length : Int) := by omega
      simp -implicitDefEqProofs [hz, hl, h4, l40, fNum, fFour6, splice, IntKind.bits, Nat.testBit_eq_decide_div_mod_eq, tupA, hS4, hD4, h6, fSix6, hS, hE, B8t16 hS4, B8d16 hS4, B8t16 hD4, B8d16 hD4, i5, u0, u2, w1, w2, t2, t3, hz, h5, d1, d2, d3, tupA, B8t16 hS, B8d16 hS, B8t16 hE, B8d16 hE, B8t33 hS, B8t17 hE, B8d32 hS, B8d32 hE, B8t32 hS, B8d33 hS, B8d17 hE, B8d34 hS, B8d18 hE, B8t34 hS, B8t18 hE, -B8_append]
  have p6n : (p != 6) = true := by simp [hp6]
  have p6e : (p == 6) = false := by simp [hp6]
  by_cases hp17 : p = 17
  · subst hp17
    by_cases h5 : zs.length < N + 4
    · have d1 : (zs.length : Int) - (N : Int) < 4 := by omega
      simp -implicitDefEqProofs [hz, hl, h4, l40, fNum, fFour6, splice, IntKind.bits, Nat.testBit_eq_decide_div_mod_eq, tupA, hS4, hD4, h6, fSix6, hS, hE, B8t16 hS4, B8d16 hS4, B8t16 hD4, B8d16 hD4, i5, u0, u2, w1, w2, t2, t3, hz, h5, d1, noTup, tupA, t16, B8vc, B8vn]
    · have d1 : ¬ (zs.length : Int) - (N : Int) < 4 := by omega
      have d2 : (N : Int) + 2 + 1 < (zs.length : Int) := by omega
      have d3 : (N : Int) + 1 < (zs.length : Int) := by omega
      simp -implicitDefEqProofs [hz, hl, h4, l40, fNum, fFour6, splice, IntKind.bits, Nat.testBit_eq_decide_div_mod_eq, tupA, hS4, hD4, h6, fSix6, hS, hE, B8t16 hS4, B8d16 hS4, B8t16 hD4, B8d16 hD4, i5, u0, u2, w1, w2, t2, t3, hz, h5, d1, d2, d3, tupA, B8t16 hS, B8d16 hS, B8t16 hE, B8d16 hE, B8t33 hS, B8t17 hE, B8d32 hS, B8d32 hE, B8t32 hS, B8d33 hS, B8d17 hE, B8d34 hS, B8d18 hE, B8t34 hS, B8t18 hE, -B8_append]
  have p17n : (p != 17) = true := by simp [hp17]
  have p17e : (p == 17) = false := by simp [hp17]
  simp -implicitDefEqProofs [hz, hl, h4, l40, fNum, fFour6, splice, IntKind.bits, Nat.testBit_eq_decide_div_mod_eq, tupA, hS4, hD4, h6, fSix6, hS, hE, B8t16 hS4, B8d16 hS4, B8t16 hD4, B8d16 hD4, i5, u0, u2, w1, w2, t2, t3, hp6, hp17, p6n, p6e, p17n, p17e, noTup, tupA, t16, B8vc, B8vn]
theorem rwithin_pure : Pure Try.prog 45 fWithin := (runF_pure kqw_ok follows_mixed dm_ok 100000 2 45).weaken fun args r h => by
  unfold fWithin at h
  split at h
  · rename_i v6 nn b len cap
    obtain ⟨zs, hz, he⟩ := Option.bind_eq_some_iff.1 h
    clear h
    split at he
    case isFalse => cases he
    rename_i hh
    obtain ⟨rfl, h1, h2⟩ := hh
    obtain rfl := asB8_eq hz
    rw [← he]
    cases v6 with
    | true => exact rwithin6_run zs nn cap h2 h1
    | false => exact rwithin4_run zs nn cap h2 h1
  · cases h
end Go.Proofs.Ytcbjjkpjbdcakaa
