/- Options of IPv4 as functions of values. -/
import Derived.Test.YtcbjjkpjbdcakaaJa
namespace Go.Proofs.Ytcbjjkpjbdcakaa
open Go.Pm Go.Wb
set_option linter.unusedVariables false
set_option linter.unusedSimpArgs false
set_option maxRecDepth 1000000
/-- What is wrong with options from a place on. -/
def optF : Nat → List Int → Int → Int
  | 0, _, e => e
  | f + 1, l, e =>
    if l.length = 0 then e else if gb l 0 = 0 then e else if gb l 0 = 1 then optF f (l.drop 1) e else
    if l.length < 2 then 5 else if gb l 1 < 2 then 5 else if (l.length : Int) < gb l 1 then 5 else optF f (l.drop (gb l 1).toNat) (if gb l 0 = 131 ∨ gb l 0 = 137 then 12 else e)
def optE (l : List Int) : Int := if 40 < l.length ∨ ¬ l.length % 4 = 0 then 5 else optF 41 l 0
theorem gb_drop (l : List Int) (k i : Nat) : gb (l.drop k) i = gb l (k + i) := by
  unfold gb; rw [List.getD_eq_getElem?_getD, List.getElem?_drop, List.getD_eq_getElem?_getD]
set_option maxHeartbeats 16000000 in
theorem opt_run (zs : List Int) (nn : Bool) (cap : Option Nat) (hz : bytesB zs = true) (hl : zs.length ≤ 9223372036854775807) :
    runF Try.prog K0 Dm 100000 1 32 [.sl nn (B8 zs) zs.length cap] = some (.v (.int .i64 (optE zs)), []) := by
  unfold runF
  rw [pvCall_own (fn := Try.f32) rfl Try.func32 rfl (by decide) rfl rfl (by simp)]
  have tm : ((zs.length : Int)).tmod 4 = (zs.length : Int) % 4 := Int.tmod_eq_emod_of_nonneg (by omega)
  have w4 : IntKind.i64.wrap ((zs.length : Int) % 4) = (zs.length : Int) % 4 := wrap64_id (by omega) (by omega)
  by_cases h40 : 40 < zs.length
  · have i40 : (40 : Int) < (zs.length : Int) := by omega
    have he : optE zs = 5 := by unfold optE; rw [if_pos (.inl h40)]
    simp -implicitDefEqProofs [i40, he]
  have i40 : ¬ (40 : Int) < (zs.length : Int) := by omega
  by_cases h4 : zs.length % 4 = 0
  case neg =>
    have i4 : ¬ (zs.length : Int) % 4 = 0 := by omega
    have i4n : ((zs.length : Int) % 4 != 0) = true := by simp; omega
    have he : optE zs = 5 := by unfold optE; rw [if_pos (.inr h4)]
    simp -implicitDefEqProofs [i40, he, tm, w4, i4, i4n]
  have i4 : (zs.length : Int) % 4 = 0 := by omega
  obtain ⟨R0, hr⟩ : ∃ r, optF 41 zs 0 = r := ⟨_, rfl⟩
  have he : optE zs = R0 := by unfold optE; rw [if_neg (by omega), hr]
  rw [he]
  simp -implicitDefEqProofs [i40, tm, i4]
  generalize hL : loopK _ _ _ _ _ _ _ _ _ ⟨_, _⟩ = R
  obtain ⟨e, t', rfl, hk, hQ⟩ := loop_met4 hL [2, 3, 4, 5, 15, 16, 17, 18, 19, 20, 21, 22, 23, 24, 25, 26, 27, 28, 29, 30, 31, 32, 33, 34, 35, 36, 37, 38, 39, 40, 41, 42, 43, 44, 45, 46, 47, 48, 49, 50, 51, 52, 53, 54, 55, 56, 57, 58, 59, 60, 61, 62, 63, 64, 65, 66, 67, 68, 69, 70, 71, 72]
    (fun j t => ∃ (at_ : Nat) (e : Int), t 4 = .v (.int .i64 (at_ : Int)) ∧ t 3 = .v (.int .i64 e) ∧ at_ ≤ zs.length ∧ j ≤ at_ ∧ optF (41 - j) (zs.drop at_) e = R0)
    (fun e t => (e = .exit 0 ∧ t 3 = .v (.int .i64 R0)) ∨ (e = .ret ∧ t 2 = .v (.int .i64 R0))) 41 (by omega) ⟨0, 0, by simp, by simp, by omega, by omega, by simpa using hr⟩
    (fun j t hj hk ⟨at_, e, ec, et, ha, hja, hc⟩ => by
      have e0 := hk 0 (by decide)
      simp at e0
      rw [show 41 - j = 40 - j + 1 by omega, optF, List.length_drop, gb_drop, gb_drop, List.drop_drop, List.drop_drop] at hc
      simp only [Nat.add_zero] at hc
      by_cases q0 : at_ = zs.length
      · rw [if_pos (by omega)] at hc
        subst hc
        have q1 : ¬ (at_ : Int) < (zs.length : Int) := by omega
        left
        refine ⟨.exit 0, ?tA, by simp, ?aA, ?bA, ?dA⟩
        case aA =>
          simp -implicitDefEqProofs [ec, e0, et, q1]
          exact rfl
        case bA =>
          repeat' refine Kept.upd ?_ (by decide) _
          exact hk
        case dA => exact .inl ⟨rfl, by simp [et]⟩
      rw [if_neg (by omega)] at hc
      have q1 : (at_ : Int) < (zs.length : Int) := by omega
      have n0 : at_ < zs.length := by omega
      have n1 : at_ ≤ zs.length := by omega
      have b0 := B8_at0 zs at_ n0
      have g0 := gb_range hz at_
      have g1 := gb_range hz (at_ + 1)
      by_cases k0 : gb zs at_ = 0
      · rw [if_pos k0] at hc
        subst hc
        left
        refine ⟨.exit 0, ?tB, by simp, ?aB, ?bB, ?dB⟩
        case aB =>
          simp -implicitDefEqProofs [ec, e0, et, q1, n0, n1, b0, splice, k0]
          exact rfl
        case bB =>
          repeat' refine Kept.upd ?_ (by decide) _
          exact hk
        case dB => exact .inl ⟨rfl, by simp [et]⟩
      rw [if_neg k0] at hc
      have k0e : (gb zs at_ == 0) = false := by simp [k0]
      have w1 : IntKind.i64.wrap ((at_ : Int) + 1) = ((at_ + 1 : Nat) : Int) := by rw [wrap64_id (by omega) (by omega)]; omega
      by_cases k1 : gb zs at_ = 1
      · rw [if_pos k1] at hc
        right
        refine ⟨by omega, ?tC, ?aC, ?bC, ?dC⟩
        case aC =>
          simp -implicitDefEqProofs [ec, e0, et, q1, n0, n1, b0, splice, k1, w1]
          exact rfl
        case bC =>
          repeat' refine Kept.upd ?_ (by decide) _
          exact hk
        case dC => exact ⟨at_ + 1, e, by simp, by simp [et], by omega, by omega, by rw [show 41 - (j + 1) = 40 - j by omega]; exact hc⟩
      rw [if_neg k1] at hc
      have k1e : (gb zs at_ == 1) = false := by simp [k1]
      by_cases q2 : at_ + 1 = zs.length
      · rw [if_pos (by omega)] at hc
        subst hc
        have q3 : (zs.length : Int) ≤ (at_ : Int) + 1 := by omega
        left
        refine ⟨.ret, ?tD, by simp, ?aD, ?bD, ?dD⟩
        case aD =>
          simp -implicitDefEqProofs [ec, e0, et, q1, n0, n1, b0, splice, k0, k0e, k1, k1e, w1, q3]
          exact rfl
        case bD =>
          repeat' refine Kept.upd ?_ (by decide) _
          exact hk
        case dD => exact .inr ⟨rfl, by simp⟩
      rw [if_neg (by omega)] at hc
      have q3 : ¬ (zs.length : Int) ≤ (at_ : Int) + 1 := by omega
      have n2 : at_ + 1 < zs.length := by omega
      have n3 : (at_ : Int) + 1 < (zs.length : Int) := by omega
      have n4 : at_ + 1 ≤ zs.length := by omega
      have b1 := B8_at0 zs (at_ + 1) n2
      have n5 : (0 : Int) ≤ (at_ : Int) + 1 := by omega
      obtain ⟨d, hd⟩ := Int.eq_ofNat_of_zero_le g1.1
      rw [hd] at hc b1 g1
      simp only [Int.toNat_natCast] at hc
      by_cases k2 : (d : Int) < 2
      · rw [if_pos k2] at hc
        subst hc
        left
        refine ⟨.ret, ?tE, by simp, ?aE, ?bE, ?dE⟩
        case aE =>
          simp -implicitDefEqProofs [ec, e0, et, q1, n0, n1, b0, splice, k0, k0e, k1, k1e, w1, q3, n2, n3, n4, n5, b1, hd, k2]
          exact rfl
        case bE =>
          repeat' refine Kept.upd ?_ (by decide) _
          exact hk
        case dE => exact .inr ⟨rfl, by simp⟩
      rw [if_neg k2] at hc
      have w2 : IntKind.i64.wrap (d : Int) = (d : Int) := wrap64_id (by omega) (by omega)
      have w3 : IntKind.i64.wrap ((at_ : Int) + (d : Int)) = (at_ : Int) + (d : Int) := wrap64_id (by omega) (by omega)
      by_cases q4 : zs.length < at_ + d
      · rw [if_pos (by omega)] at hc
        subst hc
        have q5 : (zs.length : Int) < (at_ : Int) + (d : Int) := by omega
        left
        refine ⟨.ret, ?tF, by simp, ?aF, ?bF, ?dF⟩
        case aF =>
          simp -implicitDefEqProofs [ec, e0, et, q1, n0, n1, b0, splice, k0, k0e, k1, k1e, w1, q3, n2, n3, n4, n5, b1, hd, k2, w2, w3, q5]
          exact rfl
        case bF =>
          repeat' refine Kept.upd ?_ (by decide) _
          exact hk
        case dF => exact .inr ⟨rfl, by simp⟩
      rw [if_neg (by omega)] at hc
      have q5 : ¬ (zs.length : Int) < (at_ : Int) + (d : Int) := by omega
      have q6 : 2 ≤ d := by omega
      by_cases k3 : gb zs at_ = 131
      · rw [if_pos (.inl k3)] at hc
        right
        refine ⟨by omega, ?tG, ?aG, ?bG, ?dG⟩
        case aG =>
          simp -implicitDefEqProofs [ec, e0, et, q1, n0, n1, b0, splice, w1, q3, n2, n3, n4, n5, b1, hd, k2, w2, w3, q5, k3]
          exact rfl
        case bG =>
          repeat' refine Kept.upd ?_ (by decide) _
          exact hk
        case dG => exact ⟨at_ + d, 12, by simp, by simp, by omega, by omega, by rw [show 41 - (j + 1) = 40 - j by omega]; exact hc⟩
      have k3e : (gb zs at_ == 131) = false := by simp [k3]
      by_cases k4 : gb zs at_ = 137
      · rw [if_pos (.inr k4)] at hc
        right
        refine ⟨by omega, ?tH, ?aH, ?bH, ?dH⟩
        case aH =>
          simp -implicitDefEqProofs [ec, e0, et, q1, n0, n1, b0, splice, w1, q3, n2, n3, n4, n5, b1, hd, k2, w2, w3, q5, k4]
          exact rfl
        case bH =>
          repeat' refine Kept.upd ?_ (by decide) _
          exact hk
        case dH => exact ⟨at_ + d, 12, by simp, by simp, by omega, by omega, by rw [show 41 - (j + 1) = 40 - j by omega]; exact hc⟩
      have k4e : (gb zs at_ == 137) = false := by simp [k4]
      rw [if_neg (by omega)] at hc
      right
      refine ⟨by omega, ?tI, ?aI, ?bI, ?dI⟩
      case aI =>
        simp -implicitDefEqProofs [ec, e0, et, q1, n0, n1, b0, splice, k0, k0e, k1, k1e, w1, q3, n2, n3, n4, n5, b1, hd, k2, w2, w3, q5, k3, k3e, k4, k4e]
        exact rfl
      case bI =>
        repeat' refine Kept.upd ?_ (by decide) _
        exact hk
      case dI => exact ⟨at_ + d, e, by simp, by simp [et], by omega, by omega, by rw [show 41 - (j + 1) = 40 - j by omega]; exact hc⟩)
  rcases hQ with ⟨rfl, h3⟩ | ⟨rfl, h2⟩
  · simp -implicitDefEqProofs [h3]
  · simp -implicitDefEqProofs [h2]
end Go.Proofs.Ytcbjjkpjbdcakaa
