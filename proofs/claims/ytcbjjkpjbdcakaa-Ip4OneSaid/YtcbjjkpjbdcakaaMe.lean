import Derived.Test.YtcbjjkpjbdcakaaJa
/- Options of IPv4 as functions of values. -/
namespace Go.Proofs.Ytcbjjkpjbdcakaa
open Go.Pm Go.Wb
set_option linter.unusedVariables false
set_option linter.unusedSimpArgs false
set_option maxRecDepth 1000000
/-- What is wrong with options from a place on. -/
def optF : Nat → List Int → Int → Int
  | 0, _, e => e
  | f + 1, l, e =>
    if l.length = 0 then e else if gb l 0 = 0 then e else if gb l 0 = 1 then optF f (l.drop 1) e else
    if l.length < 2 then 5 else if gb l 1 < 2 then 5 else if (l.length : Int) < gb l 1 then 5 else optF f (l.drop (gb l 1).toNat) (if gb l 0 = 131 ∨ gb l 0 = 137 then 12 else e)
def optE (l : List Int) : Int := if 40 < l.length ∨ ¬ l.length % 4 = 0 then 5 else optF 41 l 0
theorem gb_drop (l : List Int) (k i : Nat) : gb (l.drop k) i = gb l (k + i) := by
  unfold gb; rw [List.getD_eq_getElem?_getD, List.getElem?_drop, List.getD_eq_getElem?_getD]
set_option maxHeartbeats 16000000 in
theorem opt_run (zs : List Int) (nn : Bool) (cap : Option Nat) (hz : bytesB zs = true) (hl : zs.length ≤ 9223372036854775807) :
    runF Try.prog K0 Dm 100000 1 32 [.sl nn (B8 zs) zs.length cap] = some (.v (.int .i64 (optE zs)), []) := by
  unfold runF
  rw [pvCall_own (fn := Try.f32) rfl Try.func32 rfl (by decide) rfl rfl (by simp)]
  have tm : ((zs.length : Int)).tmod 4 = (zs.length : Int) % 4 := Int.tmod_eq_emod_of_nonneg (by omega)
  have w4 : IntKind.i64.wrap ((zs.length : Int) % 4) = (zs.length : Int) % 4 := wrap64_id (by omega) (by omega)
  by_cases h40 : 40 < zs.length
  · have i40 : (40 : Int) < (zs.length : Int) := by omega
    have he : optE zs = 5 := by unfold optE; rw [if_pos (.inl h40)]
    simp -implicitDefEqProofs [i40, he]
  have i40 : ¬ (40 : Int) < (zs.length : Int) := by omega
  by_cases h4 : zs.length % 4 = 0
  case neg =>
    have i4 : ¬ (zs.length : Int) % 4 = 0 := by omega
    have i4n : ((zs.length : Int) % 4 != 0) = true := by simp; omega
    have he : optE zs = 5 := by unfold optE; rw [if_pos (.inr h4)]
    simp -implicitDefEqProofs [i40, he, tm, w4, i4, i4n]
  have i4 : (zs.length : Int) % 4 = 0 := by omega
  obtain ⟨R0, hr⟩ : ∃ r, optF 41 zs 0 = r := ⟨_, rfl⟩
  have he : optE zs = R0 := by unfold optE; rw [if_neg (by omega), hr]
  rw [he]
  simp -implicitDefEqProofs [i40, tm, i4]
  generalize hL : loopK _ _ _ _ _ _ _ _ _ ⟨_, _⟩ = R
  obtain ⟨e, t', rfl, hk, hQ⟩ := loop_met4 hL [2, 3, 4, 5, 15, 16, 17, 18, 19, 20, 21, 22, 23, 24, 25, 26, 27, 28, 29, 30, 31, 32, 33, 34, 35, 36, 37, 38, 39, 40, 41, 42, 43, 44, 45, 46, 47, 48, 49, 50, 51, 52, 53, 54, 55, 56, 57, 58, 59, 60, 61, 62, 63, 64, 65, 66, 67, 68, 69, 70, 71, 72]
    (fun j t => ∃ (at_ : Nat) (e : Int), t 4 = .v (.int .i64 (at_ : Int)) ∧ t 3 = .v (.int .i64 e) ∧ at_ ≤ zs.length ∧ j ≤ at_ ∧ optF (41 - j) (zs.drop at_) e = R0)
    (fun e t => (e = .exit 0 ∧ t 3 = .v (.int .i64 R0)) ∨ (e = .ret ∧ t 2 = .v (.int .i64 R0))) 41 (by omega) ⟨0, 0, by simp, by simp, by omega, by omega, by simpa using hr⟩
    (fun j t hj hk ⟨at_, e, ec, et, ha, hja, hc⟩ => by
      have e0 := hk 0 (by decide)
      simp at e0
      rw [show 41 - j = 40 - j + 1 by omega, optF, List.length_drop, gb_drop, gb_drop, List.drop_drop, List.drop_drop] at hc
      simp only [Nat.add_zero] at hc
      by_cases q0 : at_ = zs.length
      · rw [if_pos (by omega)] at hc
        subst hc
        have q1 : ¬ (at_ : Int) < (zs.length : Int) := by omega
        left
        refine ⟨.exit 0, ?tA, by simp, ?aA, ?bA, ?dA⟩
        case aA =>
          simp -implicitDefEqProofs [ec, e0, et, q1]
          exact rfl
        case bA =>
          repeat' refine Kept.upd ?_ (by decide) _
          exact hk
        case dA => exact .inl ⟨rfl, by simp [et]⟩
      rw [if_neg (by omega)] at hc
      have q1 : (at_ : Int) < (zs.length : Int) := by omega
      have n0 : at_ < zs.length := by omega
      have n1 : at_ ≤ zs.length := by omega
      have b0 := B8_at0 zs at_ n0
      have g0 := gb_range hz at_
      have g1 := gb_range hz (at_ + 1)
      by_cases k0 : gb zs at_ = 0
      · rw [if_pos k0] at hc
        subst hc
        left
        refine ⟨.exit 0, ?tB, by simp, ?aB, ?bB, ?dB⟩
        case aB =>
          simp -implicitDefEqProofs [ec, e0, et, q1, n0, n1, b0, splice, k0]
          exact rfl
        case bB =>
          repeat' refine Kept.upd ?_ (by decide) _
          exact hk
        case dB => exact .inl ⟨rfl, by simp [et]⟩
      rw [if_neg k0] at hc
      have k0e : (gb zs at_ == 0) = false := by simp [k0]
      have w1 : IntKind.i64.wrap ((at_ : Int) + 1) = ((at_ + 1 : Nat) : Int) := by rw [wrap64_id (by omega) (by omega)]; omega
      by_cases k1 : gb zs at_ = 1
      · rw [if_pos k1] at hc
        right
        refine ⟨by omega, ?tC, ?aC, ?bC, ?dC⟩
        case aC =>
          simp -implicitDefEqProofs [ec, e0, et, q1, n0, n1, b0, splice, k1, w1]
          exact rfl
        case bC =>
          repeat' refine Kept.upd ?_ (by decide) _
          exact hk
        case dC => exact ⟨at_ + 1, e, by simp, by simp [et], by omega, by omega, by rw [show 41 - (j + 1) = 40 - j by omega]; exact hc⟩
      rw [if_neg k1] at hc
      have k1e : (gb zs at_ == 1) = false := by simp [k1]
      by_cases q2 : at_ + 1 = zs.length
      · rw [if_pos (by omega)] at hc
        subst hc
        have q3 : (zs.length : Int) ≤ (at_ : Int) + 1 := by omega
        left
        refine ⟨.ret, ?tD, by simp, ?aD, ?bD, ?dD⟩
        case aD =>
          simp -implicitDefEqProofs [ec, e0, et, q1, n0, n1, b0, splice, k0, k0e, k1, k1e, w1, q3]
          exact rfl
        case bD =>
          repeat' refine Kept.upd ?_ (by decide) _
          exact hk
        case dD => exact .inr ⟨rfl, by simp⟩
      rw [if_neg (by omega)] at hc
      have q3 : ¬ (zs.length : Int) ≤ (at_ : Int) + 1 := by omega
      have n2 : at_ + 1 < zs.length := by omega
      have n3 : (at_ : Int) + 1 < (zs.length : Int) := by omega
      have n4 : at_ + 1 ≤ zs.length := by omega
      have b1 := B8_at0 zs (at_ + 1) n2
      have n5 : (0 : Int) ≤ (at_ : Int) + 1 := by omega
      obtain ⟨d, hd⟩ := Int.eq_ofNat_of_zero_le g1.1
      rw [hd] at hc b1 g1
      simp only [Int.toNat_natCast] at hc
      by_cases k2 : (d : Int) < 2
      · rw [if_pos k2] at hc
        subst hc
        left
        refine ⟨.ret, ?tE, by simp, ?aE, ?bE, ?dE⟩
        case aE =>
          simp -implicitDefEqProofs [ec, e0, et, q1, n0, n1, b0, splice, k0, k0e, k1, k1e, w1, q3, n2, n3, n4, n5, b1, hd, k2]
          exact rfl
        case bE =>
          repeat' refine Kept.upd ?_ (by decide) _
          exact hk
        case dE => exact .inr ⟨rfl, by simp⟩
      rw [if_neg k2] at hc
      have w2 : IntKind.i64.wrap (d : Int) = (d : Int) := wrap64_id (by omega) (by omega)
      have w3 : IntKind.i64.wrap ((at_ : Int) + (d : Int)) = (at_ : Int) + (d : Int) := wrap64_id (by omega) (by omega)
      by_cases q4 : zs.length < at_ + d
      · rw [if_pos (by omega)] at hc
        subst hc
        have q5 : (zs.length : Int) < (at_ : Int) + (d : Int) := by omega
        left
        refine ⟨.ret, ?tF, by simp, ?aF, ?bF, ?dF⟩
        case aF =>
          simp -implicitDefEqProofs [ec, e0, et, q1, n0, n1, b0, splice, k0, k0e, k1, k1e, w1, q3, n2, n3, n4, n5, b1, hd, k2, w2, w3, q5]
          exact rfl
        case bF =>
          repeat' refine Kept.upd ?_ (by decide) _
          exact hk
        case dF => exact .inr ⟨rfl, by simp⟩
      rw [if_neg (by omega)] at hc
      have q5 : ¬ (zs.length : Int) < (at_ : Int) + (d : Int) := by omega
      have q6 : 2 ≤ d := by omega
      by_cases k3 : gb zs at_ = 131
      · rw [if_pos (.inl k3)] at hc
        right
        refine ⟨by omega, ?tG, ?aG, ?bG, ?dG⟩
        case aG =>
          simp -implicitDefEqProofs [ec, e0, et, q1, n0, n1, b0, splice, w1, q3, n2, n3, n4, n5, b1, hd, k2, w2, w3, q5, k3]
          exact rfl
        case bG =>
          repeat' refine Kept.upd ?_ (by decide) _
          exact hk
        case dG => exact ⟨at_ + d, 12, by simp, by simp, by omega, by omega, by rw [show 41 - (j + 1) = 40 - j by omega]; exact hc⟩
      have k3e : (gb zs at_ == 131) = false := by simp [k3]
      by_cases k4 : gb zs at_ = 137
      · rw [if_pos (.inr k4)] at hc
        right
        refine ⟨by omega, ?tH, ?aH, ?bH, ?dH⟩
        case aH =>
          simp -implicitDefEqProofs [ec, e0, et, q1, n0, n1, b0, splice, w1, q3, n2, n3, n4, n5, b1, hd, k2, w2, w3, q5, k4]
          exact rfl
        case bH =>
          repeat' refine Kept.upd ?_ (by decide) _
          exact hk
        case dH => exact ⟨at_ + d, 12, by simp, by simp, by omega, by omega, by rw [show 41 - (j + 1) = 40 - j by omega]; exact hc⟩
      have k4e : (gb zs at_ == 137) = false := by simp [k4]
      rw [if_neg (by omega)] at hc
      right
      refine ⟨by omega, ?tI, ?aI, ?bI, ?dI⟩
      case aI =>
        simp -implicitDefEqProofs [ec, e0, et, q1, n0, n1, b0, splice, k0, k0e, k1, k1e, w1, q3, n2, n3, n4, n5, b1, hd, k2, w2, w3, q5, k3, k3e, k4, k4e]
        exact rfl
      case bI =>
        repeat' refine Kept.upd ?_ (by decide) _
        exact hk
      case dI => exact ⟨at_ + d, e, by simp, by simp [et], by omega, by omega, by rw [show 41 - (j + 1) = 40 - j by omega]; exact hc⟩)
  rcases hQ with ⟨rfl, h3⟩ | ⟨rfl, h2⟩
  · simp -implicitDefEqProofs [h3]
  · simp -implicitDefEqProofs [h2]
end Go.Proofs.Ytcbjjkpjbdcakaa

/- The reference's Options of IPv4 as a function of values. -/
namespace Go.Proofs.Ytcbjjkpjbdcakaa
open Go.Pm Go.Wb
set_option linter.unusedVariables false
set_option linter.unusedSimpArgs false
set_option maxRecDepth 1000000
theorem B8_cons' (z : Int) (zs : List Int) : B8 (z :: zs) = .v (.int .u8 z) :: B8 zs := rfl
theorem B8_nil1 : B8 [] = [] := rfl
def rtB (ks : List Int) : Bool := ks.any fun k => k == 131 || k == 137
def rtE (ks : List Int) : Int := if rtB ks = true then 12 else 0
theorem rtB_snoc (ks : List Int) (x : Int) : rtB (ks ++ [x]) = (rtB ks || (x == 131 || x == 137)) := by simp [rtB]
theorem rtE_yes {ks : List Int} {x : Int} (h : x = 131 ∨ x = 137) : rtE (ks ++ [x]) = 12 := by
  unfold rtE; rw [rtB_snoc, if_pos (by rcases h with rfl | rfl <;> simp)]
theorem rtE_no {ks : List Int} {x : Int} (h : ¬ (x = 131 ∨ x = 137)) : rtE (ks ++ [x]) = rtE ks := by
  unfold rtE; rw [rtB_snoc]
  have h1 : (x == 131) = false := by simp; omega
  have h2 : (x == 137) = false := by simp; omega
  rw [h1, h2]; simp
def KsAt (t : Nat → AV) (m : Mem) (ks : List Int) : Prop := (t 3 = .v (.slice none 0 0) ∧ ks = []) ∨ ∃ v, t 3 = .own 32 v 0 ks.length 1 (.whole 5) ∧ m 32 = some ⟨v, B8 ks⟩
set_option maxHeartbeats 32000000 in
theorem ropt_run (zs : List Int) (nn : Bool) (cap : Option Nat) (hz : bytesB zs = true) (hl : zs.length ≤ 9223372036854775807) :
    (pvCall Try.prog K0 Dm 100000 1 0 33 [.sl nn (B8 zs) zs.length cap] (fun _ => none)).map (·.1) = some (.v (.int .i64 (optE zs))) := by
  rw [pvCall_own (fn := Try.f33) rfl Try.func33 rfl (by decide) rfl rfl (by simp)]
  have tm : ((zs.length : Int)).tmod 4 = (zs.length : Int) % 4 := Int.tmod_eq_emod_of_nonneg (by omega)
  have w4 : IntKind.i64.wrap ((zs.length : Int) % 4) = (zs.length : Int) % 4 := wrap64_id (by omega) (by omega)
  by_cases h40 : 40 < zs.length
  · have i40 : (40 : Int) < (zs.length : Int) := by omega
    have he : optE zs = 5 := by unfold optE; rw [if_pos (.inl h40)]
    simp -implicitDefEqProofs [i40, he]
  have i40 : ¬ (40 : Int) < (zs.length : Int) := by omega
  by_cases h4 : zs.length % 4 = 0
  case neg =>
    have i4 : (0 : Int) < (zs.length : Int) % 4 := by omega
    have he : optE zs = 5 := by unfold optE; rw [if_pos (.inr h4)]
    simp -implicitDefEqProofs [i40, he, tm, w4, i4]
  have i4 : (zs.length : Int) % 4 = 0 := by omega
  obtain ⟨R0, hr⟩ : ∃ r, optF 41 zs 0 = r := ⟨_, rfl⟩
  have he : optE zs = R0 := by unfold optE; rw [if_neg (by omega), hr]
  rw [he]
  simp -implicitDefEqProofs [i40, tm, i4]
  generalize hL : loopK _ _ _ _ _ _ _ _ _ ⟨_, _⟩ = R
  obtain ⟨e, t', m', rfl, hk, hm, hQ⟩ := loop_met5 hL [2, 3, 4, 15, 16, 17, 18, 19, 20, 21, 22, 23, 24, 25, 26, 27, 28, 29, 30, 31, 32, 33, 34, 35, 36, 37, 38, 39, 40, 41, 42, 43, 44, 45, 46, 47, 48, 49, 50, 51, 52, 53, 54, 55, 56, 57, 58, 59, 60, 61, 62, 63, 64] [31, 32]
    (fun j t m => ∃ (at_ : Nat) (ks : List Int), t 4 = .v (.int .i64 (at_ : Int)) ∧ KsAt t m ks ∧ ks.length = j ∧ at_ ≤ zs.length ∧ j ≤ at_ ∧ optF (41 - j) (zs.drop at_) (rtE ks) = R0)
    (fun e t m => (e = .exit 0 ∧ ∃ ks, KsAt t m ks ∧ ks.length ≤ 40 ∧ rtE ks = R0) ∨ (e = .ret ∧ t 2 = .v (.int .i64 R0))) 41 (by omega) ⟨0, [], by simp, .inl ⟨by simp, rfl⟩, rfl, by omega, by omega, by simpa [rtE, rtB] using hr⟩
    (fun j t m hj hk hm ⟨at_, ks, ec, hks, hkl, ha, hja, hc⟩ => by
      have e0 := hk 0 (by decide)
      simp at e0
      rw [show 41 - j = 40 - j + 1 by omega, optF, List.length_drop, gb_drop, gb_drop, List.drop_drop, List.drop_drop] at hc
      simp only [Nat.add_zero] at hc
      by_cases q0 : at_ = zs.length
      · rw [if_pos (by omega)] at hc
        have q1 : ¬ (at_ : Int) < (zs.length : Int) := by omega
        left
        refine ⟨.exit 0, ?tA, m, by simp, ?aA, ?bA, hm, ?dA⟩
        case aA =>
          simp -implicitDefEqProofs [ec, e0, q1]
          exact rfl
        case bA =>
          repeat' refine Kept.upd ?_ (by decide) _
          exact hk
        case dA => exact .inl ⟨rfl, ks, by simpa [KsAt] using hks, by omega, hc⟩
      rw [if_neg (by omega)] at hc
      have q1 : (at_ : Int) < (zs.length : Int) := by omega
      have n0 : at_ < zs.length := by omega
      have n1 : at_ ≤ zs.length := by omega
      have b0 := B8_at0 zs at_ n0
      have g0 := gb_range hz at_
      have g1 := gb_range hz (at_ + 1)
      by_cases k0 : gb zs at_ = 0
      · rw [if_pos k0] at hc
        left
        refine ⟨.exit 0, ?tB, m, by simp, ?aB, ?bB, hm, ?dB⟩
        case aB =>
          simp -implicitDefEqProofs [ec, e0, q1, n0, n1, b0, splice, k0]
          exact rfl
        case bB =>
          repeat' refine Kept.upd ?_ (by decide) _
          exact hk
        case dB => exact .inl ⟨rfl, ks, by simpa [KsAt] using hks, by omega, hc⟩
      rw [if_neg k0] at hc
      have k0e : (gb zs at_ == 0) = false := by simp [k0]
      have k0n : (gb zs at_ != 0) = true := by simp [k0]
      have w1 : IntKind.i64.wrap ((at_ : Int) + 1) = ((at_ + 1 : Nat) : Int) := by rw [wrap64_id (by omega) (by omega)]; omega
      have s1 := B8_snoc' ks (gb zs at_)
      have s2 : ks.length ≤ 549755813887 := by omega
      have s4 : ks.take ks.length = ks := List.take_length
      by_cases k1 : gb zs at_ = 1
      · rw [if_pos k1] at hc
        have s3 : rtE (ks ++ [1]) = rtE ks := rtE_no (by omega)
        have s1' := B8_snoc' ks 1
        rw [← s3] at hc
        rcases hks with ⟨et, rfl⟩ | ⟨v, et, em⟩
        · clear s1 s1' s4
          right
          refine ⟨by omega, ?tC1, ?mC1, ?aC1, ?bC1, ?cC1, ?dC1⟩
          case aC1 =>
            simp -implicitDefEqProofs [ec, e0, q1, n0, n1, b0, splice, k1, w1, s2, et]
            constructor
            · exact rfl
            · exact rfl
          case bC1 =>
            repeat' refine Kept.upd ?_ (by decide) _
            exact hk
          case cC1 =>
            repeat' refine KeptM.upd ?_ (by decide) _
            exact hm
          case dC1 => exact ⟨at_ + 1, [] ++ [1], by simp, .inr ⟨verNext m 32, by simp [verNext], by simp [verNext, B8_cons', B8_nil1]⟩, by simp at hkl ⊢; omega, by omega, by omega, by rw [show 41 - (j + 1) = 40 - j by omega]; exact hc⟩
        · 
          right
          refine ⟨by omega, ?tC2, ?mC2, ?aC2, ?bC2, ?cC2, ?dC2⟩
          case aC2 =>
            simp -implicitDefEqProofs [ec, e0, q1, n0, n1, b0, splice, k1, w1, s2, s1', s4, et, em]
            constructor
            · exact rfl
            · exact rfl
          case bC2 =>
            repeat' refine Kept.upd ?_ (by decide) _
            exact hk
          case cC2 =>
            repeat' refine KeptM.upd ?_ (by decide) _
            exact hm
          case dC2 => exact ⟨at_ + 1, ks ++ [1], by simp, .inr ⟨v + 1, by simp, by simp⟩, by simp; omega, by omega, by omega, by rw [show 41 - (j + 1) = 40 - j by omega]; exact hc⟩
      rw [if_neg k1] at hc
      have k1e : (gb zs at_ == 1) = false := by simp [k1]
      by_cases q2 : at_ + 1 = zs.length
      · rw [if_pos (by omega)] at hc
        subst hc
        have q3 : (at_ : Int) + 1 = (zs.length : Int) := by omega
        have q3' : IntKind.i64.wrap (zs.length : Int) = (zs.length : Int) := wrap64_id (by omega) (by omega)
        rcases hks with ⟨et, rfl⟩ | ⟨v, et, em⟩
        · clear s1 s4
          left
          refine ⟨.ret, ?tD1, ?mD1, by simp, ?aD1, ?bD1, ?cD1, ?dD1⟩
          case aD1 =>
            simp -implicitDefEqProofs [ec, e0, q1, n0, n1, b0, splice, k0, k0e, k0n, k1, k1e, w1, q3, q3', s2, et]
            constructor
            · exact rfl
            · exact rfl
          case bD1 =>
            repeat' refine Kept.upd ?_ (by decide) _
            exact hk
          case cD1 =>
            repeat' refine KeptM.upd ?_ (by decide) _
            exact hm
          case dD1 => exact .inr ⟨rfl, by simp⟩
        · 
          left
          refine ⟨.ret, ?tD2, ?mD2, by simp, ?aD2, ?bD2, ?cD2, ?dD2⟩
          case aD2 =>
            simp -implicitDefEqProofs [ec, e0, q1, n0, n1, b0, splice, k0, k0e, k0n, s1, s2, s4, k1, k1e, w1, q3, q3', et, em]
            constructor
            · exact rfl
            · exact rfl
          case bD2 =>
            repeat' refine Kept.upd ?_ (by decide) _
            exact hk
          case cD2 =>
            repeat' refine KeptM.upd ?_ (by decide) _
            exact hm
          case dD2 => exact .inr ⟨rfl, by simp⟩
      rw [if_neg (by omega)] at hc
      have q3 : ¬ (at_ : Int) + 1 = (zs.length : Int) := by omega
      have q3e : ((at_ : Int) + 1 == (zs.length : Int)) = false := by simp; omega
      have n2 : at_ + 1 < zs.length := by omega
      have n3 : (at_ : Int) + 1 < (zs.length : Int) := by omega
      have n4 : at_ + 1 ≤ zs.length := by omega
      have b1 := B8_at0 zs (at_ + 1) n2
      have n5 : (0 : Int) ≤ (at_ : Int) + 1 := by omega
      obtain ⟨d, hd⟩ := Int.eq_ofNat_of_zero_le g1.1
      rw [hd] at hc b1 g1
      simp only [Int.toNat_natCast] at hc
      by_cases k2 : (d : Int) < 2
      · rw [if_pos k2] at hc
        subst hc
        rcases hks with ⟨et, rfl⟩ | ⟨v, et, em⟩
        · clear s1 s4
          left
          refine ⟨.ret, ?tE1, ?mE1, by simp, ?aE1, ?bE1, ?cE1, ?dE1⟩
          case aE1 =>
            simp -implicitDefEqProofs [ec, e0, q1, n0, n1, b0, splice, k0, k0e, k0n, k1, k1e, w1, q3, q3e, n2, n3, n4, n5, b1, hd, k2, s2, et]
            constructor
            · exact rfl
            · exact rfl
          case bE1 =>
            repeat' refine Kept.upd ?_ (by decide) _
            exact hk
          case cE1 =>
            repeat' refine KeptM.upd ?_ (by decide) _
            exact hm
          case dE1 => exact .inr ⟨rfl, by simp⟩
        · 
          left
          refine ⟨.ret, ?tE2, ?mE2, by simp, ?aE2, ?bE2, ?cE2, ?dE2⟩
          case aE2 =>
            simp -implicitDefEqProofs [ec, e0, q1, n0, n1, b0, splice, k0, k0e, k0n, s1, s2, s4, k1, k1e, w1, q3, q3e, n2, n3, n4, n5, b1, hd, k2, et, em]
            constructor
            · exact rfl
            · exact rfl
          case bE2 =>
            repeat' refine Kept.upd ?_ (by decide) _
            exact hk
          case cE2 =>
            repeat' refine KeptM.upd ?_ (by decide) _
            exact hm
          case dE2 => exact .inr ⟨rfl, by simp⟩
      rw [if_neg k2] at hc
      have w2 : IntKind.i64.wrap (d : Int) = (d : Int) := wrap64_id (by omega) (by omega)
      have w3 : IntKind.i64.wrap ((at_ : Int) + (d : Int)) = (at_ : Int) + (d : Int) := wrap64_id (by omega) (by omega)
      by_cases q4 : zs.length < at_ + d
      · rw [if_pos (by omega)] at hc
        subst hc
        have q5 : (zs.length : Int) < (at_ : Int) + (d : Int) := by omega
        rcases hks with ⟨et, rfl⟩ | ⟨v, et, em⟩
        · clear s1 s4
          left
          refine ⟨.ret, ?tF1, ?mF1, by simp, ?aF1, ?bF1, ?cF1, ?dF1⟩
          case aF1 =>
            simp -implicitDefEqProofs [ec, e0, q1, n0, n1, b0, splice, k0, k0e, k0n, k1, k1e, w1, q3, q3e, n2, n3, n4, n5, b1, hd, k2, w2, w3, q5, s2, et]
            constructor
            · exact rfl
            · exact rfl
          case bF1 =>
            repeat' refine Kept.upd ?_ (by decide) _
            exact hk
          case cF1 =>
            repeat' refine KeptM.upd ?_ (by decide) _
            exact hm
          case dF1 => exact .inr ⟨rfl, by simp⟩
        · 
          left
          refine ⟨.ret, ?tF2, ?mF2, by simp, ?aF2, ?bF2, ?cF2, ?dF2⟩
          case aF2 =>
            simp -implicitDefEqProofs [ec, e0, q1, n0, n1, b0, splice, k0, k0e, k0n, s1, s2, s4, k1, k1e, w1, q3, q3e, n2, n3, n4, n5, b1, hd, k2, w2, w3, q5, et, em]
            constructor
            · exact rfl
            · exact rfl
          case bF2 =>
            repeat' refine Kept.upd ?_ (by decide) _
            exact hk
          case cF2 =>
            repeat' refine KeptM.upd ?_ (by decide) _
            exact hm
          case dF2 => exact .inr ⟨rfl, by simp⟩
      rw [if_neg (by omega)] at hc
      have q5 : ¬ (zs.length : Int) < (at_ : Int) + (d : Int) := by omega
      have q6 : 2 ≤ d := by omega
      have s3 : rtE (ks ++ [gb zs at_]) = if gb zs at_ = 131 ∨ gb zs at_ = 137 then 12 else rtE ks := by
        by_cases h : gb zs at_ = 131 ∨ gb zs at_ = 137
        · rw [if_pos h, rtE_yes h]
        · rw [if_neg h, rtE_no h]
      rw [← s3] at hc
      rcases hks with ⟨et, rfl⟩ | ⟨v, et, em⟩
      · clear s1 s4
        right
        refine ⟨by omega, ?tG1, ?mG1, ?aG1, ?bG1, ?cG1, ?dG1⟩
        case aG1 =>
          simp -implicitDefEqProofs [ec, e0, q1, n0, n1, b0, splice, k0, k0e, k0n, k1, k1e, w1, q3, q3e, n2, n3, n4, n5, b1, hd, k2, w2, w3, q5, s2, et]
          constructor
          · exact rfl
          · exact rfl
        case bG1 =>
          repeat' refine Kept.upd ?_ (by decide) _
          exact hk
        case cG1 =>
          repeat' refine KeptM.upd ?_ (by decide) _
          exact hm
        case dG1 => exact ⟨at_ + d, [] ++ [gb zs at_], by simp, .inr ⟨verNext m 32, by simp [verNext], by simp [verNext, B8_cons', B8_nil1]⟩, by simp at hkl ⊢; omega, by omega, by omega, by rw [show 41 - (j + 1) = 40 - j by omega]; exact hc⟩
      · 
        right
        refine ⟨by omega, ?tG2, ?mG2, ?aG2, ?bG2, ?cG2, ?dG2⟩
        case aG2 =>
          simp -implicitDefEqProofs [ec, e0, q1, n0, n1, b0, splice, k0, k0e, k0n, s1, s2, s4, k1, k1e, w1, q3, q3e, n2, n3, n4, n5, b1, hd, k2, w2, w3, q5, et, em]
          constructor
          · exact rfl
          · exact rfl
        case bG2 =>
          repeat' refine Kept.upd ?_ (by decide) _
          exact hk
        case cG2 =>
          repeat' refine KeptM.upd ?_ (by decide) _
          exact hm
        case dG2 => exact ⟨at_ + d, ks ++ [gb zs at_], by simp, .inr ⟨v + 1, by simp, by simp⟩, by simp; omega, by omega, by omega, by rw [show 41 - (j + 1) = 40 - j by omega]; exact hc⟩)
  rcases hQ with ⟨rfl, ks, hks, hkl, hre⟩ | ⟨rfl, h2⟩
  case inr => simp -implicitDefEqProofs [h2]
  rcases hks with ⟨et, rfl⟩ | ⟨v, et, em⟩
  · have : R0 = 0 := by rw [← hre]; rfl
    simp -implicitDefEqProofs [et, this, loopK_pos]
  simp -implicitDefEqProofs [et]
  generalize hL2 : loopK _ _ _ _ _ _ _ _ _ ⟨_, _⟩ = R
  obtain ⟨e, t2, rfl, hk2, hQ2⟩ := loop_met4 hL2 [2, 5, 65, 66, 67, 68, 69, 70, 71, 72, 73, 74, 75, 76, 77, 78, 79, 80, 81, 82] 
    (fun j t => t 5 = .v (.int .i64 (j : Int)) ∧ rtB (ks.take j) = false)
    (fun e t => (e = .exit 2 ∧ rtB ks = false) ∨ (e = .ret ∧ t 2 = .v (.int .i64 12) ∧ rtB ks = true)) ks.length (by omega) ⟨by simp, by simp [rtB]⟩
    (fun j t hj hk2 ⟨ec, hrt⟩ => by
      have e3 := hk2 3 (by decide)
      simp [et] at e3
      by_cases hq : j = ks.length
      · left
        subst hq
        refine ⟨.exit 2, ?tX, by simp, ?aX, ?bX, .inl ⟨rfl, by rwa [List.take_length] at hrt⟩⟩
        case aX =>
          simp -implicitDefEqProofs [ec, e3]
          exact rfl
        case bX =>
          repeat' refine Kept.upd ?_ (by decide) _
          exact hk2
      have j1 : (j : Int) < (ks.length : Int) := by omega
      have j2 : j ≤ ks.length := by omega
      have j3 : j < ks.length := by omega
      have j4 := B8_at0 ks j j3
      have j6 : IntKind.i64.wrap ((j : Int) + 1) = ((j + 1 : Nat) : Int) := by rw [wrap64_id (by omega) (by omega)]; omega
      have hin : gb ks j ∈ ks := by
        have := List.getElem_mem (l := ks) j3
        unfold gb
        rw [List.getD_eq_getElem?_getD, List.getElem?_eq_getElem j3]
        exact this
      by_cases k3 : gb ks j = 131
      · left
        refine ⟨.ret, ?tY, by simp, ?aY, ?bY, ?dY⟩
        case aY =>
          simp -implicitDefEqProofs [ec, e3, em, j1, j2, j3, j4, k3]
          exact rfl
        case bY =>
          repeat' refine Kept.upd ?_ (by decide) _
          exact hk2
        case dY => exact .inr ⟨rfl, by simp, List.any_eq_true.2 ⟨_, hin, by simp [k3]⟩⟩
      have k3e : (gb ks j == 131) = false := by simp [k3]
      by_cases k4 : gb ks j = 137
      · left
        refine ⟨.ret, ?tZ, by simp, ?aZ, ?bZ, ?dZ⟩
        case aZ =>
          simp -implicitDefEqProofs [ec, e3, em, j1, j2, j3, j4, k3, k3e, k4]
          exact rfl
        case bZ =>
          repeat' refine Kept.upd ?_ (by decide) _
          exact hk2
        case dZ => exact .inr ⟨rfl, by simp, List.any_eq_true.2 ⟨_, hin, by simp [k4]⟩⟩
      have k4e : (gb ks j == 137) = false := by simp [k4]
      right
      refine ⟨by omega, ?tW, ?aW, ?bW, ?dW⟩
      case aW =>
        simp -implicitDefEqProofs [ec, e3, em, j1, j2, j3, j4, j6, k3, k3e, k4, k4e]
        exact rfl
      case bW =>
        repeat' refine Kept.upd ?_ (by decide) _
        exact hk2
      case dW => exact ⟨by simp, by rw [← take_snoc j3, rtB_snoc, hrt, k3e, k4e]; rfl⟩)
  rcases hQ2 with ⟨rfl, h3⟩ | ⟨rfl, h2, h3⟩
  · have : R0 = 0 := by rw [← hre]; unfold rtE; rw [h3]; rfl
    simp -implicitDefEqProofs [this]
  · have : R0 = 12 := by rw [← hre]; unfold rtE; rw [h3]; rfl
    simp -implicitDefEqProofs [h2, this]
end Go.Proofs.Ytcbjjkpjbdcakaa
