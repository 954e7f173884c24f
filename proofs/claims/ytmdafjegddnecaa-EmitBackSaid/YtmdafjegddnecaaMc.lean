import Derived.Test.YtmdafjegddnecaaJa
/- Options of IPv4 as functions of values. -/
namespace Go.Proofs.Ytmdafjegddnecaa
open Go.Pm Go.Wb
set_option linter.unusedVariables false
set_option linter.unusedSimpArgs false
set_option maxRecDepth 1000000
/-- What is wrong with options from a place on. -/
def optF : Nat → List Int → Int → Int
  | 0, _, e => e
  | f + 1, l, e =>
    if l.length = 0 then e else if gb l 0 = 0 then e else if gb l 0 = 1 then optF f (l.drop 1) e else
    if l.length < 2 then 5 else if gb l 1 < 2 then 5 else if (l.length : Int) < gb l 1 then 5 else optF f (l.drop (gb l 1).toNat) (if gb l 0 = 131 ∨ gb l 0 = 137 then 12 else e)
def optE (l : List Int) : Int := if 40 < l.length ∨ ¬ l.length % 4 = 0 then 5 else optF 41 l 0
theorem gb_drop (l : List Int) (k i : Nat) : gb (l.drop k) i = gb l (k + i) := by
  unfold gb; rw [List.getD_eq_getElem?_getD, List.getElem?_drop, List.getD_eq_getElem?_getD]
set_option maxHeartbeats 16000000 in
theorem opt_run (zs : List Int) (nn : Bool) (cap : Option Nat) (hz : bytesB zs = true) (hl : zs.length ≤ 9223372036854775807) :
    runF Try.prog K0 Dm 100000 1 99 [.sl nn (B8 zs) zs.length cap] = some (.v (.int .i64 (optE zs)), []) := by
  unfold runF
  rw [pvCall_own (fn := Try.f99) rfl Try.func99 rfl (by decide) rfl rfl (by simp)]
  have tm : ((zs.length : Int)).tmod 4 = (zs.length : Int) % 4 := Int.tmod_eq_emod_of_nonneg (by omega)
  have w4 : IntKind.i64.wrap ((zs.length : Int) % 4) = (zs.length : Int) % 4 := wrap64_id (by omega) (by omega)
  by_cases h40 : 40 < zs.length
  · have i40 : (40 : Int) < (zs.length : Int) := by omega
    have he : optE zs = 5 := by unfold optE; rw [if_pos (.inl h40)]
    simp -implicitDefEqProofs [i40, he]
  have i40 : ¬ (40 : Int) < (zs.length : Int) := by omega
  by_cases h4 : zs.length % 4 = 0
  case neg =>
    have i4 : ¬ (zs.length : Int) % 4 = 0 := by omega
    have i4n : ((zs.length : Int) % 4 != 0) = true := by simp; omega
    have he : optE zs = 5 := by unfold optE; rw [if_pos (.inr h4)]
    simp -implicitDefEqProofs [i40, he, tm, w4, i4, i4n]
  have i4 : (zs.length : Int) % 4 = 0 := by omega
  obtain ⟨R0, hr⟩ : ∃ r, optF 41 zs 0 = r := ⟨_, rfl⟩
  have he : optE zs = R0 := by unfold optE; rw [if_neg (by omega), hr]
  rw [he]
  simp -implicitDefEqProofs [i40, tm, i4]
  generalize hL : loopK _ _ _ _ _ _ _ _ _ ⟨_, _⟩ = R
  obtain ⟨e, t', rfl, hk, hQ⟩ := loop_met4 hL [2, 3, 4, 5, 15, 16, 17, 18, 19, 20, 21, 22, 23, 24, 25, 26, 27, 28, 29, 30, 31, 32, 33, 34, 35, 36, 37, 38, 39, 40, 41, 42, 43, 44, 45, 46, 47, 48, 49, 50, 51, 52, 53, 54, 55, 56, 57, 58, 59, 60, 61, 62, 63, 64, 65, 66, 67, 68, 69, 70, 71, 72]
    (fun j t => ∃ (at_ : Nat) (e : Int), t 4 = .v (.int .i64 (at_ : Int)) ∧ t 3 = .v (.int .i64 e) ∧ at_ ≤ zs.length ∧ j ≤ at_ ∧ optF (41 - j) (zs.drop at_) e = R0)
    (fun e t => (e = .exit 0 ∧ t 3 = .v (.int .i64 R0)) ∨ (e = .ret ∧ t 2 = .v (.int .i64 R0))) 41 (by omega) ⟨0, 0, by simp, by simp, by omega, by omega, by simpa using hr⟩
    (fun j t hj hk ⟨at_, e, ec, et, ha, hja, hc⟩ => by
      have e0 := hk 0 (by decide)
      simp at e0
      rw [show 41 - j = 40 - j + 1 by omega, optF, List.length_drop, gb_drop, gb_drop, List.drop_drop, List.drop_drop] at hc
      simp only [Nat.add_zero] at hc
      by_cases q0 : at_ = zs.length
      · rw [if_pos (by omega)] at hc
        subst hc
        have q1 : ¬ (at_ : Int) < (zs.length : Int) := by omega
        left
        refine ⟨.exit 0, ?tA, by simp, ?aA, ?bA, ?dA⟩
        case aA =>
          simp -implicitDefEqProofs [ec, e0, et, q1]
          exact rfl
        case bA =>
          repeat' refine Kept.upd ?_ (by decide) _
          exact hk
        case dA => exact .inl ⟨rfl, by simp [et]⟩
      rw [if_neg (by omega)] at hc
      have q1 : (at_ : Int) < (zs.length : Int) := by omega
      have n0 : at_ < zs.length := by omega
      have n1 : at_ ≤ zs.length := by omega
      have b0 := B8_at0 zs at_ n0
      have g0 := gb_range hz at_
      have g1 := gb_range hz (at_ + 1)
      by_cases k0 : gb zs at_ = 0
      · rw [if_pos k0] at hc
        subst hc
        left
        refine ⟨.exit 0, ?tB, by simp, ?aB, ?bB, ?dB⟩
        case aB =>
          simp -implicitDefEqProofs [ec, e0, et, q1, n0, n1, b0, splice, k0]
          exact rfl
        case bB =>
          repeat' refine Kept.upd ?_ (by decide) _
          exact hk
        case dB => exact .inl ⟨rfl, by simp [et]⟩
      rw [if_neg k0] at hc
      have k0e : (gb zs at_ == 0) = false := by simp [k0]
      have w1 : IntKind.i64.wrap ((at_ : Int) + 1) = ((at_ + 1 : Nat) : Int) := by rw [wrap64_id (by omega) (by omega)]; omega
      by_cases k1 : gb zs at_ = 1
      · rw [if_pos k1] at hc
        right
        refine ⟨by omega, ?tC, ?aC, ?bC, ?dC⟩
        case aC =>
          simp -implicitDefEqProofs [ec, e0, et, q1, n0, n1, b0, splice, k1, w1]
          exact rfl
        case bC =>
          repeat' refine Kept.upd ?_ (by decide) _
          exact hk
        case dC => exact ⟨at_ + 1, e, by simp, by simp [et], by omega, by omega, by rw [show 41 - (j + 1) = 40 - j by omega]; exact hc⟩
      rw [if_neg k1] at hc
      have k1e : (gb zs at_ == 1) = false := by simp [k1]
      by_cases q2 : at_ + 1 = zs.length
      · rw [if_pos (by omega)] at hc
        subst hc
        have q3 : (zs.length : Int) ≤ (at_ : Int) + 1 := by omega
        left
        refine ⟨.ret, ?tD, by simp, ?aD, ?bD, ?dD⟩
        case aD =>
          simp -implicitDefEqProofs [ec, e0, et, q1, n0, n1, b0, splice, k0, k0e, k1, k1e, w1, q3]
          exact rfl
        case bD =>
          repeat' refine Kept.upd ?_ (by decide) _
          exact hk
        case dD => exact .inr ⟨rfl, by simp⟩
      rw [if_neg (by omega)] at hc
      have q3 : ¬ (zs.length : Int) ≤ (at_ : Int) + 1 := by omega
      have n2 : at_ + 1 < zs.length := by omega
      have n3 : (at_ : Int) + 1 < (zs.length : Int) := by omega
      have n4 : at_ + 1 ≤ zs.length := by omega
      have b1 := B8_at0 zs (at_ + 1) n2
      have n5 : (0 : Int) ≤ (at_ : Int) + 1 := by omega
      obtain ⟨d, hd⟩ := Int.eq_ofNat_of_zero_le g1.1
      rw [hd] at hc b1 g1
      simp only [Int.toNat_natCast] at hc
      by_cases k2 : (d : Int) < 2
      · rw [if_pos k2] at hc
        subst hc
        left
        refine ⟨.ret, ?tE, by simp, ?aE, ?bE, ?dE⟩
        case aE =>
          simp -implicitDefEqProofs [ec, e0, et, q1, n0, n1, b0, splice, k0, k0e, k1, k1e, w1, q3, n2, n3, n4, n5, b1, hd, k2]
          exact rfl
        case bE =>
          repeat' refine Kept.upd ?_ (by decide) _
          exact hk
        case dE => exact .inr ⟨rfl, by simp⟩
      rw [if_neg k2] at hc
      have w2 : IntKind.i64.wrap (d : Int) = (d : Int) := wrap64_id (by omega) (by omega)
      have w3 : IntKind.i64.wrap ((at_ : Int) + (d : Int)) = (at_ : Int) + (d : Int) := wrap64_id (by omega) (by omega)
      by_cases q4 : zs.length < at_ + d
      · rw [if_pos (by omega)] at hc
        subst hc
        have q5 : (zs.length : Int) < (at_ : Int) + (d : Int) := by omega
        left
        refine ⟨.ret, ?tF, by simp, ?aF, ?bF, ?dF⟩
        case aF =>
          simp -implicitDefEqProofs [ec, e0, et, q1, n0, n1, b0, splice, k0, k0e, k1, k1e, w1, q3, n2, n3, n4, n5, b1, hd, k2, w2, w3, q5]
          exact rfl
        case bF =>
          repeat' refine Kept.upd ?_ (by decide) _
          exact hk
        case dF => exact .inr ⟨rfl, by simp⟩
      rw [if_neg (by omega)] at hc
      have q5 : ¬ (zs.length : Int) < (at_ : Int) + (d : Int) := by omega
      have q6 : 2 ≤ d := by omega
      by_cases k3 : gb zs at_ = 131
      · rw [if_pos (.inl k3)] at hc
        right
        refine ⟨by omega, ?tG, ?aG, ?bG, ?dG⟩
        case aG =>
          simp -implicitDefEqProofs [ec, e0, et, q1, n0, n1, b0, splice, w1, q3, n2, n3, n4, n5, b1, hd, k2, w2, w3, q5, k3]
          exact rfl
        case bG =>
          repeat' refine Kept.upd ?_ (by decide) _
          exact hk
        case dG => exact ⟨at_ + d, 12, by simp, by simp, by omega, by omega, by rw [show 41 - (j + 1) = 40 - j by omega]; exact hc⟩
      have k3e : (gb zs at_ == 131) = false := by simp [k3]
      by_cases k4 : gb zs at_ = 137
      · rw [if_pos (.inr k4)] at hc
        right
        refine ⟨by omega, ?tH, ?aH, ?bH, ?dH⟩
        case aH =>
          simp -implicitDefEqProofs [ec, e0, et, q1, n0, n1, b0, splice, w1, q3, n2, n3, n4, n5, b1, hd, k2, w2, w3, q5, k4]
          exact rfl
        case bH =>
          repeat' refine Kept.upd ?_ (by decide) _
          exact hk
        case dH => exact ⟨at_ + d, 12, by simp, by simp, by omega, by omega, by rw [show 41 - (j + 1) = 40 - j by omega]; exact hc⟩
      have k4e : (gb zs at_ == 137) = false := by simp [k4]
      rw [if_neg (by omega)] at hc
      right
      refine ⟨by omega, ?tI, ?aI, ?bI, ?dI⟩
      case aI =>
        simp -implicitDefEqProofs [ec, e0, et, q1, n0, n1, b0, splice, k0, k0e, k1, k1e, w1, q3, n2, n3, n4, n5, b1, hd, k2, w2, w3, q5, k3, k3e, k4, k4e]
        exact rfl
      case bI =>
        repeat' refine Kept.upd ?_ (by decide) _
        exact hk
      case dI => exact ⟨at_ + d, e, by simp, by simp [et], by omega, by omega, by rw [show 41 - (j + 1) = 40 - j by omega]; exact hc⟩)
  rcases hQ with ⟨rfl, h3⟩ | ⟨rfl, h2⟩
  · simp -implicitDefEqProofs [h3]
  · simp -implicitDefEqProofs [h2]
end Go.Proofs.Ytmdafjegddnecaa

/- The reference's Options of IPv4 as a function of values. -/
namespace Go.Proofs.Ytmdafjegddnecaa
open Go.Pm Go.Wb
set_option linter.unusedVariables false
set_option linter.unusedSimpArgs false
set_option maxRecDepth 1000000
theorem B8_cons' (z : Int) (zs : List Int) : B8 (z :: zs) = .v (.int .u8 z) :: B8 zs := rfl
theorem B8_nil1 : B8 [] = [] := rfl
def rtB (ks : List Int) : Bool := ks.any fun k => k == 131 || k == 137
def rtE (ks : List Int) : Int := if rtB ks = true then 12 else 0
theorem rtB_snoc (ks : List Int) (x : Int) : rtB (ks ++ [x]) = (rtB ks || (x == 131 || x == 137)) := by simp [rtB]
theorem rtE_yes {ks : List Int} {x : Int} (h : x = 131 ∨ x = 137) : rtE (ks ++ [x]) = 12 := by
  unfold rtE; rw [rtB_snoc, if_pos (by rcases h with rfl | rfl <;> simp)]
theorem rtE_no {ks : List Int} {x : Int} (h : ¬ (x = 131 ∨ x = 137)) : rtE (ks ++ [x]) = rtE ks := by
  unfold rtE; rw [rtB_snoc]
  have h1 : (x == 131) = false := by simp; omega
  have h2 : (x == 137) = false := by simp; omega
  rw [h1, h2]; simp
def KsAt (t : Nat → AV) (m : Mem) (ks : List Int) : Prop := (t 3 = .v (.slice none 0 0) ∧ ks = []) ∨ ∃ v, t 3 = .own 32 v 0 ks.length 1 (.whole 5) ∧ m 32 = some ⟨v, B8 ks⟩
set_option maxHeartbeats 32000000 in
theorem ropt_run (zs : List Int) (nn : Bool) (cap : Option Nat) (hz : bytesB zs = true) (hl : zs.length ≤ 9223372036854775807) :
    (pvCall Try.prog K0 Dm 100000 1 0 160 [.sl nn (B8 zs) zs.length cap] (fun _ => none)).map (·.1) = some (.v (.int .i64 (optE zs))) := by
  rw [pvCall_own (fn := Try.f160) rfl Try.func160 rfl (by decide) rfl rfl (by simp)]
  have tm : ((zs.length : Int)).tmod 4 = (zs.length : Int) % 4 := Int.tmod_eq_emod_of_nonneg (by omega)
  have w4 : IntKind.i64.wrap ((zs.length : Int) % 4) = (zs.length : Int) % 4 := wrap64_id (by omega) (by omega)
  by_cases h40 : 40 < zs.length
  · have i40 : (40 : Int) < (zs.length : Int) := by omega
    have he : optE zs = 5 := by unfold optE; rw [if_pos (.inl h40)]
    simp -implicitDefEqProofs [i40, he]
  have i40 : ¬ (40 : Int) < (zs.length : Int) := by omega
  by_cases h4 : zs.length % 4 = 0
  case neg =>
    have i4 : (0 : Int) < (zs.length : Int) % 4 := by omega
    have he : optE zs = 5 := by unfold optE; rw [if_pos (.inr h4)]
    simp -implicitDefEqProofs [i40, he, tm, w4, i4]
  have i4 : (zs.length : Int) % 4 = 0 := by omega
  obtain ⟨R0, hr⟩ : ∃ r, optF 41 zs 0 = r := ⟨_, rfl⟩
  have he : optE zs = R0 := by unfold optE; rw [if_neg (by omega), hr]
  rw [he]
  simp -implicitDefEqProofs [i40, tm, i4]
  generalize hL : loopK _ _ _ _ _ _ _ _ _ ⟨_, _⟩ = R
  obtain ⟨e, t', m', rfl, hk, hm, hQ⟩ := loop_met5 hL [2, 3, 4, 15, 16, 17, 18, 19, 20, 21, 22, 23, 24, 25, 26, 27, 28, 29, 30, 31, 32, 33, 34, 35, 36, 37, 38, 39, 40, 41, 42, 43, 44, 45, 46, 47, 48, 49, 50, 51, 52, 53, 54, 55, 56, 57, 58, 59, 60, 61, 62, 63, 64] [31, 32]
    (fun j t m => ∃ (at_ : Nat) (ks : List Int), t 4 = .v (.int .i64 (at_ : Int)) ∧ KsAt t m ks ∧ ks.length = j ∧ at_ ≤ zs.length ∧ j ≤ at_ ∧ optF (41 - j) (zs.drop at_) (rtE ks) = R0)
    (fun e t m => (e = .exit 0 ∧ ∃ ks, KsAt t m ks ∧ ks.length ≤ 40 ∧ rtE ks = R0) ∨ (e = .ret ∧ t 2 = .v (.int .i64 R0))) 41 (by omega) ⟨0, [], by simp, .inl ⟨by simp, rfl⟩, rfl, by omega, by omega, by simpa [rtE, rtB] using hr⟩
    (fun j t m hj hk hm ⟨at_, ks, ec, hks, hkl, ha, hja, hc⟩ => by
      have e0 := hk 0 (by decide)
      simp at e0
      rw [show 41 - j = 40 - j + 1 by omega, optF, List.length_drop, gb_drop, gb_drop, List.drop_drop, List.drop_drop] at hc
      simp only [Nat.add_zero] at hc
      by_cases q0 : at_ = zs.length
      · rw [if_pos (by omega)] at hc
        have q1 : ¬ (at_ : Int) < (zs.length : Int) := by omega
        left
        refine ⟨.exit 0, ?tA, m, by simp, ?aA, ?bA, hm, ?dA⟩
        case aA =>
          simp -implicitDefEqProofs [ec, e0, q1]
          exact rfl
        case bA =>
          repeat' refine Kept.upd ?_ (by decide) _
          exact hk
        case dA => exact .inl ⟨rfl, ks, by simpa [KsAt] using hks, by omega, hc⟩
      rw [if_neg (by omega)] at hc
      have q1 : (at_ : Int) < (zs.length : Int) := by omega
      have n0 : at_ < zs.length := by omega
      have n1 : at_ ≤ zs.length := by omega
      have b0 := B8_at0 zs at_ n0
      have g0 := gb_range hz at_
      have g1 := gb_range hz (at_ + 1)
      by_cases k0 : gb zs at_ = 0
      · rw [if_pos k0] at hc
        left
        refine ⟨.exit 0, ?tB, m, by simp, ?aB, ?bB, hm, ?dB⟩
        case aB =>
          simp -implicitDefEqProofs [ec, e0, q1, n0, n1, b0, splice, k0]
          exact rfl
        case bB =>
          repeat' refine Kept.upd ?_ (by decide) _
          exact hk
        case dB => exact .inl ⟨rfl, ks, by simpa [KsAt] using hks, by omega, hc⟩
      rw [if_neg k0] at hc
      have k0e : (gb zs at_ == 0) = false := by simp [k0]
      have k0n : (gb zs at_ != 0) = true := by simp [k0]
      have w1 : IntKind.i64.wrap ((at_ : Int) + 1) = ((at_ + 1 : Nat) : Int) := by rw [wrap64_id (by omega) (by omega)]; omega
      have s1 := B8_snoc' ks (gb zs at_)
      have s2 : ks.length ≤ 549755813887 := by omega
      have s4 : ks.take ks.length = ks := List.take_length
      by_cases k1 : gb zs at_ = 1
      · rw [if_pos k1] at hc
        have s3 : rtE (ks ++ [1]) = rtE ks := rtE_no (by omega)
        have s1' := B8_snoc' ks 1
        rw [← s3] at hc
        rcases hks with ⟨et, rfl⟩ | ⟨v, et, em⟩
        · clear s1 s1' s4
          right
          refine ⟨by omega, ?tC1, ?mC1, ?aC1, ?bC1, ?cC1, ?dC1⟩
          case aC1 =>
            simp -implicitDefEqProofs [ec, e0, q1, n0, n1, b0, splice, k1, w1, s2, et]
            constructor
            · exact rfl
            · exact rfl
          case bC1 =>
            repeat' refine Kept.upd ?_ (by decide) _
            exact hk
          case cC1 =>
            repeat' refine KeptM.upd ?_ (by decide) _
            exact hm
          case dC1 => exact ⟨at_ + 1, [] ++ [1], by simp, .inr ⟨verNext m 32, by simp [verNext], by simp [verNext, B8_cons', B8_nil1]⟩, by simp at hkl ⊢; omega, by omega, by omega, by rw [show 41 - (j + 1) = 40 - j by omega]; exact hc⟩
        · 
          right
          refine ⟨by omega, ?tC2, ?mC2, ?aC2, ?bC2, ?cC2, ?dC2⟩
          case aC2 =>
            simp -implicitDefEqProofs [ec, e0, q1, n0, n1, b0, splice, k1, w1, s2, s1', s4, et, em]
            constructor
            · exact rfl
            · exact rfl
          case bC2 =>
            repeat' refine Kept.upd ?_ (by decide) _
            exact hk
          case cC2 =>
            repeat' refine KeptM.upd ?_ (by decide) _
            exact hm
          case dC2 => exact ⟨at_ + 1, ks ++ [1], by simp, .inr ⟨v + 1, by simp, by simp⟩, by simp; omega, by omega, by omega, by rw [show 41 - (j + 1) = 40 - j by omega]; exact hc⟩
      rw [if_neg k1] at hc
      have k1e : (gb zs at_ == 1) = false := by simp [k1]
      by_cases q2 : at_ + 1 = zs.length
      · rw [if_pos (by omega)] at hc
        subst hc
        have q3 : (at_ : Int) + 1 = (zs.length : Int) := by omega
        have q3' : IntKind.i64.wrap (zs.length : Int) = (zs.length : Int) := wrap64_id (by omega) (by omega)
        rcases hks with ⟨et, rfl⟩ | ⟨v, et, em⟩
        · clear s1 s4
          left
          refine ⟨.ret, ?tD1, ?mD1, by simp, ?aD1, ?bD1, ?cD1, ?dD1⟩
          case aD1 =>
            simp -implicitDefEqProofs [ec, e0, q1, n0, n1, b0, splice, k0, k0e, k0n, k1, k1e, w1, q3, q3', s2, et]
            constructor
            · exact rfl
            · exact rfl
          case bD1 =>
            repeat' refine Kept.upd ?_ (by decide) _
            exact hk
          case cD1 =>
            repeat' refine KeptM.upd ?_ (by decide) _
            exact hm
          case dD1 => exact .inr ⟨rfl, by simp⟩
        · 
          left
          refine ⟨.ret, ?tD2, ?mD2, by simp, ?aD2, ?bD2, ?cD2, ?dD2⟩
          case aD2 =>
            simp -implicitDefEqProofs [ec, e0, q1, n0, n1, b0, splice, k0, k0e, k0n, s1, s2, s4, k1, k1e, w1, q3, q3', et, em]
            constructor
            · exact rfl
            · exact rfl
          case bD2 =>
            repeat' refine Kept.upd ?_ (by decide) _
            exact hk
          case cD2 =>
            repeat' refine KeptM.upd ?_ (by decide) _
            exact hm
          case dD2 => exact .inr ⟨rfl, by simp⟩
      rw [if_neg (by omega)] at hc
      have q3 : ¬ (at_ : Int) + 1 = (zs.length : Int) := by omega
      have q3e : ((at_ : Int) + 1 == (zs.length : Int)) = false := by simp; omega
      have n2 : at_ + 1 < zs.length := by omega
      have n3 : (at_ : Int) + 1 < (zs.length : Int) := by omega
      have n4 : at_ + 1 ≤ zs.length := by omega
      have b1 := B8_at0 zs (at_ + 1) n2
      have n5 : (0 : Int) ≤ (at_ : Int) + 1 := by omega
      obtain ⟨d, hd⟩ := Int.eq_ofNat_of_zero_le g1.1
      rw [hd] at hc b1 g1
      simp only [Int.toNat_natCast] at hc
      by_cases k2 : (d : Int) < 2
      · rw [if_pos k2] at hc
        subst hc
        rcases hks with ⟨et, rfl⟩ | ⟨v, et, em⟩
        · clear s1 s4
          left
          refine ⟨.ret, ?tE1, ?mE1, by simp, ?aE1, ?bE1, ?cE1, ?dE1⟩
          case aE1 =>
            simp -implicitDefEqProofs [ec, e0, q1, n0, n1, b0, splice, k0, k0e, k0n, k1, k1e, w1, q3, q3e, n2, n3, n4, n5, b1, hd, k2, s2, et]
            constructor
            · exact rfl
            · exact rfl
          case bE1 =>
            repeat' refine Kept.upd ?_ (by decide) _
            exact hk
          case cE1 =>
            repeat' refine KeptM.upd ?_ (by decide) _
            exact hm
          case dE1 => exact .inr ⟨rfl, by simp⟩
        · 
          left
          refine ⟨.ret, ?tE2, ?mE2, by simp, ?aE2, ?bE2, ?cE2, ?dE2⟩
          case aE2 =>
            simp -implicitDefEqProofs [ec, e0, q1, n0, n1, b0, splice, k0, k0e, k0n, s1, s2, s4, k1, k1e, w1, q3, q3e, n2, n3, n4, n5, b1, hd, k2, et, em]
            constructor
            · exact rfl
            · exact rfl
          case bE2 =>
            repeat' refine Kept.upd ?_ (by decide) _
            exact hk
          case cE2 =>
            repeat' refine KeptM.upd ?_ (by decide) _
            exact hm
          case dE2 => exact .inr ⟨rfl, by simp⟩
      rw [if_neg k2] at hc
      have w2 : IntKind.i64.wrap (d : Int) = (d : Int) := wrap64_id (by omega) (by omega)
      have w3 : IntKind.i64.wrap ((at_ : Int) + (d : Int)) = (at_ : Int) + (d : Int) := wrap64_id (by omega) (by omega)
      by_cases q4 : zs.length < at_ + d
      · rw [if_pos (by omega)] at hc
        subst hc
        have q5 : (zs.length : Int) < (at_ : Int) + (d : Int) := by omega
        rcases hks with ⟨et, rfl⟩ | ⟨v, et, em⟩
        · clear s1 s4
          left
          refine ⟨.ret, ?tF1, ?mF1, by simp, ?aF1, ?bF1, ?cF1, ?dF1⟩
          case aF1 =>
            simp -implicitDefEqProofs [ec, e0, q1, n0, n1, b0, splice, k0, k0e, k0n, k1, k1e, w1, q3, q3e, n2, n3, n4, n5, b1, hd, k2, w2, w3, q5, s2, et]
            constructor
            · exact rfl
            · exact rfl
          case bF1 =>
            repeat' refine Kept.upd ?_ (by decide) _
            exact hk
          case cF1 =>
            repeat' refine KeptM.upd ?_ (by decide) _
            exact hm
          case dF1 => exact .inr ⟨rfl, by simp⟩
        · 
          left
          refine ⟨.ret, ?tF2, ?mF2, by simp, ?aF2, ?bF2, ?cF2, ?dF2⟩
          case aF2 =>
            simp -implicitDefEqProofs [ec, e0, q1, n0, n1, b0, splice, k0, k0e, k0n, s1, s2, s4, k1, k1e, w1, q3, q3e, n2, n3, n4, n5, b1, hd, k2, w2, w3, q5, et, em]
            constructor
            · exact rfl
            · exact rfl
          case bF2 =>
            repeat' refine Kept.upd ?_ (by decide) _
            exact hk
          case cF2 =>
            repeat' refine KeptM.upd ?_ (by decide) _
            exact hm
          case dF2 => exact .inr ⟨rfl, by simp⟩
      rw [if_neg (by omega)] at hc
      have q5 : ¬ (zs.length : Int) < (at_ : Int) + (d : Int) := by omega
      have q6 : 2 ≤ d := by omega
      have s3 : rtE (ks ++ [gb zs at_]) = if gb zs at_ = 131 ∨ gb zs at_ = 137 then 12 else rtE ks := by
        by_cases h : gb zs at_ = 131 ∨ gb zs at_ = 137
        · rw [if_pos h, rtE_yes h]
        · rw [if_neg h, rtE_no h]
      rw [← s3] at hc
      rcases hks with ⟨et, rfl⟩ | ⟨v, et, em⟩
      · clear s1 s4
        right
        refine ⟨by omega, ?tG1, ?mG1, ?aG1, ?bG1, ?cG1, ?dG1⟩
        case aG1 =>
          simp -implicitDefEqProofs [ec, e0, q1, n0, n1, b0, splice, k0, k0e, k0n, k1, k1e, w1, q3, q3e, n2, n3, n4, n5, b1, hd, k2, w2, w3, q5, s2, et]
          constructor
          · exact rfl
          · exact rfl
        case bG1 =>
          repeat' refine Kept.upd ?_ (by decide) _
          exact hk
        case cG1 =>
          repeat' refine KeptM.upd ?_ (by decide) _
          exact hm
        case dG1 => exact ⟨at_ + d, [] ++ [gb zs at_], by simp, .inr ⟨verNext m 32, by simp [verNext], by simp [verNext, B8_cons', B8_nil1]⟩, by simp at hkl ⊢; omega, by omega, by omega, by rw [show 41 - (j + 1) = 40 - j by omega]; exact hc⟩
      · 
        right
        refine ⟨by omega, ?tG2, ?mG2, ?aG2, ?bG2, ?cG2, ?dG2⟩
        case aG2 =>
          simp -implicitDefEqProofs [ec, e0, q1, n0, n1, b0, splice, k0, k0e, k0n, s1, s2, s4, k1, k1e, w1, q3, q3e, n2, n3, n4, n5, b1, hd, k2, w2, w3, q5, et, em]
          constructor
          · exact rfl
          · exact rfl
        case bG2 =>
          repeat' refine Kept.upd ?_ (by decide) _
          exact hk
        case cG2 =>
          repeat' refine KeptM.upd ?_ (by decide) _
          exact hm
        case dG2 => exact ⟨at_ + d, ks ++ [gb zs at_], by simp, .inr ⟨v + 1, by simp, by simp⟩, by simp; omega, by omega, by omega, by rw [show 41 - (j + 1) = 40 - j by omega]; exact hc⟩)
  rcases hQ with ⟨rfl, ks, hks, hkl, hre⟩ | ⟨rfl, h2⟩
  case inr => simp -implicitDefEqProofs [h2]
  rcases hks with ⟨et, rfl⟩ | ⟨v, et, em⟩
  · have : R0 = 0 := by rw [← hre]; rfl
    simp -implicitDefEqProofs [et, this, loopK_pos]
  simp -implicitDefEqProofs [et]
  generalize hL2 : loopK _ _ _ _ _ _ _ _ _ ⟨_, _⟩ = R
  obtain ⟨e, t2, rfl, hk2, hQ2⟩ := loop_met4 hL2 [2, 5, 65, 66, 67, 68, 69, 70, 71, 72, 73, 74, 75, 76, 77, 78, 79, 80, 81, 82] 
    (fun j t => t 5 = .v (.int .i64 (j : Int)) ∧ rtB (ks.take j) = false)
    (fun e t => (e = .exit 2 ∧ rtB ks = false) ∨ (e = .ret ∧ t 2 = .v (.int .i64 12) ∧ rtB ks = true)) ks.length (by omega) ⟨by simp, by simp [rtB]⟩
    (fun j t hj hk2 ⟨ec, hrt⟩ => by
      have e3 := hk2 3 (by decide)
      simp [et] at e3
      by_cases hq : j = ks.length
      · left
        subst hq
        refine ⟨.exit 2, ?tX, by simp, ?aX, ?bX, .inl ⟨rfl, by rwa [List.take_length] at hrt⟩⟩
        case aX =>
          simp -implicitDefEqProofs [ec, e3]
          exact rfl
        case bX =>
          repeat' refine Kept.upd ?_ (by decide) _
          exact hk2
      have j1 : (j : Int) < (ks.length : Int) := by omega
      have j2 : j ≤ ks.length := by omega
      have j3 : j < ks.length := by omega
      have j4 := B8_at0 ks j j3
      have j6 : IntKind.i64.wrap ((j : Int) + 1) = ((j + 1 : Nat) : Int) := by rw [wrap64_id (by omega) (by omega)]; omega
      have hin : gb ks j ∈ ks := by
        have := List.getElem_mem (l := ks) j3
        unfold gb
        rw [List.getD_eq_getElem?_getD, List.getElem?_eq_getElem j3]
        exact this
      by_cases k3 : gb ks j = 131
      · left
        refine ⟨.ret, ?tY, by simp, ?aY, ?bY, ?dY⟩
        case aY =>
          simp -implicitDefEqProofs [ec, e3, em, j1, j2, j3, j4, k3]
          exact rfl
        case bY =>
          repeat' refine Kept.upd ?_ (by decide) _
          exact hk2
        case dY => exact .inr ⟨rfl, by simp, List.any_eq_true.2 ⟨_, hin, by simp [k3]⟩⟩
      have k3e : (gb ks j == 131) = false := by simp [k3]
      by_cases k4 : gb ks j = 137
      · left
        refine ⟨.ret, ?tZ, by simp, ?aZ, ?bZ, ?dZ⟩
        case aZ =>
          simp -implicitDefEqProofs [ec, e3, em, j1, j2, j3, j4, k3, k3e, k4]
          exact rfl
        case bZ =>
          repeat' refine Kept.upd ?_ (by decide) _
          exact hk2
        case dZ => exact .inr ⟨rfl, by simp, List.any_eq_true.2 ⟨_, hin, by simp [k4]⟩⟩
      have k4e : (gb ks j == 137) = false := by simp [k4]
      right
      refine ⟨by omega, ?tW, ?aW, ?bW, ?dW⟩
      case aW =>
        simp -implicitDefEqProofs [ec, e3, em, j1, j2, j3, j4, j6, k3, k3e, k4, k4e]
        exact rfl
      case bW =>
        repeat' refine Kept.upd ?_ (by decide) _
        exact hk2
      case dW => exact ⟨by simp, by rw [← take_snoc j3, rtB_snoc, hrt, k3e, k4e]; rfl⟩)
  rcases hQ2 with ⟨rfl, h3⟩ | ⟨rfl, h2, h3⟩
  · have : R0 = 0 := by rw [← hre]; unfold rtE; rw [h3]; rfl
    simp -implicitDefEqProofs [this]
  · have : R0 = 12 := by rw [← hre]; unfold rtE; rw [h3]; rfl
    simp -implicitDefEqProofs [h2, this]
end Go.Proofs.Ytmdafjegddnecaa

/- ip4.check and ip4.Read as functions of values. -/
namespace Go.Proofs.Ytmdafjegddnecaa
open Go.Pm Go.Wb
set_option linter.unusedVariables false
set_option linter.unusedSimpArgs false
set_option maxRecDepth 1000000
theorem runF_plain {P : Program} {K : FuncId → Option Con} {D : FuncId → Nat → List Nat} {L d : Nat} {f : FuncId} {args : List AV} {x : Value} (h : (pvCall P K D L d 0 f args (fun _ => none)).map (·.1) = some (.v x)) : runF P K D L d f args = some (.v x, []) := by
  obtain ⟨⟨y, m'⟩, h1, h2⟩ := Option.map_eq_some_iff.1 h
  simp only at h2
  subst h2
  unfold runF
  rw [h1]
  simp
def fOpt : Fun := fun args => match args.map AV.norm with
  | [.sl nn b len cap] => (asB8 b).bind fun zs => if zs.length = len ∧ len ≤ 9223372036854775807 ∧ bytesB zs = true then some (.v (.int .i64 (optE zs)), []) else none
  | _ => none
theorem opt_pure : Pure Try.prog 99 fOpt := ((runF_pure k0_ok follows_mixed dm_ok 100000 1 99).norm).weaken fun args r h => by
  unfold fOpt at h
  generalize args.map AV.norm = args at h ⊢
  split at h
  · rename_i nn b len cap
    obtain ⟨zs, hz, he⟩ := Option.bind_eq_some_iff.1 h
    clear h
    split at he
    case isFalse => cases he
    rename_i hh
    obtain ⟨rfl, h1, h2⟩ := hh
    obtain rfl := asB8_eq hz
    rw [← he]
    exact opt_run zs nn cap h2 h1
  · cases h
theorem ropt_pure : Pure Try.prog 160 fOpt := ((runF_pure k0_ok follows_mixed dm_ok 100000 1 160).norm).weaken fun args r h => by
  unfold fOpt at h
  generalize args.map AV.norm = args at h ⊢
  split at h
  · rename_i nn b len cap
    obtain ⟨zs, hz, he⟩ := Option.bind_eq_some_iff.1 h
    clear h
    split at he
    case isFalse => cases he
    rename_i hh
    obtain ⟨rfl, h1, h2⟩ := hh
    obtain rfl := asB8_eq hz
    rw [← he]
    exact runF_plain (ropt_run zs nn cap h2 h1)
  · cases h
def KE : Nat → Option Con
  | 99 => some fOpt
  | 160 => some fOpt
  | 101 => some fOf
  | 142 => some fOf
  | 114 => some fWord4
  | 159 => some fWord4
  | 161 => some fAddr
  | 66 => some fClone
  | _ => none
theorem ke_ok : KOk Try.prog KE := fun f F h => by
  unfold KE at h
  split at h
  · cases h; exact ⟨opt_pure, _, Try.func99, rfl, by decide⟩
  · cases h; exact ⟨ropt_pure, _, Try.func160, rfl, by decide⟩
  · cases h; exact ⟨of_pure, _, Try.func101, rfl, by decide⟩
  · cases h; exact ⟨rof_pure, _, Try.func142, rfl, by decide⟩
  · cases h; exact ⟨word4_pure, _, Try.func114, rfl, by decide⟩
  · cases h; exact ⟨two4_pure, _, Try.func159, rfl, by decide⟩
  · cases h; exact ⟨addr_pure, _, Try.func161, rfl, by decide⟩
  · cases h; exact ⟨clone_pure, _, Try.func66, rfl, by decide⟩
  · cases h
section
variable {D : FuncId → Nat → List Nat} {L d px : Nat} {args : List AV} {m : Mem}
theorem ce_opt : pvCall Try.prog KE D L d px 99 args m = callBy fOpt m px args := pvCall_by rfl
theorem ce_ropt : pvCall Try.prog KE D L d px 160 args m = callBy fOpt m px args := pvCall_by rfl
theorem ce_of : pvCall Try.prog KE D L d px 101 args m = callBy fOf m px args := pvCall_by rfl
theorem ce_rof : pvCall Try.prog KE D L d px 142 args m = callBy fOf m px args := pvCall_by rfl
theorem ce_word : pvCall Try.prog KE D L d px 114 args m = callBy fWord4 m px args := pvCall_by rfl
theorem ce_two : pvCall Try.prog KE D L d px 159 args m = callBy fWord4 m px args := pvCall_by rfl
theorem ce_addr : pvCall Try.prog KE D L d px 161 args m = callBy fAddr m px args := pvCall_by rfl
theorem ce_clone : pvCall Try.prog KE D L d px 66 args m = callBy fClone m px args := pvCall_by rfl
end
theorem ke_opt : KE 99 = some (.pure fOpt) := rfl
theorem ke_ropt : KE 160 = some (.pure fOpt) := rfl
theorem ke_of : KE 101 = some (.pure fOf) := rfl
theorem ke_rof : KE 142 = some (.pure fOf) := rfl
theorem ke_word : KE 114 = some (.pure fWord4) := rfl
theorem ke_two : KE 159 = some (.pure fWord4) := rfl
theorem ke_addr : KE 161 = some (.pure fAddr) := rfl
theorem ke_clone : KE 66 = some (.pure fClone) := rfl
attribute [simp] ce_opt ke_opt ce_ropt ke_ropt ce_of ke_of ce_rof ke_rof ce_word ke_word ce_two ke_two ce_addr ke_addr ce_clone ke_clone
theorem and_pow (a i : Nat) : a &&& 2 ^ i = if a.testBit i = true then 2 ^ i else 0 := by
  apply Nat.eq_of_testBit_eq
  intro j
  rw [Nat.testBit_and, Nat.testBit_two_pow]
  by_cases h : i = j
  · subst h
    by_cases h2 : a.testBit i = true
    · rw [if_pos h2, Nat.testBit_two_pow]; simp [h2]
    · rw [if_neg h2]; simp [h2]
  · by_cases h2 : a.testBit i = true
    · rw [if_pos h2, Nat.testBit_two_pow]; simp [h]
    · rw [if_neg h2]; simp [h]
theorem and15 (z : Int) (h0 : 0 ≤ z) (h1 : z ≤ 65535) : bits .and .i64 z 32768 = if 32768 ≤ z then 32768 else 0 := by
  obtain ⟨a, rfl⟩ := Int.eq_ofNat_of_zero_le h0
  rw [show (32768 : Int) = ((2 ^ 15 : Nat) : Int) from rfl, i64_and_nat _ _ (by omega) (by omega), and_pow, Nat.testBit_eq_decide_div_mod_eq]
  by_cases h : a / 2 ^ 15 % 2 = 1
  · rw [decide_eq_true h, if_pos rfl, if_pos (by omega)]
  · rw [decide_eq_false h, if_neg (by simp), if_neg (by omega)]; rfl
theorem and14 (z : Int) (h0 : 0 ≤ z) (h1 : z ≤ 65535) : bits .and .i64 z 16384 = if 16384 ≤ z % 32768 then 16384 else 0 := by
  obtain ⟨a, rfl⟩ := Int.eq_ofNat_of_zero_le h0
  rw [show (16384 : Int) = ((2 ^ 14 : Nat) : Int) from rfl, i64_and_nat _ _ (by omega) (by omega), and_pow, Nat.testBit_eq_decide_div_mod_eq]
  by_cases h : a / 2 ^ 14 % 2 = 1
  · rw [decide_eq_true h, if_pos rfl, if_pos (by omega)]
  · rw [decide_eq_false h, if_neg (by simp), if_neg (by omega)]; rfl
theorem and13 (z : Int) (h0 : 0 ≤ z) (h1 : z ≤ 65535) : bits .and .i64 z 16383 = z % 16384 := by
  obtain ⟨a, rfl⟩ := Int.eq_ofNat_of_zero_le h0
  rw [show (16383 : Int) = ((2 ^ 14 - 1 : Nat) : Int) from rfl, i64_and_nat _ _ (by omega) (by omega), Nat.and_two_pow_sub_one_eq_mod]
  omega
/-- A header's length by its first byte. -/
def hl4 (zs : List Int) : Nat := (4 * (gb zs 0 % 16)).toNat
/-- What is wrong with a packet's bytes: 0 if nothing is. -/
def chk4 (zs : List Int) : Int :=
  if zs.length < 20 then 4 else if ¬ gb zs 0 / 16 = 4 ∨ hl4 zs < 20 then 5 else if zs.length < hl4 zs then 4 else if ¬ ofV (zs.take (hl4 zs)) = 0 then 6 else
  if w16 zs 2 < hl4 zs then 5 else if (zs.length : Int) < w16 zs 2 then 4 else if 32768 ≤ w16 zs 6 then 5 else if ¬ optE ((zs.drop 20).take (hl4 zs - 20)) = 0 then optE ((zs.drop 20).take (hl4 zs - 20)) else if ¬ w16 zs 6 % 16384 = 0 then 11 else 0
theorem hl4_range {zs : List Int} (hz : bytesB zs = true) : (hl4 zs : Int) = 4 * (gb zs 0 % 16) ∧ hl4 zs ≤ 60 := by
  have := gb_range hz 0
  unfold hl4; omega
set_option maxHeartbeats 32000000 in
theorem check_run (zs : List Int) (nn : Bool) (cap : Option Nat) (hz : bytesB zs = true) (hl : zs.length ≤ 500000) : runF Try.prog KE Dm 100000 1 113 [.sl nn (B8 zs) zs.length cap] = some (.v (.int .i64 (chk4 zs)), []) := by
  unfold runF chk4
  rw [pvCall_own (fn := Try.f113) rfl Try.func113 rfl (by decide) rfl rfl (by simp)]
  by_cases h20 : zs.length < 20
  · have i20 : (zs.length : Int) < 20 := by omega
    rw [if_pos h20]
    simp -implicitDefEqProofs [i20]
  rw [if_neg h20]
  have i20 : ¬ (zs.length : Int) < 20 := by omega
  have a0 := B8_at00 zs (by omega)
  have l0 : 0 < zs.length := by omega
  have i0 : (0 : Int) < (zs.length : Int) := by omega
  have g0 := gb_range hz 0
  have n4 := and15v (gb zs 0) g0.1 g0.2
  have w0 : IntKind.i64.wrap (gb zs 0 % 16) = gb zs 0 % 16 := wrap64_id (by omega) (by omega)
  obtain ⟨e1, e2⟩ := hl4_range hz
  have w1 : IntKind.i64.wrap (4 * (gb zs 0 % 16)) = (hl4 zs : Int) := by rw [wrap64_id (by omega) (by omega)]; omega
  have s1 : (gb zs 0).fdiv 16 = gb zs 0 / 16 := Int.fdiv_eq_ediv_of_nonneg _ (by omega)
  generalize hl4 zs = n at *
  by_cases h1 : gb zs 0 / 16 = 4
  case neg =>
    have h1n : (gb zs 0 / 16 != 4) = true := by simp [h1]
    have h1e : (gb zs 0 / 16 == 4) = false := by simp [h1]
    rw [if_pos (.inl h1)]
    simp -implicitDefEqProofs [i20, a0, l0, i0, n4, w0, w1, s1, h1, h1n, h1e, IntKind.bits]
  by_cases h2 : n < 20
  · have h2i : (n : Int) < 20 := by omega
    rw [if_pos (.inr h2)]
    simp -implicitDefEqProofs [i20, a0, l0, i0, n4, w0, w1, s1, h1, h2, h2i, IntKind.bits]
  rw [if_neg (by omega)]
  have h2i : ¬ (n : Int) < 20 := by omega
  by_cases h3 : zs.length < n
  · have h3i : (zs.length : Int) < (n : Int) := by omega
    rw [if_pos h3]
    simp -implicitDefEqProofs [i20, a0, l0, i0, n4, w0, w1, s1, h1, h2, h2i, h3i, IntKind.bits]
  rw [if_neg h3]
  have h3i : ¬ (zs.length : Int) < (n : Int) := by omega
  have r1 : (n : Int) ≤ (zs.length : Int) := by omega
  have r2 : n ≤ zs.length := by omega
  have r3 : n ≤ 1099511627776 := by omega
  have r4 : bytesB (zs.take n) = true := bytesB_take hz n
  have r5 : min n zs.length = n := by omega
  have r6 := w16_range (bytesB_iff.1 hz) 2
  have r7 := w16_range (bytesB_iff.1 hz) 6
  have r8 : zs.length ≤ 1099511627776 := by omega
  have r9 : (2 : Int) + 1 < (zs.length : Int) := by omega
  have r10 : (6 : Int) + 1 < (zs.length : Int) := by omega
  have r11 : (3 : Int) < (zs.length : Int) := by omega
  have r12 : (7 : Int) < (zs.length : Int) := by omega
  have r13 : (20 : Int) ≤ (n : Int) := by omega
  have r14 : ((zs.drop 20).take (n - 20)).length = n - 20 := by simp; omega
  have r15 : n - 20 ≤ 9223372036854775807 := by omega
  have r16 : bytesB ((zs.drop 20).take (n - 20)) = true := bytesB_take (bytesB_drop hz _) _
  have r17 : 20 ≤ n := by omega
  have c15 := and15 (w16 zs 6) r7.1 r7.2
  have c13 := and13 (w16 zs 6) r7.1 r7.2
  by_cases h4 : ofV (zs.take n) = 0
  case neg =>
    have h4n : (ofV (zs.take n) != 0) = true := by simp [h4]
    have h4e : (ofV (zs.take n) == 0) = false := by simp [h4]
    rw [if_pos h4]
    simp -implicitDefEqProofs [i20, a0, l0, i0, n4, w0, w1, s1, h1, h2, h2i, h3i, r1, r2, r3, r4, r5, r8, r9, r10, r11, r12, r13, r14, r15, r16, r17, hz, fOf, fWord4, fOpt, IntKind.bits, h4, h4n, h4e]
  rw [if_neg (by simpa using h4)]
  by_cases h5 : w16 zs 2 < (n : Int)
  · rw [if_pos h5]
    simp -implicitDefEqProofs [i20, a0, l0, i0, n4, w0, w1, s1, h1, h2, h2i, h3i, r1, r2, r3, r4, r5, r8, r9, r10, r11, r12, r13, r14, r15, r16, r17, hz, fOf, fWord4, fOpt, IntKind.bits, h4, h5]
  rw [if_neg h5]
  by_cases h6 : (zs.length : Int) < w16 zs 2
  · rw [if_pos h6]
    simp -implicitDefEqProofs [i20, a0, l0, i0, n4, w0, w1, s1, h1, h2, h2i, h3i, r1, r2, r3, r4, r5, r8, r9, r10, r11, r12, r13, r14, r15, r16, r17, hz, fOf, fWord4, fOpt, IntKind.bits, h4, h5, h6]
  rw [if_neg h6]
  by_cases h7 : 32768 ≤ w16 zs 6
  · rw [if_pos h7]
    rw [if_pos h7] at c15
    simp -implicitDefEqProofs [i20, a0, l0, i0, n4, w0, w1, s1, h1, h2, h2i, h3i, r1, r2, r3, r4, r5, r8, r9, r10, r11, r12, r13, r14, r15, r16, r17, hz, fOf, fWord4, fOpt, IntKind.bits, h4, h5, h6, c15]
  rw [if_neg h7]
  rw [if_neg h7] at c15
  by_cases h8 : optE ((zs.drop 20).take (n - 20)) = 0
  case neg =>
    have h8n : (optE ((zs.drop 20).take (n - 20)) != 0) = true := by simp [h8]
    have h8e : (optE ((zs.drop 20).take (n - 20)) == 0) = false := by simp [h8]
    rw [if_pos h8]
    simp -implicitDefEqProofs [i20, a0, l0, i0, n4, w0, w1, s1, h1, h2, h2i, h3i, r1, r2, r3, r4, r5, r8, r9, r10, r11, r12, r13, r14, r15, r16, r17, hz, fOf, fWord4, fOpt, IntKind.bits, h4, h5, h6, c15, h8, h8n, h8e]
  rw [if_neg (by simpa using h8)]
  by_cases h9 : w16 zs 6 % 16384 = 0
  case neg =>
    have h9n : (w16 zs 6 % 16384 != 0) = true := by simp [h9]
    have h9e : (w16 zs 6 % 16384 == 0) = false := by simp [h9]
    rw [if_pos h9]
    simp -implicitDefEqProofs [i20, a0, l0, i0, n4, w0, w1, s1, h1, h2, h2i, h3i, r1, r2, r3, r4, r5, r8, r9, r10, r11, r12, r13, r14, r15, r16, r17, hz, fOf, fWord4, fOpt, IntKind.bits, h4, h5, h6, c15, c13, h8, h9, h9n, h9e]
  rw [if_neg (by simpa using h9)]
  simp -implicitDefEqProofs [i20, a0, l0, i0, n4, w0, w1, s1, h1, h2, h2i, h3i, r1, r2, r3, r4, r5, r8, r9, r10, r11, r12, r13, r14, r15, r16, r17, hz, fOf, fWord4, fOpt, IntKind.bits, h4, h5, h6, c15, c13, h8, h9]
end Go.Proofs.Ytmdafjegddnecaa

/- ip4.Read as a function of values. -/
namespace Go.Proofs.Ytmdafjegddnecaa
open Go.Pm Go.Wb
set_option linter.unusedVariables false
set_option linter.unusedSimpArgs false
set_option maxRecDepth 1000000
def fCheck : Fun
  | [.sl nn b len cap] => (asB8 b).bind fun zs => if zs.length = len ∧ len ≤ 500000 ∧ bytesB zs = true then some (.v (.int .i64 (chk4 zs)), []) else none
  | _ => none
theorem check_pure : Pure Try.prog 113 fCheck := (runF_pure ke_ok follows_mixed dm_ok 100000 1 113).weaken fun args r h => by
  unfold fCheck at h
  split at h
  · rename_i nn b len cap
    obtain ⟨zs, hz, he⟩ := Option.bind_eq_some_iff.1 h
    clear h
    split at he
    case isFalse => cases he
    rename_i hh
    obtain ⟨rfl, h1, h2⟩ := hh
    obtain rfl := asB8_eq hz
    rw [← he]
    exact check_run zs nn cap h2 h1
  · cases h
def KG : Nat → Option Con
  | 113 => some fCheck
  | 99 => some fOpt
  | 160 => some fOpt
  | 101 => some fOf
  | 142 => some fOf
  | 114 => some fWord4
  | 159 => some fWord4
  | 161 => some fAddr
  | 66 => some fClone
  | _ => none
theorem kg_ok : KOk Try.prog KG := fun f F h => by
  unfold KG at h
  split at h
  · cases h; exact ⟨check_pure, _, Try.func113, rfl, by decide⟩
  · cases h; exact ⟨opt_pure, _, Try.func99, rfl, by decide⟩
  · cases h; exact ⟨ropt_pure, _, Try.func160, rfl, by decide⟩
  · cases h; exact ⟨of_pure, _, Try.func101, rfl, by decide⟩
  · cases h; exact ⟨rof_pure, _, Try.func142, rfl, by decide⟩
  · cases h; exact ⟨word4_pure, _, Try.func114, rfl, by decide⟩
  · cases h; exact ⟨two4_pure, _, Try.func159, rfl, by decide⟩
  · cases h; exact ⟨addr_pure, _, Try.func161, rfl, by decide⟩
  · cases h; exact ⟨clone_pure, _, Try.func66, rfl, by decide⟩
  · cases h
section
variable {D : FuncId → Nat → List Nat} {L d px : Nat} {args : List AV} {m : Mem}
theorem cg_check : pvCall Try.prog KG D L d px 113 args m = callBy fCheck m px args := pvCall_by rfl
theorem cg_opt : pvCall Try.prog KG D L d px 99 args m = callBy fOpt m px args := pvCall_by rfl
theorem cg_ropt : pvCall Try.prog KG D L d px 160 args m = callBy fOpt m px args := pvCall_by rfl
theorem cg_of : pvCall Try.prog KG D L d px 101 args m = callBy fOf m px args := pvCall_by rfl
theorem cg_rof : pvCall Try.prog KG D L d px 142 args m = callBy fOf m px args := pvCall_by rfl
theorem cg_word : pvCall Try.prog KG D L d px 114 args m = callBy fWord4 m px args := pvCall_by rfl
theorem cg_two : pvCall Try.prog KG D L d px 159 args m = callBy fWord4 m px args := pvCall_by rfl
theorem cg_addr : pvCall Try.prog KG D L d px 161 args m = callBy fAddr m px args := pvCall_by rfl
theorem cg_clone : pvCall Try.prog KG D L d px 66 args m = callBy fClone m px args := pvCall_by rfl
end
theorem kg_check : KG 113 = some (.pure fCheck) := rfl
theorem kg_opt : KG 99 = some (.pure fOpt) := rfl
theorem kg_ropt : KG 160 = some (.pure fOpt) := rfl
theorem kg_of : KG 101 = some (.pure fOf) := rfl
theorem kg_rof : KG 142 = some (.pure fOf) := rfl
theorem kg_word : KG 114 = some (.pure fWord4) := rfl
theorem kg_two : KG 159 = some (.pure fWord4) := rfl
theorem kg_addr : KG 161 = some (.pure fAddr) := rfl
theorem kg_clone : KG 66 = some (.pure fClone) := rfl
attribute [simp] cg_check kg_check cg_opt kg_opt cg_ropt kg_ropt cg_of kg_of cg_rof kg_rof cg_word kg_word cg_two kg_two cg_addr kg_addr cg_clone kg_clone
def ip4A (tos id : Int) (df : Bool) (ttl pr : Int) (ss ds : List Int) (c : AV) : AV := .agg (.v (.int .u8 tos) :: .v (.int .u16 id) :: .v (.bool df) :: .v (.int .u8 ttl) :: .v (.int .u8 pr) :: (B8 ss ++ (B8 ds ++ [c])))
def zz16 : List Int := [0, 0, 0, 0, 0, 0, 0, 0, 0, 0, 0, 0, 0, 0, 0, 0]
def noH4 : AV := ip4A 0 0 false 0 0 zz16 zz16 (.v (.slice none 0 0))
def err4 (e : Int) : AV × List (List AV) := (.tup [noH4, .v (.slice none 0 0), .v (.int .i64 e)], [])
def ip4R (zs : List Int) (n T : Nat) : AV × List (List AV) :=
  (.tup [ip4A (gb zs 1) (w16 zs 4) (decide (16384 ≤ w16 zs 6)) (gb zs 8) (gb zs 9) (ad4 (zs.drop 12)) (ad4 (zs.drop 16)) (.own 0 0 0 (n - 20) 1 (.whole 5)), .own 1 0 0 (T - n) 1 (.whole 5), .v (.int .i64 0)],
    [B8 ((zs.drop 20).take (n - 20)), B8 ((zs.drop n).take (T - n))])
def Ok4 (zs : List Int) : Prop := 20 ≤ zs.length ∧ gb zs 0 / 16 = 4 ∧ 20 ≤ hl4 zs ∧ hl4 zs ≤ zs.length ∧ ofV (zs.take (hl4 zs)) = 0 ∧ (hl4 zs : Int) ≤ w16 zs 2 ∧ w16 zs 2 ≤ (zs.length : Int) ∧ w16 zs 6 < 32768 ∧ optE ((zs.drop 20).take (hl4 zs - 20)) = 0 ∧ w16 zs 6 % 16384 = 0
theorem chk4_ok {zs : List Int} (h : chk4 zs = 0) : Ok4 zs := by
  unfold chk4 at h
  split at h
  · simp at h
  split at h
  · simp at h
  split at h
  · simp at h
  split at h
  · simp at h
  split at h
  · simp at h
  split at h
  · simp at h
  split at h
  · simp at h
  split at h
  · rename_i q; exact absurd h q
  split at h
  · simp at h
  rename_i q1 q2 q3 q4 q5 q6 q7 q8 q9
  exact ⟨by omega, by omega, by omega, by omega, by simpa using q4, by omega, by omega, by omega, by simpa using q8, by simpa using q9⟩
theorem ok4_chk {zs : List Int} (h : Ok4 zs) : chk4 zs = 0 := by
  obtain ⟨h1, h2, h3, h4, h5, h6, h7, h8, h9, h10⟩ := h
  unfold chk4
  rw [if_neg (by omega), if_neg (by omega), if_neg (by omega), if_neg (by simpa using h5), if_neg (by omega), if_neg (by omega), if_neg (by omega), if_neg (by simpa using h9), if_neg (by simpa using h10)]
theorem take4_eq {zs : List Int} (h : 4 ≤ zs.length) : zs.take 4 = [gb zs 0, gb zs 1, gb zs 2, gb zs 3] := by
  match zs, h with
  | a :: b :: c :: d :: r, _ => rfl
theorem B8c (z : Int) (zs : List Int) : B8 (z :: zs) = .v (.int .u8 z) :: B8 zs := rfl
theorem B8n : B8 [] = [] := rfl
set_option maxHeartbeats 16000000 in
theorem pip4_err (zs : List Int) (nn : Bool) (cap : Option Nat) (hz : bytesB zs = true) (hl : zs.length ≤ 500000) (h : ¬ chk4 zs = 0) : runF Try.prog KG Dm 100000 1 52 [.sl nn (B8 zs) zs.length cap] = some (err4 (chk4 zs)) := by
  have hn : (chk4 zs != 0) = true := by simp [h]
  unfold runF err4 noH4 ip4A zz16
  rw [pvCall_own (fn := Try.f52) rfl Try.func52 rfl (by decide) rfl rfl (by simp)]
  simp -implicitDefEqProofs [h, hn, hz, hl, fCheck, splice, B8c, B8n]
set_option maxHeartbeats 16000000 in
theorem pip4_ok (zs : List Int) (nn : Bool) (cap : Option Nat) (hz : bytesB zs = true) (hl : zs.length ≤ 500000) (h : chk4 zs = 0) : runF Try.prog KG Dm 100000 1 52 [.sl nn (B8 zs) zs.length cap] = some (ip4R zs (hl4 zs) (w16 zs 2).toNat) := by
  obtain ⟨h20, h4, hn, hnl, hof, hT, hTl, h6, hop, hfr⟩ := chk4_ok h
  have r2 := w16_range (bytesB_iff.1 hz) 2
  have r6 := w16_range (bytesB_iff.1 hz) 6
  have r4 := w16_range (bytesB_iff.1 hz) 4
  obtain ⟨e1, e2⟩ := hl4_range hz
  have g0 := gb_range hz 0
  have n4 := and15v (gb zs 0) g0.1 g0.2
  have w0 : IntKind.i64.wrap (gb zs 0 % 16) = gb zs 0 % 16 := wrap64_id (by omega) (by omega)
  have w1 : IntKind.i64.wrap (4 * (gb zs 0 % 16)) = (hl4 zs : Int) := by rw [wrap64_id (by omega) (by omega)]; omega
  have w1' : IntKind.i64.wrap (gb zs 0 % 16 * 4) = (hl4 zs : Int) := by rw [wrap64_id (by omega) (by omega)]; omega
  have s1 : (gb zs 0).fdiv 16 = gb zs 0 / 16 := Int.fdiv_eq_ediv_of_nonneg _ (by omega)
  have w4 : IntKind.u16.wrap (w16 zs 4) = w16 zs 4 := wrapu16_id (by omega) (by omega)
  obtain ⟨T, hTe⟩ := Int.eq_ofNat_of_zero_le r2.1
  generalize hl4 zs = n at *
  rw [hTe] at hT hTl ⊢
  simp only [Int.toNat_natCast]
  have hT' : n ≤ T := by omega
  have hTl' : T ≤ zs.length := by omega
  have a0 := B8_at00 zs (by omega)
  have a1 := B8_at0 zs 1 (by omega)
  have a8 := B8_at0 zs 8 (by omega)
  have a9 := B8_at0 zs 9 (by omega)
  have l0 : 0 < zs.length := by omega
  have l1 : 1 < zs.length := by omega
  have l8 : 8 < zs.length := by omega
  have l9 : 9 < zs.length := by omega
  have i0 : (0 : Int) < (zs.length : Int) := by omega
  have i1 : (1 : Int) < (zs.length : Int) := by omega
  have i8 : (8 : Int) < (zs.length : Int) := by omega
  have i9 : (9 : Int) < (zs.length : Int) := by omega
  have i3 : (3 : Int) < (zs.length : Int) := by omega
  have i5 : (5 : Int) < (zs.length : Int) := by omega
  have i7 : (7 : Int) < (zs.length : Int) := by omega
  have k1 : zs.length ≤ 1099511627776 := by omega
  have k2 : (12 : Int) ≤ (zs.length : Int) := by omega
  have k3 : (16 : Int) ≤ (zs.length : Int) := by omega
  have k4 : (20 : Int) ≤ (n : Int) := by omega
  have k5 : (n : Int) ≤ (zs.length : Int) := by omega
  have k6 : (n : Int) ≤ (T : Int) := by omega
  have k7 : (T : Int) ≤ (zs.length : Int) := by omega
  have k8 : 12 ≤ zs.length := by omega
  have k9 : 16 ≤ zs.length := by omega
  have k10 : min (n - 20) (zs.length - 20) = n - 20 := by omega
  have k11 : min (T - n) (zs.length - n) = T - n := by omega
  have k12 : n - 20 ≤ 549755813888 := by omega
  have k13 : T - n ≤ 549755813888 := by omega
  have k14 : n ≤ 549755813908 := by omega
  have k15 : T ≤ 549755813888 + n := by omega
  have k16 : n - 20 ≤ zs.length - 20 := by omega
  have k17 : T - n ≤ zs.length - n := by omega
  have k18 : min 4 (zs.length - 12) = 4 := by omega
  have k19 : min 4 (zs.length - 16) = 4 := by omega
  have k20 : 4 ≤ zs.length - 12 := by omega
  have k21 : 4 ≤ zs.length - 16 := by omega
  have k22 : 20 ≤ n := hn
  have k23 : n ≤ zs.length := hnl
  have x1 : (zs.drop 12).take 4 = [gb zs 12, gb zs 13, gb zs 14, gb zs 15] := by rw [take4_eq (by simp; omega), gb_drop, gb_drop, gb_drop, gb_drop]
  have x2 : (zs.drop 16).take 4 = [gb zs 16, gb zs 17, gb zs 18, gb zs 19] := by rw [take4_eq (by simp; omega), gb_drop, gb_drop, gb_drop, gb_drop]
  have x3 : (zs.drop 12).take (zs.length - 12) = zs.drop 12 := List.take_of_length_le (by simp)
  have x4 : (zs.drop 16).take (zs.length - 16) = zs.drop 16 := List.take_of_length_le (by simp)
  have x5 : ((zs.drop 20).take (n - 20)).take (n - 20) = (zs.drop 20).take (n - 20) := List.take_of_length_le (by simp; omega)
  have x6 : ((zs.drop n).take (T - n)).take (T - n) = (zs.drop n).take (T - n) := List.take_of_length_le (by simp; omega)
  have m4 := and14 (w16 zs 6) r6.1 r6.2
  have m5 : (if 16384 ≤ w16 zs 6 % 32768 then (16384 : Int) else 0) = if 16384 ≤ w16 zs 6 then 16384 else 0 := by
    by_cases q : 16384 ≤ w16 zs 6
    · rw [if_pos q, if_pos (by omega)]
    · rw [if_neg q, if_neg (by omega)]
  rw [m5] at m4
  unfold runF ip4R ip4A
  rw [pvCall_own (fn := Try.f52) rfl Try.func52 rfl (by decide) rfl rfl (by simp)]
  by_cases q : 16384 ≤ w16 zs 6
  · rw [if_pos q] at m4
    simp -implicitDefEqProofs [h, hz, hl, fCheck, fWord4, fClone, fAddr, n4, w0, w1, w1', s1, w4, hTe, hT', hTl', a0, a1, a8, a9, l0, l1, l8, l9, i0, i1, i8, i9, i3, i5, i7, k1, k2, k3, k4, k5, k6, k7, k8, k9, k10, k11, k12, k13, k14, k15, k16, k17, k18, k19, k20, k21, k22, k23, x1, x2, x3, x4, x5, x6, ad4, gb_drop, B8c, B8n, splice, IntKind.bits, Nat.testBit_eq_decide_div_mod_eq, m4, q]
  · rw [if_neg q] at m4
    simp -implicitDefEqProofs [h, hz, hl, fCheck, fWord4, fClone, fAddr, n4, w0, w1, w1', s1, w4, hTe, hT', hTl', a0, a1, a8, a9, l0, l1, l8, l9, i0, i1, i8, i9, i3, i5, i7, k1, k2, k3, k4, k5, k6, k7, k8, k9, k10, k11, k12, k13, k14, k15, k16, k17, k18, k19, k20, k21, k22, k23, x1, x2, x3, x4, x5, x6, ad4, gb_drop, B8c, B8n, splice, IntKind.bits, Nat.testBit_eq_decide_div_mod_eq, m4, q]
end Go.Proofs.Ytmdafjegddnecaa

/- The reference's reader of IPv4 as a function of values. -/
namespace Go.Proofs.Ytmdafjegddnecaa
open Go.Pm Go.Wb
set_option linter.unusedVariables false
set_option linter.unusedSimpArgs false
set_option maxRecDepth 1000000
theorem w84 : IntKind.u8.wrap 4 = 4 := by decide
set_option maxHeartbeats 32000000 in
theorem rip4_ok (zs : List Int) (nn : Bool) (cap : Option Nat) (hz : bytesB zs = true) (hl : zs.length ≤ 500000) (h : chk4 zs = 0) : runF Try.prog KG Dm 100000 1 130 [.sl nn (B8 zs) zs.length cap] = some (ip4R zs (hl4 zs) (w16 zs 2).toNat) := by
  obtain ⟨h20, h4, hn, hnl, hof, hT, hTl, h6, hop, hfr⟩ := chk4_ok h
  have r2 := w16_range (bytesB_iff.1 hz) 2
  have r6 := w16_range (bytesB_iff.1 hz) 6
  have r4 := w16_range (bytesB_iff.1 hz) 4
  obtain ⟨e1, e2⟩ := hl4_range hz
  have g0 := gb_range hz 0
  have n4 := and15v (gb zs 0) g0.1 g0.2
  have w0 : IntKind.i64.wrap (gb zs 0 % 16) = gb zs 0 % 16 := wrap64_id (by omega) (by omega)
  have w1 : IntKind.i64.wrap (4 * (gb zs 0 % 16)) = (hl4 zs : Int) := by rw [wrap64_id (by omega) (by omega)]; omega
  have w1' : IntKind.i64.wrap (gb zs 0 % 16 * 4) = (hl4 zs : Int) := by rw [wrap64_id (by omega) (by omega)]; omega
  have s1 : (gb zs 0).fdiv 16 = gb zs 0 / 16 := Int.fdiv_eq_ediv_of_nonneg _ (by omega)
  have w4 : IntKind.u16.wrap (w16 zs 4) = w16 zs 4 := wrapu16_id (by omega) (by omega)
  obtain ⟨T, hTe⟩ := Int.eq_ofNat_of_zero_le r2.1
  generalize hl4 zs = n at *
  rw [hTe] at hT hTl ⊢
  simp only [Int.toNat_natCast]
  have hT' : n ≤ T := by omega
  have hTl' : T ≤ zs.length := by omega
  have a0 := B8_at00 zs (by omega)
  have a1 := B8_at0 zs 1 (by omega)
  have a8 := B8_at0 zs 8 (by omega)
  have a9 := B8_at0 zs 9 (by omega)
  have l0 : 0 < zs.length := by omega
  have l1 : 1 < zs.length := by omega
  have l8 : 8 < zs.length := by omega
  have l9 : 9 < zs.length := by omega
  have i0 : (0 : Int) < (zs.length : Int) := by omega
  have i1 : (1 : Int) < (zs.length : Int) := by omega
  have i8 : (8 : Int) < (zs.length : Int) := by omega
  have i9 : (9 : Int) < (zs.length : Int) := by omega
  have i3 : (3 : Int) < (zs.length : Int) := by omega
  have i5 : (5 : Int) < (zs.length : Int) := by omega
  have i7 : (7 : Int) < (zs.length : Int) := by omega
  have k1 : zs.length ≤ 1099511627776 := by omega
  have k2 : (12 : Int) ≤ (zs.length : Int) := by omega
  have k3 : (16 : Int) ≤ (zs.length : Int) := by omega
  have k4 : (20 : Int) ≤ (n : Int) := by omega
  have k5 : (n : Int) ≤ (zs.length : Int) := by omega
  have k6 : (n : Int) ≤ (T : Int) := by omega
  have k7 : (T : Int) ≤ (zs.length : Int) := by omega
  have k8 : 12 ≤ zs.length := by omega
  have k9 : 16 ≤ zs.length := by omega
  have k10 : min (n - 20) (zs.length - 20) = n - 20 := by omega
  have k11 : min (T - n) (zs.length - n) = T - n := by omega
  have k12 : n - 20 ≤ 549755813888 := by omega
  have k13 : T - n ≤ 549755813888 := by omega
  have k14 : n ≤ 549755813908 := by omega
  have k15 : T ≤ 549755813888 + n := by omega
  have k16 : n - 20 ≤ zs.length - 20 := by omega
  have k17 : T - n ≤ zs.length - n := by omega
  have k18 : min 4 (zs.length - 12) = 4 := by omega
  have k19 : min 4 (zs.length - 16) = 4 := by omega
  have k20 : 4 ≤ zs.length - 12 := by omega
  have k21 : 4 ≤ zs.length - 16 := by omega
  have k22 : 20 ≤ n := hn
  have k23 : n ≤ zs.length := hnl
  have x1 : (zs.drop 12).take 4 = [gb zs 12, gb zs 13, gb zs 14, gb zs 15] := by rw [take4_eq (by simp; omega), gb_drop, gb_drop, gb_drop, gb_drop]
  have x2 : (zs.drop 16).take 4 = [gb zs 16, gb zs 17, gb zs 18, gb zs 19] := by rw [take4_eq (by simp; omega), gb_drop, gb_drop, gb_drop, gb_drop]
  have x3 : (zs.drop 12).take (zs.length - 12) = zs.drop 12 := List.take_of_length_le (by simp)
  have x4 : (zs.drop 16).take (zs.length - 16) = zs.drop 16 := List.take_of_length_le (by simp)
  have x5 : ((zs.drop 20).take (n - 20)).take (n - 20) = (zs.drop 20).take (n - 20) := List.take_of_length_le (by simp; omega)
  have x6 : ((zs.drop n).take (T - n)).take (T - n) = (zs.drop n).take (T - n) := List.take_of_length_le (by simp; omega)
  have t0 : (gb zs 0).tmod 16 = gb zs 0 % 16 := Int.tmod_eq_emod_of_nonneg (by omega)
  have t1 : (gb zs 0).tdiv 16 = gb zs 0 / 16 := Int.tdiv_eq_ediv_of_nonneg (by omega)
  have t2 : IntKind.u8.wrap (gb zs 0 % 16) = gb zs 0 % 16 := wrapu8_id (by omega) (by omega)
  have t3 : IntKind.u8.wrap (gb zs 0 / 16) = gb zs 0 / 16 := wrapu8_id (by omega) (by omega)
  have t4 : (w16 zs 6).tmod 16384 = w16 zs 6 % 16384 := Int.tmod_eq_emod_of_nonneg (by omega)
  have t5 : IntKind.i64.wrap (w16 zs 6 % 16384) = w16 zs 6 % 16384 := wrap64_id (by omega) (by omega)
  have t6 : ¬ (zs.length : Int) < 20 := by omega
  have t7 : ¬ (n : Int) < 20 := by omega
  have t8 : ¬ (zs.length : Int) < (n : Int) := by omega
  have t9 : ¬ (T : Int) < (n : Int) := by omega
  have t10 : ¬ (zs.length : Int) < (T : Int) := by omega
  have t11 : ¬ (32768 : Int) ≤ w16 zs 6 := by omega
  have t12 : bytesB (zs.take n) = true := bytesB_take hz n
  have t13 : min n zs.length = n := by omega
  have t14 : n ≤ 1099511627776 := by omega
  have t15 : ((zs.drop 20).take (n - 20)).length = n - 20 := by simp; omega
  have t16 : n - 20 ≤ 9223372036854775807 := by omega
  have t17 : bytesB ((zs.drop 20).take (n - 20)) = true := bytesB_take (bytesB_drop hz _) _
  have t18 : 4 ≤ zs.length - 12 := by omega
  unfold runF ip4R ip4A
  rw [pvCall_own (fn := Try.f130) rfl Try.func130 rfl (by decide) rfl rfl (by simp)]
  simp -implicitDefEqProofs [h, hz, hl, fCheck, fWord4, fClone, fAddr, n4, w0, w1, w1', s1, w4, hTe, hT', hTl', a0, a1, a8, a9, l0, l1, l8, l9, i0, i1, i8, i9, i3, i5, i7, k1, k2, k3, k4, k5, k6, k7, k8, k9, k10, k11, k12, k13, k14, k15, k16, k17, k18, k19, k20, k21, k22, k23, x1, x2, x3, x4, x5, x6, ad4, gb_drop, B8c, B8n, splice, IntKind.bits, Nat.testBit_eq_decide_div_mod_eq, w84, t0, t1, t2, t3, t4, t5, t6, t7, t8, t9, t10, t11, t12, t13, t14, t15, t16, t17, t18, h4, hof, hop, hfr, fOf, fOpt]
set_option maxHeartbeats 64000000 in
theorem rip4_err (zs : List Int) (nn : Bool) (cap : Option Nat) (hz : bytesB zs = true) (hl : zs.length ≤ 500000) (h : ¬ chk4 zs = 0) : runF Try.prog KG Dm 100000 1 130 [.sl nn (B8 zs) zs.length cap] = some (err4 (chk4 zs)) := by
  unfold chk4 at h
  unfold runF err4 noH4 ip4A zz16 chk4
  rw [pvCall_own (fn := Try.f130) rfl Try.func130 rfl (by decide) rfl rfl (by simp)]
  by_cases h20 : zs.length < 20
  · have i20 : (zs.length : Int) < 20 := by omega
    rw [if_pos h20]
    simp -implicitDefEqProofs [i20, splice, B8c, B8n]
  rw [if_neg h20] at h ⊢
  have i20 : ¬ (zs.length : Int) < 20 := by omega
  have a0 := B8_at00 zs (by omega)
  have l0 : 0 < zs.length := by omega
  have i0 : (0 : Int) < (zs.length : Int) := by omega
  have g0 := gb_range hz 0
  have w0 : IntKind.i64.wrap (gb zs 0 % 16) = gb zs 0 % 16 := wrap64_id (by omega) (by omega)
  obtain ⟨e1, e2⟩ := hl4_range hz
  have w1 : IntKind.i64.wrap (gb zs 0 % 16 * 4) = (hl4 zs : Int) := by rw [wrap64_id (by omega) (by omega)]; omega
  have t0 : (gb zs 0).tmod 16 = gb zs 0 % 16 := Int.tmod_eq_emod_of_nonneg (by omega)
  have t1 : (gb zs 0).tdiv 16 = gb zs 0 / 16 := Int.tdiv_eq_ediv_of_nonneg (by omega)
  have t2 : IntKind.u8.wrap (gb zs 0 % 16) = gb zs 0 % 16 := wrapu8_id (by omega) (by omega)
  have t3 : IntKind.u8.wrap (gb zs 0 / 16) = gb zs 0 / 16 := wrapu8_id (by omega) (by omega)
  generalize hl4 zs = n at *
  by_cases h1 : gb zs 0 / 16 = 4
  case neg =>
    have h1n : (gb zs 0 / 16 != 4) = true := by simp [h1]
    have h1e : (gb zs 0 / 16 == 4) = false := by simp [h1]
    rw [if_pos (.inl h1)]
    simp -implicitDefEqProofs [i20, a0, l0, i0, w84, w0, w1, t0, t1, t2, t3, splice, B8c, B8n, IntKind.bits, h1n, h1e, h1]
  by_cases h2 : n < 20
  · have h2i : (n : Int) < 20 := by omega
    rw [if_pos (.inr h2)]
    simp -implicitDefEqProofs [i20, a0, l0, i0, w84, w0, w1, t0, t1, t2, t3, splice, B8c, B8n, IntKind.bits, h1, h2, h2i]
  rw [if_neg (by omega)] at h ⊢
  have h2i : ¬ (n : Int) < 20 := by omega
  by_cases h3 : zs.length < n
  · have h3i : (zs.length : Int) < (n : Int) := by omega
    rw [if_pos h3]
    simp -implicitDefEqProofs [i20, a0, l0, i0, w84, w0, w1, t0, t1, t2, t3, splice, B8c, B8n, IntKind.bits, h1, h2, h2i, h3i]
  rw [if_neg h3] at h ⊢
  have h3i : ¬ (zs.length : Int) < (n : Int) := by omega
  have r1 : (n : Int) ≤ (zs.length : Int) := by omega
  have r2 : n ≤ zs.length := by omega
  have r3 : n ≤ 1099511627776 := by omega
  have r4 : bytesB (zs.take n) = true := bytesB_take hz n
  have r5 : min n zs.length = n := by omega
  have r6 := w16_range (bytesB_iff.1 hz) 2
  have r7 := w16_range (bytesB_iff.1 hz) 6
  have r8 : zs.length ≤ 1099511627776 := by omega
  have r11 : (3 : Int) < (zs.length : Int) := by omega
  have r12 : (7 : Int) < (zs.length : Int) := by omega
  have r13 : (20 : Int) ≤ (n : Int) := by omega
  have r14 : ((zs.drop 20).take (n - 20)).length = n - 20 := by simp; omega
  have r15 : n - 20 ≤ 9223372036854775807 := by omega
  have r16 : bytesB ((zs.drop 20).take (n - 20)) = true := bytesB_take (bytesB_drop hz _) _
  have r17 : 20 ≤ n := by omega
  have t4 : (w16 zs 6).tmod 16384 = w16 zs 6 % 16384 := Int.tmod_eq_emod_of_nonneg (by omega)
  have t5 : IntKind.i64.wrap (w16 zs 6 % 16384) = w16 zs 6 % 16384 := wrap64_id (by omega) (by omega)
  by_cases h4 : ofV (zs.take n) = 0
  case neg =>
    have h4n : (ofV (zs.take n) != 0) = true := by simp [h4]
    have h4e : (ofV (zs.take n) == 0) = false := by simp [h4]
    rw [if_pos h4]
    simp -implicitDefEqProofs [i20, a0, l0, i0, w84, w0, w1, t0, t1, t2, t3, splice, B8c, B8n, IntKind.bits, h1, h2, h2i, h3i, r1, r2, r3, r4, r5, r8, r11, r12, r13, r14, r15, r16, r17, t4, t5, hz, fOf, fWord4, fOpt, h4, h4n, h4e]
  rw [if_neg (by simpa using h4)] at h ⊢
  by_cases h5 : w16 zs 2 < (n : Int)
  · rw [if_pos h5]
    simp -implicitDefEqProofs [i20, a0, l0, i0, w84, w0, w1, t0, t1, t2, t3, splice, B8c, B8n, IntKind.bits, h1, h2, h2i, h3i, r1, r2, r3, r4, r5, r8, r11, r12, r13, r14, r15, r16, r17, t4, t5, hz, fOf, fWord4, fOpt, h4, h5]
  rw [if_neg h5] at h ⊢
  by_cases h6 : (zs.length : Int) < w16 zs 2
  · rw [if_pos h6]
    simp -implicitDefEqProofs [i20, a0, l0, i0, w84, w0, w1, t0, t1, t2, t3, splice, B8c, B8n, IntKind.bits, h1, h2, h2i, h3i, r1, r2, r3, r4, r5, r8, r11, r12, r13, r14, r15, r16, r17, t4, t5, hz, fOf, fWord4, fOpt, h4, h5, h6]
  rw [if_neg h6] at h ⊢
  by_cases h7 : 32768 ≤ w16 zs 6
  · rw [if_pos h7]
    simp -implicitDefEqProofs [i20, a0, l0, i0, w84, w0, w1, t0, t1, t2, t3, splice, B8c, B8n, IntKind.bits, h1, h2, h2i, h3i, r1, r2, r3, r4, r5, r8, r11, r12, r13, r14, r15, r16, r17, t4, t5, hz, fOf, fWord4, fOpt, h4, h5, h6, h7]
  rw [if_neg h7] at h ⊢
  by_cases h8 : optE ((zs.drop 20).take (n - 20)) = 0
  case neg =>
    have h8n : (optE ((zs.drop 20).take (n - 20)) != 0) = true := by simp [h8]
    have h8e : (optE ((zs.drop 20).take (n - 20)) == 0) = false := by simp [h8]
    rw [if_pos h8]
    simp -implicitDefEqProofs [i20, a0, l0, i0, w84, w0, w1, t0, t1, t2, t3, splice, B8c, B8n, IntKind.bits, h1, h2, h2i, h3i, r1, r2, r3, r4, r5, r8, r11, r12, r13, r14, r15, r16, r17, t4, t5, hz, fOf, fWord4, fOpt, h4, h5, h6, h7, h8, h8n, h8e]
  rw [if_neg (by simpa using h8)] at h ⊢
  by_cases h9 : w16 zs 6 % 16384 = 0
  case neg =>
    have h9p : 0 < w16 zs 6 % 16384 := by omega
    rw [if_pos h9]
    simp -implicitDefEqProofs [i20, a0, l0, i0, w84, w0, w1, t0, t1, t2, t3, splice, B8c, B8n, IntKind.bits, h1, h2, h2i, h3i, r1, r2, r3, r4, r5, r8, r11, r12, r13, r14, r15, r16, r17, t4, t5, hz, fOf, fWord4, fOpt, h4, h5, h6, h7, h8, h9, h9p]
  rw [if_neg (by simpa using h9)] at h
  exact absurd rfl h
def ip4V (zs : List Int) : AV × List (List AV) := if chk4 zs = 0 then ip4R zs (hl4 zs) (w16 zs 2).toNat else err4 (chk4 zs)
def fIP4 : Fun
  | [.sl nn b len cap] => (asB8 b).bind fun zs => if zs.length = len ∧ len ≤ 500000 ∧ bytesB zs = true then some (ip4V zs) else none
  | _ => none
theorem ip4_pure : Pure Try.prog 52 fIP4 := (runF_pure kg_ok follows_mixed dm_ok 100000 1 52).weaken fun args r h => by
  unfold fIP4 at h
  split at h
  · rename_i nn b len cap
    obtain ⟨zs, hz, he⟩ := Option.bind_eq_some_iff.1 h
    clear h
    split at he
    case isFalse => cases he
    rename_i hh
    obtain ⟨rfl, h1, h2⟩ := hh
    obtain rfl := asB8_eq hz
    rw [← he]
    unfold ip4V
    split
    · rename_i q; exact pip4_ok zs nn cap h2 h1 q
    · rename_i q; exact pip4_err zs nn cap h2 h1 q
  · cases h
theorem rip4_pure : Pure Try.prog 130 fIP4 := (runF_pure kg_ok follows_mixed dm_ok 100000 1 130).weaken fun args r h => by
  unfold fIP4 at h
  split at h
  · rename_i nn b len cap
    obtain ⟨zs, hz, he⟩ := Option.bind_eq_some_iff.1 h
    clear h
    split at he
    case isFalse => cases he
    rename_i hh
    obtain ⟨rfl, h1, h2⟩ := hh
    obtain rfl := asB8_eq hz
    rw [← he]
    unfold ip4V
    split
    · rename_i q; exact rip4_ok zs nn cap h2 h1 q
    · rename_i q; exact rip4_err zs nn cap h2 h1 q
  · cases h
end Go.Proofs.Ytmdafjegddnecaa
