import Derived.Test.YtmdafjegddnecaaMd
import Derived.Test.YtmdafjegddnecaaMf
import Derived.Test.YtmdafjegddnecaaMu
import Derived.Test.YtmdafjegddnecaaMq
import Derived.Test.YtmdafjegddnecaaMk
/- Encapsulation: kinds, which outers may be. -/
namespace Go.Proofs.Ytmdafjegddnecaa
open Go.Pm Go.Wb
set_option linter.unusedVariables false
set_option linter.unusedSimpArgs false
set_option maxRecDepth 1000000
def kndV (zs : List Int) : Int := if zs.length = 0 then 0 else if gb zs 0 / 16 = 4 then 4 else if gb zs 0 / 16 = 6 then 41 else 0
set_option maxHeartbeats 4000000 in
theorem ekind_run (zs : List Int) (nn : Bool) (cap : Option Nat) (hl : zs.length ≤ 500000) (hz : bytesB zs = true) : runF Try.prog K0 Dm 100000 1 80 [.sl nn (B8 zs) zs.length cap] = some (.v (.int .u8 (kndV zs)), []) := by
  have g := gb_range hz 0
  have d2 : (gb zs 0).fdiv 16 = gb zs 0 / 16 := Int.fdiv_eq_ediv_of_nonneg _ (by omega)
  have d3 : IntKind.u8.wrap (gb zs 0 / 16) = gb zs 0 / 16 := wrapu8_id (by omega) (by omega)
  unfold runF kndV
  rw [pvCall_own (fn := Try.f80) rfl Try.func80 rfl (by decide) rfl rfl (by simp)]
  by_cases h0 : zs.length = 0
  · simp -implicitDefEqProofs [h0, splice]
  have i0 : ((zs.length : Int) == 0) = false := by simp [h0]
  have i1 : ¬ (zs.length : Int) = 0 := by omega
  have j0 : (0 : Int) < (zs.length : Int) := by omega
  have l0 : 0 < zs.length := by omega
  have a0 := B8_at00 zs (by omega)
  by_cases h4 : gb zs 0 / 16 = 4
  · simp -implicitDefEqProofs [h0, i0, i1, j0, l0, a0, d2, d3, h4, splice, IntKind.bits, Nat.testBit_eq_decide_div_mod_eq]
  have b4 : (gb zs 0 / 16 == 4) = false := by simp [h4]
  by_cases h6 : gb zs 0 / 16 = 6
  · have c6 : IntKind.u8.wrap 6 = 6 := by decide
    simp -implicitDefEqProofs [h0, i0, i1, j0, l0, a0, d2, d3, h4, b4, h6, c6, splice, IntKind.bits, Nat.testBit_eq_decide_div_mod_eq]
  have b6 : (gb zs 0 / 16 == 6) = false := by simp [h6]
  simp -implicitDefEqProofs [h0, i0, i1, j0, l0, a0, d2, d3, h4, b4, h6, b6, splice, IntKind.bits, Nat.testBit_eq_decide_div_mod_eq]
def fEKind : Fun
  | [.sl nn b len cap] => (asB8 b).bind fun zs => if zs.length = len ∧ len ≤ 500000 ∧ bytesB zs = true then some (.v (.int .u8 (kndV zs)), []) else none
  | _ => none
theorem ekind_pure : Pure Try.prog 80 fEKind := (runF_pure k0_ok follows_mixed dm_ok 100000 1 80).weaken fun args r h => by
  unfold fEKind at h
  split at h
  · rename_i nn b len cap
    obtain ⟨zs, hz, he⟩ := Option.bind_eq_some_iff.1 h
    clear h
    split at he
    case isFalse => cases he
    rename_i hh
    obtain ⟨rfl, h1, h2⟩ := hh
    obtain rfl := asB8_eq hz
    rw [← he]
    exact ekind_run zs nn cap h1 h2
  · cases h
set_option maxHeartbeats 16000000 in
theorem efour_run (S : List Int) (hS : S.length = 16) : runF Try.prog K0 Dm 100000 4 133 [.agg (B8 S)] = some (.v (.bool (decide (S.drop 4 = zero12))), []) := by
  have hcf := fun (px : Nat) (args : List AV) (m : Mem) (hl : args.length ≤ Try.f164.ntmps) => pvCall_own (P := Try.prog) (K := K0) (D := Dm) (L := 100000) (d := 2) (px := px) (args := args) (m := m) (f := 164) (fn := Try.f164) rfl Try.func164 rfl (by decide) rfl rfl hl
  have hif := fun (px : Nat) (args : List AV) (m : Mem) (hl : args.length ≤ Try.f179.ntmps) => pvCall_own (P := Try.prog) (K := K0) (D := Dm) (L := 100000) (d := 1) (px := px) (args := args) (m := m) (f := 179) (fn := Try.f179) rfl Try.func179 rfl (by decide) rfl rfl hl
  have hf1 := fun (px : Nat) (args : List AV) (m : Mem) (hl : args.length ≤ Try.f165.ntmps) => pvCall_own (P := Try.prog) (K := K0) (D := Dm) (L := 100000) (d := 0) (px := px) (args := args) (m := m) (f := 165) (fn := Try.f165) rfl Try.func165 rfl (by decide) rfl rfl hl
  obtain ⟨x0, x1, x2, x3, x4, x5, x6, x7, x8, x9, x10, x11, x12, x13, x14, x15, rfl⟩ : ∃ x0 x1 x2 x3 x4 x5 x6 x7 x8 x9 x10 x11 x12 x13 x14 x15, S = [x0, x1, x2, x3, x4, x5, x6, x7, x8, x9, x10, x11, x12, x13, x14, x15] := by
    match S, hS with
    | [x0, x1, x2, x3, x4, x5, x6, x7, x8, x9, x10, x11, x12, x13, x14, x15], _ => exact ⟨x0, x1, x2, x3, x4, x5, x6, x7, x8, x9, x10, x11, x12, x13, x14, x15, rfl⟩
  unfold runF zero12
  rw [pvCall_own (fn := Try.f133) rfl Try.func133 rfl (by decide) rfl rfl (by simp)]
  by_cases h4 : x4 = 0
  case neg =>
    have p4 : (x4 != 0) = true := by simp [h4]
    simp -implicitDefEqProofs [hcf, hif, hf1, h4, p4, loopK_pos, B8vc, B8vn, splice]
  subst h4
  by_cases h5 : x5 = 0
  case neg =>
    have p5 : (x5 != 0) = true := by simp [h5]
    simp -implicitDefEqProofs [hcf, hif, hf1, h5, p5, loopK_pos, B8vc, B8vn, splice]
  subst h5
  by_cases h6 : x6 = 0
  case neg =>
    have p6 : (x6 != 0) = true := by simp [h6]
    simp -implicitDefEqProofs [hcf, hif, hf1, h6, p6, loopK_pos, B8vc, B8vn, splice]
  subst h6
  by_cases h7 : x7 = 0
  case neg =>
    have p7 : (x7 != 0) = true := by simp [h7]
    simp -implicitDefEqProofs [hcf, hif, hf1, h7, p7, loopK_pos, B8vc, B8vn, splice]
  subst h7
  by_cases h8 : x8 = 0
  case neg =>
    have p8 : (x8 != 0) = true := by simp [h8]
    simp -implicitDefEqProofs [hcf, hif, hf1, h8, p8, loopK_pos, B8vc, B8vn, splice]
  subst h8
  by_cases h9 : x9 = 0
  case neg =>
    have p9 : (x9 != 0) = true := by simp [h9]
    simp -implicitDefEqProofs [hcf, hif, hf1, h9, p9, loopK_pos, B8vc, B8vn, splice]
  subst h9
  by_cases h10 : x10 = 0
  case neg =>
    have p10 : (x10 != 0) = true := by simp [h10]
    simp -implicitDefEqProofs [hcf, hif, hf1, h10, p10, loopK_pos, B8vc, B8vn, splice]
  subst h10
  by_cases h11 : x11 = 0
  case neg =>
    have p11 : (x11 != 0) = true := by simp [h11]
    simp -implicitDefEqProofs [hcf, hif, hf1, h11, p11, loopK_pos, B8vc, B8vn, splice]
  subst h11
  by_cases h12 : x12 = 0
  case neg =>
    have p12 : (x12 != 0) = true := by simp [h12]
    simp -implicitDefEqProofs [hcf, hif, hf1, h12, p12, loopK_pos, B8vc, B8vn, splice]
  subst h12
  by_cases h13 : x13 = 0
  case neg =>
    have p13 : (x13 != 0) = true := by simp [h13]
    simp -implicitDefEqProofs [hcf, hif, hf1, h13, p13, loopK_pos, B8vc, B8vn, splice]
  subst h13
  by_cases h14 : x14 = 0
  case neg =>
    have p14 : (x14 != 0) = true := by simp [h14]
    simp -implicitDefEqProofs [hcf, hif, hf1, h14, p14, loopK_pos, B8vc, B8vn, splice]
  subst h14
  by_cases h15 : x15 = 0
  case neg =>
    have p15 : (x15 != 0) = true := by simp [h15]
    simp -implicitDefEqProofs [hcf, hif, hf1, h15, p15, loopK_pos, B8vc, B8vn, splice]
  subst h15
  simp -implicitDefEqProofs [hcf, hif, hf1, loopK_pos, B8vc, B8vn, splice]
def fEFour : Fun
  | [.agg a] => (asB8 a).bind fun S => if S.length = 16 then some (.v (.bool (decide (S.drop 4 = zero12))), []) else none
  | _ => none
theorem efour_pure : Pure Try.prog 133 fEFour := (runF_pure k0_ok follows_mixed dm_ok 100000 4 133).weaken fun args r h => by
  unfold fEFour at h
  split at h
  · rename_i a
    obtain ⟨zs, hz, he⟩ := Option.bind_eq_some_iff.1 h
    clear h
    split at he
    case isFalse => cases he
    rename_i hh
    obtain rfl := asB8_eq hz
    rw [← he]
    exact efour_run zs hh
  · cases h
noncomputable def KEM : Nat → Option Con
  | 133 => some fEFour
  | _ => none
theorem kem_ok : KOk Try.prog KEM := fun f F h => by
  unfold KEM at h
  split at h
  · cases h; exact ⟨efour_pure, _, Try.func133, rfl, by decide⟩
  · cases h
section
variable {D : FuncId → Nat → List Nat} {L d px : Nat} {args : List AV} {m : Mem}
theorem ckem_efour : pvCall Try.prog KEM D L d px 133 args m = callBy fEFour m px args := pvCall_by rfl
end
theorem ekem_efour : KEM 133 = some (.pure fEFour) := rfl
attribute [simp] ckem_efour ekem_efour
def outA (v6 : Bool) (mode : Int) (S D : List Int) (sp : Int) : AV := .agg (.v (.bool v6) :: .v (.int .u8 mode) :: (B8 S ++ (B8 D ++ [.v (.int .u16 sp)])))
def four4 (S : List Int) : Bool := decide (S.drop 4 = zero12)
def mayO (v6 : Bool) (mode : Int) (S D : List Int) (sp : Int) : Bool := (v6 || (four4 S && four4 D)) && ((decide (mode = 1) && decide (sp = 0)) || (decide (mode = 2) && decide (49152 ≤ sp)))
set_option maxHeartbeats 16000000 in
theorem emay_run (v6 : Bool) (mode : Int) (S D : List Int) (sp : Int) (hS : S.length = 16) (hD : D.length = 16) : runF Try.prog KEM Dm 100000 1 81 [outA v6 mode S D sp] = some (.v (.bool (mayO v6 mode S D sp)), []) := by
  have t1 : S.take 16 = S := List.take_of_length_le (by omega)
  have t2 : D.take 16 = D := List.take_of_length_le (by omega)
  have k33 : ∀ x : AV, (B8 S ++ (B8 D ++ [x])).take 33 = B8 S ++ (B8 D ++ [x]) := fun x => List.take_of_length_le (by simp [hS, hD])
  have i1 : ∀ x y : Int, (x = y) = (decide (x = y) = true) := fun x y => by simp
  unfold runF mayO four4
  rw [pvCall_own (fn := Try.f81) rfl Try.func81 rfl (by decide) rfl rfl (by simp)]
  have tail : ∀ b : Bool, b = ((decide (mode = 1) && decide (sp = 0)) || (decide (mode = 2) && decide (49152 ≤ sp))) → True := fun _ _ => trivial
  by_cases m1 : mode = 1
  · subst m1
    by_cases s0 : sp = 0
    · subst s0
      cases v6 with
      | true => simp -implicitDefEqProofs [outA, fEFour, hS, hD, t1, t2, k33, splice, B8t16 hS, B8d16 hS, B8t33 hS, B8t17 hS, B8d32 hS, B8t32 hS, B8d33 hS, B8d17 hS, B8d34 hS, B8d18 hS, B8t34 hS, B8t18 hS, B8t16 hD, B8d16 hD, B8t33 hD, B8t17 hD, B8d32 hD, B8t32 hD, B8d33 hD, B8d17 hD, B8d34 hD, B8d18 hD, B8t34 hD, B8t18 hD, -B8_append]
      | false =>
        by_cases f1 : S.drop 4 = zero12
        · by_cases f2 : D.drop 4 = zero12
          · simp -implicitDefEqProofs [outA, fEFour, f1, f2, hS, hD, t1, t2, k33, splice, B8t16 hS, B8d16 hS, B8t33 hS, B8t17 hS, B8d32 hS, B8t32 hS, B8d33 hS, B8d17 hS, B8d34 hS, B8d18 hS, B8t34 hS, B8t18 hS, B8t16 hD, B8d16 hD, B8t33 hD, B8t17 hD, B8d32 hD, B8t32 hD, B8d33 hD, B8d17 hD, B8d34 hD, B8d18 hD, B8t34 hD, B8t18 hD, -B8_append]
          · simp -implicitDefEqProofs [outA, fEFour, f1, f2, hS, hD, t1, t2, k33, splice, B8t16 hS, B8d16 hS, B8t33 hS, B8t17 hS, B8d32 hS, B8t32 hS, B8d33 hS, B8d17 hS, B8d34 hS, B8d18 hS, B8t34 hS, B8t18 hS, B8t16 hD, B8d16 hD, B8t33 hD, B8t17 hD, B8d32 hD, B8t32 hD, B8d33 hD, B8d17 hD, B8d34 hD, B8d18 hD, B8t34 hD, B8t18 hD, -B8_append]
        · simp -implicitDefEqProofs [outA, fEFour, f1, hS, hD, t1, t2, k33, splice, B8t16 hS, B8d16 hS, B8t33 hS, B8t17 hS, B8d32 hS, B8t32 hS, B8d33 hS, B8d17 hS, B8d34 hS, B8d18 hS, B8t34 hS, B8t18 hS, B8t16 hD, B8d16 hD, B8t33 hD, B8t17 hD, B8d32 hD, B8t32 hD, B8d33 hD, B8d17 hD, B8d34 hD, B8d18 hD, B8t34 hD, B8t18 hD, -B8_append]
    · have sb : (sp == 0) = false := by simp [s0]
      cases v6 with
      | true => simp -implicitDefEqProofs [outA, fEFour, s0, sb, hS, hD, t1, t2, k33, splice, B8t16 hS, B8d16 hS, B8t33 hS, B8t17 hS, B8d32 hS, B8t32 hS, B8d33 hS, B8d17 hS, B8d34 hS, B8d18 hS, B8t34 hS, B8t18 hS, B8t16 hD, B8d16 hD, B8t33 hD, B8t17 hD, B8d32 hD, B8t32 hD, B8d33 hD, B8d17 hD, B8d34 hD, B8d18 hD, B8t34 hD, B8t18 hD, -B8_append]
      | false =>
        by_cases f1 : S.drop 4 = zero12
        · by_cases f2 : D.drop 4 = zero12
          · simp -implicitDefEqProofs [outA, fEFour, s0, sb, f1, f2, hS, hD, t1, t2, k33, splice, B8t16 hS, B8d16 hS, B8t33 hS, B8t17 hS, B8d32 hS, B8t32 hS, B8d33 hS, B8d17 hS, B8d34 hS, B8d18 hS, B8t34 hS, B8t18 hS, B8t16 hD, B8d16 hD, B8t33 hD, B8t17 hD, B8d32 hD, B8t32 hD, B8d33 hD, B8d17 hD, B8d34 hD, B8d18 hD, B8t34 hD, B8t18 hD, -B8_append]
          · simp -implicitDefEqProofs [outA, fEFour, s0, sb, f1, f2, hS, hD, t1, t2, k33, splice, B8t16 hS, B8d16 hS, B8t33 hS, B8t17 hS, B8d32 hS, B8t32 hS, B8d33 hS, B8d17 hS, B8d34 hS, B8d18 hS, B8t34 hS, B8t18 hS, B8t16 hD, B8d16 hD, B8t33 hD, B8t17 hD, B8d32 hD, B8t32 hD, B8d33 hD, B8d17 hD, B8d34 hD, B8d18 hD, B8t34 hD, B8t18 hD, -B8_append]
        · simp -implicitDefEqProofs [outA, fEFour, s0, sb, f1, hS, hD, t1, t2, k33, splice, B8t16 hS, B8d16 hS, B8t33 hS, B8t17 hS, B8d32 hS, B8t32 hS, B8d33 hS, B8d17 hS, B8d34 hS, B8d18 hS, B8t34 hS, B8t18 hS, B8t16 hD, B8d16 hD, B8t33 hD, B8t17 hD, B8d32 hD, B8t32 hD, B8d33 hD, B8d17 hD, B8d34 hD, B8d18 hD, B8t34 hD, B8t18 hD, -B8_append]
  have n1 : (mode == 1) = false := by simp [m1]
  by_cases m2 : mode = 2
  · subst m2
    by_cases s0 : 49152 ≤ sp
    · cases v6 with
      | true => simp -implicitDefEqProofs [outA, fEFour, s0, hS, hD, t1, t2, k33, splice, B8t16 hS, B8d16 hS, B8t33 hS, B8t17 hS, B8d32 hS, B8t32 hS, B8d33 hS, B8d17 hS, B8d34 hS, B8d18 hS, B8t34 hS, B8t18 hS, B8t16 hD, B8d16 hD, B8t33 hD, B8t17 hD, B8d32 hD, B8t32 hD, B8d33 hD, B8d17 hD, B8d34 hD, B8d18 hD, B8t34 hD, B8t18 hD, -B8_append]
      | false =>
        by_cases f1 : S.drop 4 = zero12
        · by_cases f2 : D.drop 4 = zero12
          · simp -implicitDefEqProofs [outA, fEFour, s0, f1, f2, hS, hD, t1, t2, k33, splice, B8t16 hS, B8d16 hS, B8t33 hS, B8t17 hS, B8d32 hS, B8t32 hS, B8d33 hS, B8d17 hS, B8d34 hS, B8d18 hS, B8t34 hS, B8t18 hS, B8t16 hD, B8d16 hD, B8t33 hD, B8t17 hD, B8d32 hD, B8t32 hD, B8d33 hD, B8d17 hD, B8d34 hD, B8d18 hD, B8t34 hD, B8t18 hD, -B8_append]
          · simp -implicitDefEqProofs [outA, fEFour, s0, f1, f2, hS, hD, t1, t2, k33, splice, B8t16 hS, B8d16 hS, B8t33 hS, B8t17 hS, B8d32 hS, B8t32 hS, B8d33 hS, B8d17 hS, B8d34 hS, B8d18 hS, B8t34 hS, B8t18 hS, B8t16 hD, B8d16 hD, B8t33 hD, B8t17 hD, B8d32 hD, B8t32 hD, B8d33 hD, B8d17 hD, B8d34 hD, B8d18 hD, B8t34 hD, B8t18 hD, -B8_append]
        · simp -implicitDefEqProofs [outA, fEFour, s0, f1, hS, hD, t1, t2, k33, splice, B8t16 hS, B8d16 hS, B8t33 hS, B8t17 hS, B8d32 hS, B8t32 hS, B8d33 hS, B8d17 hS, B8d34 hS, B8d18 hS, B8t34 hS, B8t18 hS, B8t16 hD, B8d16 hD, B8t33 hD, B8t17 hD, B8d32 hD, B8t32 hD, B8d33 hD, B8d17 hD, B8d34 hD, B8d18 hD, B8t34 hD, B8t18 hD, -B8_append]
    · cases v6 with
      | true => simp -implicitDefEqProofs [outA, fEFour, s0, hS, hD, t1, t2, k33, splice, B8t16 hS, B8d16 hS, B8t33 hS, B8t17 hS, B8d32 hS, B8t32 hS, B8d33 hS, B8d17 hS, B8d34 hS, B8d18 hS, B8t34 hS, B8t18 hS, B8t16 hD, B8d16 hD, B8t33 hD, B8t17 hD, B8d32 hD, B8t32 hD, B8d33 hD, B8d17 hD, B8d34 hD, B8d18 hD, B8t34 hD, B8t18 hD, -B8_append]
      | false =>
        by_cases f1 : S.drop 4 = zero12
        · by_cases f2 : D.drop 4 = zero12
          · simp -implicitDefEqProofs [outA, fEFour, s0, f1, f2, hS, hD, t1, t2, k33, splice, B8t16 hS, B8d16 hS, B8t33 hS, B8t17 hS, B8d32 hS, B8t32 hS, B8d33 hS, B8d17 hS, B8d34 hS, B8d18 hS, B8t34 hS, B8t18 hS, B8t16 hD, B8d16 hD, B8t33 hD, B8t17 hD, B8d32 hD, B8t32 hD, B8d33 hD, B8d17 hD, B8d34 hD, B8d18 hD, B8t34 hD, B8t18 hD, -B8_append]
          · simp -implicitDefEqProofs [outA, fEFour, s0, f1, f2, hS, hD, t1, t2, k33, splice, B8t16 hS, B8d16 hS, B8t33 hS, B8t17 hS, B8d32 hS, B8t32 hS, B8d33 hS, B8d17 hS, B8d34 hS, B8d18 hS, B8t34 hS, B8t18 hS, B8t16 hD, B8d16 hD, B8t33 hD, B8t17 hD, B8d32 hD, B8t32 hD, B8d33 hD, B8d17 hD, B8d34 hD, B8d18 hD, B8t34 hD, B8t18 hD, -B8_append]
        · simp -implicitDefEqProofs [outA, fEFour, s0, f1, hS, hD, t1, t2, k33, splice, B8t16 hS, B8d16 hS, B8t33 hS, B8t17 hS, B8d32 hS, B8t32 hS, B8d33 hS, B8d17 hS, B8d34 hS, B8d18 hS, B8t34 hS, B8t18 hS, B8t16 hD, B8d16 hD, B8t33 hD, B8t17 hD, B8d32 hD, B8t32 hD, B8d33 hD, B8d17 hD, B8d34 hD, B8d18 hD, B8t34 hD, B8t18 hD, -B8_append]
  have n2 : (mode == 2) = false := by simp [m2]
  cases v6 with
  | true => simp -implicitDefEqProofs [outA, fEFour, m1, m2, n1, n2, hS, hD, t1, t2, k33, splice, B8t16 hS, B8d16 hS, B8t33 hS, B8t17 hS, B8d32 hS, B8t32 hS, B8d33 hS, B8d17 hS, B8d34 hS, B8d18 hS, B8t34 hS, B8t18 hS, B8t16 hD, B8d16 hD, B8t33 hD, B8t17 hD, B8d32 hD, B8t32 hD, B8d33 hD, B8d17 hD, B8d34 hD, B8d18 hD, B8t34 hD, B8t18 hD, -B8_append]
  | false =>
    by_cases f1 : S.drop 4 = zero12
    · by_cases f2 : D.drop 4 = zero12
      · simp -implicitDefEqProofs [outA, fEFour, m1, m2, n1, n2, f1, f2, hS, hD, t1, t2, k33, splice, B8t16 hS, B8d16 hS, B8t33 hS, B8t17 hS, B8d32 hS, B8t32 hS, B8d33 hS, B8d17 hS, B8d34 hS, B8d18 hS, B8t34 hS, B8t18 hS, B8t16 hD, B8d16 hD, B8t33 hD, B8t17 hD, B8d32 hD, B8t32 hD, B8d33 hD, B8d17 hD, B8d34 hD, B8d18 hD, B8t34 hD, B8t18 hD, -B8_append]
      · simp -implicitDefEqProofs [outA, fEFour, m1, m2, n1, n2, f1, f2, hS, hD, t1, t2, k33, splice, B8t16 hS, B8d16 hS, B8t33 hS, B8t17 hS, B8d32 hS, B8t32 hS, B8d33 hS, B8d17 hS, B8d34 hS, B8d18 hS, B8t34 hS, B8t18 hS, B8t16 hD, B8d16 hD, B8t33 hD, B8t17 hD, B8d32 hD, B8t32 hD, B8d33 hD, B8d17 hD, B8d34 hD, B8d18 hD, B8t34 hD, B8t18 hD, -B8_append]
    · simp -implicitDefEqProofs [outA, fEFour, m1, m2, n1, n2, f1, hS, hD, t1, t2, k33, splice, B8t16 hS, B8d16 hS, B8t33 hS, B8t17 hS, B8d32 hS, B8t32 hS, B8d33 hS, B8d17 hS, B8d34 hS, B8d18 hS, B8t34 hS, B8t18 hS, B8t16 hD, B8d16 hD, B8t33 hD, B8t17 hD, B8d32 hD, B8t32 hD, B8d33 hD, B8d17 hD, B8d34 hD, B8d18 hD, B8t34 hD, B8t18 hD, -B8_append]
def asOut : AV → Option (Bool × Int × List Int × List Int × Int)
  | .agg (.v (.bool v6) :: .v (.int .u8 mode) :: rest) => (asB8 (rest.take 16)).bind fun S => (asB8 ((rest.drop 16).take 16)).bind fun D => match rest.drop 32 with
    | [.v (.int .u16 sp)] => some (v6, mode, S, D, sp)
    | _ => none
  | _ => none
theorem asOut_eq {x : AV} {r : Bool × Int × List Int × List Int × Int} (h : asOut x = some r) : x = outA r.1 r.2.1 r.2.2.1 r.2.2.2.1 r.2.2.2.2 := by
  unfold asOut at h
  split at h
  · rename_i v6 mode rest
    obtain ⟨S, e1, h1⟩ := Option.bind_eq_some_iff.1 h
    obtain ⟨D, e2, h2⟩ := Option.bind_eq_some_iff.1 h1
    split at h2
    · rename_i sp hr
      cases h2
      have e1' := asB8_eq e1
      have e2' := asB8_eq e2
      have : rest = B8 S ++ (B8 D ++ [.v (.int .u16 sp)]) := by
        rw [← e1', ← e2', ← hr]
        conv => lhs; rw [← List.take_append_drop 16 rest]
        congr 1
        conv => lhs; rw [← List.take_append_drop 16 (rest.drop 16)]
        rw [List.drop_drop]
      rw [this]; rfl
    · cases h2
  · cases h
theorem asOut_at {v6 : Bool} {mode : Int} {S D : List Int} {sp : Int} (hS : S.length = 16) (hD : D.length = 16) : asOut (.agg (.v (.bool v6) :: .v (.int .u8 mode) :: (B8 S ++ (B8 D ++ [.v (.int .u16 sp)])))) = some (v6, mode, S, D, sp) := by
  show (asB8 ((B8 S ++ _).take 16)).bind _ = _
  rw [B8t16 hS, B8d16 hS, B8t16 hD, B8d32 hS, B8d16 hD]
  simp
def fEMay : Fun
  | [x] => (asOut x).bind fun r => if r.2.2.1.length = 16 ∧ r.2.2.2.1.length = 16 then some (.v (.bool (mayO r.1 r.2.1 r.2.2.1 r.2.2.2.1 r.2.2.2.2)), []) else none
  | _ => none
theorem emay_pure : Pure Try.prog 81 fEMay := (runF_pure kem_ok follows_mixed dm_ok 100000 1 81).weaken fun args r h => by
  unfold fEMay at h
  split at h
  · rename_i x
    obtain ⟨⟨v6, mode, S, D, sp⟩, e1, he⟩ := Option.bind_eq_some_iff.1 h
    clear h
    split at he
    case isFalse => cases he
    rename_i hh
    obtain rfl := asOut_eq e1
    rw [← he]
    exact emay_run v6 mode S D sp hh.1 hh.2
  · cases h
end Go.Proofs.Ytmdafjegddnecaa

/- Encapsulation: encap.Wrap as a function of values. -/
namespace Go.Proofs.Ytmdafjegddnecaa
open Go.Pm Go.Wb
set_option linter.unusedVariables false
set_option linter.unusedSimpArgs false
set_option maxRecDepth 1000000
set_option maxHeartbeats 8000000 in
theorem ewu_long (p0 p1 : Int) (ps : List Int) (v6 : Bool) (ss ds : List Int) (pn : Bool) (pc : Option Nat) (hpl : ps.length ≤ 5000) (hp : 1660 < 8 + ps.length) :
    runF Try.prog K3 Dm 100000 1 134 [.v (.bool v6), .agg (B8 ss), .agg (B8 ds), udpA p0 p1 false, .sl pn (B8 ps) ps.length pc] = some (ewE 3) := by
  have e1 : IntKind.i64.wrap (8 + (ps.length : Int)) = 8 + (ps.length : Int) := wrap64_id (by omega) (by omega)
  have q4 : (1660 : Int) < 8 + (ps.length : Int) := by omega
  unfold runF
  rw [pvCall_own (fn := Try.f134) rfl Try.func134 rfl (by decide) rfl rfl (by simp)]
  simp -implicitDefEqProofs [ewE, udpA, splice, IntKind.bits, e1, q4]
def goodU (ss ds ps : List Int) (len : Nat) : Prop := ps.length = len ∧ len ≤ 5000 ∧ ss.length = 16 ∧ ds.length = 16 ∧ bytesB ps = true ∧ bytesB ss = true ∧ bytesB ds = true
instance (ss ds ps : List Int) (len : Nat) : Decidable (goodU ss ds ps len) := by unfold goodU; infer_instance
def ewuV (v6 : Bool) (ss ds : List Int) (p0 p1 : Int) (ps : List Int) : AV × List (List AV) := if 1660 < 8 + ps.length then ewE 3 else ewC (udpW v6 ss ds (udpHead p0 p1 ps ++ ps))
def fEWU : Fun
  | [.v (.bool v6), .agg a, .agg b, .agg [.v (.int .u16 p0), .v (.int .u16 p1), .v (.bool false)], .sl nn c len cap] => (asB8 a).bind fun ss => (asB8 b).bind fun ds => (asB8 c).bind fun ps => if goodU ss ds ps len then some (ewuV v6 ss ds p0 p1 ps) else none
  | _ => none
theorem ewu_pure : Pure Try.prog 134 fEWU := (runF_pure k3_ok follows_mixed dm_ok 100000 1 134).weaken fun args r h => by
  unfold fEWU at h
  split at h
  · rename_i v6 a b p0 p1 nn c len cap
    obtain ⟨ss, e1, h1⟩ := Option.bind_eq_some_iff.1 h
    obtain ⟨ds, e2, h2⟩ := Option.bind_eq_some_iff.1 h1
    obtain ⟨ps, e3, he⟩ := Option.bind_eq_some_iff.1 h2
    clear h h1 h2
    split at he
    case isFalse => cases he
    rename_i hh
    obtain ⟨rfl, hl, h1, h2, h3, h4, h5⟩ := hh
    obtain rfl := asB8_eq e1
    obtain rfl := asB8_eq e2
    obtain rfl := asB8_eq e3
    rw [← he]
    unfold ewuV
    split
    · rename_i q; exact ewu_long p0 p1 ps v6 ss ds nn cap hl q
    · rename_i q; exact pwu_ok p0 p1 ps v6 ss ds nn cap (by omega) h1 h2 h3 h4 h5
  · cases h
noncomputable def KEW : Nat → Option Con
  | 80 => some fEKind
  | 81 => some fEMay
  | 134 => some fEWU
  | 43 => some fW4
  | 44 => some fW6
  | _ => none
theorem kew_ok : KOk Try.prog KEW := fun f F h => by
  unfold KEW at h
  split at h
  · cases h; exact ⟨ekind_pure, _, Try.func80, rfl, by decide⟩
  · cases h; exact ⟨emay_pure, _, Try.func81, rfl, by decide⟩
  · cases h; exact ⟨ewu_pure, _, Try.func134, rfl, by decide⟩
  · cases h; exact ⟨w4_pure, _, Try.func43, rfl, by decide⟩
  · cases h; exact ⟨w6_pure, _, Try.func44, rfl, by decide⟩
  · cases h
section
variable {D : FuncId → Nat → List Nat} {L d px : Nat} {args : List AV} {m : Mem}
theorem ckew_ekind : pvCall Try.prog KEW D L d px 80 args m = callBy fEKind m px args := pvCall_by rfl
theorem ckew_emay : pvCall Try.prog KEW D L d px 81 args m = callBy fEMay m px args := pvCall_by rfl
theorem ckew_ewu : pvCall Try.prog KEW D L d px 134 args m = callBy fEWU m px args := pvCall_by rfl
theorem ckew_w4 : pvCall Try.prog KEW D L d px 43 args m = callBy fW4 m px args := pvCall_by rfl
theorem ckew_w6 : pvCall Try.prog KEW D L d px 44 args m = callBy fW6 m px args := pvCall_by rfl
end
theorem ekew_ekind : KEW 80 = some (.pure fEKind) := rfl
theorem ekew_emay : KEW 81 = some (.pure fEMay) := rfl
theorem ekew_ewu : KEW 134 = some (.pure fEWU) := rfl
theorem ekew_w4 : KEW 43 = some (.pure fW4) := rfl
theorem ekew_w6 : KEW 44 = some (.pure fW6) := rfl
attribute [simp] ckew_ekind ekew_ekind ckew_emay ekew_emay ckew_ewu ekew_ewu ckew_w4 ekew_w4 ckew_w6 ekew_w6
theorem kndV_range (zs : List Int) : kndV zs = 0 ∨ kndV zs = 4 ∨ kndV zs = 41 := by
  unfold kndV
  split
  · exact .inl rfl
  split
  · exact .inr (.inl rfl)
  split
  · exact .inr (.inr rfl)
  · exact .inl rfl
/-- What is written around: a packet of an outer's. -/
def pkO (v6 : Bool) (pr : Int) (S D b : List Int) : AV × List (List AV) := if v6 = true then w6V 0 0 pr pr 64 S D [] b else w4V 0 0 false 64 pr S D [] b
def gueB (k : Int) (inner : List Int) : List Int := 0 :: k :: 0 :: 0 :: inner
def prO (mode : Int) (inner : List Int) : Int := if mode = 1 then kndV inner else 17
def bO (v6 : Bool) (mode : Int) (S D : List Int) (sp : Int) (inner : List Int) : List Int := if mode = 1 then inner else udpW v6 S D (udpHead sp 6080 (gueB (kndV inner) inner) ++ gueB (kndV inner) inner)
def hdO (v6 : Bool) : Nat := if v6 = true then 40 else 20
def wrV (v6 : Bool) (mode : Int) (S D : List Int) (sp : Int) (inner : List Int) : AV × List (List AV) := if mayO v6 mode S D sp = false then ewE 2 else if kndV inner = 0 then ewE 5 else if 1646 < hdO v6 + (bO v6 mode S D sp inner).length then ewE 3 else pkO v6 (prO mode inner) S D (bO v6 mode S D sp inner)
theorem chain_pr {pr : Int} (l : List Int) (h : pr = 4 ∨ pr = 41 ∨ pr = 17) : chainF 9 pr l 0 0 = (pr, 0, 0) := by
  rcases h with rfl | rfl | rfl <;> rfl
theorem pkO_said {v6 : Bool} {pr : Int} {S D b : List Int} (hp : pr = 4 ∨ pr = 41 ∨ pr = 17) (hS : S.length = 16) (hD : D.length = 16) (z : v6 = false → S.drop 4 = zero12 ∧ D.drop 4 = zero12) (bS : bytesB S = true) (bD : bytesB D = true) (bM : bytesB b = true) (hl : hdO v6 + b.length ≤ 1646) : ∃ W, pkO v6 pr S D b = ewC W ∧ W.length = hdO v6 + b.length ∧ Said v6 pr S D b W := by
  cases v6 with
  | true => exact an_back6 (pr := pr) (ho := 64) (chain_pr _ hp) (by omega) (by omega) (by decide) (by decide) hS hD bS bD bM (by simp [hdO] at hl; omega)
  | false => exact an_back4 (pr := pr) (ttl := 64) (by omega) (by omega) (by decide) (by decide) hS hD (z rfl).1 (z rfl).2 bS bD bM (by simp [hdO] at hl; omega)
/-- A payload that is too long, as the writers have it. -/
theorem pkO_long {v6 : Bool} {pr : Int} {S D b : List Int} (hp : pr = 4 ∨ pr = 41 ∨ pr = 17) (hS : S.length = 16) (hD : D.length = 16) (z : v6 = false → S.drop 4 = zero12 ∧ D.drop 4 = zero12) (bS : bytesB S = true) (bD : bytesB D = true) (bM : bytesB b = true) (hl : 1646 < hdO v6 + b.length) : pkO v6 pr S D b = ewE 3 ∨ ∃ W, pkO v6 pr S D b = ewC W ∧ 1646 < W.length := by
  cases v6 with
  | true =>
    by_cases h : 1620 < b.length
    · left
      have hnb : ¬ bad6 0 pr pr [] := by unfold bad6; rw [chain_pr _ hp]; simp
      show w6V 0 0 pr pr 64 S D [] b = ewE 3
      unfold w6V
      rw [if_neg hnb, if_pos (by simp; omega)]; rfl
    · right
      obtain ⟨W, h1, h2, _⟩ := an_back6 (pr := pr) (ho := 64) (chain_pr _ hp) (by omega) (by omega) (by decide) (by decide) hS hD bS bD bM (by omega)
      exact ⟨W, h1, by simp [hdO] at hl; omega⟩
  | false =>
    have hnb : ¬ bad4 S D := by unfold bad4; rw [(z rfl).1, (z rfl).2]; simp
    by_cases h : 1660 < 20 + b.length
    · left
      show w4V 0 0 false 64 pr S D [] b = ewE 3
      unfold w4V
      rw [if_neg (by decide), if_neg hnb, if_pos (by simp; omega)]; rfl
    · right
      obtain ⟨W, h1, h2, _⟩ := an_back4 (pr := pr) (ttl := 64) (by omega) (by omega) (by decide) (by decide) hS hD (z rfl).1 (z rfl).2 bS bD bM (by omega)
      exact ⟨W, h1, by simp [hdO] at hl; omega⟩
theorem may_ok {v6 : Bool} {mode : Int} {S D : List Int} {sp : Int} (h : mayO v6 mode S D sp = true) : (v6 = false → S.drop 4 = zero12 ∧ D.drop 4 = zero12) ∧ ((mode = 1 ∧ sp = 0) ∨ (mode = 2 ∧ 49152 ≤ sp)) := by
  unfold mayO four4 at h
  simp only [Bool.and_eq_true, Bool.or_eq_true, decide_eq_true_eq] at h
  refine ⟨fun h6 => ?_, h.2⟩
  rcases h.1 with h1 | h1
  · rw [h6] at h1; cases h1
  · exact h1
theorem eudpW_eq {v6 : Bool} {ss ds ps : List Int} {p0 p1 : Int} : udpW v6 ss ds (udpHead p0 p1 ps ++ ps) = hl8 [p0, p1, 8 + (ps.length : Int)] ++ udpC (ck v6 ss ds 17 (udpHead p0 p1 ps ++ ps)) / 256 % 256 :: udpC (ck v6 ss ds 17 (udpHead p0 p1 ps ++ ps)) % 256 :: ps := by
  unfold udpW putSum
  rfl
theorem eudpW_len {v6 : Bool} {ss ds ps : List Int} {p0 p1 : Int} : (udpW v6 ss ds (udpHead p0 p1 ps ++ ps)).length = 8 + ps.length := by
  rw [eudpW_eq]; simp; omega
theorem eudpW_bytes {v6 : Bool} {ss ds ps : List Int} {p0 p1 : Int} (hps : bytesB ps = true) : bytesB (udpW v6 ss ds (udpHead p0 p1 ps ++ ps)) = true := by
  rw [eudpW_eq, bytesB_append, bytesB_cons, bytesB_cons, hps, hl8_bytes]
  simp only [Bool.and_true, Bool.true_and, Bool.and_eq_true, decide_eq_true_eq]
  omega
set_option maxHeartbeats 64000000 in
theorem ewrap_run (v6 : Bool) (mode : Int) (S D : List Int) (sp : Int) (inner : List Int) (nn : Bool) (cap : Option Nat) (hS : S.length = 16) (hD : D.length = 16) (bS : bytesB S = true) (bD : bytesB D = true) (hz : bytesB inner = true) (hl : inner.length ≤ 1700) (s0 : 0 ≤ sp) (s1 : sp ≤ 65535) : runF Try.prog KEW Dm 100000 2 32 [outA v6 mode S D sp, .sl nn (B8 inner) inner.length cap] = some (wrV v6 mode S D sp inner) := by
  have hip := fun (px : Nat) (args : List AV) (m : Mem) (hl : args.length ≤ Try.f82.ntmps) => pvCall_own (P := Try.prog) (K := KEW) (D := Dm) (L := 100000) (d := 0) (px := px) (args := args) (m := m) (f := 82) (fn := Try.f82) rfl Try.func82 rfl (by decide) rfl rfl hl
  have hgu := fun (px : Nat) (args : List AV) (m : Mem) (hl : args.length ≤ Try.f83.ntmps) => pvCall_own (P := Try.prog) (K := KEW) (D := Dm) (L := 100000) (d := 0) (px := px) (args := args) (m := m) (f := 83) (fn := Try.f83) rfl Try.func83 rfl (by decide) rfl rfl hl
  have t1 : S.take 16 = S := List.take_of_length_le (by omega)
  have t2 : D.take 16 = D := List.take_of_length_le (by omega)
  have k33 : ∀ x : AV, (B8 S ++ (B8 D ++ [x])).take 33 = B8 S ++ (B8 D ++ [x]) := fun x => List.take_of_length_le (by simp [hS, hD])
  have a0 := asOut_at (v6 := v6) (mode := mode) (sp := sp) hS hD
  have hl5 : inner.length ≤ 500000 := by omega
  have hlt : inner.take inner.length = inner := List.take_length
  unfold runF wrV
  rw [pvCall_own (fn := Try.f32) rfl Try.func32 rfl (by decide) rfl rfl (by simp)]
  cases hm : mayO v6 mode S D sp with
  | false => simp -implicitDefEqProofs [hm, ewE, hip, hgu, outA, a0, k33, fEKind, fEMay, fEWU, fW4, fW6, hS, hD, bS, bD, hz, hl5, hlt, t1, t2, splice, udpA, IntKind.bits, Nat.testBit_eq_decide_div_mod_eq, B8t16 hS, B8d16 hS, B8t33 hS, B8t17 hS, B8d32 hS, B8t32 hS, B8d33 hS, B8d17 hS, B8d34 hS, B8d18 hS, B8t34 hS, B8t18 hS, B8t16 hD, B8d16 hD, B8t33 hD, B8t17 hD, B8d32 hD, B8t32 hD, B8d33 hD, B8d17 hD, B8d34 hD, B8d18 hD, B8t34 hD, B8t18 hD, -B8_append]
  | true =>
    by_cases hk : kndV inner = 0
    · simp -implicitDefEqProofs [hm, hk, ewE, hip, hgu, outA, a0, k33, fEKind, fEMay, fEWU, fW4, fW6, hS, hD, bS, bD, hz, hl5, hlt, t1, t2, splice, udpA, IntKind.bits, Nat.testBit_eq_decide_div_mod_eq, B8t16 hS, B8d16 hS, B8t33 hS, B8t17 hS, B8d32 hS, B8t32 hS, B8d33 hS, B8d17 hS, B8d34 hS, B8d18 hS, B8t34 hS, B8t18 hS, B8t16 hD, B8d16 hD, B8t33 hD, B8t17 hD, B8d32 hD, B8t32 hD, B8d33 hD, B8d17 hD, B8d34 hD, B8d18 hD, B8t34 hD, B8t18 hD, -B8_append]
    obtain ⟨z, hmode⟩ := may_ok hm
    have hkr := kndV_range inner
    have kb : (kndV inner == 0) = false := by simp [hk]
    generalize hkk : kndV inner = k at *
    have k0 : 0 ≤ k ∧ k ≤ 255 := by omega
    rcases hmode with ⟨rfl, rfl⟩ | ⟨rfl, hsp⟩
    · skip
      have hb : bO v6 1 S D 0 inner = inner := rfl
      have hpr : prO 1 inner = k := hkk
      rw [hb, hpr]
      have hp : k = 4 ∨ k = 41 ∨ k = 17 := by omega
      have hbz := hz
      have hb5 := hl5
      have hbt := hlt
      have hb6 : inner.length ≤ 9223372036854775807 := by omega
      have g6 : good6 0 0 (k) (k) 64 S D [] := ⟨by decide, by decide, by decide, by decide, by omega, by omega, by omega, by omega, by decide, by decide, hS, hD, bS, bD, rfl, by decide⟩
      have g4 : good4 0 0 64 (k) S D [] := ⟨by decide, by decide, by decide, by decide, by decide, by decide, by omega, by omega, hS, hD, bS, bD, rfl, by decide⟩
      have a6 := asI6_at (cl := 0) (la := 0) (nx := k) (pr := k) (ho := 64) (cs := []) (len := 0) hS hD rfl
      have a4 := asI4_at (tos := 0) (id := 0) (df := false) (ttl := 64) (pr := k) (cs := []) (len := 0) hS hD rfl
      simp only [B8vn] at a6 a4
      by_cases hlo : 1646 < hdO v6 + inner.length
      · rcases pkO_long hp hS hD z bS bD hbz hlo with hP | ⟨W, hP, hWl⟩
        · cases v6 with
          | true =>
            have hP2 : w6V 0 0 (k) (k) 64 S D [] inner = ewE 3 := hP
            simp -implicitDefEqProofs [hlo, hP2, hm, kb, hkk, hk, g6, g4, a6, a4, hbz, hb5, hbt, hb6, hb, hpr, ewE, ewC, hip, hgu, outA, a0, k33, fEKind, fEMay, fEWU, fW4, fW6, hS, hD, bS, bD, hz, hl5, hlt, t1, t2, splice, udpA, IntKind.bits, Nat.testBit_eq_decide_div_mod_eq, B8t16 hS, B8d16 hS, B8t33 hS, B8t17 hS, B8d32 hS, B8t32 hS, B8d33 hS, B8d17 hS, B8d34 hS, B8d18 hS, B8t34 hS, B8t18 hS, B8t16 hD, B8d16 hD, B8t33 hD, B8t17 hD, B8d32 hD, B8t32 hD, B8d33 hD, B8d17 hD, B8d34 hD, B8d18 hD, B8t34 hD, B8t18 hD, -B8_append]
          | false =>
            have hP2 : w4V 0 0 false 64 (k) S D [] inner = ewE 3 := hP
            simp -implicitDefEqProofs [hlo, hP2, hm, kb, hkk, hk, g6, g4, a6, a4, hbz, hb5, hbt, hb6, hb, hpr, ewE, ewC, hip, hgu, outA, a0, k33, fEKind, fEMay, fEWU, fW4, fW6, hS, hD, bS, bD, hz, hl5, hlt, t1, t2, splice, udpA, IntKind.bits, Nat.testBit_eq_decide_div_mod_eq, B8t16 hS, B8d16 hS, B8t33 hS, B8t17 hS, B8d32 hS, B8t32 hS, B8d33 hS, B8d17 hS, B8d34 hS, B8d18 hS, B8t34 hS, B8t18 hS, B8t16 hD, B8d16 hD, B8t33 hD, B8t17 hD, B8d32 hD, B8t32 hD, B8d33 hD, B8d17 hD, B8d34 hD, B8d18 hD, B8t34 hD, B8t18 hD, -B8_append]
        · have hWi : (1646 : Int) < (W.length : Int) := by omega
          cases v6 with
          | true =>
            have hP2 : w6V 0 0 (k) (k) 64 S D [] inner = ewC W := hP
            simp -implicitDefEqProofs [hlo, hP2, hWi, hWl, hm, kb, hkk, hk, g6, g4, a6, a4, hbz, hb5, hbt, hb6, hb, hpr, ewE, ewC, hip, hgu, outA, a0, k33, fEKind, fEMay, fEWU, fW4, fW6, hS, hD, bS, bD, hz, hl5, hlt, t1, t2, splice, udpA, IntKind.bits, Nat.testBit_eq_decide_div_mod_eq, B8t16 hS, B8d16 hS, B8t33 hS, B8t17 hS, B8d32 hS, B8t32 hS, B8d33 hS, B8d17 hS, B8d34 hS, B8d18 hS, B8t34 hS, B8t18 hS, B8t16 hD, B8d16 hD, B8t33 hD, B8t17 hD, B8d32 hD, B8t32 hD, B8d33 hD, B8d17 hD, B8d34 hD, B8d18 hD, B8t34 hD, B8t18 hD, -B8_append]
          | false =>
            have hP2 : w4V 0 0 false 64 (k) S D [] inner = ewC W := hP
            simp -implicitDefEqProofs [hlo, hP2, hWi, hWl, hm, kb, hkk, hk, g6, g4, a6, a4, hbz, hb5, hbt, hb6, hb, hpr, ewE, ewC, hip, hgu, outA, a0, k33, fEKind, fEMay, fEWU, fW4, fW6, hS, hD, bS, bD, hz, hl5, hlt, t1, t2, splice, udpA, IntKind.bits, Nat.testBit_eq_decide_div_mod_eq, B8t16 hS, B8d16 hS, B8t33 hS, B8t17 hS, B8d32 hS, B8t32 hS, B8d33 hS, B8d17 hS, B8d34 hS, B8d18 hS, B8t34 hS, B8t18 hS, B8t16 hD, B8d16 hD, B8t33 hD, B8t17 hD, B8d32 hD, B8t32 hD, B8d33 hD, B8d17 hD, B8d34 hD, B8d18 hD, B8t34 hD, B8t18 hD, -B8_append]
      · obtain ⟨W, hP, hWl, _⟩ := pkO_said hp hS hD z bS bD hbz (by omega)
        have hWi : ¬ (1646 : Int) < (W.length : Int) := by omega
        have hWi2 : ¬ 1646 < W.length := by omega
        cases v6 with
        | true =>
          have hP2 : w6V 0 0 (k) (k) 64 S D [] inner = ewC W := hP
          simp -implicitDefEqProofs [hlo, hP, hP2, hWi, hWi2, hm, kb, hkk, hk, g6, g4, a6, a4, hbz, hb5, hbt, hb6, hb, hpr, ewE, ewC, hip, hgu, outA, a0, k33, fEKind, fEMay, fEWU, fW4, fW6, hS, hD, bS, bD, hz, hl5, hlt, t1, t2, splice, udpA, IntKind.bits, Nat.testBit_eq_decide_div_mod_eq, B8t16 hS, B8d16 hS, B8t33 hS, B8t17 hS, B8d32 hS, B8t32 hS, B8d33 hS, B8d17 hS, B8d34 hS, B8d18 hS, B8t34 hS, B8t18 hS, B8t16 hD, B8d16 hD, B8t33 hD, B8t17 hD, B8d32 hD, B8t32 hD, B8d33 hD, B8d17 hD, B8d34 hD, B8d18 hD, B8t34 hD, B8t18 hD, -B8_append]
        | false =>
          have hP2 : w4V 0 0 false 64 (k) S D [] inner = ewC W := hP
          simp -implicitDefEqProofs [hlo, hP, hP2, hWi, hWi2, hm, kb, hkk, hk, g6, g4, a6, a4, hbz, hb5, hbt, hb6, hb, hpr, ewE, ewC, hip, hgu, outA, a0, k33, fEKind, fEMay, fEWU, fW4, fW6, hS, hD, bS, bD, hz, hl5, hlt, t1, t2, splice, udpA, IntKind.bits, Nat.testBit_eq_decide_div_mod_eq, B8t16 hS, B8d16 hS, B8t33 hS, B8t17 hS, B8d32 hS, B8t32 hS, B8d33 hS, B8d17 hS, B8d34 hS, B8d18 hS, B8t34 hS, B8t18 hS, B8t16 hD, B8d16 hD, B8t33 hD, B8t17 hD, B8d32 hD, B8t32 hD, B8d33 hD, B8d17 hD, B8d34 hD, B8d18 hD, B8t34 hD, B8t18 hD, -B8_append]
    · skip
      have hGl : (gueB k inner).length = 4 + inner.length := by simp [gueB]; omega
      have hGz : bytesB (gueB k inner) = true := by unfold gueB; simp only [bytesB_cons, hz]; simp [k0.1, k0.2]
      have hF : AV.v (.int .u8 0) :: AV.v (.int .u8 k) :: AV.v (.int .u8 0) :: AV.v (.int .u8 0) :: B8 inner = B8 (gueB k inner) := rfl
      have hb : bO v6 2 S D sp inner = udpW v6 S D (udpHead sp 6080 (gueB k inner) ++ gueB k inner) := by unfold bO; rw [hkk]; rfl
      have hpr : prO 2 inner = 17 := rfl
      rw [hb, hpr]
      have hUl := eudpW_len (v6 := v6) (ss := S) (ds := D) (ps := gueB k inner) (p0 := sp) (p1 := 6080)
      have hUz := eudpW_bytes (v6 := v6) (ss := S) (ds := D) (p0 := sp) (p1 := 6080) hGz
      have hWU : ewuV v6 S D sp 6080 (gueB k inner) = if 1660 < 8 + (gueB k inner).length then ewE 3 else ewC (udpW v6 S D (udpHead sp 6080 (gueB k inner) ++ gueB k inner)) := rfl
      have hgu2 : goodU S D (gueB k inner) (4 + inner.length) := ⟨hGl, by omega, hS, hD, hGz, bS, bD⟩
      have hGt : (gueB k inner).take (4 + inner.length) = gueB k inner := List.take_of_length_le (by omega)
      have hl6 : 4 + inner.length ≤ 549755813888 := by omega
      have hl7 : inner.length ≤ 549755813888 := by omega
      have hl8 : inner.length ≤ 549755813884 := by omega
      generalize udpW v6 S D (udpHead sp 6080 (gueB k inner) ++ gueB k inner) = U at *
      generalize gueB k inner = G at *
      rw [hGl] at hUl hWU
      by_cases hlong : 1660 < 8 + (4 + inner.length)
      · rw [if_pos hlong] at hWU
        have hl9 : 1646 < hdO v6 + U.length := by omega
        cases v6 <;> simp -implicitDefEqProofs [hm, kb, hkk, hk, hl9, hlong, hWU, hgu2, hGt, hF, hl6, hl7, hl8, hGl, ewE, hip, hgu, outA, a0, k33, fEKind, fEMay, fEWU, fW4, fW6, hS, hD, bS, bD, hz, hl5, hlt, t1, t2, splice, udpA, IntKind.bits, Nat.testBit_eq_decide_div_mod_eq, B8t16 hS, B8d16 hS, B8t33 hS, B8t17 hS, B8d32 hS, B8t32 hS, B8d33 hS, B8d17 hS, B8d34 hS, B8d18 hS, B8t34 hS, B8t18 hS, B8t16 hD, B8d16 hD, B8t33 hD, B8t17 hD, B8d32 hD, B8t32 hD, B8d33 hD, B8d17 hD, B8d34 hD, B8d18 hD, B8t34 hD, B8t18 hD, -B8_append]
      rw [if_neg hlong] at hWU
      have hp : (17 : Int) = 4 ∨ (17 : Int) = 41 ∨ (17 : Int) = 17 := .inr (.inr rfl)
      have hbz := hUz
      have hb5 : U.length ≤ 500000 := by omega
      have hbt : U.take U.length = U := List.take_length
      have hb6 : U.length ≤ 9223372036854775807 := by omega
      have g6 : good6 0 0 (17) (17) 64 S D [] := ⟨by decide, by decide, by decide, by decide, by omega, by omega, by omega, by omega, by decide, by decide, hS, hD, bS, bD, rfl, by decide⟩
      have g4 : good4 0 0 64 (17) S D [] := ⟨by decide, by decide, by decide, by decide, by decide, by decide, by omega, by omega, hS, hD, bS, bD, rfl, by decide⟩
      have a6 := asI6_at (cl := 0) (la := 0) (nx := 17) (pr := 17) (ho := 64) (cs := []) (len := 0) hS hD rfl
      have a4 := asI4_at (tos := 0) (id := 0) (df := false) (ttl := 64) (pr := 17) (cs := []) (len := 0) hS hD rfl
      simp only [B8vn] at a6 a4
      by_cases hlo : 1646 < hdO v6 + U.length
      · rcases pkO_long hp hS hD z bS bD hbz hlo with hP | ⟨W, hP, hWl⟩
        · cases v6 with
          | true =>
            have hP2 : w6V 0 0 (17) (17) 64 S D [] U = ewE 3 := hP
            simp -implicitDefEqProofs [hlo, hP2, hm, kb, hkk, hk, g6, g4, a6, a4, hbz, hb5, hbt, hb6, hb, hpr, hWU, hgu2, hGt, hF, hl6, hl7, hl8, hGl, ewE, ewC, hip, hgu, outA, a0, k33, fEKind, fEMay, fEWU, fW4, fW6, hS, hD, bS, bD, hz, hl5, hlt, t1, t2, splice, udpA, IntKind.bits, Nat.testBit_eq_decide_div_mod_eq, B8t16 hS, B8d16 hS, B8t33 hS, B8t17 hS, B8d32 hS, B8t32 hS, B8d33 hS, B8d17 hS, B8d34 hS, B8d18 hS, B8t34 hS, B8t18 hS, B8t16 hD, B8d16 hD, B8t33 hD, B8t17 hD, B8d32 hD, B8t32 hD, B8d33 hD, B8d17 hD, B8d34 hD, B8d18 hD, B8t34 hD, B8t18 hD, -B8_append]
          | false =>
            have hP2 : w4V 0 0 false 64 (17) S D [] U = ewE 3 := hP
            simp -implicitDefEqProofs [hlo, hP2, hm, kb, hkk, hk, g6, g4, a6, a4, hbz, hb5, hbt, hb6, hb, hpr, hWU, hgu2, hGt, hF, hl6, hl7, hl8, hGl, ewE, ewC, hip, hgu, outA, a0, k33, fEKind, fEMay, fEWU, fW4, fW6, hS, hD, bS, bD, hz, hl5, hlt, t1, t2, splice, udpA, IntKind.bits, Nat.testBit_eq_decide_div_mod_eq, B8t16 hS, B8d16 hS, B8t33 hS, B8t17 hS, B8d32 hS, B8t32 hS, B8d33 hS, B8d17 hS, B8d34 hS, B8d18 hS, B8t34 hS, B8t18 hS, B8t16 hD, B8d16 hD, B8t33 hD, B8t17 hD, B8d32 hD, B8t32 hD, B8d33 hD, B8d17 hD, B8d34 hD, B8d18 hD, B8t34 hD, B8t18 hD, -B8_append]
        · have hWi : (1646 : Int) < (W.length : Int) := by omega
          cases v6 with
          | true =>
            have hP2 : w6V 0 0 (17) (17) 64 S D [] U = ewC W := hP
            simp -implicitDefEqProofs [hlo, hP2, hWi, hWl, hm, kb, hkk, hk, g6, g4, a6, a4, hbz, hb5, hbt, hb6, hb, hpr, hWU, hgu2, hGt, hF, hl6, hl7, hl8, hGl, ewE, ewC, hip, hgu, outA, a0, k33, fEKind, fEMay, fEWU, fW4, fW6, hS, hD, bS, bD, hz, hl5, hlt, t1, t2, splice, udpA, IntKind.bits, Nat.testBit_eq_decide_div_mod_eq, B8t16 hS, B8d16 hS, B8t33 hS, B8t17 hS, B8d32 hS, B8t32 hS, B8d33 hS, B8d17 hS, B8d34 hS, B8d18 hS, B8t34 hS, B8t18 hS, B8t16 hD, B8d16 hD, B8t33 hD, B8t17 hD, B8d32 hD, B8t32 hD, B8d33 hD, B8d17 hD, B8d34 hD, B8d18 hD, B8t34 hD, B8t18 hD, -B8_append]
          | false =>
            have hP2 : w4V 0 0 false 64 (17) S D [] U = ewC W := hP
            simp -implicitDefEqProofs [hlo, hP2, hWi, hWl, hm, kb, hkk, hk, g6, g4, a6, a4, hbz, hb5, hbt, hb6, hb, hpr, hWU, hgu2, hGt, hF, hl6, hl7, hl8, hGl, ewE, ewC, hip, hgu, outA, a0, k33, fEKind, fEMay, fEWU, fW4, fW6, hS, hD, bS, bD, hz, hl5, hlt, t1, t2, splice, udpA, IntKind.bits, Nat.testBit_eq_decide_div_mod_eq, B8t16 hS, B8d16 hS, B8t33 hS, B8t17 hS, B8d32 hS, B8t32 hS, B8d33 hS, B8d17 hS, B8d34 hS, B8d18 hS, B8t34 hS, B8t18 hS, B8t16 hD, B8d16 hD, B8t33 hD, B8t17 hD, B8d32 hD, B8t32 hD, B8d33 hD, B8d17 hD, B8d34 hD, B8d18 hD, B8t34 hD, B8t18 hD, -B8_append]
      · obtain ⟨W, hP, hWl, _⟩ := pkO_said hp hS hD z bS bD hbz (by omega)
        have hWi : ¬ (1646 : Int) < (W.length : Int) := by omega
        have hWi2 : ¬ 1646 < W.length := by omega
        cases v6 with
        | true =>
          have hP2 : w6V 0 0 (17) (17) 64 S D [] U = ewC W := hP
          simp -implicitDefEqProofs [hlo, hP, hP2, hWi, hWi2, hm, kb, hkk, hk, g6, g4, a6, a4, hbz, hb5, hbt, hb6, hb, hpr, hWU, hgu2, hGt, hF, hl6, hl7, hl8, hGl, ewE, ewC, hip, hgu, outA, a0, k33, fEKind, fEMay, fEWU, fW4, fW6, hS, hD, bS, bD, hz, hl5, hlt, t1, t2, splice, udpA, IntKind.bits, Nat.testBit_eq_decide_div_mod_eq, B8t16 hS, B8d16 hS, B8t33 hS, B8t17 hS, B8d32 hS, B8t32 hS, B8d33 hS, B8d17 hS, B8d34 hS, B8d18 hS, B8t34 hS, B8t18 hS, B8t16 hD, B8d16 hD, B8t33 hD, B8t17 hD, B8d32 hD, B8t32 hD, B8d33 hD, B8d17 hD, B8d34 hD, B8d18 hD, B8t34 hD, B8t18 hD, -B8_append]
        | false =>
          have hP2 : w4V 0 0 false 64 (17) S D [] U = ewC W := hP
          simp -implicitDefEqProofs [hlo, hP, hP2, hWi, hWi2, hm, kb, hkk, hk, g6, g4, a6, a4, hbz, hb5, hbt, hb6, hb, hpr, hWU, hgu2, hGt, hF, hl6, hl7, hl8, hGl, ewE, ewC, hip, hgu, outA, a0, k33, fEKind, fEMay, fEWU, fW4, fW6, hS, hD, bS, bD, hz, hl5, hlt, t1, t2, splice, udpA, IntKind.bits, Nat.testBit_eq_decide_div_mod_eq, B8t16 hS, B8d16 hS, B8t33 hS, B8t17 hS, B8d32 hS, B8t32 hS, B8d33 hS, B8d17 hS, B8d34 hS, B8d18 hS, B8t34 hS, B8t18 hS, B8t16 hD, B8d16 hD, B8t33 hD, B8t17 hD, B8d32 hD, B8t32 hD, B8d33 hD, B8d17 hD, B8d34 hD, B8d18 hD, B8t34 hD, B8t18 hD, -B8_append]
end Go.Proofs.Ytmdafjegddnecaa

/- Encapsulation: encap.Unwrap as a function of values. -/
namespace Go.Proofs.Ytmdafjegddnecaa
open Go.Pm Go.Wb
set_option linter.unusedVariables false
set_option linter.unusedSimpArgs false
set_option maxRecDepth 1000000
theorem knd_pos {R : List Int} (h : ¬ kndV R = 0) : 0 < R.length := by
  rcases Nat.eq_zero_or_pos R.length with h0 | h0
  · exact absurd (by unfold kndV; rw [if_pos h0]) h
  · exact h0
theorem ip6_said {zs : List Int} (hl : zs.length ≤ 500000) (hz : bytesB zs = true) (h : anEr zs = 0) (hv : an6 zs = true) : ∃ cl la nx ho C, ip6V zs = (.tup [ip6A cl la nx (anP zs) ho (anS zs) (anD zs) (.own 0 0 0 C 1 (.whole 5)), .own 1 0 0 (anR zs).length 1 (.whole 5), .v (.int .i64 0)], [B8 ((zs.drop 40).take C), B8 (anR zs)]) := by
  have hb : ¬ anBad zs := by
    intro hb
    unfold anEr at h
    rw [if_pos hb] at h
    cases h
  have he : anE zs = 0 := by unfold anEr at h; rwa [if_neg hb] at h
  have h6 : gb zs 0 / 16 = 6 := by simpa [an6] using hv
  have hE : anE zs = an6E zs := by unfold anE; rw [if_pos hv]
  rw [hE] at he
  have hn := an6_n hz h6 he
  obtain ⟨h40, hL, _⟩ := an6E_ok h6 he
  refine ⟨gb zs 0 % 16 * 16 + gb zs 1 / 16, gb zs 1 % 16 * 65536 + gb zs 2 * 256 + gb zs 3, gb zs 6, gb zs 7, (anC zs).2.1.toNat, ?_⟩
  rw [ip6V_e h6, if_pos he]
  unfold ip6R
  have hm : ((zs.drop (40 + (anC zs).2.1.toNat)).take (len6 zs - (anC zs).2.1.toNat)).length = len6 zs - (anC zs).2.1.toNat := by simp; omega
  simp only [anP, anS, anD, anR, hv, if_true, hm]
theorem ip4_said {zs : List Int} (h : anEr zs = 0) (hv : an6 zs = false) : ∃ tos id df ttl C, ip4V zs = (.tup [ip4A tos id df ttl (anP zs) (anS zs) (anD zs) (.own 0 0 0 C 1 (.whole 5)), .own 1 0 0 (anR zs).length 1 (.whole 5), .v (.int .i64 0)], [B8 ((zs.drop 20).take C), B8 (anR zs)]) := by
  have hb : ¬ anBad zs := by
    intro hb
    unfold anEr at h
    rw [if_pos hb] at h
    cases h
  have he : anE zs = 0 := by unfold anEr at h; rwa [if_neg hb] at h
  have hE : anE zs = chk4 zs := by unfold anE; rw [if_neg (by simp [hv])]
  rw [hE] at he
  obtain ⟨q1, q2, q3, q4, q5, q6, q7, q8, q9, q10⟩ := chk4_ok he
  refine ⟨gb zs 1, w16 zs 4, decide (16384 ≤ w16 zs 6), gb zs 8, hl4 zs - 20, ?_⟩
  unfold ip4V
  rw [if_pos he]
  unfold ip4R
  have hm : ((zs.drop (hl4 zs)).take ((w16 zs 2).toNat - hl4 zs)).length = (w16 zs 2).toNat - hl4 zs := by simp; omega
  simp only [anP, anS, anD, anR, hv, if_false, Bool.false_eq_true, hm]
noncomputable def KEU : Nat → Option Con
  | 80 => some fEKind
  | 85 => some fUDP
  | 52 => some fIP4
  | 22 => some fIP6
  | 66 => some fAClone
  | _ => none
theorem keu_ok : KOk Try.prog KEU := fun f F h => by
  unfold KEU at h
  split at h
  · cases h; exact ⟨ekind_pure, _, Try.func80, rfl, by decide⟩
  · cases h; exact ⟨udp_pure, _, Try.func85, rfl, by decide⟩
  · cases h; exact ⟨ip4_pure, _, Try.func52, rfl, by decide⟩
  · cases h; exact ⟨ip6_pure, _, Try.func22, rfl, by decide⟩
  · cases h; exact ⟨aclone_pure, _, Try.func66, rfl, by decide⟩
  · cases h
section
variable {D : FuncId → Nat → List Nat} {L d px : Nat} {args : List AV} {m : Mem}
theorem ckeu_ekind : pvCall Try.prog KEU D L d px 80 args m = callBy fEKind m px args := pvCall_by rfl
theorem ckeu_sudp : pvCall Try.prog KEU D L d px 85 args m = callBy fUDP m px args := pvCall_by rfl
theorem ckeu_ip4 : pvCall Try.prog KEU D L d px 52 args m = callBy fIP4 m px args := pvCall_by rfl
theorem ckeu_ip6 : pvCall Try.prog KEU D L d px 22 args m = callBy fIP6 m px args := pvCall_by rfl
theorem ckeu_clone : pvCall Try.prog KEU D L d px 66 args m = callBy fAClone m px args := pvCall_by rfl
end
theorem ekeu_ekind : KEU 80 = some (.pure fEKind) := rfl
theorem ekeu_sudp : KEU 85 = some (.pure fUDP) := rfl
theorem ekeu_ip4 : KEU 52 = some (.pure fIP4) := rfl
theorem ekeu_ip6 : KEU 22 = some (.pure fIP6) := rfl
theorem ekeu_clone : KEU 66 = some (.pure fAClone) := rfl
attribute [simp] ckeu_ekind ekeu_ekind ckeu_sudp ekeu_sudp ckeu_ip4 ekeu_ip4 ckeu_ip6 ekeu_ip6 ckeu_clone ekeu_clone
def errO (e : Int) : AV × List (List AV) := (.tup [outA false 0 z16 z16 0, .v (.slice none 0 0), .v (.int .i64 e)], [])
def okO (v6 : Bool) (mode : Int) (S D : List Int) (sp : Int) (inner : List Int) : AV × List (List AV) := (.tup [outA v6 mode S D sp, .own 0 0 0 inner.length 1 (.whole 5), .v (.int .i64 0)], [B8 inner])
/-- What is wrong with a payload of GUE. -/
def guE (v6 : Bool) (S D R : List Int) : Int := if R.length < 8 then 4 else if ¬ w16 R 4 = R.length then 5 else if w16 R 6 = 0 ∧ v6 = true then 6 else if ¬ w16 R 6 = 0 ∧ ¬ ck v6 S D 17 R = 0 then 6 else 0
theorem udpV_e (v6 : Bool) (S D R : List Int) : udpV v6 S D R = if guE v6 S D R = 0 then udpR R else errU (guE v6 S D R) := by
  unfold udpV guE
  by_cases h1 : R.length < 8
  · simp [h1]
  by_cases h2 : w16 R 4 = R.length
  · by_cases h3 : w16 R 6 = 0
    · cases v6 <;> simp [h1, h2, h3]
    · by_cases h4 : ck v6 S D 17 R = 0
      · simp [h1, h2, h3, h4]
      · simp [h1, h2, h3, h4]
  · simp [h1, h2]
theorem guE_len {v6 : Bool} {S D R : List Int} (h : guE v6 S D R = 0) : 8 ≤ R.length := by
  unfold guE at h
  split at h
  · cases h
  · omega
/-- What is wrong behind the UDP header. -/
def guX (R : List Int) : Int := if ¬ w16 R 2 = 6080 then 10 else if R.length < 12 then 4 else if ¬ gb R 8 = 0 ∨ ¬ gb R 10 = 0 ∨ ¬ gb R 11 = 0 then 5 else if gb R 9 = 0 ∨ ¬ kndV (R.drop 12) = gb R 9 then 5 else 0
def unV (v6 : Bool) (zs : List Int) : AV × List (List AV) :=
  if anP zs = 4 ∨ anP zs = 41 then (if kndV (anR zs) = anP zs then okO v6 1 (anS zs) (anD zs) 0 (anR zs) else errO 5)
  else if anP zs = 17 then (if ¬ guE v6 (anS zs) (anD zs) (anR zs) = 0 then errO (guE v6 (anS zs) (anD zs) (anR zs)) else if ¬ guX (anR zs) = 0 then errO (guX (anR zs)) else okO v6 2 (anS zs) (anD zs) (w16 (anR zs) 0) ((anR zs).drop 12))
  else errO 10
set_option maxHeartbeats 64000000 in
theorem eunwrap_run (v6 : Bool) (zs : List Int) (nn : Bool) (cap : Option Nat) (hl : zs.length ≤ 500000) (hz : bytesB zs = true) (h0 : anEr zs = 0) (h6 : an6 zs = v6) : runF Try.prog KEU Dm 100000 2 33 [.v (.bool v6), .sl nn (B8 zs) zs.length cap] = some (unV v6 zs) := by
  have hop := fun (px : Nat) (args : List AV) (m : Mem) (hl : args.length ≤ Try.f84.ntmps) => pvCall_own (P := Try.prog) (K := KEU) (D := Dm) (L := 100000) (d := 0) (px := px) (args := args) (m := m) (f := 84) (fn := Try.f84) rfl Try.func84 rfl (by decide) rfl rfl hl
  have hg : zs.length = zs.length ∧ zs.length ≤ 500000 ∧ bytesB zs = true := ⟨rfl, hl, hz⟩
  obtain ⟨_, _, _, hS, hD, bS, bD, bR, _, _, hR6⟩ := an_ok hl hz h0
  have hV : if v6 = true then (∃ cl la nx ho C, ip6V zs = (.tup [ip6A cl la nx (anP zs) ho (anS zs) (anD zs) (.own 0 0 0 C 1 (.whole 5)), .own 1 0 0 (anR zs).length 1 (.whole 5), .v (.int .i64 0)], [B8 ((zs.drop 40).take C), B8 (anR zs)])) else (∃ tos id df ttl C, ip4V zs = (.tup [ip4A tos id df ttl (anP zs) (anS zs) (anD zs) (.own 0 0 0 C 1 (.whole 5)), .own 1 0 0 (anR zs).length 1 (.whole 5), .v (.int .i64 0)], [B8 ((zs.drop 20).take C), B8 (anR zs)])) := by
    cases v6 with
    | true => exact ip6_said hl hz h0 h6
    | false => exact ip4_said h0 h6
  unfold runF unV
  rw [pvCall_own (fn := Try.f33) rfl Try.func33 rfl (by decide) rfl rfl (by simp)]
  generalize anS zs = S at *
  generalize anD zs = E at *
  generalize anR zs = R at *
  generalize anP zs = P at *
  have r5 : R.length ≤ 500000 := by omega
  have rt : R.take R.length = R := List.take_length
  have r8 : (R.drop 8).length = R.length - 8 := by simp
  have t1 : S.take 16 = S := List.take_of_length_le (by omega)
  have t2 : E.take 16 = E := List.take_of_length_le (by omega)
  have hgk : R.length = R.length ∧ R.length ≤ 500000 ∧ bytesB R = true := ⟨rfl, r5, bR⟩
  have hin : goodIn S E R R.length := ⟨rfl, r5, hS, hD, bR, bS, bD⟩
  cases v6 with
  | true =>
    obtain ⟨c1, c2, c3, c4, C, hV⟩ := hV
    by_cases p4 : P = 4
    · subst p4
      by_cases hk : kndV R = 4
      · have kb : (kndV R != 4) = false := by simp [hk]
        have hR0 : 0 < R.length := knd_pos (by omega)
        simp -implicitDefEqProofs [hk, kb, hR0, gb_drop', hop, hV, hg, hgk, hin, fIP6, fIP4, fUDP, fEKind, fAClone, hS, hD, bS, bD, bR, r5, rt, r8, t1, t2, z16, outA, errO, okO, ip6A, ip4A, splice, B8vc, B8vn, IntKind.bits, Nat.testBit_eq_decide_div_mod_eq, B8t16 hS, B8d16 hS, B8t33 hS, B8t17 hS, B8d32 hS, B8t32 hS, B8d33 hS, B8d17 hS, B8d34 hS, B8d18 hS, B8t34 hS, B8t18 hS, B8t16 hD, B8d16 hD, B8t33 hD, B8t17 hD, B8d32 hD, B8t32 hD, B8d33 hD, B8d17 hD, B8d34 hD, B8d18 hD, B8t34 hD, B8t18 hD, -B8_append]
      · have kb : (kndV R != 4) = true := by simp [hk]
        simp -implicitDefEqProofs [hk, kb, gb_drop', hop, hV, hg, hgk, hin, fIP6, fIP4, fUDP, fEKind, fAClone, hS, hD, bS, bD, bR, r5, rt, r8, t1, t2, z16, outA, errO, okO, ip6A, ip4A, splice, B8vc, B8vn, IntKind.bits, Nat.testBit_eq_decide_div_mod_eq, B8t16 hS, B8d16 hS, B8t33 hS, B8t17 hS, B8d32 hS, B8t32 hS, B8d33 hS, B8d17 hS, B8d34 hS, B8d18 hS, B8t34 hS, B8t18 hS, B8t16 hD, B8d16 hD, B8t33 hD, B8t17 hD, B8d32 hD, B8t32 hD, B8d33 hD, B8d17 hD, B8d34 hD, B8d18 hD, B8t34 hD, B8t18 hD, -B8_append]
    have n4 : (P == 4) = false := by simp [p4]
    by_cases p41 : P = 41
    · subst p41
      by_cases hk : kndV R = 41
      · have kb : (kndV R != 41) = false := by simp [hk]
        have hR0 : 0 < R.length := knd_pos (by omega)
        simp -implicitDefEqProofs [hk, kb, hR0, gb_drop', hop, hV, hg, hgk, hin, fIP6, fIP4, fUDP, fEKind, fAClone, hS, hD, bS, bD, bR, r5, rt, r8, t1, t2, z16, outA, errO, okO, ip6A, ip4A, splice, B8vc, B8vn, IntKind.bits, Nat.testBit_eq_decide_div_mod_eq, B8t16 hS, B8d16 hS, B8t33 hS, B8t17 hS, B8d32 hS, B8t32 hS, B8d33 hS, B8d17 hS, B8d34 hS, B8d18 hS, B8t34 hS, B8t18 hS, B8t16 hD, B8d16 hD, B8t33 hD, B8t17 hD, B8d32 hD, B8t32 hD, B8d33 hD, B8d17 hD, B8d34 hD, B8d18 hD, B8t34 hD, B8t18 hD, -B8_append]
      · have kb : (kndV R != 41) = true := by simp [hk]
        simp -implicitDefEqProofs [hk, kb, gb_drop', hop, hV, hg, hgk, hin, fIP6, fIP4, fUDP, fEKind, fAClone, hS, hD, bS, bD, bR, r5, rt, r8, t1, t2, z16, outA, errO, okO, ip6A, ip4A, splice, B8vc, B8vn, IntKind.bits, Nat.testBit_eq_decide_div_mod_eq, B8t16 hS, B8d16 hS, B8t33 hS, B8t17 hS, B8d32 hS, B8t32 hS, B8d33 hS, B8d17 hS, B8d34 hS, B8d18 hS, B8t34 hS, B8t18 hS, B8t16 hD, B8d16 hD, B8t33 hD, B8t17 hD, B8d32 hD, B8t32 hD, B8d33 hD, B8d17 hD, B8d34 hD, B8d18 hD, B8t34 hD, B8t18 hD, -B8_append]
    have n41 : (P == 41) = false := by simp [p41]
    by_cases p17 : P = 17
    case neg =>
      have n17 : (P == 17) = false := by simp [p17]
      simp -implicitDefEqProofs [p4, p41, p17, n4, n41, n17, gb_drop', hop, hV, hg, hgk, hin, fIP6, fIP4, fUDP, fEKind, fAClone, hS, hD, bS, bD, bR, r5, rt, r8, t1, t2, z16, outA, errO, okO, ip6A, ip4A, splice, B8vc, B8vn, IntKind.bits, Nat.testBit_eq_decide_div_mod_eq, B8t16 hS, B8d16 hS, B8t33 hS, B8t17 hS, B8d32 hS, B8t32 hS, B8d33 hS, B8d17 hS, B8d34 hS, B8d18 hS, B8t34 hS, B8t18 hS, B8t16 hD, B8d16 hD, B8t33 hD, B8t17 hD, B8d32 hD, B8t32 hD, B8d33 hD, B8d17 hD, B8d34 hD, B8d18 hD, B8t34 hD, B8t18 hD, -B8_append]
    subst p17
    have hU := udpV_e true S E R
    by_cases hu : guE true S E R = 0
    case neg =>
      rw [if_neg hu] at hU
      have ub : (guE true S E R != 0) = true := by simp [hu]
      simp -implicitDefEqProofs [hU, hu, ub, errU, noU, gb_drop', hop, hV, hg, hgk, hin, fIP6, fIP4, fUDP, fEKind, fAClone, hS, hD, bS, bD, bR, r5, rt, r8, t1, t2, z16, outA, errO, okO, ip6A, ip4A, splice, B8vc, B8vn, IntKind.bits, Nat.testBit_eq_decide_div_mod_eq, B8t16 hS, B8d16 hS, B8t33 hS, B8t17 hS, B8d32 hS, B8t32 hS, B8d33 hS, B8d17 hS, B8d34 hS, B8d18 hS, B8t34 hS, B8t18 hS, B8t16 hD, B8d16 hD, B8t33 hD, B8t17 hD, B8d32 hD, B8t32 hD, B8d33 hD, B8d17 hD, B8d34 hD, B8d18 hD, B8t34 hD, B8t18 hD, -B8_append]
    rw [if_pos hu] at hU
    unfold udpR at hU
    have h8 := guE_len hu
    have bR8 := bytesB_drop bR 8
    unfold guX
    by_cases hp : w16 R 2 = 6080
    case neg =>
      have pb : (w16 R 2 != 6080) = true := by simp [hp]
      simp -implicitDefEqProofs [hU, hu, hp, pb, gb_drop', hop, hV, hg, hgk, hin, fIP6, fIP4, fUDP, fEKind, fAClone, hS, hD, bS, bD, bR, r5, rt, r8, t1, t2, z16, outA, errO, okO, ip6A, ip4A, splice, B8vc, B8vn, IntKind.bits, Nat.testBit_eq_decide_div_mod_eq, B8t16 hS, B8d16 hS, B8t33 hS, B8t17 hS, B8d32 hS, B8t32 hS, B8d33 hS, B8d17 hS, B8d34 hS, B8d18 hS, B8t34 hS, B8t18 hS, B8t16 hD, B8d16 hD, B8t33 hD, B8t17 hD, B8d32 hD, B8t32 hD, B8d33 hD, B8d17 hD, B8d34 hD, B8d18 hD, B8t34 hD, B8t18 hD, -B8_append]
    by_cases h12 : R.length < 12
    · have i4 : ((R.length - 8 : Nat) : Int) < 4 := by omega
      have i4n : R.length - 8 < 4 := by omega
      have i4i : (R.length : Int) - 8 < 4 := by omega
      simp -implicitDefEqProofs [hU, hu, hp, h12, i4, i4n, i4i, gb_drop', hop, hV, hg, hgk, hin, fIP6, fIP4, fUDP, fEKind, fAClone, hS, hD, bS, bD, bR, r5, rt, r8, t1, t2, z16, outA, errO, okO, ip6A, ip4A, splice, B8vc, B8vn, IntKind.bits, Nat.testBit_eq_decide_div_mod_eq, B8t16 hS, B8d16 hS, B8t33 hS, B8t17 hS, B8d32 hS, B8t32 hS, B8d33 hS, B8d17 hS, B8d34 hS, B8d18 hS, B8t34 hS, B8t18 hS, B8t16 hD, B8d16 hD, B8t33 hD, B8t17 hD, B8d32 hD, B8t32 hD, B8d33 hD, B8d17 hD, B8d34 hD, B8d18 hD, B8t34 hD, B8t18 hD, -B8_append]
    have i4 : ¬ ((R.length - 8 : Nat) : Int) < 4 := by omega
    have i4n : ¬ R.length - 8 < 4 := by omega
    have e0 := B8_at00 (R.drop 8) (by omega)
    rw [gb_drop'] at e0
    have l0 : 0 < R.length - 8 := by omega
    have j0 : (0 : Int) < ((R.length - 8 : Nat) : Int) := by omega
    have e1 := B8_at0 (R.drop 8) 1 (by omega)
    rw [gb_drop'] at e1
    have l1 : 1 < R.length - 8 := by omega
    have j1 : (1 : Int) < ((R.length - 8 : Nat) : Int) := by omega
    have e2 := B8_at0 (R.drop 8) 2 (by omega)
    rw [gb_drop'] at e2
    have l2 : 2 < R.length - 8 := by omega
    have j2 : (2 : Int) < ((R.length - 8 : Nat) : Int) := by omega
    have e3 := B8_at0 (R.drop 8) 3 (by omega)
    rw [gb_drop'] at e3
    have l3 : 3 < R.length - 8 := by omega
    have j3 : (3 : Int) < ((R.length - 8 : Nat) : Int) := by omega
    simp only [Nat.reduceAdd] at e0 e1 e2 e3
    have f1 := B8_at00 (R.drop 9) (by simp; omega)
    have u1 : 1 ≤ R.length - 8 := by omega
    have v1 : 9 < R.length := by omega
    have f2 := B8_at00 (R.drop 10) (by simp; omega)
    have u2 : 2 ≤ R.length - 8 := by omega
    have v2 : 10 < R.length := by omega
    have f3 := B8_at00 (R.drop 11) (by simp; omega)
    have u3 : 3 ≤ R.length - 8 := by omega
    have v3 : 11 < R.length := by omega
    have q4 : 4 ≤ R.length - 8 := by omega
    have q4i : (4 : Int) ≤ ((R.length - 8 : Nat) : Int) := by omega
    have q5 : (R.drop 12).length = R.length - 12 := by simp
    have q6 : R.length - 8 - 4 = R.length - 12 := by omega
    have q7 : R.length - 12 ≤ 500000 := by omega
    have q8 : (R.drop 12).take (R.length - 12) = R.drop 12 := List.take_of_length_le (by simp)
    have q9 := bytesB_drop bR 12
    by_cases g8 : gb R 8 = 0
    case neg =>
      have gb8 : (gb R 8 != 0) = true := by simp [g8]
      simp -implicitDefEqProofs [f1, f2, f3, u1, u2, u3, v1, v2, v3, hU, hu, hp, h12, i4, i4n, e0, e1, e2, e3, l0, l1, l2, l3, j0, j1, j2, j3, g8, gb8, gb_drop', hop, hV, hg, hgk, hin, fIP6, fIP4, fUDP, fEKind, fAClone, hS, hD, bS, bD, bR, r5, rt, r8, t1, t2, z16, outA, errO, okO, ip6A, ip4A, splice, B8vc, B8vn, IntKind.bits, Nat.testBit_eq_decide_div_mod_eq, B8t16 hS, B8d16 hS, B8t33 hS, B8t17 hS, B8d32 hS, B8t32 hS, B8d33 hS, B8d17 hS, B8d34 hS, B8d18 hS, B8t34 hS, B8t18 hS, B8t16 hD, B8d16 hD, B8t33 hD, B8t17 hD, B8d32 hD, B8t32 hD, B8d33 hD, B8d17 hD, B8d34 hD, B8d18 hD, B8t34 hD, B8t18 hD, -B8_append]
    by_cases g10 : gb R 10 = 0
    case neg =>
      have gb10 : (gb R 10 != 0) = true := by simp [g10]
      simp -implicitDefEqProofs [f1, f2, f3, u1, u2, u3, v1, v2, v3, hU, hu, hp, h12, i4, i4n, e0, e1, e2, e3, l0, l1, l2, l3, j0, j1, j2, j3, g10, gb10, g8, gb_drop', hop, hV, hg, hgk, hin, fIP6, fIP4, fUDP, fEKind, fAClone, hS, hD, bS, bD, bR, r5, rt, r8, t1, t2, z16, outA, errO, okO, ip6A, ip4A, splice, B8vc, B8vn, IntKind.bits, Nat.testBit_eq_decide_div_mod_eq, B8t16 hS, B8d16 hS, B8t33 hS, B8t17 hS, B8d32 hS, B8t32 hS, B8d33 hS, B8d17 hS, B8d34 hS, B8d18 hS, B8t34 hS, B8t18 hS, B8t16 hD, B8d16 hD, B8t33 hD, B8t17 hD, B8d32 hD, B8t32 hD, B8d33 hD, B8d17 hD, B8d34 hD, B8d18 hD, B8t34 hD, B8t18 hD, -B8_append]
    by_cases g11 : gb R 11 = 0
    case neg =>
      have gb11 : (gb R 11 != 0) = true := by simp [g11]
      simp -implicitDefEqProofs [f1, f2, f3, u1, u2, u3, v1, v2, v3, hU, hu, hp, h12, i4, i4n, e0, e1, e2, e3, l0, l1, l2, l3, j0, j1, j2, j3, g11, gb11, g8, g10, gb_drop', hop, hV, hg, hgk, hin, fIP6, fIP4, fUDP, fEKind, fAClone, hS, hD, bS, bD, bR, r5, rt, r8, t1, t2, z16, outA, errO, okO, ip6A, ip4A, splice, B8vc, B8vn, IntKind.bits, Nat.testBit_eq_decide_div_mod_eq, B8t16 hS, B8d16 hS, B8t33 hS, B8t17 hS, B8d32 hS, B8t32 hS, B8d33 hS, B8d17 hS, B8d34 hS, B8d18 hS, B8t34 hS, B8t18 hS, B8t16 hD, B8d16 hD, B8t33 hD, B8t17 hD, B8d32 hD, B8t32 hD, B8d33 hD, B8d17 hD, B8d34 hD, B8d18 hD, B8t34 hD, B8t18 hD, -B8_append]
    by_cases g9 : gb R 9 = 0
    · simp -implicitDefEqProofs [f1, f2, f3, u1, u2, u3, v1, v2, v3, hU, hu, hp, h12, i4, i4n, e0, e1, e2, e3, l0, l1, l2, l3, j0, j1, j2, j3, g8, g10, g11, q4, q4i, q5, q6, q7, q8, g9, gb_drop', hop, hV, hg, hgk, hin, fIP6, fIP4, fUDP, fEKind, fAClone, hS, hD, bS, bD, bR, r5, rt, r8, t1, t2, z16, outA, errO, okO, ip6A, ip4A, splice, B8vc, B8vn, IntKind.bits, Nat.testBit_eq_decide_div_mod_eq, B8t16 hS, B8d16 hS, B8t33 hS, B8t17 hS, B8d32 hS, B8t32 hS, B8d33 hS, B8d17 hS, B8d34 hS, B8d18 hS, B8t34 hS, B8t18 hS, B8t16 hD, B8d16 hD, B8t33 hD, B8t17 hD, B8d32 hD, B8t32 hD, B8d33 hD, B8d17 hD, B8d34 hD, B8d18 hD, B8t34 hD, B8t18 hD, -B8_append]
    have g9b : (gb R 9 == 0) = false := by simp [g9]
    by_cases hk : kndV (R.drop 12) = gb R 9
    · have kb : (kndV (R.drop 12) != gb R 9) = false := by simp [hk]
      have hR0 : 0 < (R.drop 12).length := knd_pos (by omega)
      have hR1 : 0 < R.length - 12 := by omega
      have hR2 : 12 < R.length := by omega
      simp -implicitDefEqProofs [f1, f2, f3, u1, u2, u3, v1, v2, v3, hU, hu, hp, h12, i4, i4n, e0, e1, e2, e3, l0, l1, l2, l3, j0, j1, j2, j3, g8, g10, g11, q4, q4i, q5, q6, q7, q8, q9, g9, g9b, hk, kb, hR0, hR1, hR2, gb_drop', hop, hV, hg, hgk, hin, fIP6, fIP4, fUDP, fEKind, fAClone, hS, hD, bS, bD, bR, r5, rt, r8, t1, t2, z16, outA, errO, okO, ip6A, ip4A, splice, B8vc, B8vn, IntKind.bits, Nat.testBit_eq_decide_div_mod_eq, B8t16 hS, B8d16 hS, B8t33 hS, B8t17 hS, B8d32 hS, B8t32 hS, B8d33 hS, B8d17 hS, B8d34 hS, B8d18 hS, B8t34 hS, B8t18 hS, B8t16 hD, B8d16 hD, B8t33 hD, B8t17 hD, B8d32 hD, B8t32 hD, B8d33 hD, B8d17 hD, B8d34 hD, B8d18 hD, B8t34 hD, B8t18 hD, -B8_append]
    · have kb : (kndV (R.drop 12) != gb R 9) = true := by simp [hk]
      simp -implicitDefEqProofs [f1, f2, f3, u1, u2, u3, v1, v2, v3, hU, hu, hp, h12, i4, i4n, e0, e1, e2, e3, l0, l1, l2, l3, j0, j1, j2, j3, g8, g10, g11, q4, q4i, q5, q6, q7, q8, q9, g9, g9b, hk, kb, gb_drop', hop, hV, hg, hgk, hin, fIP6, fIP4, fUDP, fEKind, fAClone, hS, hD, bS, bD, bR, r5, rt, r8, t1, t2, z16, outA, errO, okO, ip6A, ip4A, splice, B8vc, B8vn, IntKind.bits, Nat.testBit_eq_decide_div_mod_eq, B8t16 hS, B8d16 hS, B8t33 hS, B8t17 hS, B8d32 hS, B8t32 hS, B8d33 hS, B8d17 hS, B8d34 hS, B8d18 hS, B8t34 hS, B8t18 hS, B8t16 hD, B8d16 hD, B8t33 hD, B8t17 hD, B8d32 hD, B8t32 hD, B8d33 hD, B8d17 hD, B8d34 hD, B8d18 hD, B8t34 hD, B8t18 hD, -B8_append]
  | false =>
    obtain ⟨c1, c2, c3, c4, C, hV⟩ := hV
    by_cases p4 : P = 4
    · subst p4
      by_cases hk : kndV R = 4
      · have kb : (kndV R != 4) = false := by simp [hk]
        have hR0 : 0 < R.length := knd_pos (by omega)
        simp -implicitDefEqProofs [hk, kb, hR0, gb_drop', hop, hV, hg, hgk, hin, fIP6, fIP4, fUDP, fEKind, fAClone, hS, hD, bS, bD, bR, r5, rt, r8, t1, t2, z16, outA, errO, okO, ip6A, ip4A, splice, B8vc, B8vn, IntKind.bits, Nat.testBit_eq_decide_div_mod_eq, B8t16 hS, B8d16 hS, B8t33 hS, B8t17 hS, B8d32 hS, B8t32 hS, B8d33 hS, B8d17 hS, B8d34 hS, B8d18 hS, B8t34 hS, B8t18 hS, B8t16 hD, B8d16 hD, B8t33 hD, B8t17 hD, B8d32 hD, B8t32 hD, B8d33 hD, B8d17 hD, B8d34 hD, B8d18 hD, B8t34 hD, B8t18 hD, -B8_append]
      · have kb : (kndV R != 4) = true := by simp [hk]
        simp -implicitDefEqProofs [hk, kb, gb_drop', hop, hV, hg, hgk, hin, fIP6, fIP4, fUDP, fEKind, fAClone, hS, hD, bS, bD, bR, r5, rt, r8, t1, t2, z16, outA, errO, okO, ip6A, ip4A, splice, B8vc, B8vn, IntKind.bits, Nat.testBit_eq_decide_div_mod_eq, B8t16 hS, B8d16 hS, B8t33 hS, B8t17 hS, B8d32 hS, B8t32 hS, B8d33 hS, B8d17 hS, B8d34 hS, B8d18 hS, B8t34 hS, B8t18 hS, B8t16 hD, B8d16 hD, B8t33 hD, B8t17 hD, B8d32 hD, B8t32 hD, B8d33 hD, B8d17 hD, B8d34 hD, B8d18 hD, B8t34 hD, B8t18 hD, -B8_append]
    have n4 : (P == 4) = false := by simp [p4]
    by_cases p41 : P = 41
    · subst p41
      by_cases hk : kndV R = 41
      · have kb : (kndV R != 41) = false := by simp [hk]
        have hR0 : 0 < R.length := knd_pos (by omega)
        simp -implicitDefEqProofs [hk, kb, hR0, gb_drop', hop, hV, hg, hgk, hin, fIP6, fIP4, fUDP, fEKind, fAClone, hS, hD, bS, bD, bR, r5, rt, r8, t1, t2, z16, outA, errO, okO, ip6A, ip4A, splice, B8vc, B8vn, IntKind.bits, Nat.testBit_eq_decide_div_mod_eq, B8t16 hS, B8d16 hS, B8t33 hS, B8t17 hS, B8d32 hS, B8t32 hS, B8d33 hS, B8d17 hS, B8d34 hS, B8d18 hS, B8t34 hS, B8t18 hS, B8t16 hD, B8d16 hD, B8t33 hD, B8t17 hD, B8d32 hD, B8t32 hD, B8d33 hD, B8d17 hD, B8d34 hD, B8d18 hD, B8t34 hD, B8t18 hD, -B8_append]
      · have kb : (kndV R != 41) = true := by simp [hk]
        simp -implicitDefEqProofs [hk, kb, gb_drop', hop, hV, hg, hgk, hin, fIP6, fIP4, fUDP, fEKind, fAClone, hS, hD, bS, bD, bR, r5, rt, r8, t1, t2, z16, outA, errO, okO, ip6A, ip4A, splice, B8vc, B8vn, IntKind.bits, Nat.testBit_eq_decide_div_mod_eq, B8t16 hS, B8d16 hS, B8t33 hS, B8t17 hS, B8d32 hS, B8t32 hS, B8d33 hS, B8d17 hS, B8d34 hS, B8d18 hS, B8t34 hS, B8t18 hS, B8t16 hD, B8d16 hD, B8t33 hD, B8t17 hD, B8d32 hD, B8t32 hD, B8d33 hD, B8d17 hD, B8d34 hD, B8d18 hD, B8t34 hD, B8t18 hD, -B8_append]
    have n41 : (P == 41) = false := by simp [p41]
    by_cases p17 : P = 17
    case neg =>
      have n17 : (P == 17) = false := by simp [p17]
      simp -implicitDefEqProofs [p4, p41, p17, n4, n41, n17, gb_drop', hop, hV, hg, hgk, hin, fIP6, fIP4, fUDP, fEKind, fAClone, hS, hD, bS, bD, bR, r5, rt, r8, t1, t2, z16, outA, errO, okO, ip6A, ip4A, splice, B8vc, B8vn, IntKind.bits, Nat.testBit_eq_decide_div_mod_eq, B8t16 hS, B8d16 hS, B8t33 hS, B8t17 hS, B8d32 hS, B8t32 hS, B8d33 hS, B8d17 hS, B8d34 hS, B8d18 hS, B8t34 hS, B8t18 hS, B8t16 hD, B8d16 hD, B8t33 hD, B8t17 hD, B8d32 hD, B8t32 hD, B8d33 hD, B8d17 hD, B8d34 hD, B8d18 hD, B8t34 hD, B8t18 hD, -B8_append]
    subst p17
    have hU := udpV_e false S E R
    by_cases hu : guE false S E R = 0
    case neg =>
      rw [if_neg hu] at hU
      have ub : (guE false S E R != 0) = true := by simp [hu]
      simp -implicitDefEqProofs [hU, hu, ub, errU, noU, gb_drop', hop, hV, hg, hgk, hin, fIP6, fIP4, fUDP, fEKind, fAClone, hS, hD, bS, bD, bR, r5, rt, r8, t1, t2, z16, outA, errO, okO, ip6A, ip4A, splice, B8vc, B8vn, IntKind.bits, Nat.testBit_eq_decide_div_mod_eq, B8t16 hS, B8d16 hS, B8t33 hS, B8t17 hS, B8d32 hS, B8t32 hS, B8d33 hS, B8d17 hS, B8d34 hS, B8d18 hS, B8t34 hS, B8t18 hS, B8t16 hD, B8d16 hD, B8t33 hD, B8t17 hD, B8d32 hD, B8t32 hD, B8d33 hD, B8d17 hD, B8d34 hD, B8d18 hD, B8t34 hD, B8t18 hD, -B8_append]
    rw [if_pos hu] at hU
    unfold udpR at hU
    have h8 := guE_len hu
    have bR8 := bytesB_drop bR 8
    unfold guX
    by_cases hp : w16 R 2 = 6080
    case neg =>
      have pb : (w16 R 2 != 6080) = true := by simp [hp]
      simp -implicitDefEqProofs [hU, hu, hp, pb, gb_drop', hop, hV, hg, hgk, hin, fIP6, fIP4, fUDP, fEKind, fAClone, hS, hD, bS, bD, bR, r5, rt, r8, t1, t2, z16, outA, errO, okO, ip6A, ip4A, splice, B8vc, B8vn, IntKind.bits, Nat.testBit_eq_decide_div_mod_eq, B8t16 hS, B8d16 hS, B8t33 hS, B8t17 hS, B8d32 hS, B8t32 hS, B8d33 hS, B8d17 hS, B8d34 hS, B8d18 hS, B8t34 hS, B8t18 hS, B8t16 hD, B8d16 hD, B8t33 hD, B8t17 hD, B8d32 hD, B8t32 hD, B8d33 hD, B8d17 hD, B8d34 hD, B8d18 hD, B8t34 hD, B8t18 hD, -B8_append]
    by_cases h12 : R.length < 12
    · have i4 : ((R.length - 8 : Nat) : Int) < 4 := by omega
      have i4n : R.length - 8 < 4 := by omega
      have i4i : (R.length : Int) - 8 < 4 := by omega
      simp -implicitDefEqProofs [hU, hu, hp, h12, i4, i4n, i4i, gb_drop', hop, hV, hg, hgk, hin, fIP6, fIP4, fUDP, fEKind, fAClone, hS, hD, bS, bD, bR, r5, rt, r8, t1, t2, z16, outA, errO, okO, ip6A, ip4A, splice, B8vc, B8vn, IntKind.bits, Nat.testBit_eq_decide_div_mod_eq, B8t16 hS, B8d16 hS, B8t33 hS, B8t17 hS, B8d32 hS, B8t32 hS, B8d33 hS, B8d17 hS, B8d34 hS, B8d18 hS, B8t34 hS, B8t18 hS, B8t16 hD, B8d16 hD, B8t33 hD, B8t17 hD, B8d32 hD, B8t32 hD, B8d33 hD, B8d17 hD, B8d34 hD, B8d18 hD, B8t34 hD, B8t18 hD, -B8_append]
    have i4 : ¬ ((R.length - 8 : Nat) : Int) < 4 := by omega
    have i4n : ¬ R.length - 8 < 4 := by omega
    have e0 := B8_at00 (R.drop 8) (by omega)
    rw [gb_drop'] at e0
    have l0 : 0 < R.length - 8 := by omega
    have j0 : (0 : Int) < ((R.length - 8 : Nat) : Int) := by omega
    have e1 := B8_at0 (R.drop 8) 1 (by omega)
    rw [gb_drop'] at e1
    have l1 : 1 < R.length - 8 := by omega
    have j1 : (1 : Int) < ((R.length - 8 : Nat) : Int) := by omega
    have e2 := B8_at0 (R.drop 8) 2 (by omega)
    rw [gb_drop'] at e2
    have l2 : 2 < R.length - 8 := by omega
    have j2 : (2 : Int) < ((R.length - 8 : Nat) : Int) := by omega
    have e3 := B8_at0 (R.drop 8) 3 (by omega)
    rw [gb_drop'] at e3
    have l3 : 3 < R.length - 8 := by omega
    have j3 : (3 : Int) < ((R.length - 8 : Nat) : Int) := by omega
    simp only [Nat.reduceAdd] at e0 e1 e2 e3
    have f1 := B8_at00 (R.drop 9) (by simp; omega)
    have u1 : 1 ≤ R.length - 8 := by omega
    have v1 : 9 < R.length := by omega
    have f2 := B8_at00 (R.drop 10) (by simp; omega)
    have u2 : 2 ≤ R.length - 8 := by omega
    have v2 : 10 < R.length := by omega
    have f3 := B8_at00 (R.drop 11) (by simp; omega)
    have u3 : 3 ≤ R.length - 8 := by omega
    have v3 : 11 < R.length := by omega
    have q4 : 4 ≤ R.length - 8 := by omega
    have q4i : (4 : Int) ≤ ((R.length - 8 : Nat) : Int) := by omega
    have q5 : (R.drop 12).length = R.length - 12 := by simp
    have q6 : R.length - 8 - 4 = R.length - 12 := by omega
    have q7 : R.length - 12 ≤ 500000 := by omega
    have q8 : (R.drop 12).take (R.length - 12) = R.drop 12 := List.take_of_length_le (by simp)
    have q9 := bytesB_drop bR 12
    by_cases g8 : gb R 8 = 0
    case neg =>
      have gb8 : (gb R 8 != 0) = true := by simp [g8]
      simp -implicitDefEqProofs [f1, f2, f3, u1, u2, u3, v1, v2, v3, hU, hu, hp, h12, i4, i4n, e0, e1, e2, e3, l0, l1, l2, l3, j0, j1, j2, j3, g8, gb8, gb_drop', hop, hV, hg, hgk, hin, fIP6, fIP4, fUDP, fEKind, fAClone, hS, hD, bS, bD, bR, r5, rt, r8, t1, t2, z16, outA, errO, okO, ip6A, ip4A, splice, B8vc, B8vn, IntKind.bits, Nat.testBit_eq_decide_div_mod_eq, B8t16 hS, B8d16 hS, B8t33 hS, B8t17 hS, B8d32 hS, B8t32 hS, B8d33 hS, B8d17 hS, B8d34 hS, B8d18 hS, B8t34 hS, B8t18 hS, B8t16 hD, B8d16 hD, B8t33 hD, B8t17 hD, B8d32 hD, B8t32 hD, B8d33 hD, B8d17 hD, B8d34 hD, B8d18 hD, B8t34 hD, B8t18 hD, -B8_append]
    by_cases g10 : gb R 10 = 0
    case neg =>
      have gb10 : (gb R 10 != 0) = true := by simp [g10]
      simp -implicitDefEqProofs [f1, f2, f3, u1, u2, u3, v1, v2, v3, hU, hu, hp, h12, i4, i4n, e0, e1, e2, e3, l0, l1, l2, l3, j0, j1, j2, j3, g10, gb10, g8, gb_drop', hop, hV, hg, hgk, hin, fIP6, fIP4, fUDP, fEKind, fAClone, hS, hD, bS, bD, bR, r5, rt, r8, t1, t2, z16, outA, errO, okO, ip6A, ip4A, splice, B8vc, B8vn, IntKind.bits, Nat.testBit_eq_decide_div_mod_eq, B8t16 hS, B8d16 hS, B8t33 hS, B8t17 hS, B8d32 hS, B8t32 hS, B8d33 hS, B8d17 hS, B8d34 hS, B8d18 hS, B8t34 hS, B8t18 hS, B8t16 hD, B8d16 hD, B8t33 hD, B8t17 hD, B8d32 hD, B8t32 hD, B8d33 hD, B8d17 hD, B8d34 hD, B8d18 hD, B8t34 hD, B8t18 hD, -B8_append]
    by_cases g11 : gb R 11 = 0
    case neg =>
      have gb11 : (gb R 11 != 0) = true := by simp [g11]
      simp -implicitDefEqProofs [f1, f2, f3, u1, u2, u3, v1, v2, v3, hU, hu, hp, h12, i4, i4n, e0, e1, e2, e3, l0, l1, l2, l3, j0, j1, j2, j3, g11, gb11, g8, g10, gb_drop', hop, hV, hg, hgk, hin, fIP6, fIP4, fUDP, fEKind, fAClone, hS, hD, bS, bD, bR, r5, rt, r8, t1, t2, z16, outA, errO, okO, ip6A, ip4A, splice, B8vc, B8vn, IntKind.bits, Nat.testBit_eq_decide_div_mod_eq, B8t16 hS, B8d16 hS, B8t33 hS, B8t17 hS, B8d32 hS, B8t32 hS, B8d33 hS, B8d17 hS, B8d34 hS, B8d18 hS, B8t34 hS, B8t18 hS, B8t16 hD, B8d16 hD, B8t33 hD, B8t17 hD, B8d32 hD, B8t32 hD, B8d33 hD, B8d17 hD, B8d34 hD, B8d18 hD, B8t34 hD, B8t18 hD, -B8_append]
    by_cases g9 : gb R 9 = 0
    · simp -implicitDefEqProofs [f1, f2, f3, u1, u2, u3, v1, v2, v3, hU, hu, hp, h12, i4, i4n, e0, e1, e2, e3, l0, l1, l2, l3, j0, j1, j2, j3, g8, g10, g11, q4, q4i, q5, q6, q7, q8, g9, gb_drop', hop, hV, hg, hgk, hin, fIP6, fIP4, fUDP, fEKind, fAClone, hS, hD, bS, bD, bR, r5, rt, r8, t1, t2, z16, outA, errO, okO, ip6A, ip4A, splice, B8vc, B8vn, IntKind.bits, Nat.testBit_eq_decide_div_mod_eq, B8t16 hS, B8d16 hS, B8t33 hS, B8t17 hS, B8d32 hS, B8t32 hS, B8d33 hS, B8d17 hS, B8d34 hS, B8d18 hS, B8t34 hS, B8t18 hS, B8t16 hD, B8d16 hD, B8t33 hD, B8t17 hD, B8d32 hD, B8t32 hD, B8d33 hD, B8d17 hD, B8d34 hD, B8d18 hD, B8t34 hD, B8t18 hD, -B8_append]
    have g9b : (gb R 9 == 0) = false := by simp [g9]
    by_cases hk : kndV (R.drop 12) = gb R 9
    · have kb : (kndV (R.drop 12) != gb R 9) = false := by simp [hk]
      have hR0 : 0 < (R.drop 12).length := knd_pos (by omega)
      have hR1 : 0 < R.length - 12 := by omega
      have hR2 : 12 < R.length := by omega
      simp -implicitDefEqProofs [f1, f2, f3, u1, u2, u3, v1, v2, v3, hU, hu, hp, h12, i4, i4n, e0, e1, e2, e3, l0, l1, l2, l3, j0, j1, j2, j3, g8, g10, g11, q4, q4i, q5, q6, q7, q8, q9, g9, g9b, hk, kb, hR0, hR1, hR2, gb_drop', hop, hV, hg, hgk, hin, fIP6, fIP4, fUDP, fEKind, fAClone, hS, hD, bS, bD, bR, r5, rt, r8, t1, t2, z16, outA, errO, okO, ip6A, ip4A, splice, B8vc, B8vn, IntKind.bits, Nat.testBit_eq_decide_div_mod_eq, B8t16 hS, B8d16 hS, B8t33 hS, B8t17 hS, B8d32 hS, B8t32 hS, B8d33 hS, B8d17 hS, B8d34 hS, B8d18 hS, B8t34 hS, B8t18 hS, B8t16 hD, B8d16 hD, B8t33 hD, B8t17 hD, B8d32 hD, B8t32 hD, B8d33 hD, B8d17 hD, B8d34 hD, B8d18 hD, B8t34 hD, B8t18 hD, -B8_append]
    · have kb : (kndV (R.drop 12) != gb R 9) = true := by simp [hk]
      simp -implicitDefEqProofs [f1, f2, f3, u1, u2, u3, v1, v2, v3, hU, hu, hp, h12, i4, i4n, e0, e1, e2, e3, l0, l1, l2, l3, j0, j1, j2, j3, g8, g10, g11, q4, q4i, q5, q6, q7, q8, q9, g9, g9b, hk, kb, gb_drop', hop, hV, hg, hgk, hin, fIP6, fIP4, fUDP, fEKind, fAClone, hS, hD, bS, bD, bR, r5, rt, r8, t1, t2, z16, outA, errO, okO, ip6A, ip4A, splice, B8vc, B8vn, IntKind.bits, Nat.testBit_eq_decide_div_mod_eq, B8t16 hS, B8d16 hS, B8t33 hS, B8t17 hS, B8d32 hS, B8t32 hS, B8d33 hS, B8d17 hS, B8d34 hS, B8d18 hS, B8t34 hS, B8t18 hS, B8t16 hD, B8d16 hD, B8t33 hD, B8t17 hD, B8d32 hD, B8t32 hD, B8d33 hD, B8d17 hD, B8d34 hD, B8d18 hD, B8t34 hD, B8t18 hD, -B8_append]
end Go.Proofs.Ytmdafjegddnecaa
