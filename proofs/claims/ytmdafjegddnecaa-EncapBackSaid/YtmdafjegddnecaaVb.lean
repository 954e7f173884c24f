/- icmp.Within as a function of values. -/
import Derived.Test.YtmdafjegddnecaaVa
import Derived.Test.YtmdafjegddnecaaMe
import Derived.Test.YtmdafjegddnecaaJa
namespace Go.Proofs.Ytmdafjegddnecaa
open Go.Pm Go.Wb
set_option linter.unusedVariables false
set_option linter.unusedSimpArgs false
set_option maxRecDepth 1000000
noncomputable def KM : Nat → Option Con
  | 65 => some fChain
  | 151 => some fChain
  | 146 => some fPorts
  | 97 => some fNum
  | _ => none
theorem km_ok : KOk Try.prog KM := fun f F h => by
  unfold KM at h
  split at h
  · cases h; exact ⟨chain_pure, _, Try.func65, rfl, by decide⟩
  · cases h; exact ⟨rchain_pure, _, Try.func151, rfl, by decide⟩
  · cases h; exact ⟨ports_pure, _, Try.func146, rfl, by decide⟩
  · cases h; exact ⟨num_pure, _, Try.func97, rfl, by decide⟩
  · cases h
section
variable {D : FuncId → Nat → List Nat} {L d px : Nat} {args : List AV} {m : Mem}
theorem ckm_chain : pvCall Try.prog KM D L d px 65 args m = callBy fChain m px args := pvCall_by rfl
theorem ckm_rchain : pvCall Try.prog KM D L d px 151 args m = callBy fChain m px args := pvCall_by rfl
theorem ckm_ports : pvCall Try.prog KM D L d px 146 args m = callBy fPorts m px args := pvCall_by rfl
theorem ckm_num : pvCall Try.prog KM D L d px 97 args m = callBy fNum m px args := pvCall_by rfl
end
theorem ekm_chain : KM 65 = some (.pure fChain) := rfl
theorem ekm_rchain : KM 151 = some (.pure fChain) := rfl
theorem ekm_ports : KM 146 = some (.pure fPorts) := rfl
theorem ekm_num : KM 97 = some (.pure fNum) := rfl
attribute [simp] ckm_chain ekm_chain ckm_rchain ekm_rchain ckm_ports ekm_ports ckm_num ekm_num
theorem B8d34 {ss : List Int} (h : ss.length = 16) (T : List AV) : (B8 ss ++ T).drop 34 = T.drop 18 := by
  rw [show (34 : Nat) = 16 + 18 from rfl, ← List.drop_drop, B8d16 h]
theorem B8d18 {ss : List Int} (h : ss.length = 16) (T : List AV) : (B8 ss ++ T).drop 18 = T.drop 2 := by
  rw [show (18 : Nat) = 16 + 2 from rfl, ← List.drop_drop, B8d16 h]
theorem B8t34 {ss : List Int} (h : ss.length = 16) (T : List AV) : (B8 ss ++ T).take 34 = B8 ss ++ T.take 18 := by
  rw [List.take_append, B8_length, h, List.take_of_length_le (by simp [h])]
theorem B8t18 {ss : List Int} (h : ss.length = 16) (T : List AV) : (B8 ss ++ T).take 18 = B8 ss ++ T.take 2 := by
  rw [List.take_append, B8_length, h, List.take_of_length_le (by simp [h])]
theorem B8vc (z : Int) (zs : List Int) : B8 (z :: zs) = .v (.int .u8 z) :: B8 zs := rfl
theorem B8vn : B8 [] = [] := rfl
theorem take4_of {zs : List Int} (h : 4 ≤ zs.length) : zs.take 4 = [gb zs 0, gb zs 1, gb zs 2, gb zs 3] := by
  match zs, h with
  | a :: b :: c :: d :: r, _ => rfl
def tupA (v6 : Bool) (pr : Int) (ss ds : List Int) (sp dp : Int) : AV := .agg (.v (.bool v6) :: .v (.int .u8 pr) :: (B8 ss ++ (B8 ds ++ [.v (.int .u16 sp), .v (.int .u16 dp)])))
def t16 : List Int := [0, 0, 0, 0, 0, 0, 0, 0, 0, 0, 0, 0, 0, 0, 0, 0]
def noTup : AV := tupA false 0 t16 t16 0 0
/-- A header's length by its first byte. -/
def hn4 (zs : List Int) : Nat := (gb zs 0 % 16 * 4).toNat
/-- What a packet within says ahead of its segment: what is wrong, the protocol, the two ends, where its segment begins. -/
def hd4E (zs : List Int) : Int := if zs.length < 20 then 4 else if ¬ gb zs 0 / 16 = 4 then 5 else if hn4 zs < 20 then 5 else if zs.length < hn4 zs then 4 else if ¬ w16 zs 6 % 8192 = 0 then 11 else 0
def hd6E (zs : List Int) : Int := if zs.length < 40 then 4 else if ¬ gb zs 0 / 16 = 6 then 5 else (chainF 9 (gb zs 6) (zs.drop 40) 0 0).2.2
def hdE (v6 : Bool) (zs : List Int) : Int := if v6 = true then hd6E zs else hd4E zs
def hdP (v6 : Bool) (zs : List Int) : Int := if v6 = true then (chainF 9 (gb zs 6) (zs.drop 40) 0 0).1 else gb zs 9
def hdN (v6 : Bool) (zs : List Int) : Nat := if v6 = true then 40 + (chainF 9 (gb zs 6) (zs.drop 40) 0 0).2.1.toNat else hn4 zs
def hdS (v6 : Bool) (zs : List Int) : List Int := if v6 = true then (zs.drop 24).take 16 else ad4 (zs.drop 16)
def hdD (v6 : Bool) (zs : List Int) : List Int := if v6 = true then (zs.drop 8).take 16 else ad4 (zs.drop 12)
def wiE (v6 : Bool) (zs : List Int) : Int := if ¬ hdE v6 zs = 0 then hdE v6 zs else if ¬ hdP v6 zs = 6 ∧ ¬ hdP v6 zs = 17 then 10 else if zs.length < hdN v6 zs + 4 then 4 else 0
def wiT (v6 : Bool) (zs : List Int) : AV := if wiE v6 zs = 0 then tupA v6 (hdP v6 zs) (hdS v6 zs) (hdD v6 zs) (w16 zs (hdN v6 zs + 2)) (w16 zs (hdN v6 zs)) else noTup
theorem and31 (z : Int) (h0 : 0 ≤ z) (h1 : z ≤ 255) : bits .and .u8 z 31 = z % 32 := by
  have h : z < 256 := by omega
  go_bits2
theorem gb_drop' (l : List Int) (k i : Nat) : gb (l.drop k) i = gb l (k + i) := by
  unfold gb; rw [List.getD_eq_getElem?_getD, List.getElem?_drop, List.getD_eq_getElem?_getD]
theorem w16_drop (zs : List Int) (k i : Nat) : w16 (zs.drop k) i = w16 zs (k + i) := by
  unfold w16
  have e0 := gb_drop' zs k i
  have e1 := gb_drop' zs k (i + 1)
  unfold gb at e0 e1
  rw [e0, e1]; rfl
set_option maxHeartbeats 64000000 in
theorem within4_run (zs : List Int) (nn : Bool) (cap : Option Nat) (hz : bytesB zs = true) (hl : zs.length ≤ 500000) : runF Try.prog KM Dm 100000 2 116 [.v (.bool false), .sl nn (B8 zs) zs.length cap] = some (.tup [wiT false zs, .v (.int .i64 (wiE false zs))], []) := by
  have hin := fun (px : Nat) (args : List AV) (m : Mem) (hl : args.length ≤ 109) => pvCall_own (P := Try.prog) (K := KM) (D := Dm) (L := 100000) (d := 0) (px := px) (args := args) (m := m) (f := 145) (fn := Try.f145) rfl Try.func145 rfl (by decide) rfl rfl hl
  have hE : hdE false zs = hd4E zs := rfl
  have hP : hdP false zs = gb zs 9 := rfl
  have hN : hdN false zs = hn4 zs := rfl
  have hS : hdS false zs = ad4 (zs.drop 16) := rfl
  have hD : hdD false zs = ad4 (zs.drop 12) := rfl
  unfold runF wiT wiE
  rw [hE, hP, hN, hS, hD]
  unfold hd4E
  rw [pvCall_own (fn := Try.f116) rfl Try.func116 rfl (by decide) rfl rfl (by simp)]
  by_cases h20 : zs.length < 20
  · have i20 : (zs.length : Int) < 20 := by omega
    simp -implicitDefEqProofs [hin, h20, i20, noTup, tupA, t16, B8vc, B8vn, splice]
  rw [if_neg h20]
  have i20 : ¬ (zs.length : Int) < 20 := by omega
  have a0 := B8_at00 zs (by omega)
  have l0 : 0 < zs.length := by omega
  have i0 : (0 : Int) < (zs.length : Int) := by omega
  have g0 := gb_range hz 0
  have s1 : (gb zs 0).fdiv 16 = gb zs 0 / 16 := Int.fdiv_eq_ediv_of_nonneg _ (by omega)
  by_cases h4 : gb zs 0 / 16 = 4
  case neg =>
    have h4n : (gb zs 0 / 16 != 4) = true := by simp [h4]
    simp -implicitDefEqProofs [hin, i20, a0, l0, i0, s1, h4, h4n, noTup, tupA, t16, B8vc, B8vn, splice, IntKind.bits]
  have n4 := and15v (gb zs 0) g0.1 g0.2
  have w0 : IntKind.i64.wrap (gb zs 0 % 16) = gb zs 0 % 16 := wrap64_id (by omega) (by omega)
  have e1 : (hn4 zs : Int) = gb zs 0 % 16 * 4 := by unfold hn4; omega
  have w1 : IntKind.i64.wrap (gb zs 0 % 16 * 4) = (hn4 zs : Int) := by rw [wrap64_id (by omega) (by omega)]; omega
  generalize hn4 zs = n at *
  by_cases h2 : n < 20
  · have h2i : (n : Int) < 20 := by omega
    simp -implicitDefEqProofs [hin, i20, a0, l0, i0, s1, h4, n4, w0, w1, h2, h2i, noTup, tupA, t16, B8vc, B8vn, splice, IntKind.bits]
  have h2i : ¬ (n : Int) < 20 := by omega
  by_cases h3 : zs.length < n
  · have h3i : (zs.length : Int) < (n : Int) := by omega
    simp -implicitDefEqProofs [hin, i20, a0, l0, i0, s1, h4, n4, w0, w1, h2, h2i, h3, h3i, noTup, tupA, t16, B8vc, B8vn, splice, IntKind.bits]
  have h3i : ¬ (zs.length : Int) < (n : Int) := by omega
  have a6 := B8_at0 zs 6 (by omega)
  have a7 := B8_at0 zs 7 (by omega)
  have a9 := B8_at0 zs 9 (by omega)
  have l6 : 6 < zs.length := by omega
  have l7 : 7 < zs.length := by omega
  have l9 : 9 < zs.length := by omega
  have i6 : (6 : Int) < (zs.length : Int) := by omega
  have i7 : (7 : Int) < (zs.length : Int) := by omega
  have i9 : (9 : Int) < (zs.length : Int) := by omega
  have g6 := gb_range hz 6
  have g7 := gb_range hz 7
  have b31 := and31 (gb zs 6) g6.1 g6.2
  have x6 : w16 zs 6 = gb zs 6 * 256 + gb zs 7 := rfl
  by_cases h6 : gb zs 6 % 32 = 0
  case neg =>
    have h6n : (gb zs 6 % 32 != 0) = true := by simp [h6]
    have h6e : (gb zs 6 % 32 == 0) = false := by simp [h6]
    have hf : ¬ w16 zs 6 % 8192 = 0 := by omega
    simp -implicitDefEqProofs [hin, i20, a0, l0, i0, s1, h4, n4, w0, w1, h2, h2i, h3, h3i, a6, a7, a9, l6, l7, l9, i6, i7, i9, b31, B8vc, B8vn, splice, IntKind.bits, Nat.testBit_eq_decide_div_mod_eq, h6, h6n, h6e, hf, noTup, tupA, t16]
  by_cases h7 : gb zs 7 = 0
  case neg =>
    have h7n : (gb zs 7 != 0) = true := by simp [h7]
    have h7e : (gb zs 7 == 0) = false := by simp [h7]
    have hf : ¬ w16 zs 6 % 8192 = 0 := by omega
    simp -implicitDefEqProofs [hin, i20, a0, l0, i0, s1, h4, n4, w0, w1, h2, h2i, h3, h3i, a6, a7, a9, l6, l7, l9, i6, i7, i9, b31, B8vc, B8vn, splice, IntKind.bits, Nat.testBit_eq_decide_div_mod_eq, h6, h7, h7n, h7e, hf, noTup, tupA, t16]
  have hf : w16 zs 6 % 8192 = 0 := by omega
  have k1 : (12 : Int) ≤ (zs.length : Int) := by omega
  have k2 : (16 : Int) ≤ (zs.length : Int) := by omega
  have k3 : (20 : Int) ≤ (zs.length : Int) := by omega
  have k4 : 12 ≤ zs.length := by omega
  have k5 : 16 ≤ zs.length := by omega
  have k6 : 20 ≤ zs.length := by omega
  have k7 : (n : Int) ≤ (zs.length : Int) := by omega
  have k8 : n ≤ zs.length := by omega
  have k9 : min 4 (zs.length - 12) = 4 := by omega
  have k10 : min 4 (zs.length - 16) = 4 := by omega
  have k11 : zs.length - n ≤ 1099511627776 := by omega
  have k12 : (zs.drop n).length = zs.length - n := by simp
  have k13 : bytesB (zs.drop n) = true := bytesB_drop hz n
  have k14 : (zs.drop n).take (zs.length - n) = zs.drop n := List.take_of_length_le (by simp)
  have x1 : (zs.drop 12).take 4 = [gb zs 12, gb zs 13, gb zs 14, gb zs 15] := by rw [take4_of (by simp; omega)]; simp only [gb_drop']
  have x2 : (zs.drop 16).take 4 = [gb zs 16, gb zs 17, gb zs 18, gb zs 19] := by rw [take4_of (by simp; omega)]; simp only [gb_drop']
  by_cases hp6 : gb zs 9 = 6
  · by_cases h5 : zs.length < n + 4
    · have h5' : zs.length - n < 4 := by omega
      simp -implicitDefEqProofs [hin, i20, a0, l0, i0, s1, h4, n4, w0, w1, h2, h2i, h3, h3i, a6, a7, a9, l6, l7, l9, i6, i7, i9, b31, B8vc, B8vn, splice, IntKind.bits, Nat.testBit_eq_decide_div_mod_eq, h6, h7, hf, k1, k2, k3, k4, k5, k6, k7, k8, k9, k10, k11, k12, k13, k14, x1, x2, fPorts, portsV, hp6, h5, h5', noTup, tupA, t16]
    · have h5' : ¬ zs.length - n < 4 := by omega
      simp -implicitDefEqProofs [hin, i20, a0, l0, i0, s1, h4, n4, w0, w1, h2, h2i, h3, h3i, a6, a7, a9, l6, l7, l9, i6, i7, i9, b31, B8vc, B8vn, splice, IntKind.bits, Nat.testBit_eq_decide_div_mod_eq, h6, h7, hf, k1, k2, k3, k4, k5, k6, k7, k8, k9, k10, k11, k12, k13, k14, x1, x2, fPorts, portsV, hp6, h5, h5', tupA, w16_drop, ad4, gb_drop']
  · have hp6n : (gb zs 9 != 6) = true := by simp [hp6]
    have hp6e : (gb zs 9 == 6) = false := by simp [hp6]
    by_cases hp17 : gb zs 9 = 17
    · by_cases h5 : zs.length < n + 4
      · have h5' : zs.length - n < 4 := by omega
        simp -implicitDefEqProofs [hin, i20, a0, l0, i0, s1, h4, n4, w0, w1, h2, h2i, h3, h3i, a6, a7, a9, l6, l7, l9, i6, i7, i9, b31, B8vc, B8vn, splice, IntKind.bits, Nat.testBit_eq_decide_div_mod_eq, h6, h7, hf, k1, k2, k3, k4, k5, k6, k7, k8, k9, k10, k11, k12, k13, k14, x1, x2, fPorts, portsV, hp17, h5, h5', noTup, tupA, t16]
      · have h5' : ¬ zs.length - n < 4 := by omega
        simp -implicitDefEqProofs [hin, i20, a0, l0, i0, s1, h4, n4, w0, w1, h2, h2i, h3, h3i, a6, a7, a9, l6, l7, l9, i6, i7, i9, b31, B8vc, B8vn, splice, IntKind.bits, Nat.testBit_eq_decide_div_mod_eq, h6, h7, hf, k1, k2, k3, k4, k5, k6, k7, k8, k9, k10, k11, k12, k13, k14, x1, x2, fPorts, portsV, hp17, h5, h5', tupA, w16_drop, ad4, gb_drop']
    · have hp17n : (gb zs 9 != 17) = true := by simp [hp17]
      simp -implicitDefEqProofs [hin, i20, a0, l0, i0, s1, h4, n4, w0, w1, h2, h2i, h3, h3i, a6, a7, a9, l6, l7, l9, i6, i7, i9, b31, B8vc, B8vn, splice, IntKind.bits, Nat.testBit_eq_decide_div_mod_eq, h6, h7, hf, k1, k2, k3, k4, k5, k6, k7, k8, k9, k10, k11, k12, k13, k14, x1, x2, fPorts, portsV, hp6, hp6n, hp6e, hp17, hp17n, noTup, tupA, t16]
end Go.Proofs.Ytmdafjegddnecaa
