import Derived.Test.YtmdafjegddnecaaMx
import Derived.Test.YtmdafjegddnecaaMe
import Derived.Test.YtmdafjegddnecaaJa
import Derived.Test.YtmdafjegddnecaaQc
/- A segment's ports, and numbers of two bytes, as functions of values. -/
namespace Go.Proofs.Ytmdafjegddnecaa
open Go.Pm Go.Wb
set_option linter.unusedVariables false
set_option linter.unusedSimpArgs false
set_option maxRecDepth 1000000
def portsV (zs : List Int) : AV × List (List AV) := if zs.length < 4 then (.tup [.v (.int .u16 0), .v (.int .u16 0), .v (.int .i64 4)], []) else (.tup [.v (.int .u16 (w16 zs 0)), .v (.int .u16 (w16 zs 2)), .v (.int .i64 0)], [])
set_option maxHeartbeats 4000000 in
theorem ports_run (zs : List Int) (nn : Bool) (cap : Option Nat) (hz : bytesB zs = true) (hl : zs.length ≤ 1099511627776) : runF Try.prog K2 Dm 100000 1 146 [.sl nn (B8 zs) zs.length cap] = some (portsV zs) := by
  unfold runF portsV
  rw [pvCall_own (fn := Try.f146) rfl Try.func146 rfl (by decide) rfl rfl (by simp)]
  by_cases h : zs.length < 4
  · have h1 : (zs.length : Int) < 4 := by omega
    rw [if_pos h]
    simp -implicitDefEqProofs [h1]
  · have h1 : ¬ (zs.length : Int) < 4 := by omega
    have i1 : (1 : Int) < (zs.length : Int) := by omega
    have i3 : (3 : Int) < (zs.length : Int) := by omega
    rw [if_neg h]
    simp -implicitDefEqProofs [h1, i1, i3, hz, hl]
def fPorts : Fun
  | [.sl nn b len cap] => (asB8 b).bind fun zs => if zs.length = len ∧ len ≤ 1099511627776 ∧ bytesB zs = true then some (portsV zs) else none
  | _ => none
theorem ports_pure : Pure Try.prog 146 fPorts := (runF_pure k2_ok follows_mixed dm_ok 100000 1 146).weaken fun args r h => by
  unfold fPorts at h
  split at h
  · rename_i nn b len cap
    obtain ⟨zs, hz, he⟩ := Option.bind_eq_some_iff.1 h
    clear h
    split at he
    case isFalse => cases he
    rename_i hh
    obtain ⟨rfl, h1, h2⟩ := hh
    obtain rfl := asB8_eq hz
    rw [← he]
    exact ports_run zs nn cap h2 h1
  · cases h
set_option maxHeartbeats 4000000 in
theorem num2_run (zs : List Int) (nn : Bool) (cap : Option Nat) (i : Nat) (hz : bytesB zs = true) (h : i + 1 < zs.length) (hl : zs.length ≤ 1099511627776) : runF Try.prog K0 Dm 100000 1 97 [.sl nn (B8 zs) zs.length cap, .v (.int .i64 (i : Int)), .v (.int .i64 2)] = some (.v (.int .u32 (w16 zs i)), []) := by
  have h1 : i < zs.length := by omega
  have g0 := gb_range hz i
  have g1 := gb_range hz (i + 1)
  have w0 : IntKind.i64.wrap (i : Int) = (i : Int) := wrap64_id (by omega) (by omega)
  have w1 : IntKind.i64.wrap ((i : Int) + 1) = (i : Int) + 1 := wrap64_id (by omega) (by omega)
  have w2 : IntKind.u32.wrap (gb zs i) = gb zs i := wrapu32_id (by omega) (by omega)
  have w3 : IntKind.u32.wrap (gb zs (i + 1)) = gb zs (i + 1) := wrapu32_id (by omega) (by omega)
  have w4 : IntKind.u32.wrap (gb zs i * 256) = gb zs i * 256 := wrapu32_id (by omega) (by omega)
  have w5 : IntKind.u32.wrap (gb zs i * 256 + gb zs (i + 1)) = w16 zs i := wrapu32_id (by omega) (by omega)
  have i1 : (i : Int) + 1 < (zs.length : Int) := by omega
  have i0 : (i : Int) < (zs.length : Int) := by omega
  have i2 : (0 : Int) ≤ (i : Int) + 1 := by omega
  have i3 : i ≤ zs.length := by omega
  have i4 : i + 1 ≤ zs.length := by omega
  have a0 := B8_at0 zs i h1
  have a1 := B8_at0 zs (i + 1) h
  have u0 : IntKind.u32.wrap 0 = 0 := by decide
  unfold runF
  rw [pvCall_own (fn := Try.f97) rfl Try.func97 rfl (by decide) rfl rfl (by simp)]
  simp -implicitDefEqProofs [h1, h, w0, w1, w2, w3, w4, w5, i0, i1, i2, i3, i4, a0, a1, u0, loopK_pos, splice, IntKind.bits]
def fNum : Fun
  | [.sl nn b len cap, .v (.int .i64 i), .v (.int .i64 2)] => (asB8 b).bind fun zs => if zs.length = len ∧ len ≤ 1099511627776 ∧ bytesB zs = true ∧ 0 ≤ i ∧ i + 1 < (len : Int) then some (.v (.int .u32 (w16 zs i.toNat)), []) else none
  | _ => none
theorem num_pure : Pure Try.prog 97 fNum := (runF_pure k0_ok follows_mixed dm_ok 100000 1 97).weaken fun args r h => by
  unfold fNum at h
  split at h
  · rename_i nn b len cap i
    obtain ⟨zs, hz, he⟩ := Option.bind_eq_some_iff.1 h
    clear h
    split at he
    case isFalse => cases he
    rename_i hh
    obtain ⟨rfl, h1, h2, h3, h4⟩ := hh
    obtain rfl := asB8_eq hz
    obtain ⟨k, rfl⟩ := Int.eq_ofNat_of_zero_le h3
    rw [← he]
    exact num2_run zs nn cap k h2 (by omega) h1
  · cases h
end Go.Proofs.Ytmdafjegddnecaa

/- icmp.Within as a function of values. -/
namespace Go.Proofs.Ytmdafjegddnecaa
open Go.Pm Go.Wb
set_option linter.unusedVariables false
set_option linter.unusedSimpArgs false
set_option maxRecDepth 1000000
noncomputable def KM : Nat → Option Con
  | 65 => some fChain
  | 151 => some fChain
  | 146 => some fPorts
  | 97 => some fNum
  | _ => none
theorem km_ok : KOk Try.prog KM := fun f F h => by
  unfold KM at h
  split at h
  · cases h; exact ⟨chain_pure, _, Try.func65, rfl, by decide⟩
  · cases h; exact ⟨rchain_pure, _, Try.func151, rfl, by decide⟩
  · cases h; exact ⟨ports_pure, _, Try.func146, rfl, by decide⟩
  · cases h; exact ⟨num_pure, _, Try.func97, rfl, by decide⟩
  · cases h
section
variable {D : FuncId → Nat → List Nat} {L d px : Nat} {args : List AV} {m : Mem}
theorem ckm_chain : pvCall Try.prog KM D L d px 65 args m = callBy fChain m px args := pvCall_by rfl
theorem ckm_rchain : pvCall Try.prog KM D L d px 151 args m = callBy fChain m px args := pvCall_by rfl
theorem ckm_ports : pvCall Try.prog KM D L d px 146 args m = callBy fPorts m px args := pvCall_by rfl
theorem ckm_num : pvCall Try.prog KM D L d px 97 args m = callBy fNum m px args := pvCall_by rfl
end
theorem ekm_chain : KM 65 = some (.pure fChain) := rfl
theorem ekm_rchain : KM 151 = some (.pure fChain) := rfl
theorem ekm_ports : KM 146 = some (.pure fPorts) := rfl
theorem ekm_num : KM 97 = some (.pure fNum) := rfl
attribute [simp] ckm_chain ekm_chain ckm_rchain ekm_rchain ckm_ports ekm_ports ckm_num ekm_num
theorem B8d34 {ss : List Int} (h : ss.length = 16) (T : List AV) : (B8 ss ++ T).drop 34 = T.drop 18 := by
  rw [show (34 : Nat) = 16 + 18 from rfl, ← List.drop_drop, B8d16 h]
theorem B8d18 {ss : List Int} (h : ss.length = 16) (T : List AV) : (B8 ss ++ T).drop 18 = T.drop 2 := by
  rw [show (18 : Nat) = 16 + 2 from rfl, ← List.drop_drop, B8d16 h]
theorem B8t34 {ss : List Int} (h : ss.length = 16) (T : List AV) : (B8 ss ++ T).take 34 = B8 ss ++ T.take 18 := by
  rw [List.take_append, B8_length, h, List.take_of_length_le (by simp [h])]
theorem B8t18 {ss : List Int} (h : ss.length = 16) (T : List AV) : (B8 ss ++ T).take 18 = B8 ss ++ T.take 2 := by
  rw [List.take_append, B8_length, h, List.take_of_length_le (by simp [h])]
theorem B8vc (z : Int) (zs : List Int) : B8 (z :: zs) = .v (.int .u8 z) :: B8 zs := rfl
theorem B8vn : B8 [] = [] := rfl
theorem take4_of {zs : List Int} (h : 4 ≤ zs.length) : zs.take 4 = [gb zs 0, gb zs 1, gb zs 2, gb zs 3] := by
  match zs, h with
  | a :: b :: c :: d :: r, _ => rfl
def tupA (v6 : Bool) (pr : Int) (ss ds : List Int) (sp dp : Int) : AV := .agg (.v (.bool v6) :: .v (.int .u8 pr) :: (B8 ss ++ (B8 ds ++ [.v (.int .u16 sp), .v (.int .u16 dp)])))
def t16 : List Int := [0, 0, 0, 0, 0, 0, 0, 0, 0, 0, 0, 0, 0, 0, 0, 0]
def noTup : AV := tupA false 0 t16 t16 0 0
/-- A header's length by its first byte. -/
def hn4 (zs : List Int) : Nat := (gb zs 0 % 16 * 4).toNat
/-- What a packet within says ahead of its segment: what is wrong, the protocol, the two ends, where its segment begins. -/
def hd4E (zs : List Int) : Int := if zs.length < 20 then 4 else if ¬ gb zs 0 / 16 = 4 then 5 else if hn4 zs < 20 then 5 else if zs.length < hn4 zs then 4 else if ¬ w16 zs 6 % 8192 = 0 then 11 else 0
def hd6E (zs : List Int) : Int := if zs.length < 40 then 4 else if ¬ gb zs 0 / 16 = 6 then 5 else (chainF 9 (gb zs 6) (zs.drop 40) 0 0).2.2
def hdE (v6 : Bool) (zs : List Int) : Int := if v6 = true then hd6E zs else hd4E zs
def hdP (v6 : Bool) (zs : List Int) : Int := if v6 = true then (chainF 9 (gb zs 6) (zs.drop 40) 0 0).1 else gb zs 9
def hdN (v6 : Bool) (zs : List Int) : Nat := if v6 = true then 40 + (chainF 9 (gb zs 6) (zs.drop 40) 0 0).2.1.toNat else hn4 zs
def hdS (v6 : Bool) (zs : List Int) : List Int := if v6 = true then (zs.drop 24).take 16 else ad4 (zs.drop 16)
def hdD (v6 : Bool) (zs : List Int) : List Int := if v6 = true then (zs.drop 8).take 16 else ad4 (zs.drop 12)
def wiE (v6 : Bool) (zs : List Int) : Int := if ¬ hdE v6 zs = 0 then hdE v6 zs else if ¬ hdP v6 zs = 6 ∧ ¬ hdP v6 zs = 17 then 10 else if zs.length < hdN v6 zs + 4 then 4 else 0
def wiT (v6 : Bool) (zs : List Int) : AV := if wiE v6 zs = 0 then tupA v6 (hdP v6 zs) (hdS v6 zs) (hdD v6 zs) (w16 zs (hdN v6 zs + 2)) (w16 zs (hdN v6 zs)) else noTup
theorem and31 (z : Int) (h0 : 0 ≤ z) (h1 : z ≤ 255) : bits .and .u8 z 31 = z % 32 := by
  have h : z < 256 := by omega
  go_bits2
theorem gb_drop' (l : List Int) (k i : Nat) : gb (l.drop k) i = gb l (k + i) := by
  unfold gb; rw [List.getD_eq_getElem?_getD, List.getElem?_drop, List.getD_eq_getElem?_getD]
theorem w16_drop (zs : List Int) (k i : Nat) : w16 (zs.drop k) i = w16 zs (k + i) := by
  unfold w16
  have e0 := gb_drop' zs k i
  have e1 := gb_drop' zs k (i + 1)
  unfold gb at e0 e1
  rw [e0, e1]; rfl
set_option maxHeartbeats 64000000 in
theorem within4_run (zs : List Int) (nn : Bool) (cap : Option Nat) (hz : bytesB zs = true) (hl : zs.length ≤ 500000) : runF Try.prog KM Dm 100000 2 116 [.v (.bool false), .sl nn (B8 zs) zs.length cap] = some (.tup [wiT false zs, .v (.int .i64 (wiE false zs))], []) := by
  have hin := fun (px : Nat) (args : List AV) (m : Mem) (hl : args.length ≤ 109) => pvCall_own (P := Try.prog) (K := KM) (D := Dm) (L := 100000) (d := 0) (px := px) (args := args) (m := m) (f := 145) (fn := Try.f145) rfl Try.func145 rfl (by decide) rfl rfl hl
  have hE : hdE false zs = hd4E zs := rfl
  have hP : hdP false zs = gb zs 9 := rfl
  have hN : hdN false zs = hn4 zs := rfl
  have hS : hdS false zs = ad4 (zs.drop 16) := rfl
  have hD : hdD false zs = ad4 (zs.drop 12) := rfl
  unfold runF wiT wiE
  rw [hE, hP, hN, hS, hD]
  unfold hd4E
  rw [pvCall_own (fn := Try.f116) rfl Try.func116 rfl (by decide) rfl rfl (by simp)]
  by_cases h20 : zs.length < 20
  · have i20 : (zs.length : Int) < 20 := by omega
    simp -implicitDefEqProofs [hin, h20, i20, noTup, tupA, t16, B8vc, B8vn, splice]
  rw [if_neg h20]
  have i20 : ¬ (zs.length : Int) < 20 := by omega
  have a0 := B8_at00 zs (by omega)
  have l0 : 0 < zs.length := by omega
  have i0 : (0 : Int) < (zs.length : Int) := by omega
  have g0 := gb_range hz 0
  have s1 : (gb zs 0).fdiv 16 = gb zs 0 / 16 := Int.fdiv_eq_ediv_of_nonneg _ (by omega)
  by_cases h4 : gb zs 0 / 16 = 4
  case neg =>
    have h4n : (gb zs 0 / 16 != 4) = true := by simp [h4]
    simp -implicitDefEqProofs [hin, i20, a0, l0, i0, s1, h4, h4n, noTup, tupA, t16, B8vc, B8vn, splice, IntKind.bits]
  have n4 := and15v (gb zs 0) g0.1 g0.2
  have w0 : IntKind.i64.wrap (gb zs 0 % 16) = gb zs 0 % 16 := wrap64_id (by omega) (by omega)
  have e1 : (hn4 zs : Int) = gb zs 0 % 16 * 4 := by unfold hn4; omega
  have w1 : IntKind.i64.wrap (gb zs 0 % 16 * 4) = (hn4 zs : Int) := by rw [wrap64_id (by omega) (by omega)]; omega
  generalize hn4 zs = n at *
  by_cases h2 : n < 20
  · have h2i : (n : Int) < 20 := by omega
    simp -implicitDefEqProofs [hin, i20, a0, l0, i0, s1, h4, n4, w0, w1, h2, h2i, noTup, tupA, t16, B8vc, B8vn, splice, IntKind.bits]
  have h2i : ¬ (n : Int) < 20 := by omega
  by_cases h3 : zs.length < n
  · have h3i : (zs.length : Int) < (n : Int) := by omega
    simp -implicitDefEqProofs [hin, i20, a0, l0, i0, s1, h4, n4, w0, w1, h2, h2i, h3, h3i, noTup, tupA, t16, B8vc, B8vn, splice, IntKind.bits]
  have h3i : ¬ (zs.length : Int) < (n : Int) := by omega
  have a6 := B8_at0 zs 6 (by omega)
  have a7 := B8_at0 zs 7 (by omega)
  have a9 := B8_at0 zs 9 (by omega)
  have l6 : 6 < zs.length := by omega
  have l7 : 7 < zs.length := by omega
  have l9 : 9 < zs.length := by omega
  have i6 : (6 : Int) < (zs.length : Int) := by omega
  have i7 : (7 : Int) < (zs.length : Int) := by omega
  have i9 : (9 : Int) < (zs.length : Int) := by omega
  have g6 := gb_range hz 6
  have g7 := gb_range hz 7
  have b31 := and31 (gb zs 6) g6.1 g6.2
  have x6 : w16 zs 6 = gb zs 6 * 256 + gb zs 7 := rfl
  by_cases h6 : gb zs 6 % 32 = 0
  case neg =>
    have h6n : (gb zs 6 % 32 != 0) = true := by simp [h6]
    have h6e : (gb zs 6 % 32 == 0) = false := by simp [h6]
    have hf : ¬ w16 zs 6 % 8192 = 0 := by omega
    simp -implicitDefEqProofs [hin, i20, a0, l0, i0, s1, h4, n4, w0, w1, h2, h2i, h3, h3i, a6, a7, a9, l6, l7, l9, i6, i7, i9, b31, B8vc, B8vn, splice, IntKind.bits, Nat.testBit_eq_decide_div_mod_eq, h6, h6n, h6e, hf, noTup, tupA, t16]
  by_cases h7 : gb zs 7 = 0
  case neg =>
    have h7n : (gb zs 7 != 0) = true := by simp [h7]
    have h7e : (gb zs 7 == 0) = false := by simp [h7]
    have hf : ¬ w16 zs 6 % 8192 = 0 := by omega
    simp -implicitDefEqProofs [hin, i20, a0, l0, i0, s1, h4, n4, w0, w1, h2, h2i, h3, h3i, a6, a7, a9, l6, l7, l9, i6, i7, i9, b31, B8vc, B8vn, splice, IntKind.bits, Nat.testBit_eq_decide_div_mod_eq, h6, h7, h7n, h7e, hf, noTup, tupA, t16]
  have hf : w16 zs 6 % 8192 = 0 := by omega
  have k1 : (12 : Int) ≤ (zs.length : Int) := by omega
  have k2 : (16 : Int) ≤ (zs.length : Int) := by omega
  have k3 : (20 : Int) ≤ (zs.length : Int) := by omega
  have k4 : 12 ≤ zs.length := by omega
  have k5 : 16 ≤ zs.length := by omega
  have k6 : 20 ≤ zs.length := by omega
  have k7 : (n : Int) ≤ (zs.length : Int) := by omega
  have k8 : n ≤ zs.length := by omega
  have k9 : min 4 (zs.length - 12) = 4 := by omega
  have k10 : min 4 (zs.length - 16) = 4 := by omega
  have k11 : zs.length - n ≤ 1099511627776 := by omega
  have k12 : (zs.drop n).length = zs.length - n := by simp
  have k13 : bytesB (zs.drop n) = true := bytesB_drop hz n
  have k14 : (zs.drop n).take (zs.length - n) = zs.drop n := List.take_of_length_le (by simp)
  have x1 : (zs.drop 12).take 4 = [gb zs 12, gb zs 13, gb zs 14, gb zs 15] := by rw [take4_of (by simp; omega)]; simp only [gb_drop']
  have x2 : (zs.drop 16).take 4 = [gb zs 16, gb zs 17, gb zs 18, gb zs 19] := by rw [take4_of (by simp; omega)]; simp only [gb_drop']
  by_cases hp6 : gb zs 9 = 6
  · by_cases h5 : zs.length < n + 4
    · have h5' : zs.length - n < 4 := by omega
      simp -implicitDefEqProofs [hin, i20, a0, l0, i0, s1, h4, n4, w0, w1, h2, h2i, h3, h3i, a6, a7, a9, l6, l7, l9, i6, i7, i9, b31, B8vc, B8vn, splice, IntKind.bits, Nat.testBit_eq_decide_div_mod_eq, h6, h7, hf, k1, k2, k3, k4, k5, k6, k7, k8, k9, k10, k11, k12, k13, k14, x1, x2, fPorts, portsV, hp6, h5, h5', noTup, tupA, t16]
    · have h5' : ¬ zs.length - n < 4 := by omega
      simp -implicitDefEqProofs [hin, i20, a0, l0, i0, s1, h4, n4, w0, w1, h2, h2i, h3, h3i, a6, a7, a9, l6, l7, l9, i6, i7, i9, b31, B8vc, B8vn, splice, IntKind.bits, Nat.testBit_eq_decide_div_mod_eq, h6, h7, hf, k1, k2, k3, k4, k5, k6, k7, k8, k9, k10, k11, k12, k13, k14, x1, x2, fPorts, portsV, hp6, h5, h5', tupA, w16_drop, ad4, gb_drop']
  · have hp6n : (gb zs 9 != 6) = true := by simp [hp6]
    have hp6e : (gb zs 9 == 6) = false := by simp [hp6]
    by_cases hp17 : gb zs 9 = 17
    · by_cases h5 : zs.length < n + 4
      · have h5' : zs.length - n < 4 := by omega
        simp -implicitDefEqProofs [hin, i20, a0, l0, i0, s1, h4, n4, w0, w1, h2, h2i, h3, h3i, a6, a7, a9, l6, l7, l9, i6, i7, i9, b31, B8vc, B8vn, splice, IntKind.bits, Nat.testBit_eq_decide_div_mod_eq, h6, h7, hf, k1, k2, k3, k4, k5, k6, k7, k8, k9, k10, k11, k12, k13, k14, x1, x2, fPorts, portsV, hp17, h5, h5', noTup, tupA, t16]
      · have h5' : ¬ zs.length - n < 4 := by omega
        simp -implicitDefEqProofs [hin, i20, a0, l0, i0, s1, h4, n4, w0, w1, h2, h2i, h3, h3i, a6, a7, a9, l6, l7, l9, i6, i7, i9, b31, B8vc, B8vn, splice, IntKind.bits, Nat.testBit_eq_decide_div_mod_eq, h6, h7, hf, k1, k2, k3, k4, k5, k6, k7, k8, k9, k10, k11, k12, k13, k14, x1, x2, fPorts, portsV, hp17, h5, h5', tupA, w16_drop, ad4, gb_drop']
    · have hp17n : (gb zs 9 != 17) = true := by simp [hp17]
      simp -implicitDefEqProofs [hin, i20, a0, l0, i0, s1, h4, n4, w0, w1, h2, h2i, h3, h3i, a6, a7, a9, l6, l7, l9, i6, i7, i9, b31, B8vc, B8vn, splice, IntKind.bits, Nat.testBit_eq_decide_div_mod_eq, h6, h7, hf, k1, k2, k3, k4, k5, k6, k7, k8, k9, k10, k11, k12, k13, k14, x1, x2, fPorts, portsV, hp6, hp6n, hp6e, hp17, hp17n, noTup, tupA, t16]
end Go.Proofs.Ytmdafjegddnecaa

/- ICMP's checksums and kinds of errors as functions of values. -/
namespace Go.Proofs.Ytmdafjegddnecaa
open Go.RowKit Go.Pm Go.Wb
set_option linter.unusedVariables false
set_option linter.unusedSimpArgs false
set_option maxRecDepth 1000000
def fPse : Fun
  | [.v (.bool v6), .agg a, .agg b, .v (.int .u8 pr), .v (.int .i64 n)] => (asB8 a).bind fun ss => (asB8 b).bind fun ds => if ss.length = 16 ∧ ds.length = 16 ∧ bytesB ss = true ∧ bytesB ds = true ∧ 0 ≤ pr ∧ pr ≤ 255 ∧ 0 ≤ n ∧ n ≤ 9223372036854775807 then
      some (.agg [.v (.int .u16 (sumTo 0 false (phead v6 ss ds pr n))), .v (.bool false)], []) else none
  | _ => none
theorem pse_pure : Pure Try.prog 119 fPse := pure_plain fun w args vs r bs ra hr => by
  unfold fPse at hr
  split at hr
  · rename_i v6 a b pr n
    obtain ⟨ss, h1, hr⟩ := Option.bind_eq_some_iff.1 hr
    obtain ⟨ds, h2, hr⟩ := Option.bind_eq_some_iff.1 hr
    split at hr
    case isFalse => cases hr
    rename_i hh
    obtain ⟨hs, hd, b1, b2, p0, p1, n0, n1⟩ := hh
    cases hr
    obtain rfl := asB8_eq h1
    obtain rfl := asB8_eq h2
    obtain ⟨x0, l0, e0, r0, ra⟩ := ra.inv_cons
    obtain ⟨x1, l1, rfl, r1, ra⟩ := ra.inv_cons
    obtain ⟨x2, l2, rfl, r2, ra⟩ := ra.inv_cons
    obtain ⟨x3, l3, rfl, r3, ra⟩ := ra.inv_cons
    obtain ⟨x4, l4, rfl, r4, ra⟩ := ra.inv_cons
    obtain rfl := ra.inv_nil
    obtain rfl := ar_of r1
    obtain rfl := ar_of r2
    obtain rfl := r0.inv_v.1
    obtain rfl := r3.inv_v.1
    obtain rfl := r4.inv_v.1
    obtain rfl : vs = #[.bool v6, .agg (ar ss), .agg (ar ds), .int .u8 pr, .int .i64 n] := by
      cases vs; simp at e0; rw [e0]
    refine ⟨rfl, (pseudo_any v6 ss ds pr n w hs hd (bytesB_iff.1 b1) (bytesB_iff.1 b2) p0 p1 n0 n1).mono ?_⟩
    rintro e w' ⟨rfl, hb⟩
    exact ⟨_, rfl, hb, .mkAgg (.cons .v (.cons .v (.nil _)))⟩
  · cases hr
theorem part_of {c : Ctx} {s : Int} {o : Bool} {v : Value} (r : Rel c (.agg [.v (.int .u16 s), .v (.bool o)]) v) : v = .agg #[.int .u16 s, .bool o] := by
  obtain ⟨cs, rfl, rl⟩ := r.inv_agg
  obtain ⟨y0, l0, e, q0, rl⟩ := rl.inv_cons
  obtain ⟨y1, l1, rfl, q1, rl⟩ := rl.inv_cons
  obtain rfl := rl.inv_nil
  obtain rfl := q0.inv_v.1
  obtain rfl := q1.inv_v.1
  cases cs; simp at e; rw [e]
def fAdd : Fun
  | [.agg [.v (.int .u16 s), .v (.bool o)], .sl nn b len cap] => (asB8 b).bind fun zs => if zs.length = len ∧ len ≤ 1099511627776 ∧ bytesB zs = true ∧ 0 ≤ s ∧ s ≤ 65535 then some (.agg [.v (.int .u16 (sumTo s o zs)), .v (.bool (par o len))], []) else none
  | _ => none
theorem add_pure : Pure Try.prog 118 fAdd := pure_plain fun w args vs r bs ra hr => by
  unfold fAdd at hr
  split at hr
  · rename_i s o nn b len cap
    obtain ⟨zs, h1, hr⟩ := Option.bind_eq_some_iff.1 hr
    split at hr
    case isFalse => cases hr
    rename_i hh
    obtain ⟨hz, hl, bz, s0, s1⟩ := hh
    cases hr
    obtain rfl := asB8_eq h1
    obtain ⟨x0, l0, e0, r0, ra⟩ := ra.inv_cons
    obtain ⟨x1, l1, rfl, r1, ra⟩ := ra.inv_cons
    obtain rfl := ra.inv_nil
    obtain rfl := part_of r0
    obtain ⟨a, cp, rfl, hrow⟩ := row_of r1 hz (bytesB_iff.1 bz)
    obtain rfl : vs = #[.agg #[.int .u16 s, .bool o], .slice a len cp] := by
      cases vs; simp at e0; rw [e0]
    refine ⟨rfl, (add_row hrow hl s o s0 s1).mono ?_⟩
    rintro e w' ⟨rfl, hb⟩
    exact ⟨_, rfl, hb, .mkAgg (.cons .v (.cons .v (.nil _)))⟩
  · cases hr
def fEnd : Fun
  | [.agg [.v (.int .u16 s), .v (.bool o)]] => if 0 ≤ s ∧ s ≤ 65535 then some (.v (.int .u16 (65535 - s)), []) else none
  | _ => none
theorem end_pure : Pure Try.prog 117 fEnd := pure_plain fun w args vs r bs ra hr => by
  unfold fEnd at hr
  split at hr
  · rename_i s o
    split at hr
    case isFalse => cases hr
    rename_i hh
    cases hr
    obtain ⟨x0, l0, e0, r0, ra⟩ := ra.inv_cons
    obtain rfl := ra.inv_nil
    obtain rfl := part_of r0
    obtain rfl : vs = #[.agg #[.int .u16 s, .bool o]] := by
      cases vs; simp at e0; rw [e0]
    refine ⟨rfl, (end_any s o w hh.1 hh.2).mono ?_⟩
    rintro e w' ⟨rfl, hb⟩
    exact ⟨_, rfl, hb, .v⟩
  · cases hr
noncomputable def KN : Nat → Option Con
  | 119 => some fPse
  | 118 => some fAdd
  | 117 => some fEnd
  | 59 => some fSealed
  | 142 => some fOf
  | _ => none
theorem kn_ok : KOk Try.prog KN := fun f F h => by
  unfold KN at h
  split at h
  · cases h; exact ⟨pse_pure, _, Try.func119, rfl, by decide⟩
  · cases h; exact ⟨add_pure, _, Try.func118, rfl, by decide⟩
  · cases h; exact ⟨end_pure, _, Try.func117, rfl, by decide⟩
  · cases h; exact ⟨right_pure, _, Try.func59, rfl, by decide⟩
  · cases h; exact ⟨rof_pure, _, Try.func142, rfl, by decide⟩
  · cases h
section
variable {D : FuncId → Nat → List Nat} {L d px : Nat} {args : List AV} {m : Mem}
theorem ckn_pse : pvCall Try.prog KN D L d px 119 args m = callBy fPse m px args := pvCall_by rfl
theorem ckn_add : pvCall Try.prog KN D L d px 118 args m = callBy fAdd m px args := pvCall_by rfl
theorem ckn_end : pvCall Try.prog KN D L d px 117 args m = callBy fEnd m px args := pvCall_by rfl
theorem ckn_sright : pvCall Try.prog KN D L d px 59 args m = callBy fSealed m px args := pvCall_by rfl
theorem ckn_rof : pvCall Try.prog KN D L d px 142 args m = callBy fOf m px args := pvCall_by rfl
end
theorem ekn_pse : KN 119 = some (.pure fPse) := rfl
theorem ekn_add : KN 118 = some (.pure fAdd) := rfl
theorem ekn_end : KN 117 = some (.pure fEnd) := rfl
theorem ekn_sright : KN 59 = some (.pure fSealed) := rfl
theorem ekn_rof : KN 142 = some (.pure fOf) := rfl
attribute [simp] ckn_pse ekn_pse ckn_add ekn_add ckn_end ekn_end ckn_sright ekn_sright ckn_rof ekn_rof
/-- The checksum of a message. -/
def skV (v6 : Bool) (ss ds zs : List Int) : Int := if v6 = true then ck true ss ds 58 zs else ofV zs
def goodM (ss ds zs : List Int) (len : Nat) : Prop := zs.length = len ∧ len ≤ 500000 ∧ ss.length = 16 ∧ ds.length = 16 ∧ bytesB zs = true ∧ bytesB ss = true ∧ bytesB ds = true
instance (ss ds zs : List Int) (len : Nat) : Decidable (goodM ss ds zs len) := by unfold goodM; infer_instance
set_option maxHeartbeats 4000000 in
theorem sealed6_run (v6 : Bool) (ss ds zs : List Int) (nn : Bool) (cap : Option Nat) (hg : goodM ss ds zs zs.length) : runF Try.prog KN Dm 100000 1 115 [.v (.bool v6), .agg (B8 ss), .agg (B8 ds), .sl nn (B8 zs) zs.length cap] = some (.v (.int .u16 (skV v6 ss ds zs)), []) := by
  obtain ⟨_, hl, hs, hd, hz, bs, bd⟩ := hg
  have l40 : zs.length ≤ 1099511627776 := by omega
  have l64 : (zs.length : Int) ≤ 9223372036854775807 := by omega
  have t1 : ss.take 16 = ss := List.take_of_length_le (by omega)
  have t2 : ds.take 16 = ds := List.take_of_length_le (by omega)
  have p := sumTo_range (s := 0) (o := false) (Int.le_refl 0) (phead_b (v6 := true) (pr := 58) (n := (zs.length : Int)) (bytesB_iff.1 bs) (bytesB_iff.1 bd) (by omega) (by omega))
  have q := sumTo_range (s := 0) (o := false) (Int.le_refl 0) (bytesB_iff.1 hz)
  have r := sumTo_range (o := false) p.1 (bytesB_iff.1 hz)
  unfold runF skV ck ofV
  rw [pvCall_own (fn := Try.f115) rfl Try.func115 rfl (by decide) rfl rfl (by simp)]
  cases v6 with
  | true => simp -implicitDefEqProofs [fPse, fAdd, fEnd, hs, hd, hz, bs, bd, l40, l64, t1, t2, p, r, splice]
  | false => simp -implicitDefEqProofs [fAdd, fEnd, hz, l40, q, splice]
set_option maxHeartbeats 4000000 in
theorem rright_run (v6 : Bool) (ss ds zs : List Int) (nn : Bool) (cap : Option Nat) (hg : goodM ss ds zs zs.length) : runF Try.prog KN Dm 100000 1 131 [.v (.bool v6), .agg (B8 ss), .agg (B8 ds), .sl nn (B8 zs) zs.length cap] = some (.v (.int .u16 (skV v6 ss ds zs)), []) := by
  obtain ⟨_, hl, hs, hd, hz, bs, bd⟩ := hg
  have l40 : zs.length ≤ 1099511627776 := by omega
  have t1 : ss.take 16 = ss := List.take_of_length_le (by omega)
  have t2 : ds.take 16 = ds := List.take_of_length_le (by omega)
  unfold runF skV
  rw [pvCall_own (fn := Try.f131) rfl Try.func131 rfl (by decide) rfl rfl (by simp)]
  cases v6 with
  | true => simp -implicitDefEqProofs [fSealed, fCk, hs, hd, hz, bs, bd, l40, t1, t2, splice]
  | false => simp -implicitDefEqProofs [fOf, hz, l40, splice]
def fSk : Fun
  | [.v (.bool v6), .agg a, .agg b, .sl nn c len cap] => (asB8 a).bind fun ss => (asB8 b).bind fun ds => (asB8 c).bind fun zs => if goodM ss ds zs len then some (.v (.int .u16 (skV v6 ss ds zs)), []) else none
  | _ => none
theorem sk_pure : Pure Try.prog 115 fSk := (runF_pure kn_ok follows_mixed dm_ok 100000 1 115).weaken fun args r h => by
  unfold fSk at h
  split at h
  · rename_i v6 a b nn c len cap
    obtain ⟨ss, e1, h1⟩ := Option.bind_eq_some_iff.1 h
    obtain ⟨ds, e2, h2⟩ := Option.bind_eq_some_iff.1 h1
    obtain ⟨zs, e3, he⟩ := Option.bind_eq_some_iff.1 h2
    clear h h1 h2
    split at he
    case isFalse => cases he
    rename_i hh
    obtain rfl := hh.1
    obtain rfl := asB8_eq e1
    obtain rfl := asB8_eq e2
    obtain rfl := asB8_eq e3
    rw [← he]
    exact sealed6_run v6 ss ds zs nn cap hh
  · cases h
theorem rsk_pure : Pure Try.prog 131 fSk := (runF_pure kn_ok follows_mixed dm_ok 100000 1 131).weaken fun args r h => by
  unfold fSk at h
  split at h
  · rename_i v6 a b nn c len cap
    obtain ⟨ss, e1, h1⟩ := Option.bind_eq_some_iff.1 h
    obtain ⟨ds, e2, h2⟩ := Option.bind_eq_some_iff.1 h1
    obtain ⟨zs, e3, he⟩ := Option.bind_eq_some_iff.1 h2
    clear h h1 h2
    split at he
    case isFalse => cases he
    rename_i hh
    obtain rfl := hh.1
    obtain rfl := asB8_eq e1
    obtain rfl := asB8_eq e2
    obtain rfl := asB8_eq e3
    rw [← he]
    exact rright_run v6 ss ds zs nn cap hh
  · cases h
theorem runF_plain' {P : Program} {K : FuncId → Option Con} {D : FuncId → Nat → List Nat} {L d : Nat} {f : FuncId} {args : List AV} {x : Value} (h : (pvCall P K D L d 0 f args (fun _ => none)).map (·.1) = some (.v x)) : runF P K D L d f args = some (.v x, []) := by
  obtain ⟨⟨y, m'⟩, h1, h2⟩ := Option.map_eq_some_iff.1 h
  simp only at h2
  subst h2
  unfold runF
  rw [h1]
  simp
/-- Is a type an error's? -/
def isE (v6 : Bool) (k : Int) : Bool := if v6 = true then (k == 1 || k == 2 || k == 3 || k == 4) else (k == 3 || k == 4 || k == 5 || k == 11 || k == 12)
set_option maxHeartbeats 16000000 in
theorem ise_run (v6 : Bool) (k : Int) : runF Try.prog K0 Dm 100000 2 109 [.v (.bool v6), .v (.int .u8 k)] = some (.v (.bool (isE v6 k)), []) := by
  have one := fun (px : Nat) (args : List AV) (m : Mem) (hl : args.length ≤ 16) => pvCall_own (P := Try.prog) (K := K0) (D := Dm) (L := 100000) (d := 0) (px := px) (args := args) (m := m) (f := 144) (fn := Try.f144) rfl Try.func144 rfl (by decide) rfl rfl hl
  apply runF_plain'
  rw [pvCall_own (fn := Try.f109) rfl Try.func109 rfl (by decide) rfl rfl (by simp)]
  cases v6 with
  | true =>
    by_cases h1 : k = 1
    · subst h1; simp -implicitDefEqProofs [one, isE, loopK_pos, splice]
    have e1 : (k == 1) = false := by simp [h1]
    have f1 : (1 == k) = false := by simp; omega
    have g1 : ¬ 1 = k := by omega
    by_cases h2 : k = 2
    · subst h2; simp -implicitDefEqProofs [one, isE, loopK_pos, splice, h1, e1, f1, g1]
    have e2 : (k == 2) = false := by simp [h2]
    have f2 : (2 == k) = false := by simp; omega
    have g2 : ¬ 2 = k := by omega
    by_cases h3 : k = 3
    · subst h3; simp -implicitDefEqProofs [one, isE, loopK_pos, splice, h1, e1, f1, g1, h2, e2, f2, g2]
    have e3 : (k == 3) = false := by simp [h3]
    have f3 : (3 == k) = false := by simp; omega
    have g3 : ¬ 3 = k := by omega
    by_cases h4 : k = 4
    · subst h4; simp -implicitDefEqProofs [one, isE, loopK_pos, splice, h1, e1, f1, g1, h2, e2, f2, g2, h3, e3, f3, g3]
    have e4 : (k == 4) = false := by simp [h4]
    have f4 : (4 == k) = false := by simp; omega
    have g4 : ¬ 4 = k := by omega
    simp -implicitDefEqProofs [one, isE, loopK_pos, splice, h1, e1, f1, g1, h2, e2, f2, g2, h3, e3, f3, g3, h4, e4, f4, g4]
  | false =>
    by_cases h3 : k = 3
    · subst h3; simp -implicitDefEqProofs [one, isE, loopK_pos, splice]
    have e3 : (k == 3) = false := by simp [h3]
    have f3 : (3 == k) = false := by simp; omega
    have g3 : ¬ 3 = k := by omega
    by_cases h4 : k = 4
    · subst h4; simp -implicitDefEqProofs [one, isE, loopK_pos, splice, h3, e3, f3, g3]
    have e4 : (k == 4) = false := by simp [h4]
    have f4 : (4 == k) = false := by simp; omega
    have g4 : ¬ 4 = k := by omega
    by_cases h5 : k = 5
    · subst h5; simp -implicitDefEqProofs [one, isE, loopK_pos, splice, h3, e3, f3, g3, h4, e4, f4, g4]
    have e5 : (k == 5) = false := by simp [h5]
    have f5 : (5 == k) = false := by simp; omega
    have g5 : ¬ 5 = k := by omega
    by_cases h11 : k = 11
    · subst h11; simp -implicitDefEqProofs [one, isE, loopK_pos, splice, h3, e3, f3, g3, h4, e4, f4, g4, h5, e5, f5, g5]
    have e11 : (k == 11) = false := by simp [h11]
    have f11 : (11 == k) = false := by simp; omega
    have g11 : ¬ 11 = k := by omega
    by_cases h12 : k = 12
    · subst h12; simp -implicitDefEqProofs [one, isE, loopK_pos, splice, h3, e3, f3, g3, h4, e4, f4, g4, h5, e5, f5, g5, h11, e11, f11, g11]
    have e12 : (k == 12) = false := by simp [h12]
    have f12 : (12 == k) = false := by simp; omega
    have g12 : ¬ 12 = k := by omega
    simp -implicitDefEqProofs [one, isE, loopK_pos, splice, h3, e3, f3, g3, h4, e4, f4, g4, h5, e5, f5, g5, h11, e11, f11, g11, h12, e12, f12, g12]
set_option maxHeartbeats 16000000 in
theorem rise_run (v6 : Bool) (k : Int) (k0 : 0 ≤ k) : runF Try.prog K0 Dm 100000 1 111 [.v (.bool v6), .v (.int .u8 k)] = some (.v (.bool (isE v6 k)), []) := by
  apply runF_plain'
  rw [pvCall_own (fn := Try.f111) rfl Try.func111 rfl (by decide) rfl rfl (by simp)]
  cases v6 with
  | true =>
    by_cases h : 1 ≤ k
    · by_cases h4 : k ≤ 4
      · have : isE true k = true := by unfold isE; simp; omega
        simp -implicitDefEqProofs [h, h4, this]
      · have : isE true k = false := by unfold isE; simp; omega
        simp -implicitDefEqProofs [h, h4, this]
    · have : isE true k = false := by unfold isE; simp; omega
      simp -implicitDefEqProofs [h, this]
  | false =>
    by_cases h3 : k = 3
    · subst h3; simp -implicitDefEqProofs [isE, loopK_pos, splice]
    have e3 : (k == 3) = false := by simp [h3]
    have f3 : (3 == k) = false := by simp; omega
    have g3 : ¬ 3 = k := by omega
    by_cases h4 : k = 4
    · subst h4; simp -implicitDefEqProofs [isE, loopK_pos, splice, h3, e3, f3, g3]
    have e4 : (k == 4) = false := by simp [h4]
    have f4 : (4 == k) = false := by simp; omega
    have g4 : ¬ 4 = k := by omega
    by_cases h5 : k = 5
    · subst h5; simp -implicitDefEqProofs [isE, loopK_pos, splice, h3, e3, f3, g3, h4, e4, f4, g4]
    have e5 : (k == 5) = false := by simp [h5]
    have f5 : (5 == k) = false := by simp; omega
    have g5 : ¬ 5 = k := by omega
    by_cases h11 : k = 11
    · subst h11; simp -implicitDefEqProofs [isE, loopK_pos, splice, h3, e3, f3, g3, h4, e4, f4, g4, h5, e5, f5, g5]
    have e11 : (k == 11) = false := by simp [h11]
    have f11 : (11 == k) = false := by simp; omega
    have g11 : ¬ 11 = k := by omega
    by_cases h12 : k = 12
    · subst h12; simp -implicitDefEqProofs [isE, loopK_pos, splice, h3, e3, f3, g3, h4, e4, f4, g4, h5, e5, f5, g5, h11, e11, f11, g11]
    have e12 : (k == 12) = false := by simp [h12]
    have f12 : (12 == k) = false := by simp; omega
    have g12 : ¬ 12 = k := by omega
    simp -implicitDefEqProofs [isE, loopK_pos, splice, h3, e3, f3, g3, h4, e4, f4, g4, h5, e5, f5, g5, h11, e11, f11, g11, h12, e12, f12, g12]
def fIse : Fun
  | [.v (.bool v6), .v (.int .u8 k)] => if 0 ≤ k then some (.v (.bool (isE v6 k)), []) else none
  | _ => none
theorem ise_pure : Pure Try.prog 109 fIse := (runF_pure k0_ok follows_mixed dm_ok 100000 2 109).weaken fun args r h => by
  unfold fIse at h
  split at h
  · split at h
    · rw [← h]; exact ise_run _ _
    · cases h
  · cases h
theorem rise_pure : Pure Try.prog 111 fIse := (runF_pure k0_ok follows_mixed dm_ok 100000 1 111).weaken fun args r h => by
  unfold fIse at h
  split at h
  · split at h
    · rename_i q; rw [← h]; exact rise_run _ _ q
    · cases h
  · cases h
end Go.Proofs.Ytmdafjegddnecaa
