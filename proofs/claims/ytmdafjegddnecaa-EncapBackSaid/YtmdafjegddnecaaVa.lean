/- A segment's ports, and numbers of two bytes, as functions of values. -/
import Derived.Test.YtmdafjegddnecaaGz
namespace Go.Proofs.Ytmdafjegddnecaa
open Go.Pm Go.Wb
set_option linter.unusedVariables false
set_option linter.unusedSimpArgs false
set_option maxRecDepth 1000000
def portsV (zs : List Int) : AV × List (List AV) := if zs.length < 4 then (.tup [.v (.int .u16 0), .v (.int .u16 0), .v (.int .i64 4)], []) else (.tup [.v (.int .u16 (w16 zs 0)), .v (.int .u16 (w16 zs 2)), .v (.int .i64 0)], [])
set_option maxHeartbeats 4000000 in
theorem ports_run (zs : List Int) (nn : Bool) (cap : Option Nat) (hz : bytesB zs = true) (hl : zs.length ≤ 1099511627776) : runF Try.prog K2 Dm 100000 1 146 [.sl nn (B8 zs) zs.length cap] = some (portsV zs) := by
  unfold runF portsV
  rw [pvCall_own (fn := Try.f146) rfl Try.func146 rfl (by decide) rfl rfl (by simp)]
  by_cases h : zs.length < 4
  · have h1 : (zs.length : Int) < 4 := by omega
    rw [if_pos h]
    simp -implicitDefEqProofs [h1]
  · have h1 : ¬ (zs.length : Int) < 4 := by omega
    have i1 : (1 : Int) < (zs.length : Int) := by omega
    have i3 : (3 : Int) < (zs.length : Int) := by omega
    rw [if_neg h]
    simp -implicitDefEqProofs [h1, i1, i3, hz, hl]
def fPorts : Fun
  | [.sl nn b len cap] => (asB8 b).bind fun zs => if zs.length = len ∧ len ≤ 1099511627776 ∧ bytesB zs = true then some (portsV zs) else none
  | _ => none
theorem ports_pure : Pure Try.prog 146 fPorts := (runF_pure k2_ok follows_mixed dm_ok 100000 1 146).weaken fun args r h => by
  unfold fPorts at h
  split at h
  · rename_i nn b len cap
    obtain ⟨zs, hz, he⟩ := Option.bind_eq_some_iff.1 h
    clear h
    split at he
    case isFalse => cases he
    rename_i hh
    obtain ⟨rfl, h1, h2⟩ := hh
    obtain rfl := asB8_eq hz
    rw [← he]
    exact ports_run zs nn cap h2 h1
  · cases h
set_option maxHeartbeats 4000000 in
theorem num2_run (zs : List Int) (nn : Bool) (cap : Option Nat) (i : Nat) (hz : bytesB zs = true) (h : i + 1 < zs.length) (hl : zs.length ≤ 1099511627776) : runF Try.prog K0 Dm 100000 1 97 [.sl nn (B8 zs) zs.length cap, .v (.int .i64 (i : Int)), .v (.int .i64 2)] = some (.v (.int .u32 (w16 zs i)), []) := by
  have h1 : i < zs.length := by omega
  have g0 := gb_range hz i
  have g1 := gb_range hz (i + 1)
  have w0 : IntKind.i64.wrap (i : Int) = (i : Int) := wrap64_id (by omega) (by omega)
  have w1 : IntKind.i64.wrap ((i : Int) + 1) = (i : Int) + 1 := wrap64_id (by omega) (by omega)
  have w2 : IntKind.u32.wrap (gb zs i) = gb zs i := wrapu32_id (by omega) (by omega)
  have w3 : IntKind.u32.wrap (gb zs (i + 1)) = gb zs (i + 1) := wrapu32_id (by omega) (by omega)
  have w4 : IntKind.u32.wrap (gb zs i * 256) = gb zs i * 256 := wrapu32_id (by omega) (by omega)
  have w5 : IntKind.u32.wrap (gb zs i * 256 + gb zs (i + 1)) = w16 zs i := wrapu32_id (by omega) (by omega)
  have i1 : (i : Int) + 1 < (zs.length : Int) := by omega
  have i0 : (i : Int) < (zs.length : Int) := by omega
  have i2 : (0 : Int) ≤ (i : Int) + 1 := by omega
  have i3 : i ≤ zs.length := by omega
  have i4 : i + 1 ≤ zs.length := by omega
  have a0 := B8_at0 zs i h1
  have a1 := B8_at0 zs (i + 1) h
  have u0 : IntKind.u32.wrap 0 = 0 := by decide
  unfold runF
  rw [pvCall_own (fn := Try.f97) rfl Try.func97 rfl (by decide) rfl rfl (by simp)]
  simp -implicitDefEqProofs [h1, h, w0, w1, w2, w3, w4, w5, i0, i1, i2, i3, i4, a0, a1, u0, loopK_pos, splice, IntKind.bits]
def fNum : Fun
  | [.sl nn b len cap, .v (.int .i64 i), .v (.int .i64 2)] => (asB8 b).bind fun zs => if zs.length = len ∧ len ≤ 1099511627776 ∧ bytesB zs = true ∧ 0 ≤ i ∧ i + 1 < (len : Int) then some (.v (.int .u32 (w16 zs i.toNat)), []) else none
  | _ => none
theorem num_pure : Pure Try.prog 97 fNum := (runF_pure k0_ok follows_mixed dm_ok 100000 1 97).weaken fun args r h => by
  unfold fNum at h
  split at h
  · rename_i nn b len cap i
    obtain ⟨zs, hz, he⟩ := Option.bind_eq_some_iff.1 h
    clear h
    split at he
    case isFalse => cases he
    rename_i hh
    obtain ⟨rfl, h1, h2, h3, h4⟩ := hh
    obtain rfl := asB8_eq hz
    obtain ⟨k, rfl⟩ := Int.eq_ofNat_of_zero_le h3
    rw [← he]
    exact num2_run zs nn cap k h2 (by omega) h1
  · cases h
end Go.Proofs.Ytmdafjegddnecaa
