/- The reference's Lay: it appends. -/
import Derived.Test.YtcbjjkpjbdcakaaQf
namespace Go.Proofs.Ytcbjjkpjbdcakaa
open Go.Pm
set_option linter.unusedVariables false
set_option linter.unusedSimpArgs false
set_option maxRecDepth 1000000

theorem mem0_at (zs : List Int) (n : Nat) : mem0 zs n = if n = 0 then some ⟨0, B8 zs⟩ else none := rfl
@[simp] theorem w64_m1 : IntKind.i64.wrap (-1) = -1 := by decide
theorem tdiv_nn {x y : Int} (h : 0 ≤ x) : x.tdiv y = x / y := Int.tdiv_eq_ediv_of_nonneg h
theorem tmod_nn {x y : Int} (h : 0 ≤ x) : x.tmod y = x % y := Int.tmod_eq_emod_of_nonneg h
@[simp] theorem B8_snoc (zs : List Int) (x : Int) : B8 zs ++ [.v (.int .u8 x)] = B8 (zs ++ [x]) := by simp [B8]
theorem tk1 (zs : List Int) (a : Int) : (zs ++ [a]).take (zs.length + 1) = zs ++ [a] := List.take_of_length_le (by simp)
theorem tk2 (zs : List Int) (a b : Int) : (zs ++ [a, b]).take (zs.length + 1 + 1) = zs ++ [a, b] := List.take_of_length_le (by simp)
theorem tk3 (zs : List Int) (a b c : Int) : (zs ++ [a, b, c]).take (zs.length + 1 + 1 + 1) = zs ++ [a, b, c] := List.take_of_length_le (by simp)
set_option maxHeartbeats 8000000 in
theorem lay2_run (zs : List Int) (n : Int) (h0 : 0 ≤ n) (h1 : n < 4294967296) (hl : zs.length ≤ 500000) : (pvCall Try.prog K2 Dm 100000 1 1 59 (.own 0 0 0 zs.length 1 (.whole 5) :: [.v (.int .u32 n), .v (.int .i64 2)]) (mem0 zs)).bind (outApp 5) = some (zs ++ [n / 256 % 256, n % 256]) := by
  have l1 : zs.length ≤ 549755813887 := by omega
  have l2 : zs.length ≤ 549755813886 := by omega
  have l3 : zs.length ≤ 549755813885 := by omega
  have l4 : zs.length ≤ 549755813884 := by omega
  have d1 : 0 ≤ n / 256 := by omega
  have d2 : 0 ≤ n / 256 / 256 := by omega
  have d3 : 0 ≤ n / 256 / 256 / 256 := by omega
  have e0 : IntKind.u32.wrap n = n := wrapu32_id (by omega) (by omega)
  have e1 : IntKind.u32.wrap (n / 256) = n / 256 := wrapu32_id (by omega) (by omega)
  have e2 : IntKind.u32.wrap (n / 256 / 256) = n / 256 / 256 := wrapu32_id (by omega) (by omega)
  have e3 : IntKind.u32.wrap (n / 256 / 256 / 256) = n / 256 / 256 / 256 := wrapu32_id (by omega) (by omega)
  have e4 : IntKind.u32.wrap (n % 256) = n % 256 := wrapu32_id (by omega) (by omega)
  rw [pvCall_own (fn := Try.f59) rfl Try.func59 rfl (by decide) rfl rfl (by simp)]
  simp -implicitDefEqProofs [d1, d2, d3, e0, e1, e2, e3, e4, tdiv_nn, tmod_nn, wrapu8_mod, fdiv_nn, mem0_at, l1, l2, l3, l4, tk1, tk2, tk3, h0, loopK_pos, splice, IntKind.bits, outApp]
set_option maxHeartbeats 8000000 in
theorem lay4_run (zs : List Int) (n : Int) (h0 : 0 ≤ n) (h1 : n < 4294967296) (hl : zs.length ≤ 500000) : (pvCall Try.prog K2 Dm 100000 1 1 59 (.own 0 0 0 zs.length 1 (.whole 5) :: [.v (.int .u32 n), .v (.int .i64 4)]) (mem0 zs)).bind (outApp 5) = some (zs ++ [n / 256 / 256 / 256 % 256, n / 256 / 256 % 256, n / 256 % 256, n % 256]) := by
  have l1 : zs.length ≤ 549755813887 := by omega
  have l2 : zs.length ≤ 549755813886 := by omega
  have l3 : zs.length ≤ 549755813885 := by omega
  have l4 : zs.length ≤ 549755813884 := by omega
  have d1 : 0 ≤ n / 256 := by omega
  have d2 : 0 ≤ n / 256 / 256 := by omega
  have d3 : 0 ≤ n / 256 / 256 / 256 := by omega
  have e0 : IntKind.u32.wrap n = n := wrapu32_id (by omega) (by omega)
  have e1 : IntKind.u32.wrap (n / 256) = n / 256 := wrapu32_id (by omega) (by omega)
  have e2 : IntKind.u32.wrap (n / 256 / 256) = n / 256 / 256 := wrapu32_id (by omega) (by omega)
  have e3 : IntKind.u32.wrap (n / 256 / 256 / 256) = n / 256 / 256 / 256 := wrapu32_id (by omega) (by omega)
  have e4 : IntKind.u32.wrap (n % 256) = n % 256 := wrapu32_id (by omega) (by omega)
  rw [pvCall_own (fn := Try.f59) rfl Try.func59 rfl (by decide) rfl rfl (by simp)]
  simp -implicitDefEqProofs [d1, d2, d3, e0, e1, e2, e3, e4, tdiv_nn, tmod_nn, wrapu8_mod, fdiv_nn, mem0_at, l1, l2, l3, l4, tk1, tk2, tk3, h0, loopK_pos, splice, IntKind.bits, outApp]
def fLay : App := fun zs xs => match xs with
  | [.v (.int .u32 n), .v (.int .i64 2)] => if 0 ≤ n ∧ n < 4294967296 ∧ zs.length ≤ 500000 then some [n / 256 % 256, n % 256] else none
  | [.v (.int .u32 n), .v (.int .i64 4)] => if 0 ≤ n ∧ n < 4294967296 ∧ zs.length ≤ 500000 then some [n / 256 / 256 / 256 % 256, n / 256 / 256 % 256, n / 256 % 256, n % 256] else none
  | _ => none
theorem lay_app : AppOk Try.prog 59 5 fLay := app_of_run k2_ok follows_mixed dm_ok 100000 1 59 fun zs xs ys h => by
  unfold fLay at h
  split at h
  · split at h
    · rename_i hh; cases h; exact lay2_run zs _ hh.1 hh.2.1 hh.2.2
    · cases h
  · split at h
    · rename_i hh; cases h; exact lay4_run zs _ hh.1 hh.2.1 hh.2.2
    · cases h
  · cases h
end Go.Proofs.Ytcbjjkpjbdcakaa
