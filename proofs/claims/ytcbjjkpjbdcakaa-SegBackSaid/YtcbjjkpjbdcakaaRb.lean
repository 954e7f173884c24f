/- The law SegBack as a function of values. -/
import Derived.Test.YtcbjjkpjbdcakaaQp
import Derived.Test.YtcbjjkpjbdcakaaRa
namespace Go.Proofs.Ytcbjjkpjbdcakaa
open Go.Pm
set_option linter.unusedVariables false
set_option linter.unusedSimpArgs false
set_option maxRecDepth 1000000
set_option maxHeartbeats 8000000 in
theorem back_long (zs : List Int) (v6 : Bool) (ss ds : List Int) (nn : Bool) (cap : Option Nat) (at_ x : Int) (h : 1600 < zs.length) :
    (pvCall Try.prog K6 Dm 100000 1 0 5 [.v (.bool v6), .agg (B8 ss), .agg (B8 ds), .sl nn (B8 zs) zs.length cap, .v (.int .i64 at_), .v (.int .u8 x)] (fun _ => none)).map (·.1) = some (.v (.bool true)) := by
  have h1 : (1600 : Int) < (zs.length : Int) := by omega
  rw [pvCall_own (fn := Try.f5) rfl Try.func5 rfl (by decide) rfl rfl (by simp)]
  simp -implicitDefEqProofs [h1, fKnown]
set_option maxHeartbeats 8000000 in
theorem back_both (zs : List Int) (v6 : Bool) (ss ds : List Int) (nn : Bool) (cap : Option Nat) (at_ x : Int) (h : zs.length ≤ 1600) (e1 e2 : Int) (n1 : ¬ e1 = 0) (n2 : ¬ e2 = 0) (hg : goodIn ss ds zs zs.length) (r1 : tcpV v6 ss ds zs = errT e1) (r2 : udpV v6 ss ds zs = errU e2) :
    (pvCall Try.prog K6 Dm 100000 1 0 5 [.v (.bool v6), .agg (B8 ss), .agg (B8 ds), .sl nn (B8 zs) zs.length cap, .v (.int .i64 at_), .v (.int .u8 x)] (fun _ => none)).map (·.1) = some (.v (.bool true)) := by
  have h1 : ¬ (1600 : Int) < (zs.length : Int) := by omega
  have b1 : (e1 == 0) = false := by simp [n1]
  have b2 : (e2 == 0) = false := by simp [n2]
  have t1 : ss.take 16 = ss := List.take_of_length_le (by have := hg.2.2.1; omega)
  have t2 : ds.take 16 = ds := List.take_of_length_le (by have := hg.2.2.2.1; omega)
  have s1 : ss.length = 16 := hg.2.2.1
  have s2 : ds.length = 16 := hg.2.2.2.1
  rw [pvCall_own (fn := Try.f5) rfl Try.func5 rfl (by decide) rfl rfl (by simp)]
  simp -implicitDefEqProofs [h1, fKnown, fTCP, fUDP, errT, errU, noT, noU, hg, r1, r2, n1, n2, b1, b2, t1, t2, s1, s2, splice]
end Go.Proofs.Ytcbjjkpjbdcakaa
