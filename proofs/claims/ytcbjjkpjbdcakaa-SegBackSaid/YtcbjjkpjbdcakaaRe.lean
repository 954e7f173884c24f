/- The page's own examples, run. -/
import Derived.Test.YtcbjjkpjbdcakaaQg
namespace Go.Proofs.Ytcbjjkpjbdcakaa
open Go.Pm
set_option linter.unusedVariables false
set_option linter.unusedSimpArgs false
set_option maxRecDepth 1000000
theorem c3_rt {D : FuncId → Nat → List Nat} {L d px : Nat} {args : List AV} {m : Mem} : pvCall Try.prog K3 D L d px 15 args m = callBy fTCP m px args := pvCall_by rfl
theorem c3_ru {D : FuncId → Nat → List Nat} {L d px : Nat} {args : List AV} {m : Mem} : pvCall Try.prog K3 D L d px 18 args m = callBy fUDP m px args := pvCall_by rfl
theorem k3_rt : K3 15 = some (.pure fTCP) := rfl
theorem k3_ru : K3 18 = some (.pure fUDP) := rfl
theorem asB8_nil' : asB8 [] = some [] := rfl
theorem asB8_cons' (z : Int) (xs : List AV) : asB8 (.v (.int .u8 z) :: xs) = (asB8 xs).map (z :: ·) := rfl
set_option maxHeartbeats 8000000 in
theorem known_run : runF Try.prog K3 Dm 100000 1 14 [] = some (.v (.bool true), []) := by
  unfold runF
  rw [pvCall_own (fn := Try.f14) rfl Try.func14 rfl (by decide) rfl rfl (by simp)]
  simp -implicitDefEqProofs [c3_rt, c3_ru, k3_rt, k3_ru, fTCP, fUDP, asB8_nil', asB8_cons', splice, goodIn, bytesB, tcpV, udpV, errT, errU, noT, noU, udpR, w16, gb, List.replicate_succ, Nat.testBit_eq_decide_div_mod_eq, eqV, vEq]
def fKnown : Fun
  | [] => some (.v (.bool true), [])
  | _ => none
theorem known_pure : Pure Try.prog 14 fKnown := (runF_pure k3_ok follows_mixed dm_ok 100000 1 14).weaken fun args r h => by
  unfold fKnown at h
  split at h
  · rw [← h]; exact known_run
  · cases h
end Go.Proofs.Ytcbjjkpjbdcakaa
