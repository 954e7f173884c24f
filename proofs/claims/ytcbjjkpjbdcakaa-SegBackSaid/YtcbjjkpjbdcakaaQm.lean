/- The reference's SameTCP as a function of values. -/
import Derived.Test.YtcbjjkpjbdcakaaQl
namespace Go.Proofs.Ytcbjjkpjbdcakaa
open Go.Pm
set_option linter.unusedVariables false
set_option linter.unusedSimpArgs false
set_option maxRecDepth 1000000
set_option maxHeartbeats 8000000 in
theorem same_run (p0 p1 sq ak re fl wi ur : Int) (os : List Int) (on : Bool) (oc : Option Nat) (on' : Bool) (oc' : Option Nat) (hl : os.length ≤ 500000) :
    runF Try.prog K4 Dm 100000 1 17 [tcpA p0 p1 sq ak re fl wi ur (.sl on (B8 os) os.length oc), tcpA p0 p1 sq ak re fl wi ur (.sl on' (B8 os) os.length oc')] = some (.v (.bool true), []) := by
  have l1 : os.length ≤ 9223372036854775807 := by omega
  unfold runF
  rw [pvCall_own (fn := Try.f17) rfl Try.func17 rfl (by decide) rfl rfl (by simp)]
  simp -implicitDefEqProofs [Nat.testBit_eq_decide_div_mod_eq, tcpA, splice, IntKind.bits, l1, hl]
def fSame : Fun
  | [a, b] => (asTcp a).bind fun x => (asTcp b).bind fun y => if (x.1 = y.1 ∧ x.2.1 = y.2.1 ∧ x.2.2.1 = y.2.2.1 ∧ x.2.2.2.1 = y.2.2.2.1 ∧ x.2.2.2.2.1 = y.2.2.2.2.1 ∧ x.2.2.2.2.2.1 = y.2.2.2.2.2.1 ∧ x.2.2.2.2.2.2.1 = y.2.2.2.2.2.2.1 ∧ x.2.2.2.2.2.2.2.1 = y.2.2.2.2.2.2.2.1 ∧ x.2.2.2.2.2.2.2.2 = y.2.2.2.2.2.2.2.2) ∧ x.2.2.2.2.2.2.2.2.length ≤ 500000 then some (.v (.bool true), []) else none
  | _ => none
theorem same_pure : Pure Try.prog 17 fSame := (runF_pure k4_ok follows_mixed dm_ok 100000 1 17).weaken fun args r h => by
  unfold fSame at h
  split at h
  · rename_i a b
    obtain ⟨⟨p0, p1, sq, ak, re, fl, wi, ur, os⟩, e1, h1⟩ := Option.bind_eq_some_iff.1 h
    obtain ⟨⟨q0, q1, q2, q3, q4, q5, q6, q7, q8⟩, e2, he⟩ := Option.bind_eq_some_iff.1 h1
    clear h h1
    split at he
    case isFalse => cases he
    rename_i hh
    simp only at hh
    obtain ⟨⟨rfl, rfl, rfl, rfl, rfl, rfl, rfl, rfl, rfl⟩, hl⟩ := hh
    obtain ⟨on, oc, rfl⟩ := asTcp_eq e1
    obtain ⟨on', oc', rfl⟩ := asTcp_eq e2
    rw [← he]
    exact same_run p0 p1 sq ak re fl wi ur os on oc on' oc' hl
  · cases h
end Go.Proofs.Ytcbjjkpjbdcakaa
