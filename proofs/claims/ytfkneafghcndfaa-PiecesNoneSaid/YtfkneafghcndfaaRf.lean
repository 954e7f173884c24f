/- A machine of values: a loop that counts, met on the way. -/
import Derived.Test.YtfkneafghcndfaaRa
namespace Go.Pm
set_option linter.unusedVariables false
set_option linter.unusedSimpArgs false
section
variable {P : Program} {K : FuncId → Option Con} {call : CallF} {D : Nat → List Nat} {nt px L : Nat}
/-- A loop on the way, whose counter lies in a place, and whose rounds turn no memory. -/
theorem loop_met {c : Code} {N : Nat} {t0 : Nat → AV} {m0 : Mem} {R : Option (Ex × St)} (hL : loopK P K call D nt px L c N ⟨t0, m0⟩ = R) (ts : List Nat) (ctr n i : Nat) (h0 : t0 ctr = .v (.int .i64 0)) (hN : n < N)
    (hstep : ∀ (j : Nat) t, j < n → Kept ts t0 t → t ctr = .v (.int .i64 (j : Int)) → ∃ t', evalC P K call D nt px L c ⟨t, m0⟩ = some (.normal, ⟨t', m0⟩) ∧ Kept ts t0 t' ∧ t' ctr = .v (.int .i64 ((j + 1 : Nat) : Int)))
    (hend : ∀ t, Kept ts t0 t → t ctr = .v (.int .i64 (n : Int)) → ∃ t', evalC P K call D nt px L c ⟨t, m0⟩ = some (.exit i, ⟨t', m0⟩) ∧ Kept ts t0 t') :
    ∃ t', R = some (.exit i, ⟨t', m0⟩) ∧ Kept ts t0 t' := by
  subst hL
  exact loop_count ts ctr n i t0 m0 h0 hstep hend N hN
/-- The same of a loop whose rounds turn memory, by an invariant. -/
theorem loop_met2 {c : Code} {N : Nat} {st0 : St} {R : Option (Ex × St)} (hL : loopK P K call D nt px L c N st0 = R) (I : Nat → St → Prop) (Q : Ex → St → Prop) (n : Nat) (hN : n < N) (h0 : I 0 st0)
    (hstep : ∀ j st, j < n → I j st → ∃ st', evalC P K call D nt px L c st = some (.normal, st') ∧ I (j + 1) st')
    (hend : ∀ st, I n st → ∃ e st', e ≠ .normal ∧ evalC P K call D nt px L c st = some (e, st') ∧ Q e st') : ∃ e st', R = some (e, st') ∧ Q e st' := by
  subst hL
  exact loop_rule I Q n hstep hend N 0 st0 (Nat.zero_le _) (by omega) h0
end
end Go.Pm
