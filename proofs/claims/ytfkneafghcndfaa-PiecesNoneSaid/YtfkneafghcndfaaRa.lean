/- A machine of values: loops of any length. -/
import Derived.Test.YtfkneafghcndfaaQb
namespace Go.Pm
set_option linter.unusedVariables false
set_option linter.unusedSimpArgs false
section
variable {P : Program} {K : FuncId → Option Con} {call : CallF} {D : Nat → List Nat} {nt px L : Nat}

/-- A loop that counts to n, and then leaves. -/
theorem loop_rule {c : Code} (I : Nat → St → Prop) (Q : Ex → St → Prop) (n : Nat) (hstep : ∀ j st, j < n → I j st → ∃ st', evalC P K call D nt px L c st = some (.normal, st') ∧ I (j + 1) st')
    (hend : ∀ st, I n st → ∃ e st', e ≠ .normal ∧ evalC P K call D nt px L c st = some (e, st') ∧ Q e st') : ∀ (N j : Nat) (st : St), j ≤ n → n - j < N → I j st → ∃ e st', loopK P K call D nt px L c N st = some (e, st') ∧ Q e st' := by
  intro N
  induction N with
  | zero => intro j st _ h; omega
  | succ N ih =>
    intro j st hj hN hI
    rw [loopK_succ]
    by_cases h : j = n
    · subst h
      obtain ⟨e, st', h0, h1, h2⟩ := hend st hI
      refine ⟨e, st', ?_, h2⟩
      rw [h1]
      cases e with
      | normal => exact absurd rfl h0
      | exit i => rfl
      | ret => rfl
    · obtain ⟨st', h1, h2⟩ := hstep j st (by omega) hI
      rw [h1, againK_normal]
      exact ih (j + 1) st' (by omega) (by omega) h2
/-- Places that a loop may turn; the others stay. -/
def Kept (ts : List Nat) (t t' : Nat → AV) : Prop := ∀ k, k ∉ ts → t' k = t k
theorem Kept.refl (ts : List Nat) (t : Nat → AV) : Kept ts t t := fun _ _ => rfl
theorem Kept.upd {ts : List Nat} {t t' : Nat → AV} (h : Kept ts t t') {k : Nat} (hk : k ∈ ts) (x : AV) : Kept ts t (upd t' k x) := fun q hq => by
  rw [upd_at, if_neg (fun e => hq (by rw [e]; exact hk))]
  exact h q hq
/-- A loop whose counter lies in a place, and whose rounds turn no memory. -/
theorem loop_count {c : Code} (ts : List Nat) (ctr n i : Nat) (t0 : Nat → AV) (m0 : Mem) (h0 : t0 ctr = .v (.int .i64 0))
    (hstep : ∀ (j : Nat) t, j < n → Kept ts t0 t → t ctr = .v (.int .i64 (j : Int)) → ∃ t', evalC P K call D nt px L c ⟨t, m0⟩ = some (.normal, ⟨t', m0⟩) ∧ Kept ts t0 t' ∧ t' ctr = .v (.int .i64 ((j + 1 : Nat) : Int)))
    (hend : ∀ t, Kept ts t0 t → t ctr = .v (.int .i64 (n : Int)) → ∃ t', evalC P K call D nt px L c ⟨t, m0⟩ = some (.exit i, ⟨t', m0⟩) ∧ Kept ts t0 t') (N : Nat) (hN : n < N) :
    ∃ t', loopK P K call D nt px L c N ⟨t0, m0⟩ = some (.exit i, ⟨t', m0⟩) ∧ Kept ts t0 t' := by
  obtain ⟨e, st', h1, h2, t', h3, h4⟩ := loop_rule (P := P) (K := K) (call := call) (D := D) (nt := nt) (px := px) (L := L) (c := c) (fun j st => ∃ t, st = ⟨t, m0⟩ ∧ Kept ts t0 t ∧ t ctr = .v (.int .i64 (j : Int))) (fun e st => e = .exit i ∧ ∃ t, st = ⟨t, m0⟩ ∧ Kept ts t0 t) n
    (fun j st hj ⟨t, e, hk, hc⟩ => by subst e; obtain ⟨t', a, b, d⟩ := hstep j t hj hk hc; exact ⟨_, a, t', rfl, b, d⟩)
    (fun st ⟨t, e, hk, hc⟩ => by subst e; obtain ⟨t', a, b⟩ := hend t hk hc; exact ⟨_, _, (fun h => by cases h), a, rfl, t', rfl, b⟩)
    N 0 ⟨t0, m0⟩ (by omega) (by omega) ⟨t0, rfl, .refl _ _, h0⟩
  subst h2 h3
  exact ⟨t', h1, h4⟩
/-- The k-th loop's body of a code. -/
def loopsOf : Code → List Code
  | .seq a b => loopsOf a ++ loopsOf b
  | .cond _ a b => loopsOf a ++ loopsOf b
  | .block _ c => loopsOf c
  | .scope c => loopsOf c
  | .loop c => c :: loopsOf c
  | _ => []
end
end Go.Pm
