/- A machine of values: contracts of functions that turn what their arguments lead to. -/
import Derived.Test.YtfkneafghcndfaaQb
namespace Go.Pm
open Go.RowKit
set_option linter.unusedVariables false
set_option linter.unusedSimpArgs false

/-- A result, and what is reached, by number: those that were there, then new ones. -/
def closeObj (k : Nat) (m : Mem) (r : AV) : Option (AV × List (List AV) × List (List AV)) :=
  (reach m 3 (addAll (List.range k) r.names)).bind fun ns => (blksOf m ns).bind fun bs =>
    if ns.Nodup ∧ ns.take k = List.range k then
      (r.ren (closeF m ns)).bind fun r' => (renBlks (closeF m ns) bs).bind fun bs' =>
        if (List.range k).all (fun i => match m i with | some b => decide (b.ver = 0) | none => false) = true then some (r', bs'.take k, bs'.drop k) else none
    else none
noncomputable def runO (P : Program) (K : FuncId → Option Con) (D : FuncId → Nat → List Nat) (L d : Nat) (f : FuncId) : ObjF := fun args bs =>
  (pvCall P K D L d 1 f args (blkMem bs)).bind fun r => closeObj bs.length r.2 r.1
theorem runO_ok {P : Program} {K : FuncId → Option Con} (hK : KOk P K) (hm : P.follows .mixedOrders = true) {D : FuncId → Nat → List Nat} (hD : DOk P D) (L d : Nat) (f : FuncId) : ObjOk' P f (runO P K D L d f) := by
  intro w w0 ι args vs bs r bs' new M ra h
  obtain ⟨⟨r0, m1⟩, h1, h2⟩ := Option.bind_eq_some_iff.1 h
  clear h
  simp only [closeObj] at h2
  obtain ⟨ns, _, h2⟩ := Option.bind_eq_some_iff.1 h2
  obtain ⟨cs, hcs, h2⟩ := Option.bind_eq_some_iff.1 h2
  split at h2
  case isFalse => cases h2
  rename_i hh
  obtain ⟨hnd, htk⟩ := hh
  obtain ⟨r1, hr1, h2⟩ := Option.bind_eq_some_iff.1 h2
  obtain ⟨cs', hcs', h2⟩ := Option.bind_eq_some_iff.1 h2
  split at h2
  case isFalse => cases h2
  rename_i hv0
  simp only [Option.some.injEq, Prod.mk.injEq] at h2
  obtain ⟨rfl, rfl, rfl⟩ := h2
  have hnl : bs.length ≤ ns.length := by
    have := congrArg List.length htk
    simp only [List.length_take, List.length_range] at this
    omega
  have hcl : cs'.length = ns.length := by
    have := (renBlks_get hcs').1
    have := (blksOf_get hcs).1
    omega
  obtain ⟨_, hc⟩ := pvCall_ok hK hm hD (L := L) d 1 f args _ r0 m1 h1 ⟨blkMem bs, ι, w⟩ w0 vs rfl M ra
  refine ⟨by simp; omega, hc.mono ?_⟩
  rintro e w' ⟨v, ι', rfl, hle, hM, rv⟩
  obtain ⟨hN, hl, at_⟩ := close_names (c := ⟨m1, ι', w'⟩) hcs hcs'
  have hM2 := close_mem hM hnd hcs hcs'
  rw [List.take_append_drop]
  have hns : ∀ i, i < bs.length → ns[i]? = some i := fun i hi => by
    have : (ns.take bs.length)[i]? = some i := by rw [htk]; simp [hi]
    rw [List.getElem?_take_of_lt hi] at this
    exact this
  refine ⟨v, _, rfl, ⟨hle.size, fun n k hk => ?_, fun b hb hlt => ?_⟩, hM2, rv.ren hN rfl _ hr1⟩
  · simp only [blkMem] at hk
    obtain ⟨b0, hb0, rfl⟩ := Option.map_eq_some_iff.1 hk
    have hi := (List.getElem?_eq_some_iff.1 hb0).1
    have hj : n < cs'.length := by omega
    obtain ⟨n', k', e1, e2, e3⟩ := at_ n _ (List.getElem?_eq_getElem hj)
    rw [hns n hi] at e1; cases e1
    have hk0 : k'.ver = 0 := by
      have := List.all_eq_true.1 hv0 n (List.mem_range.2 hi)
      simp only at e2
      rw [e2] at this
      simpa using this
    obtain ⟨k2, f1, f2, f3⟩ := hle.m n ⟨0, b0⟩ (by simp [blkMem, hb0])
    simp only at e2 f1
    rw [e2] at f1
    cases f1
    obtain ⟨g1, g2, g3⟩ := f3 hk0.symm
    refine ⟨⟨0, cs'[n]⟩, by simp [blkMem, hj], Nat.le_refl _, fun _ => ⟨by simp only [hns n hi, Option.bind_some]; exact g1, ?_, g3⟩⟩
    have := (renL_get e3).1
    simp only at g2 ⊢
    omega
  · obtain ⟨q1, q2⟩ := hle.keep b hb hlt
    refine ⟨q1, fun ⟨j, k, j1, j2⟩ => q2 ?_⟩
    simp only [blkMem] at j1
    obtain ⟨b1, hb1, rfl⟩ := Option.map_eq_some_iff.1 j1
    obtain ⟨n', k', e1, e2, e3⟩ := at_ j b1 hb1
    simp only [e1, Option.bind_some] at j2
    exact ⟨n', k', e2, j2⟩
end Go.Pm
