/- A machine of values: a function's answers are a contract; a law's answer. -/
import Derived.Test.YtfkneafghcndfaaQa
namespace Go.Pm
open Go.RowKit
set_option linter.unusedVariables false
set_option linter.unusedSimpArgs false

theorem memOk_none (w : World) : MemOk (noneAt w) w := ⟨.refl _ _, (fun n k h => by cases h), (fun n n' k k' g h => by cases h)⟩

/-- A result by itself: its blocks by number. -/
def closeRes (m : Mem) (r : AV) : Option (AV × List (List AV)) :=
  (blksOf m (addAll [] r.names)).bind fun bs0 => (blksOf m (addAll (addAll [] r.names) (bs0.flatMap namesL))).bind fun bs =>
    if (addAll (addAll [] r.names) (bs0.flatMap namesL)).Nodup then
      (r.ren (closeF m (addAll (addAll [] r.names) (bs0.flatMap namesL)))).bind fun r' => (renBlks (closeF m (addAll (addAll [] r.names) (bs0.flatMap namesL))) bs).map fun bs' => (r', bs')
    else none
theorem closeRes_sound {c : Ctx} {w0 : World} (M : MemOk c w0) {r r' : AV} {bs : List (List AV)} {v : Value} (h : closeRes c.m r = some (r', bs)) (rr : Rel c r v) : ∃ ι, MemOk ⟨blkMem bs, ι, c.w⟩ w0 ∧ Rel ⟨blkMem bs, ι, c.w⟩ r' v := by
  unfold closeRes at h
  obtain ⟨bs0, _, h⟩ := Option.bind_eq_some_iff.1 h
  obtain ⟨bs1, hbs, h⟩ := Option.bind_eq_some_iff.1 h
  generalize addAll (addAll [] r.names) (bs0.flatMap namesL) = ns at h hbs
  split at h
  case isFalse => cases h
  rename_i hnd
  obtain ⟨r1, hr1, h⟩ := Option.bind_eq_some_iff.1 h
  obtain ⟨bs', hb', h⟩ := Option.map_eq_some_iff.1 h
  simp only [Prod.mk.injEq] at h
  obtain ⟨rfl, rfl⟩ := h
  obtain ⟨hl1, hg1⟩ := blksOf_get hbs
  obtain ⟨hl2, hg2⟩ := renBlks_get hb'
  have at_ : ∀ (j : Nat) b, bs'[j]? = some b → ∃ n k, ns[j]? = some n ∧ c.m n = some k ∧ renL (closeF c.m ns) k.cells = some b := fun j b hb => by
    obtain ⟨x, e1, e2⟩ := hg2 j b hb
    have hj : j < ns.length := by have := (List.getElem?_eq_some_iff.1 e1).1; omega
    obtain ⟨k, a1, a2⟩ := hg1 j _ (List.getElem?_eq_getElem hj)
    rw [e1] at a2; cases a2
    exact ⟨_, k, List.getElem?_eq_getElem hj, a1, e2⟩
  have hN : Names c ⟨blkMem bs', fun j => (ns[j]?).bind c.ι, c.w⟩ (closeF c.m ns) := by
    intro n ver n' v' hf k hk
    unfold closeF at hf
    rw [hk] at hf
    simp only [Option.bind_some] at hf
    split at hf
    case isFalse => cases hf
    rename_i hv
    obtain ⟨j, hj, h2⟩ := Option.map_eq_some_iff.1 hf
    simp only [Prod.mk.injEq] at h2
    obtain ⟨rfl, rfl⟩ := h2
    have hnj : ns[j]? = some n := by
      rw [List.idxOf?_eq_some_iff] at hj
      obtain ⟨hlt, e, _⟩ := hj
      rw [List.getElem?_eq_getElem hlt]
      simpa using e
    have hj2 : j < bs'.length := by have := (List.getElem?_eq_some_iff.1 hnj).1; omega
    obtain ⟨n2, k2, e1, e2, e3⟩ := at_ j _ (List.getElem?_eq_getElem hj2)
    rw [hnj] at e1; cases e1
    rw [hk] at e2; cases e2
    exact ⟨hv, ⟨0, bs'[j]⟩, by simp only [blkMem]; rw [List.getElem?_eq_getElem hj2]; rfl, rfl, (renL_get e3).1.symm, by simp only [hnj]; rfl⟩
  refine ⟨fun j => (ns[j]?).bind c.ι, ⟨M.below, fun j k hk => ?_, fun j j' k k' g h1 h2 h3 h4 => ?_⟩, rr.ren hN rfl _ hr1⟩
  · simp only [blkMem] at hk
    obtain ⟨b, hb, rfl⟩ := Option.map_eq_some_iff.1 hk
    obtain ⟨n, k, e1, e2, e3⟩ := at_ j b hb
    simp only [e1, Option.bind_some]
    rcases M.blk0 n k e2 with ⟨h, h'⟩ | ⟨g, h, hg, hh⟩
    · refine .inl ⟨h, ?_⟩
      rw [h'] at e3
      simp only [renL, Option.some.injEq] at e3
      exact e3.symm
    · exact .inr ⟨g, h, hg, hh.ren hN rfl e3⟩
  · simp only [blkMem] at h1 h2
    obtain ⟨b, hb, _⟩ := Option.map_eq_some_iff.1 h1
    obtain ⟨b', hb', _⟩ := Option.map_eq_some_iff.1 h2
    obtain ⟨n, q, e1, e2, _⟩ := at_ j b hb
    obtain ⟨n', q', e3, e4, _⟩ := at_ j' b' hb'
    simp only [e1, e3, Option.bind_some] at h3 h4
    have : n = n' := M.inj n n' q q' g e2 e4 h3 h4
    subst this
    obtain ⟨l1, e1⟩ := List.getElem?_eq_some_iff.1 e1
    obtain ⟨l2, e3⟩ := List.getElem?_eq_some_iff.1 e3
    have hp := List.pairwise_iff_getElem.1 hnd
    rcases Nat.lt_trichotomy j j' with hlt | e | hlt
    · exact absurd (e1.trans e3.symm) (hp j j' l1 l2 hlt)
    · exact e
    · exact absurd (e3.trans e1.symm) (hp j' j l2 l1 hlt)

noncomputable def runF (P : Program) (K : FuncId → Option Con) (D : FuncId → Nat → List Nat) (L d : Nat) (f : FuncId) : Fun := fun args => (pvCall P K D L d 0 f args fun _ => none).bind fun r => closeRes r.2 r.1
theorem runF_pure {P : Program} {K : FuncId → Option Con} (hK : KOk P K) (hm : P.follows .mixedOrders = true) {D : FuncId → Nat → List Nat} (hD : DOk P D) (L d : Nat) (f : FuncId) : Pure P f (runF P K D L d f) := by
  intro w args vs r bs ra h
  obtain ⟨⟨r0, m'⟩, h1, h2⟩ := Option.bind_eq_some_iff.1 h
  obtain ⟨_, hc⟩ := pvCall_ok hK hm hD (L := L) d 0 f args _ r0 m' h1 (noneAt w) w vs rfl (memOk_none w) ra
  refine hc.mono ?_
  rintro e w' ⟨v, ι', rfl, _, hM, rv⟩
  obtain ⟨ι, a, b⟩ := closeRes_sound (c := ⟨m', ι', w'⟩) hM h2 rv
  exact ⟨v, ι, rfl, a, b⟩
theorem Pure.weaken {P : Program} {f : FuncId} {F G : Fun} (h : Pure P f F) (hg : ∀ args r, G args = some r → F args = some r) : Pure P f G := fun w args vs r bs ra hr => h w args vs r bs ra (hg _ _ hr)

/-- An appending function by its own text. -/
theorem app_of_run {P : Program} {K : FuncId → Option Con} (hK : KOk P K) (hm : P.follows .mixedOrders = true) {D : FuncId → Nat → List Nat} (hD : DOk P D) (L d : Nat) (f : FuncId) {e : TypeId} {G : App}
    (h : ∀ zs as ys, G zs as = some ys → (pvCall P K D L d 1 f (.own 0 0 0 zs.length 1 (.whole e) :: as) (mem0 zs)).bind (outApp e) = some (zs ++ ys)) : AppOk P f e G := by
  intro c w0 v vs zs as ys M hcm rv ra hy
  obtain ⟨⟨r0, m'⟩, h1, h2⟩ := Option.bind_eq_some_iff.1 (h zs as ys hy)
  obtain ⟨_, hc⟩ := pvCall_ok hK hm hD (L := L) d 1 f _ _ r0 m' h1 c w0 (v :: vs).toArray hcm M (.cons rv ra)
  refine hc.mono ?_
  rintro x w' ⟨v', ι', rfl, hle, hM, rv'⟩
  unfold outApp at h2
  split at h2
  case h_2 => cases h2
  rename_i n ver off len sz e' hr
  simp only at hr
  subst hr
  split at h2
  case isFalse => cases h2
  rename_i hh
  obtain ⟨rfl, rfl, rfl, rfl⟩ := hh
  obtain ⟨k, hk, h2⟩ := Option.bind_eq_some_iff.1 h2
  split at h2
  case isFalse => cases h2
  rename_i hv
  obtain ⟨W, hW, h2⟩ := Option.bind_eq_some_iff.1 h2
  split at h2
  case isFalse => cases h2
  rename_i hl
  cases h2
  rw [← hl] at rv'
  refine ⟨v', ι', m', _, rfl, hle, hM, rv', ?_⟩
  simp only at hk
  rw [hk]
  have := asB8_eq hW
  cases k
  simp only at hv this
  rw [hv, this]

/-- A law that comes to true. -/
theorem law_of_run {P : Program} {K : FuncId → Option Con} (hK : KOk P K) (hm : P.follows .mixedOrders = true) {D : FuncId → Nat → List Nat} (hD : DOk P D) {L d : Nat} {f : FuncId} {args : List AV} {m' : Mem} (h : pvCall P K D L d 0 f args (fun _ => none) = some (.v (.bool true), m')) {w : World} {vs : Array Value} (ra : RelL (noneAt w) args vs.toList) :
    Calls P f vs w fun e w' => e = .returned (.bool true) ∧ Below w.heap.size w w' := by
  obtain ⟨_, hc⟩ := pvCall_ok hK hm hD (L := L) d 0 f args _ _ m' h (noneAt w) w vs rfl (memOk_none w) ra
  refine hc.mono ?_
  rintro e w' ⟨v, ι', rfl, _, hM, rv⟩
  obtain ⟨rfl, _⟩ := rv.inv_v
  exact ⟨rfl, hM.below⟩

/-- A function whose result is plain. -/
theorem pure_plain {P : Program} {f : FuncId} {F : Fun} (h : ∀ (w : World) (args : List AV) (vs : Array Value) r bs, RelL (noneAt w) args vs.toList → F args = some (r, bs) → bs = [] ∧ Calls P f vs w fun e w' => ∃ v, e = .returned v ∧ Below w.heap.size w w' ∧ Rel (noneAt w') r v) : Pure P f F := by
  intro w args vs r bs ra hr
  obtain ⟨rfl, hc⟩ := h w args vs r bs ra hr
  refine hc.mono ?_
  rintro e w' ⟨v, rfl, hb, rv⟩
  have e0 : blkMem [] = fun _ => none := by funext n; simp [blkMem]
  refine ⟨v, fun _ => none, rfl, ⟨hb, fun n k h => ?_, fun n n' k k' g h => ?_⟩, ?_⟩
  · simp only [e0] at h; cases h
  · simp only [e0] at h; cases h
  · rw [e0]; exact rv
end Go.Pm
