/- A machine of values: contracts of functions that turn what their arguments lead to. -/
import Derived.Test.YtfkneafghcndfaaPx
namespace Go.Pm
open Go.RowKit
set_option linter.unusedVariables false
set_option linter.unusedSimpArgs false

def blksOf (m : Mem) : List Nat → Option (List (List AV))
  | [] => some []
  | n :: ns => (m n).bind fun k => (blksOf m ns).map (k.cells :: ·)
def closeF (m : Mem) (ns : List Nat) (n ver : Nat) : Option (Nat × Nat) := (m n).bind fun k => if k.ver = ver then (ns.idxOf? n).map fun j => (j, 0) else none
def addAll : List Nat → List Nat → List Nat
  | acc, [] => acc
  | acc, x :: xs => addAll (if acc.contains x = true then acc else acc ++ [x]) xs
theorem blksOf_get {m : Mem} : ∀ {ns : List Nat} {bs : List (List AV)}, blksOf m ns = some bs → bs.length = ns.length ∧ ∀ (i : Nat) n, ns[i]? = some n → ∃ k, m n = some k ∧ bs[i]? = some k.cells := by
  intro ns
  induction ns with
  | nil => intro bs h; cases h; exact ⟨rfl, fun i n h => by simp at h⟩
  | cons n ns ih =>
    intro bs h
    simp only [blksOf] at h
    obtain ⟨k, h1, h⟩ := Option.bind_eq_some_iff.1 h
    obtain ⟨bs', h2, rfl⟩ := Option.map_eq_some_iff.1 h
    obtain ⟨e1, e2⟩ := ih h2
    refine ⟨by simp [e1], fun i q hq => ?_⟩
    cases i with
    | zero => simp at hq; subst hq; exact ⟨k, h1, rfl⟩
    | succ i => obtain ⟨k', a, b⟩ := e2 i q (by simpa using hq); exact ⟨k', a, by simpa using b⟩

/-- From arguments and the blocks that they lead to, by number, to a result, what these blocks hold then, and new blocks. -/
abbrev ObjF := List AV → List (List AV) → Option (AV × List (List AV) × List (List AV))
def ObjOk' (P : Program) (f : FuncId) (F : ObjF) : Prop :=
  ∀ (w w0 : World) (ι : Nat → Option Nat) (args : List AV) (vs : Array Value) (bs : List (List AV)) (r : AV) (bs' new : List (List AV)), MemOk ⟨blkMem bs, ι, w⟩ w0 → RelL ⟨blkMem bs, ι, w⟩ args vs.toList → F args bs = some (r, bs', new) →
    bs'.length = bs.length ∧ Calls P f vs w fun e w' => ∃ v ι', e = .returned v ∧ Ctx.le ⟨blkMem bs, ι, w⟩ ⟨blkMem (bs' ++ new), ι', w'⟩ ∧ MemOk ⟨blkMem (bs' ++ new), ι', w'⟩ w0 ∧ Rel ⟨blkMem (bs' ++ new), ι', w'⟩ r v

/-- Names reached, in some rounds. -/
def reach (m : Mem) : Nat → List Nat → Option (List Nat)
  | 0, ns => some ns
  | d + 1, ns => (blksOf m ns).bind fun bs => reach m d (addAll ns (bs.flatMap namesL))
theorem close_names {c : Ctx} {ns : List Nat} {bs bs' : List (List AV)} (hbs : blksOf c.m ns = some bs) (hb' : renBlks (closeF c.m ns) bs = some bs') : Names c ⟨blkMem bs', fun j => (ns[j]?).bind c.ι, c.w⟩ (closeF c.m ns) ∧ bs'.length = ns.length ∧
    ∀ (j : Nat) b, bs'[j]? = some b → ∃ n k, ns[j]? = some n ∧ c.m n = some k ∧ renL (closeF c.m ns) k.cells = some b := by
  obtain ⟨hl1, hg1⟩ := blksOf_get hbs
  obtain ⟨hl2, hg2⟩ := renBlks_get hb'
  have at_ : ∀ (j : Nat) b, bs'[j]? = some b → ∃ n k, ns[j]? = some n ∧ c.m n = some k ∧ renL (closeF c.m ns) k.cells = some b := fun j b hb => by
    obtain ⟨x, e1, e2⟩ := hg2 j b hb
    have hj : j < ns.length := by have := (List.getElem?_eq_some_iff.1 e1).1; omega
    obtain ⟨k, a1, a2⟩ := hg1 j _ (List.getElem?_eq_getElem hj)
    rw [e1] at a2; cases a2
    exact ⟨_, k, List.getElem?_eq_getElem hj, a1, e2⟩
  refine ⟨fun n ver n' v' hf k hk => ?_, by omega, at_⟩
  unfold closeF at hf
  rw [hk] at hf
  simp only [Option.bind_some] at hf
  split at hf
  case isFalse => cases hf
  rename_i hv
  obtain ⟨j, hj, h2⟩ := Option.map_eq_some_iff.1 hf
  simp only [Prod.mk.injEq] at h2
  obtain ⟨rfl, rfl⟩ := h2
  have hnj : ns[j]? = some n := by
    rw [List.idxOf?_eq_some_iff] at hj
    obtain ⟨hlt, e, _⟩ := hj
    rw [List.getElem?_eq_getElem hlt]
    simpa using e
  have hj2 : j < bs'.length := by have := (List.getElem?_eq_some_iff.1 hnj).1; omega
  obtain ⟨n2, k2, e1, e2, e3⟩ := at_ j _ (List.getElem?_eq_getElem hj2)
  rw [hnj] at e1; cases e1
  rw [hk] at e2; cases e2
  exact ⟨hv, ⟨0, bs'[j]⟩, by simp only [blkMem]; rw [List.getElem?_eq_getElem hj2]; rfl, rfl, (renL_get e3).1.symm, by simp only [hnj]; rfl⟩
theorem close_mem {c : Ctx} {w0 : World} (M : MemOk c w0) {ns : List Nat} {bs bs' : List (List AV)} (hnd : ns.Nodup) (hbs : blksOf c.m ns = some bs) (hb' : renBlks (closeF c.m ns) bs = some bs') : MemOk ⟨blkMem bs', fun j => (ns[j]?).bind c.ι, c.w⟩ w0 := by
  obtain ⟨hN, hl, at_⟩ := close_names hbs hb'
  refine ⟨M.below, fun j k hk => ?_, fun j j' k k' g h1 h2 h3 h4 => ?_⟩
  · simp only [blkMem] at hk
    obtain ⟨b, hb, rfl⟩ := Option.map_eq_some_iff.1 hk
    obtain ⟨n, k, e1, e2, e3⟩ := at_ j b hb
    simp only [e1, Option.bind_some]
    rcases M.blk0 n k e2 with ⟨h, h'⟩ | ⟨g, h, hg, hh⟩
    · refine .inl ⟨h, ?_⟩
      rw [h'] at e3
      simp only [renL, Option.some.injEq] at e3
      exact e3.symm
    · exact .inr ⟨g, h, hg, hh.ren hN rfl e3⟩
  · simp only [blkMem] at h1 h2
    obtain ⟨b, hb, _⟩ := Option.map_eq_some_iff.1 h1
    obtain ⟨b', hb', _⟩ := Option.map_eq_some_iff.1 h2
    obtain ⟨n, q, e1, e2, _⟩ := at_ j b hb
    obtain ⟨n', q', e3, e4, _⟩ := at_ j' b' hb'
    simp only [e1, e3, Option.bind_some] at h3 h4
    have : n = n' := M.inj n n' q q' g e2 e4 h3 h4
    subst this
    obtain ⟨l1, e1⟩ := List.getElem?_eq_some_iff.1 e1
    obtain ⟨l2, e3⟩ := List.getElem?_eq_some_iff.1 e3
    have hp := List.pairwise_iff_getElem.1 hnd
    rcases Nat.lt_trichotomy j j' with hlt | e | hlt
    · exact absurd (e1.trans e3.symm) (hp j j' l1 l2 hlt)
    · exact e
    · exact absurd (e3.trans e1.symm) (hp j' j l2 l1 hlt)

theorem ObjOk'.weaken {P : Program} {f : FuncId} {F G : ObjF} (h : ObjOk' P f F) (hg : ∀ args bs r, G args bs = some r → F args bs = some r) : ObjOk' P f G := fun w w0 ι args vs bs r bs' new M ra hr => h w w0 ι args vs bs r bs' new M ra (hg _ _ _ hr)

/-- An argument under other names; what holds none stays. -/
def renA (f : Nat → Nat → Option (Nat × Nat)) (x : AV) : Option AV := if x.shut = true then some x else x.ren f
def renAs (f : Nat → Nat → Option (Nat × Nat)) : List AV → Option (List AV)
  | [] => some []
  | x :: xs => (renA f x).bind fun x' => (renAs f xs).map fun xs' => x' :: xs'
/-- Back under the names of the place. -/
def openF (m : Mem) (site : Nat) (ns : List Nat) (cnt n ver : Nat) : Option (Nat × Nat) :=
  if ver = 0 then match ns[n]? with | some q => (m q).map fun k => (q, k.ver) | none => if n < ns.length + cnt then some (site * 16 + (n - ns.length), verNext m (site * 16 + (n - ns.length))) else none else none
def putAll (m0 m : Mem) : List Nat → List (List AV) → Mem
  | n :: ns, b :: bs => upd (putAll m0 m ns bs) n ((m0 n).map fun k => ⟨k.ver, b⟩)
  | _, _ => m
def objBy (F : ObjF) (m : Mem) (site : Nat) (args : List AV) : Option (AV × Mem) :=
  (reach m 3 (addAll [] (namesL (args.filter fun x => !x.shut)))).bind fun ns => (blksOf m ns).bind fun bs => if ns.Nodup then
    (renAs (closeF m ns) args).bind fun as => (renBlks (closeF m ns) bs).bind fun bs1 => (F as bs1).bind fun r =>
      if ns.all (fun n => decide (¬ (site * 16 ≤ n ∧ n < site * 16 + r.2.2.length))) = true then
        (r.1.ren (openF m site ns r.2.2.length)).bind fun r' => (renBlks (openF m site ns r.2.2.length) r.2.1).bind fun bs2 => (renBlks (openF m site ns r.2.2.length) r.2.2).map fun new =>
          (r', putAll m (place m site 0 new) ns bs2)
      else none
    else none
theorem renAs_get {f : Nat → Nat → Option (Nat × Nat)} : ∀ {xs ys : List AV}, renAs f xs = some ys → xs.length = ys.length ∧ ∀ (i : Nat) x, xs[i]? = some x → ∃ y, ys[i]? = some y ∧ renA f x = some y := by
  intro xs
  induction xs with
  | nil => intro ys h; cases h; exact ⟨rfl, fun i y h => by simp at h⟩
  | cons x xs ih =>
    intro ys h
    simp only [renAs] at h
    obtain ⟨x', h1, h⟩ := Option.bind_eq_some_iff.1 h
    obtain ⟨xs', h2, rfl⟩ := Option.map_eq_some_iff.1 h
    obtain ⟨e1, e2⟩ := ih h2
    refine ⟨by simp [e1], fun i y hy => ?_⟩
    cases i with
    | zero => simp at hy; subst hy; exact ⟨x', rfl, h1⟩
    | succ i => obtain ⟨z, a, b⟩ := e2 i y (by simpa using hy); exact ⟨z, by simpa using a, b⟩
theorem putAll_not (m0 m : Mem) : ∀ (ns : List Nat) (bs : List (List AV)) (n : Nat), n ∉ ns → putAll m0 m ns bs n = m n := by
  intro ns
  induction ns with
  | nil => intro bs n _; cases bs <;> rfl
  | cons q ns ih =>
    intro bs n h
    cases bs with
    | nil => rfl
    | cons b bs =>
      simp only [List.mem_cons, not_or] at h
      simp only [putAll, upd_at]
      rw [if_neg h.1, ih bs n h.2]
theorem putAll_in (m0 m : Mem) : ∀ (ns : List Nat) (bs : List (List AV)), ns.Nodup → ∀ (i n : Nat) b, ns[i]? = some n → bs[i]? = some b → putAll m0 m ns bs n = (m0 n).map fun k => ⟨k.ver, b⟩ := by
  intro ns
  induction ns with
  | nil => intro bs _ i n b h; simp at h
  | cons q ns ih =>
    intro bs hnd i n b hn hb
    cases bs with
    | nil => simp at hb
    | cons b0 bs =>
      simp only [List.nodup_cons] at hnd
      simp only [putAll, upd_at]
      cases i with
      | zero => simp at hn hb; subst hn hb; rw [if_pos rfl]
      | succ i =>
        simp only [List.getElem?_cons_succ] at hn hb
        rw [if_neg (fun (e : n = q) => hnd.1 (e ▸ List.mem_of_getElem? hn)), ih bs hnd.2 i n b hn hb]

theorem objBy_sound {P : Program} {f : FuncId} {F : ObjF} (hF : ObjOk' P f F) {c : Ctx} {w0 : World} (M : MemOk c w0) {site : Nat} {args : List AV} {vs : Array Value} {r : AV} {m' : Mem} (h : objBy F c.m site args = some (r, m')) (ra : RelL c args vs.toList) :
    Calls P f vs c.w fun e w' => ∃ v ι', e = .returned v ∧ c.le ⟨m', ι', w'⟩ ∧ MemOk ⟨m', ι', w'⟩ w0 ∧ Rel ⟨m', ι', w'⟩ r v := by
  unfold objBy at h
  obtain ⟨ns, _, h⟩ := Option.bind_eq_some_iff.1 h
  obtain ⟨bs, hbs, h⟩ := Option.bind_eq_some_iff.1 h
  split at h
  case isFalse => cases h
  rename_i hnd
  obtain ⟨as, has, h⟩ := Option.bind_eq_some_iff.1 h
  obtain ⟨bs1, hbs1, h⟩ := Option.bind_eq_some_iff.1 h
  obtain ⟨⟨r0, bs', new⟩, hr0, h⟩ := Option.bind_eq_some_iff.1 h
  split at h
  case isFalse => cases h
  rename_i hcond
  obtain ⟨r1, hr1, h⟩ := Option.bind_eq_some_iff.1 h
  obtain ⟨bs2, hbs2, h⟩ := Option.bind_eq_some_iff.1 h
  obtain ⟨new2, hnew2, h⟩ := Option.map_eq_some_iff.1 h
  simp only [Prod.mk.injEq] at h
  obtain ⟨rfl, rfl⟩ := h
  simp only at hr1 hbs2 hnew2 hcond
  obtain ⟨hN1, hl1, at1⟩ := close_names hbs hbs1
  have hM1 := close_mem M hnd hbs hbs1
  obtain ⟨hlb, hgb⟩ := blksOf_get hbs
  have mine1 : ∀ b, Ctx.mine ⟨blkMem bs1, fun j => (ns[j]?).bind c.ι, c.w⟩ b → ∃ j n k, ns[j]? = some n ∧ c.m n = some k ∧ c.ι n = some b := fun b ⟨j, k, j1, j2⟩ => by
    simp only [blkMem] at j1
    obtain ⟨b1, hb1, rfl⟩ := Option.map_eq_some_iff.1 j1
    obtain ⟨n', k', e1, e2, e3⟩ := at1 j b1 hb1
    simp only [e1, Option.bind_some] at j2
    exact ⟨j, n', k', e1, e2, j2⟩
  have ra1 : RelL ⟨blkMem bs1, fun j => (ns[j]?).bind c.ι, c.w⟩ as vs.toList := by
    obtain ⟨g1, g2⟩ := renAs_get has
    refine ⟨by rw [← g1]; exact ra.1, fun i y hy => ?_⟩
    have hi : i < args.length := by have := (List.getElem?_eq_some_iff.1 hy).1; omega
    obtain ⟨y', e1, e2⟩ := g2 i _ (List.getElem?_eq_getElem hi)
    rw [hy] at e1; cases e1
    obtain ⟨v, e3, e4⟩ := ra.2 i _ (List.getElem?_eq_getElem hi)
    refine ⟨v, e3, ?_⟩
    unfold renA at e2
    split at e2
    · rename_i hs
      cases e2
      exact Rel.sub (c := c) (d := ⟨blkMem bs1, fun j => (ns[j]?).bind c.ι, c.w⟩) rfl (fun b hb => let ⟨j, n, k, a1, a2, a3⟩ := mine1 b hb; ⟨n, k, a2, a3⟩) e4 hs
    · exact e4.ren hN1 rfl _ e2
  obtain ⟨hlen, hcall⟩ := hF c.w w0 _ as vs bs1 r0 bs' new hM1 ra1 hr0
  refine hcall.mono ?_
  rintro e w' ⟨v, ι2, rfl, hle, hM2, rv⟩
  obtain ⟨hl2, hg2⟩ := renBlks_get hbs2
  obtain ⟨hl3, hg3⟩ := renBlks_get hnew2
  have hk : bs'.length = ns.length := by omega
  let isNew : Nat → Prop := fun n => site * 16 ≤ n ∧ n < site * 16 + new.length
  let ι' : Nat → Option Nat := fun n => if site * 16 ≤ n ∧ n < site * 16 + new.length then ι2 (ns.length + (n - site * 16)) else c.ι n
  have hnsnew : ∀ n ∈ ns, ¬ isNew n := fun n hn => by
    have := List.all_eq_true.1 hcond n hn
    rw [decide_eq_true_eq] at this
    exact this
  -- the three kinds of names
  have kNew : ∀ n, isNew n → ∃ x b, new[n - site * 16]? = some x ∧ renL (openF c.m site ns new.length) x = some b ∧ putAll c.m (place c.m site 0 new2) ns bs2 n = some ⟨verNext c.m n, b⟩ ∧ ι' n = ι2 (ns.length + (n - site * 16)) ∧ blkMem (bs' ++ new) (ns.length + (n - site * 16)) = some ⟨0, x⟩ := fun n hn => by
    have hlt : n - site * 16 < new2.length := by have := hn.1; have := hn.2; omega
    obtain ⟨x, a, b⟩ := hg3 _ _ (List.getElem?_eq_getElem hlt)
    refine ⟨x, _, a, b, ?_, if_pos hn, ?_⟩
    · rw [putAll_not _ _ _ _ _ (fun h => hnsnew n h hn)]
      have := place_at c.m site new2 0 n
      simp only [Nat.add_zero] at this
      rw [this, if_pos ⟨hn.1, by rw [← hl3]; exact hn.2⟩, List.getElem?_eq_getElem hlt]
      rfl
    · simp only [blkMem]
      rw [List.getElem?_append_right (by omega), hk, Nat.add_sub_cancel_left, a]; rfl
  have kOld : ∀ (i n : Nat), ns[i]? = some n → ∃ k x b y, c.m n = some k ∧ bs'[i]? = some x ∧ bs2[i]? = some b ∧ renL (openF c.m site ns new.length) x = some b ∧ bs1[i]? = some y ∧ y.length = k.cells.length ∧ putAll c.m (place c.m site 0 new2) ns bs2 n = some ⟨k.ver, b⟩ ∧ ι' n = c.ι n ∧ blkMem (bs' ++ new) i = some ⟨0, x⟩ ∧ ι2 i = c.ι n := fun i n hi => by
    have hlt := (List.getElem?_eq_some_iff.1 hi).1
    obtain ⟨k, h1, h2⟩ := hgb i n hi
    have hb2 : i < bs2.length := by omega
    obtain ⟨x, a, b⟩ := hg2 i _ (List.getElem?_eq_getElem hb2)
    have hb1 : i < bs1.length := by omega
    obtain ⟨n', k', e1, e2, e3⟩ := at1 i _ (List.getElem?_eq_getElem hb1)
    rw [hi] at e1; cases e1
    rw [h1] at e2; cases e2
    have hbm : blkMem (bs' ++ new) i = some ⟨0, x⟩ := by simp only [blkMem]; rw [List.getElem?_append_left (by omega), a]; rfl
    obtain ⟨k2, f1, f2, f3⟩ := hle.m i ⟨0, bs1[i]⟩ (by simp [blkMem, hb1])
    simp only at f1
    rw [hbm] at f1; cases f1
    obtain ⟨q1, _⟩ := f3 rfl
    simp only [hi, Option.bind_some] at q1
    refine ⟨k, x, bs2[i], bs1[i], h1, a, List.getElem?_eq_getElem hb2, b, List.getElem?_eq_getElem hb1, (renL_get e3).1.symm, ?_, if_neg (hnsnew n (List.mem_of_getElem? hi)), hbm, q1⟩
    rw [putAll_in _ _ _ _ hnd i n _ hi (List.getElem?_eq_getElem hb2), h1]; rfl
  have kRest : ∀ n, ¬ isNew n → n ∉ ns → putAll c.m (place c.m site 0 new2) ns bs2 n = c.m n ∧ ι' n = c.ι n := fun n h1 h2 => by
    refine ⟨?_, if_neg h1⟩
    rw [putAll_not _ _ _ _ _ h2]
    have := place_at c.m site new2 0 n
    simp only [Nat.add_zero] at this
    rw [this, if_neg (by rw [← hl3]; exact h1)]
  have rest1 : ∀ n k b, n ∉ ns → c.m n = some k → c.ι n = some b → ¬ Ctx.mine ⟨blkMem bs1, fun j => (ns[j]?).bind c.ι, c.w⟩ b := fun n k b hn hk hb hm => by
    obtain ⟨j, n', k', a1, a2, a3⟩ := mine1 b hm
    exact hn (M.inj n n' k k' b hk a2 hb a3 ▸ List.mem_of_getElem? a1)
  have inns : ∀ n, n ∈ ns → ∃ i, ns[i]? = some n := fun n h => List.mem_iff_getElem?.1 h
  have hN2 : Names ⟨blkMem (bs' ++ new), ι2, w'⟩ ⟨putAll c.m (place c.m site 0 new2) ns bs2, ι', w'⟩ (openF c.m site ns new.length) := by
    intro n ver n' v' hf k hk0
    unfold openF at hf
    split at hf
    case isFalse => cases hf
    rename_i hver
    subst hver
    simp only at hk0
    split at hf
    · rename_i q hq
      obtain ⟨k1, x, b, y, a1, a2, a3, a4, a5, a6, a7, a8, a9, a10⟩ := kOld n q hq
      rw [a1] at hf
      cases hf
      rw [a9] at hk0; cases hk0
      exact ⟨rfl, ⟨k1.ver, b⟩, a7, rfl, (renL_get a4).1.symm, a8.trans a10.symm⟩
    · rename_i hq
      have hge : ns.length ≤ n := by simpa using hq
      split at hf
      case isFalse => cases hf
      rename_i hn3
      cases hf
      have hn2 : n - ns.length < new.length := by omega
      obtain ⟨x, b, a1, a2, a3, a4, a5⟩ := kNew (site * 16 + (n - ns.length)) ⟨by omega, by omega⟩
      rw [Nat.add_sub_cancel_left] at a1 a4 a5
      rw [show ns.length + (n - ns.length) = n by omega] at a4 a5
      rw [a5] at hk0; cases hk0
      exact ⟨rfl, _, a3, rfl, (renL_get a2).1.symm, a4⟩
  have hle' : c.le ⟨putAll c.m (place c.m site 0 new2) ns bs2, ι', w'⟩ := by
    refine ⟨hle.size, fun n k hkk => ?_, fun b hb' hlt => ?_⟩
    · by_cases hn : isNew n
      · obtain ⟨x, b, a1, a2, a3, a4, a5⟩ := kNew n hn
        exact ⟨_, a3, Nat.le_of_lt (verNext_gt hkk), fun e => absurd e (by have := verNext_gt hkk; simp only; omega)⟩
      · by_cases hi : n ∈ ns
        · obtain ⟨i, hi⟩ := inns n hi
          obtain ⟨k1, x, b, y, a1, a2, a3, a4, a5, a6, a7, a8, a9, a10⟩ := kOld i n hi
          rw [hkk] at a1; cases a1
          obtain ⟨k2, f1, f2, f3⟩ := hle.m i ⟨0, y⟩ (by simp only [blkMem, a5]; rfl)
          simp only at f1
          rw [a9] at f1; cases f1
          obtain ⟨q1, q2, q3⟩ := f3 rfl
          refine ⟨_, a7, Nat.le_refl _, fun _ => ⟨a8, ?_, fun b0 cs t hb0 hh => ?_⟩⟩
          · have := (renL_get a4).1
            simp only at q2 ⊢
            omega
          · exact q3 b0 cs t (by simp only [hi, Option.bind_some]; exact hb0) hh
        · obtain ⟨h1, h2⟩ := kRest n hn hi
          refine ⟨k, h1.trans hkk, Nat.le_refl _, fun _ => ⟨h2, rfl, fun b0 cs t hb0 hh => ⟨cs, ?_, rfl⟩⟩⟩
          exact (hle.keep b0 (rest1 n k b0 hi hkk hb0) (lt_heap hh)).1.trans hh
    · have hn1 : ¬ Ctx.mine ⟨blkMem bs1, fun j => (ns[j]?).bind c.ι, c.w⟩ b := fun hm => by
        obtain ⟨j, n', k', a1, a2, a3⟩ := mine1 b hm
        exact hb' ⟨n', k', a2, a3⟩
      obtain ⟨q1, q2⟩ := hle.keep b hn1 hlt
      refine ⟨q1, fun ⟨n, k, h1, h2⟩ => ?_⟩
      by_cases hn : isNew n
      · obtain ⟨x, b0, a1, a2, a3, a4, a5⟩ := kNew n hn
        exact q2 ⟨_, _, a5, a4.symm.trans h2⟩
      · by_cases hi : n ∈ ns
        · obtain ⟨i, hi⟩ := inns n hi
          obtain ⟨k1, x, b0, y, a1, a2, a3, a4, a5, a6, a7, a8, a9, a10⟩ := kOld i n hi
          exact hb' ⟨n, k1, a1, a8.symm.trans h2⟩
        · obtain ⟨e1, e2⟩ := kRest n hn hi
          exact hb' ⟨n, k, e1.symm.trans h1, e2.symm.trans h2⟩
  -- a name of the call, by its number
  have idx : ∀ n k, putAll c.m (place c.m site 0 new2) ns bs2 n = some k → (isNew n ∨ n ∈ ns) → ∃ j x, blkMem (bs' ++ new) j = some ⟨0, x⟩ ∧ ι2 j = ι' n ∧ renL (openF c.m site ns new.length) x = some k.cells ∧ (∀ n' j', (isNew n' ∨ n' ∈ ns) → j' = j → (isNew n' → j' = ns.length + (n' - site * 16)) → (n' ∈ ns → ns[j']? = some n') → n' = n) ∧ (isNew n → j = ns.length + (n - site * 16)) ∧ (n ∈ ns → ns[j]? = some n) := fun n k hkk hor => by
    by_cases hn : isNew n
    · obtain ⟨x, b, a1, a2, a3, a4, a5⟩ := kNew n hn
      rw [a3] at hkk; cases hkk
      refine ⟨_, x, a5, a4.symm, a2, fun n' j' ho hj h1 h2 => ?_, fun _ => rfl, fun h => absurd hn (hnsnew n h)⟩
      rcases ho with ho | ho
      · have := h1 ho; have := ho.1; have := hn.1; omega
      · have := h2 ho
        rw [hj] at this
        have := (List.getElem?_eq_some_iff.1 this).1
        omega
    · have hi := hor.resolve_left hn
      obtain ⟨i, hi'⟩ := inns n hi
      obtain ⟨k1, x, b, y, a1, a2, a3, a4, a5, a6, a7, a8, a9, a10⟩ := kOld i n hi'
      rw [a7] at hkk; cases hkk
      refine ⟨i, x, a9, a10.trans a8.symm, a4, fun n' j' ho hj h1 h2 => ?_, fun h => absurd h hn, fun _ => hi'⟩
      rcases ho with ho | ho
      · have := h1 ho
        have := (List.getElem?_eq_some_iff.1 hi').1
        omega
      · have := h2 ho
        rw [hj, hi'] at this
        exact (Option.some.inj this).symm
  refine ⟨v, ι', rfl, hle', ⟨hM2.below, fun n k hkk => ?_, fun n n' k k2 g h1 h2 h3 h4 => ?_⟩, rv.ren hN2 rfl r1 hr1⟩
  · simp only at hkk
    by_cases hor : isNew n ∨ n ∈ ns
    · obtain ⟨j, x, b1, b2, b3, _⟩ := idx n k hkk hor
      rcases hM2.blk0 j ⟨0, x⟩ b1 with ⟨h, h'⟩ | ⟨g', h, hge, hh⟩
      · refine .inl ⟨b2.symm.trans h, ?_⟩
        simp only at h'
        subst h'
        simp only [renL, Option.some.injEq] at b3
        exact b3.symm
      · exact .inr ⟨g', b2.symm.trans h, hge, hh.ren hN2 rfl b3⟩
    · rw [not_or] at hor
      obtain ⟨h1, h2⟩ := kRest n hor.1 hor.2
      rw [h1] at hkk
      rcases M.blk0 n k hkk with ⟨h, h'⟩ | ⟨g, h, hg, hh⟩
      · exact .inl ⟨h2.trans h, h'⟩
      · refine .inr ⟨g, h2.trans h, hg, ?_⟩
        obtain ⟨o, ho⟩ := hh.some_
        have := (hle.keep g (rest1 n k g hor.2 hkk h) (lt_heap ho)).1
        show ObjOk _ _ w'.heap[g]?
        rw [this]
        exact hh.mono hle'
  · simp only at h1 h2 h3 h4
    have restC2 : ∀ q kq, ¬ isNew q → q ∉ ns → c.m q = some kq → c.ι q = some g → ¬ Ctx.mine ⟨blkMem (bs' ++ new), ι2, w'⟩ g := fun q kq a1 a2 a3 a4 => by
      rcases M.blk0 q kq a3 with ⟨h, _⟩ | ⟨g', h, hg, hh⟩
      · rw [a4] at h; cases h
      · rw [a4] at h; cases h
        obtain ⟨o, ho⟩ := hh.some_
        exact (hle.keep g (rest1 q kq g a2 a3 a4) (lt_heap ho)).2
    by_cases hor : isNew n ∨ n ∈ ns <;> by_cases hor' : isNew n' ∨ n' ∈ ns
    · obtain ⟨j, x, b1, b2, b3, b4, b5, b6⟩ := idx n k h1 hor
      obtain ⟨j', x', d1, d2, d3, d4, d5, d6⟩ := idx n' k2 h2 hor'
      have := hM2.inj j j' _ _ g b1 d1 (b2.trans h3) (d2.trans h4)
      exact d4 n j hor this b5 b6
    · rw [not_or] at hor'
      obtain ⟨e1, e2⟩ := kRest n' hor'.1 hor'.2
      obtain ⟨j, x, b1, b2, _⟩ := idx n k h1 hor
      exact absurd ⟨j, _, b1, b2.trans h3⟩ (restC2 n' k2 hor'.1 hor'.2 (e1.symm.trans h2) (e2.symm.trans h4))
    · rw [not_or] at hor
      obtain ⟨e1, e2⟩ := kRest n hor.1 hor.2
      obtain ⟨j, x, b1, b2, _⟩ := idx n' k2 h2 hor'
      exact absurd ⟨j, _, b1, b2.trans h4⟩ (restC2 n k hor.1 hor.2 (e1.symm.trans h1) (e2.symm.trans h3))
    · rw [not_or] at hor hor'
      obtain ⟨e1, e2⟩ := kRest n hor.1 hor.2
      obtain ⟨e3, e4⟩ := kRest n' hor'.1 hor'.2
      exact M.inj n n' k k2 g (e1.symm.trans h1) (e3.symm.trans h2) (e2.symm.trans h3) (e4.symm.trans h4)
theorem mem_addAll : ∀ (xs acc : List Nat) (n : Nat), n ∈ acc → n ∈ addAll acc xs := by
  intro xs
  induction xs with
  | nil => intro acc n h; exact h
  | cons x xs ih =>
    intro acc n h
    refine ih _ n ?_
    split
    · exact h
    · exact List.mem_append_left _ h
theorem blksOf_congr {m m2 : Mem} : ∀ {ns : List Nat}, (∀ n ∈ ns, m n = m2 n) → blksOf m ns = blksOf m2 ns := by
  intro ns
  induction ns with
  | nil => intro _; rfl
  | cons n ns ih =>
    intro h
    simp only [blksOf]
    rw [h n List.mem_cons_self, ih fun q hq => h q (List.mem_cons_of_mem _ hq)]
theorem reach_sub {m : Mem} : ∀ (d : Nat) {ns r : List Nat}, reach m d ns = some r → ∀ n ∈ ns, n ∈ r := by
  intro d
  induction d with
  | zero => intro ns r h n hn; cases h; exact hn
  | succ d ih =>
    intro ns r h n hn
    obtain ⟨bs, _, h⟩ := Option.bind_eq_some_iff.1 h
    exact ih h n (mem_addAll _ _ n hn)
theorem reach_local {m m2 : Mem} : ∀ (d : Nat) {ns r : List Nat}, reach m d ns = some r → (∀ n ∈ r, m n = m2 n) → reach m2 d ns = some r := by
  intro d
  induction d with
  | zero => intro ns r h _; exact h
  | succ d ih =>
    intro ns r h ha
    have hs := reach_sub (d + 1) h
    obtain ⟨bs, h1, h2⟩ := Option.bind_eq_some_iff.1 h
    show (blksOf m2 ns).bind _ = _
    rw [← blksOf_congr fun n hn => ha n (hs n hn), h1]
    exact ih h2 ha
theorem closeF_local {m m2 : Mem} {ns : List Nat} (h : ∀ n ∈ ns, m n = m2 n) : closeF m ns = closeF m2 ns := by
  funext n ver
  unfold closeF
  by_cases hn : n ∈ ns
  · rw [h n hn]
  · have : ns.idxOf? n = none := by rw [List.idxOf?_eq_none_iff]; exact hn
    rw [this]
    cases m n <;> cases m2 n <;> simp
theorem openF_local {m m2 : Mem} {site : Nat} {ns : List Nat} {cnt : Nat} (h : ∀ n ∈ ns, m n = m2 n) (hu : ∀ j, j < cnt → m (site * 16 + j) = m2 (site * 16 + j)) : openF m site ns cnt = openF m2 site ns cnt := by
  funext n ver
  unfold openF
  split
  · cases hq : ns[n]? with
    | some q => simp only; rw [h q (List.mem_of_getElem? hq)]
    | none =>
      simp only
      split
      · rename_i hlt
        have hge : ns.length ≤ n := by simpa using hq
        have := hu (n - ns.length) (by omega)
        simp only [verNext, this]
      · rfl
  · rfl
end Go.Pm
