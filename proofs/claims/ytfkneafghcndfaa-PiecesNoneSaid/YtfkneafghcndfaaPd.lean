/- A machine of values: places, parts, slices. -/
import Derived.Test.YtfkneafghcndfaaPc
namespace Go.Pm
open Go.RowKit
set_option linter.unusedVariables false
set_option linter.unusedSimpArgs false

theorem addr_add (b o d : Nat) : (⟨b, o, none⟩ : Addr).add d = ⟨b, o + d, none⟩ := by unfold Addr.add; split <;> simp_all

/-- A pointer further on. -/
def ptrAdd (d : Nat) : AV → Option AV
  | .ptr n ver off => some (.ptr n ver (off + d))
  | .at_ xs => some (.at_ (xs.drop d))
  | _ => none
theorem ptrAdd_sound {c : Ctx} {d : Nat} {x y : AV} {v : Value} (h : ptrAdd d x = some y) (r : Rel c x v) : ∃ b o, v = .pointer (some ⟨b, o, none⟩) ∧ Rel c y (.pointer (some ⟨b, o + d, none⟩)) ∨ ∃ a, v = .pointer (some a) ∧ Rel c y (.pointer (some (a.add d))) := by
  cases x with
  | ptr n ver off =>
    cases h
    cases r with
    | @ptr _ _ _ k a hk hv ha =>
      refine ⟨0, 0, .inr ⟨a, rfl, .ptr hk hv fun e => ?_⟩⟩
      obtain ⟨g, cs, t, h1, rfl, h3⟩ := ha e
      exact ⟨g, cs, t, h1, addr_add _ _ _, h3⟩
  | at_ xs =>
    cases h
    cases r with
    | @at_ _ b o f hx hr =>
      refine ⟨0, 0, .inr ⟨_, rfl, ?_⟩⟩
      rw [addr_add]
      refine .at_ (fun i => f (d + i)) (fun i x hi => ?_) (fun i x hi => ?_)
      · rw [List.getElem?_drop] at hi
        rw [Nat.add_assoc]
        exact hx _ x hi
      · rw [List.getElem?_drop] at hi
        exact hr _ x hi
  | _ => cases h
theorem ptrAdd_ok {c : Ctx} {d : Nat} {x y : AV} {v : Value} (h : ptrAdd d x = some y) (r : Rel c x v) : ∃ a, v = .pointer (some a) ∧ Rel c y (.pointer (some (a.add d))) := by
  obtain ⟨b, o, h | h⟩ := ptrAdd_sound h r
  · exact ⟨⟨b, o, none⟩, h.1, by rw [addr_add]; exact h.2⟩
  · exact h

def fieldOf (P : Program) (s : TypeId) (f : Nat) : Option (Nat × TypeId) :=
  match P.underlying s with
  | some (.struct fs) => (fs[f]?).map fun x => (x.offset, x.type)
  | _ => none
theorem fieldOf_some {P : Program} {s : TypeId} {f o t : Nat} (h : fieldOf P s f = some (o, t)) : ∃ fs fd, P.underlying s = some (.struct fs) ∧ fs[f]? = some fd ∧ fd.offset = o ∧ fd.type = t := by
  unfold fieldOf at h
  cases hu : P.underlying s with
  | none => rw [hu] at h; cases h
  | some d =>
    rw [hu] at h
    cases d <;> simp at h
    rename_i fs
    obtain ⟨fd, h1, h2, h3⟩ := h
    exact ⟨fs, fd, rfl, h1, h2, h3⟩

def aFieldAddr (P : Program) (s : TypeId) (f : Nat) (x : AV) : Option AV :=
  (fieldOf P s f).bind fun ot => (szOf P ot.2).bind fun z => if z = 0 then none else ptrAdd ot.1 x
theorem aFieldAddr_sound {P : Program} {c : Ctx} {w0 : World} (M : MemOk c w0) {s : TypeId} {f : Nat} {x y : AV} {v : Value} (h : aFieldAddr P s f x = some y) (r : Rel c x v) : Good P c w0 (Instr.fieldAt s v f) (y, none) := by
  unfold aFieldAddr at h
  obtain ⟨⟨o, t⟩, ho, h⟩ := Option.bind_eq_some_iff.1 h
  obtain ⟨z, hz, h⟩ := Option.bind_eq_some_iff.1 h
  split at h
  · cases h
  rename_i hz0
  obtain ⟨fs, fd, hu, hf, rfl, rfl⟩ := fieldOf_some ho
  obtain ⟨a, rfl, ry⟩ := ptrAdd_ok h r
  refine Good.same ?_ M ry
  simp [Instr.fieldAt, run_underlying hu, hf, Instr.sureAddr, fieldPlace, run_sizeOf hz, hz0]

/-- How long a slice is, and its cells. -/
def slLen : AV → Option Nat
  | .own _ _ _ len _ _ => some len
  | .sl _ _ len _ => some len
  | .v (.slice _ n _) => some n
  | _ => none
def slCells (m : Mem) : AV → Option (List AV × Nat)
  | .own n ver off len sz r => match m n with
    | some k => if ver = k.ver then some ((k.cells.drop off).take (len * sz), len) else none
    | none => none
  | .sl nn xs len cap => some (xs, len)
  | .v (.slice a n q) => if a.isNone = true ∧ n = 0 ∧ q = 0 then some ([], 0) else none
  | _ => none
theorem slLen_sound {c : Ctx} {x : AV} {v : Value} {n : Nat} (h : slLen x = some n) (r : Rel c x v) : ∃ a cp, v = .slice a n cp := by
  cases x with
  | own => cases h; cases r; exact ⟨_, _, rfl⟩
  | sl => cases h; cases r; exact ⟨_, _, rfl⟩
  | v x =>
    obtain ⟨rfl, _⟩ := r.inv_v
    cases v <;> simp [slLen] at h
    subst h
    exact ⟨_, _, rfl⟩
  | _ => cases h
theorem slCells_sound {c : Ctx} {w0 : World} (M : MemOk c w0) {x : AV} {v : Value} {xs : List AV} {n : Nat} (h : slCells c.m x = some (xs, n)) (r : Rel c x v) :
    ∃ a cp, v = .slice a n cp ∧ n ≤ cp ∧ cp ≤ maxLen ∧ (a = none → n = 0 ∧ cp = 0) ∧ (∀ (i : Nat) y, xs[i]? = some y → ∃ b o z, a = some ⟨b, o, none⟩ ∧ c.w.cell? ⟨b, o + i, none⟩ = some z ∧ Rel c y z) := by
  cases x with
  | own nm ver off len sz rm =>
    cases r with
    | @own _ _ _ _ _ _ k a cp hk hv hl hm hn ha =>
      simp only [slCells, hk] at h
      split at h
      · rename_i e
        cases h
        rcases ha e with ⟨h1, rfl, rfl, h4, h5⟩ | ⟨g, o, cs, t, h1, h2, h3, h4, h5, h6⟩
        · exact ⟨a, 0, rfl, hl, hm, fun _ => ⟨rfl, rfl⟩, fun i y hy => by rw [h4] at hy; simp at hy⟩
        · refine ⟨a, cp, rfl, hl, hm, (fun e => by rw [h2] at e; cases e), fun i y hy => ?_⟩
          rw [List.getElem?_take] at hy
          split at hy
          · rename_i hi
            rw [List.getElem?_drop] at hy
            have hcp : 0 < cp := by
              rcases Nat.eq_zero_or_pos n with e | e
              · rw [e] at hi; omega
              · omega
            obtain rfl := h3 hcp
            have hc := (M.row hk h1 h5).2
            obtain ⟨z, e1, e2⟩ := hc _ y hy
            exact ⟨g, o, z, h2, by rw [cell_of_row _ _ _ _ _ _ h5]; exact e1, e2⟩
          · cases hy
      · cases h
  | sl nn ys len cap =>
    cases h
    cases r with
    | @sl _ _ _ _ a cp f hl hm hc hn ha hx hr =>
      refine ⟨a, cp, rfl, hl, hm, (fun e => ⟨(hn e).2.2, (hn e).2.1⟩), fun i y hy => ?_⟩
      obtain ⟨b, o, h1, h2, h3⟩ := hx i y hy
      exact ⟨b, o, f i, h1, h3, hr i y hy⟩
  | v x =>
    obtain ⟨rfl, _⟩ := r.inv_v
    cases v with
    | slice a n q =>
      simp only [slCells] at h
      split at h
      · rename_i e
        cases h
        obtain ⟨e1, rfl, rfl⟩ := e
        obtain rfl : a = none := by simpa using e1
        exact ⟨none, 0, rfl, Nat.le_refl _, by simp [maxLen], fun _ => ⟨rfl, rfl⟩, fun i y hy => by simp at hy⟩
      · cases h
    | _ => simp [slCells] at h
  | _ => cases h

def isSl (P : Program) (t : TypeId) : Option TypeId := match P.underlying t with | some (.slice e) => some e | _ => none
def isArr (P : Program) (t : TypeId) : Option (Nat × TypeId) := match P.underlying t with | some (.array n e) => some (n, e) | _ => none
theorem isSl_some {P : Program} {t e : TypeId} (h : isSl P t = some e) : P.underlying t = some (.slice e) := by
  unfold isSl at h
  cases hu : P.underlying t with
  | none => rw [hu] at h; cases h
  | some d => rw [hu] at h; cases d <;> simp at h; subst h; rfl
theorem isArr_some {P : Program} {t e : TypeId} {n : Nat} (h : isArr P t = some (n, e)) : P.underlying t = some (.array n e) := by
  unfold isArr at h
  cases hu : P.underlying t with
  | none => rw [hu] at h; cases h
  | some d => rw [hu] at h; cases d <;> simp at h; obtain ⟨rfl, rfl⟩ := h; rfl

/-- The address of an element. -/
def aIndexAddr (P : Program) (T : TypeId) (x i : AV) : Option AV :=
  match i with
  | .v (.int k i) =>
    match isSl P T with
    | some e => match szOf P e with
      | some z => match x with
        | .own n ver off len sz r => if 0 ≤ i ∧ i < (len : Int) ∧ sz = z then some (.ptr n ver (off + i.toNat * z)) else none
        | .sl nn xs len cap => if 0 ≤ i ∧ i < (len : Int) then some (.at_ (xs.drop (i.toNat * z))) else none
        | _ => none
      | none => none
    | none => match isArr P T with
      | some (n, e) => match szOf P e with
        | some z => if 0 ≤ i ∧ i < (n : Int) then ptrAdd (i.toNat * z) x else none
        | none => none
      | none => none
  | _ => none
theorem aIndexAddr_sound {P : Program} {c : Ctx} {w0 : World} (M : MemOk c w0) {T : TypeId} {x i y : AV} {v u : Value} (h : aIndexAddr P T x i = some y) (r : Rel c x v) (ri : Rel c i u) : Good P c w0 (Instr.indexAt T v u) (y, none) := by
  unfold aIndexAddr at h
  split at h
  · rename_i k i
    obtain ⟨rfl, _⟩ := ri.inv_v
    split at h
    · rename_i e he
      have hu := isSl_some he
      split at h
      · rename_i z hz
        split at h
        · rename_i n ver off len sz rm
          split at h
          · rename_i hi
            cases h
            cases r with
            | @own _ _ _ _ _ _ k a cp hk hv hl hm hn ha =>
              obtain ⟨hi0, hi1, rfl⟩ := hi
              by_cases hv' : ver = k.ver
              · rcases ha hv' with ⟨h1, h2, h3, h4, h5⟩ | ⟨g, o, cs, t, h1, h2, h3, h4, h5, h6⟩
                · omega
                · obtain rfl := h3 (by omega)
                  subst h2
                  refine Good.same (v := .pointer (some ⟨g, o + i.toNat * sz, none⟩)) ?_ M (.ptr hk hv fun _ => ⟨g, cs, t, h1, rfl, h5⟩)
                  simp [Instr.indexAt, asIntOf, run_underlying hu, hi0, hi1, run_sizeOf hz, addr_add]
              · cases a with
                | none => have := hn rfl; omega
                | some a =>
                  refine Good.same (v := .pointer (some (a.add (i.toNat * sz)))) ?_ M (.ptr hk hv fun e => absurd e hv')
                  simp [Instr.indexAt, asIntOf, run_underlying hu, hi0, hi1, run_sizeOf hz]
          · cases h
        · rename_i nn xs len cap
          split at h
          · rename_i hi
            cases h
            cases r with
            | @sl _ _ _ _ a cp f hl hm hc hn ha hx hr =>
              cases a with
              | none => have := (hn rfl).2.2; omega
              | some a =>
                obtain ⟨b, o, sp⟩ := a
                have hsp := ha _ rfl (by omega)
                simp at hsp
                subst hsp
                refine Good.same (v := .pointer (some ⟨b, o + i.toNat * z, none⟩)) ?_ M (.at_ (fun j => f (i.toNat * z + j)) (fun j x hj => ?_) (fun j x hj => ?_))
                · simp [Instr.indexAt, asIntOf, run_underlying hu, hi.1, hi.2, run_sizeOf hz, addr_add]
                · rw [List.getElem?_drop] at hj
                  obtain ⟨b', o', h1, h2, h3⟩ := hx _ x hj
                  cases h1
                  rw [Nat.add_assoc]
                  exact ⟨h2, h3⟩
                · rw [List.getElem?_drop] at hj
                  exact hr _ x hj
          · cases h
        · cases h
      · cases h
    · split at h
      · rename_i n e he
        have hu := isArr_some he
        split at h
        · rename_i z hz
          split at h
          · rename_i hi
            obtain ⟨a, rfl, ry⟩ := ptrAdd_ok h r
            refine Good.same ?_ M ry
            simp [Instr.indexAt, asIntOf, run_underlying hu, Instr.sureAddr, hi.1, hi.2, run_sizeOf hz]
          · cases h
        · cases h
      · cases h
  · cases h
end Go.Pm
