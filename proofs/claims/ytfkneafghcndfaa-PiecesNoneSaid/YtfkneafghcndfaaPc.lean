/- A machine of values: operations on memory. -/
import Derived.Test.YtfkneafghcndfaaPb
namespace Go.Pm
open Go.RowKit
set_option linter.unusedVariables false
set_option linter.unusedSimpArgs false

abbrev Eff := AV × Option (Nat × Blk)
def memOf (m : Mem) : Option (Nat × Blk) → Mem
  | none => m
  | some (n, k) => upd m n (some k)

/-- The run comes to this effect. -/
def Good (P : Program) (c : Ctx) (w0 : World) (s : Sem Value) (e : Eff) : Prop :=
  ∃ v w' ι', s.run P c.w = .ok v w' ∧ c.le ⟨memOf c.m e.2, ι', w'⟩ ∧ MemOk ⟨memOf c.m e.2, ι', w'⟩ w0 ∧ Rel ⟨memOf c.m e.2, ι', w'⟩ e.1 v

theorem Good.same {P : Program} {c : Ctx} {w0 : World} {s : Sem Value} {x : AV} {v : Value} (h : s.run P c.w = .ok v c.w) (M : MemOk c w0) (r : Rel c x v) : Good P c w0 s (x, none) :=
  ⟨v, c.w, c.ι, h, .refl c, M, r⟩
theorem Good.congr {P : Program} {c : Ctx} {w0 : World} {s s' : Sem Value} {e : Eff} (h : Good P c w0 s e) (he : s'.run P c.w = s.run P c.w) : Good P c w0 s' e := by
  obtain ⟨v, w', ι', h1, h2⟩ := h
  exact ⟨v, w', ι', he.trans h1, h2⟩

def verNext (m : Mem) (n : Nat) : Nat := match m n with | some k => k.ver + 1 | none => 0
theorem verNext_gt {m : Mem} {n : Nat} {k : Blk} (h : m n = some k) : k.ver < verNext m n := by simp [verNext, h]

/-- A new block under a name. -/
theorem step_new {c : Ctx} {w0 : World} (M : MemOk c w0) (n : Nat) (cells : List AV) (cs : Array Value) (T : TypeId)
    (hx : ∀ (i : Nat) x, cells[i]? = some x → ∃ y, cs[i]? = some y ∧ Rel c x y) :
    c.le ⟨upd c.m n (some ⟨verNext c.m n, cells⟩), upd c.ι n (some c.w.heap.size), c.w.alloc (.cells cs T)⟩ ∧
    MemOk ⟨upd c.m n (some ⟨verNext c.m n, cells⟩), upd c.ι n (some c.w.heap.size), c.w.alloc (.cells cs T)⟩ w0 := by
  refine step M n _ _ rfl rfl rfl (by simp) (fun k hk => .inl (verNext_gt hk)) (fun b hb _ => Below.heap_alloc _ _ _ hb) (fun k b cs' t hk _ hb hh => ⟨cs', (Below.heap_alloc _ _ _ (lt_heap hh)).trans hh, rfl⟩) (fun e => by cases e) fun g e => ?_
  cases e
  exact ⟨.inl (Nat.le_refl _), cs, T, heap_alloc_new _ _, hx⟩

theorem run_newRow (P : Program) (w : World) (T : TypeId) (cs : Array Value) : (newRow T cs).run P w = .ok ⟨w.heap.size, 0, none⟩ (w.alloc (.cells cs T)) := rfl

theorem relL_at {c : Ctx} {xs : List AV} {cs : Array Value} (h : RelL c xs cs.toList) : ∀ (i : Nat) x, xs[i]? = some x → ∃ y, cs[i]? = some y ∧ Rel c x y := fun i x hx => by
  obtain ⟨y, e, r⟩ := h.2 i x hx
  exact ⟨y, by simpa using e, r⟩

/-- A new variable. -/
theorem good_new {P : Program} {c : Ctx} {w0 : World} (M : MemOk c w0) (n : Nat) (T : TypeId) {xs : List AV} {cs : Array Value} (h : RelL c xs cs.toList) :
    Good P c w0 (do pure (.pointer (some (← newRow T cs)))) (.ptr n (verNext c.m n) 0, some (n, ⟨verNext c.m n, xs⟩)) := by
  obtain ⟨hle, hM⟩ := step_new M n xs cs T (relL_at h)
  refine ⟨.pointer (some ⟨c.w.heap.size, 0, none⟩), _, _, by simp only [Sem.run_bind, run_newRow, Result.andThen_ok, Sem.run_pure], hle, hM, ?_⟩
  exact .ptr (upd_eq _ _ _) (Nat.le_refl _) fun _ => ⟨_, cs, T, upd_eq _ _ _, rfl, heap_alloc_new _ _⟩

/-- The cells from a pointer on. -/
def ptrCells (m : Mem) : AV → Option (List AV)
  | .ptr n ver off => match m n with
    | some k => if ver = k.ver ∧ off ≤ k.cells.length then some (k.cells.drop off) else none
    | none => none
  | .at_ xs => some xs
  | _ => none
theorem ptrCells_sound {c : Ctx} {w0 : World} (M : MemOk c w0) {x : AV} {v : Value} {xs : List AV} (hx : ptrCells c.m x = some xs) (r : Rel c x v) :
    ∃ b o, v = .pointer (some ⟨b, o, none⟩) ∧ ∀ (i : Nat) y, xs[i]? = some y → ∃ z, c.w.cell? ⟨b, o + i, none⟩ = some z ∧ Rel c y z := by
  cases x with
  | ptr n ver off =>
    cases r with
    | @ptr _ _ _ k a hk hv ha =>
      simp only [ptrCells, hk] at hx
      split at hx
      · rename_i h
        cases hx
        obtain ⟨g, cs, t, hg, rfl, hh⟩ := ha h.1
        refine ⟨g, off, rfl, fun i y hy => ?_⟩
        rw [List.getElem?_drop] at hy
        obtain ⟨_, hc⟩ := M.row hk hg hh
        obtain ⟨z, e, rz⟩ := hc _ y hy
        exact ⟨z, by rw [cell_of_row _ _ _ _ _ _ hh]; exact e, rz⟩
      · cases hx
  | at_ ys =>
    simp only [ptrCells, Option.some.injEq] at hx
    subst hx
    cases r with
    | @at_ _ b o f hf hr => exact ⟨b, o, rfl, fun i y hy => ⟨f i, (hf i y hy).2, hr i y hy⟩⟩
  | _ => simp [ptrCells] at hx

def szOf (P : Program) (t : TypeId) : Option Nat := (P.info? t).map (·.size)
def isAggT (P : Program) (t : TypeId) : Option Bool := (P.underlying t).map fun d => match d with | .struct _ | .array _ _ => true | _ => false
theorem run_sizeOf {P : Program} {t : TypeId} {n : Nat} (h : szOf P t = some n) (w : World) : (sizeOf t).run P w = .ok n w := by
  unfold szOf at h
  cases hi : P.info? t with
  | none => rw [hi] at h; cases h
  | some i => rw [hi] at h; cases h; simp [sizeOf, typeInfo, hi]
theorem run_isAgg {P : Program} {t : TypeId} {b : Bool} (h : isAggT P t = some b) (w : World) : (isAgg t).run P w = .ok b w := by
  unfold isAggT at h
  cases hi : P.underlying t with
  | none => rw [hi] at h; cases h
  | some d =>
    rw [hi] at h
    simp only [isAgg, Sem.run_bind, run_underlying hi, Result.andThen_ok]
    cases d <;> simp at h <;> simp [h]

/-- Load. -/
def aLoad (P : Program) (T : TypeId) (x : AV) (m : Mem) : Option AV :=
  (ptrCells m x).bind fun xs => (isAggT P T).bind fun b => if b then (szOf P T).bind fun n => if n ≤ xs.length then some (.agg (xs.take n)) else none else xs[0]?
theorem aLoad_same {P : Program} {c : Ctx} {w0 : World} (M : MemOk c w0) {T : TypeId} {x y : AV} {v : Value} (h : aLoad P T x c.m = some y) (r : Rel c x v) : ∃ u, (Instr.loadAt T v).run P c.w = .ok u c.w ∧ Rel c y u := by
  unfold aLoad at h
  obtain ⟨xs, hxs, h⟩ := Option.bind_eq_some_iff.1 h
  obtain ⟨b, hb, h⟩ := Option.bind_eq_some_iff.1 h
  obtain ⟨g, o, rfl, hc⟩ := ptrCells_sound M hxs r
  cases b with
  | true =>
    simp only [if_true] at h
    obtain ⟨n, hn, h⟩ := Option.bind_eq_some_iff.1 h
    split at h
    · rename_i hle
      cases h
      have hl : ∀ i, ∃ z : Value, ∀ y, (xs.take n)[i]? = some y → c.w.cell? ⟨g, o + i, none⟩ = some z ∧ Rel c y z := fun i => by
        cases e : (xs.take n)[i]? with
        | none => exact ⟨default, fun y h => by cases h⟩
        | some y =>
          have : xs[i]? = some y := by rw [List.getElem?_take] at e; split at e; exact e; cases e
          obtain ⟨z, h1, h2⟩ := hc i y this
          exact ⟨z, fun y' h => by cases h; exact ⟨h1, h2⟩⟩
      let f : Nat → Value := fun i => Classical.choose (hl i)
      have hf : ∀ i y, (xs.take n)[i]? = some y → c.w.cell? ⟨g, o + i, none⟩ = some (f i) ∧ Rel c y (f i) := fun i => Classical.choose_spec (hl i)
      have hlen : (xs.take n).length = n := by simp; omega
      have hrun := run_loadCells_list (P := P) c.w ⟨g, o, none⟩ ((List.range n).map f) (fun j u hj => by
        rw [List.getElem?_map] at hj
        cases e : (List.range n)[j]? with
        | none => rw [e] at hj; cases hj
        | some j' =>
          rw [e] at hj; cases hj
          obtain ⟨hlt, rfl⟩ := List.getElem?_eq_some_iff.1 e
          simp at hlt
          have hadd : (⟨g, o, none⟩ : Addr).add j = ⟨g, o + j, none⟩ := by unfold Addr.add; split <;> simp_all
          rw [hadd]
          simp only [List.getElem_range]
          exact (hf j _ (List.getElem?_eq_getElem (by omega))).1)
      simp only [List.length_map, List.length_range] at hrun
      refine ⟨.agg ((List.range n).map f).toArray, ?_, ?_⟩
      · simp only [Instr.loadAt, Instr.sureAddr, loadVar, Sem.run_bind, Sem.run_pure, Result.andThen_ok, run_isAgg hb, if_true, run_sizeOf hn, hrun]
      · refine .mkAgg ⟨by simp [hlen], fun i x hx => ⟨f i, ?_, (hf i x hx).2⟩⟩
        have : i < n := by have := (List.getElem?_eq_some_iff.1 hx).1; omega
        simp [this]
    · cases h
  | false =>
    simp only [Bool.false_eq_true, if_false] at h
    obtain ⟨z, h1, h2⟩ := hc 0 y h
    refine ⟨z, ?_, h2⟩
    simp only [Nat.add_zero] at h1
    simp only [Instr.loadAt, Instr.sureAddr, loadVar, Sem.run_bind, Sem.run_pure, Result.andThen_ok, run_isAgg hb, Bool.false_eq_true, if_false, run_load, h1]

theorem aLoad_sound {P : Program} {c : Ctx} {w0 : World} (M : MemOk c w0) {T : TypeId} {x y : AV} {v : Value} (h : aLoad P T x c.m = some y) (r : Rel c x v) : Good P c w0 (Instr.loadAt T v) (y, none) :=
  let ⟨_, h1, h2⟩ := aLoad_same M h r
  Good.same h1 M h2

/-- Values that a cell may hold. -/
def AV.one : AV → Bool
  | .agg _ | .tup _ | .ents _ _ _ | .itr _ _ _ _ | .v (.agg _) | .v (.tuple _) => false
  | _ => true
def allOne (xs : List AV) : Bool := xs.all AV.one
theorem Rel.one {c : Ctx} {x : AV} {v : Value} (r : Rel c x v) (h : x.one = true) : v.oneCell' = true := by
  cases r with
  | v => cases v <;> first | rfl | simp [AV.one] at h
  | agg => simp [AV.one] at h
  | tup => simp [AV.one] at h
  | _ => rfl

def splice {α : Type} (l : List α) (o : Nat) (xs : List α) : List α := l.take o ++ xs ++ l.drop (o + xs.length)
theorem splice_length {α : Type} {l : List α} {o : Nat} {xs : List α} (h : o + xs.length ≤ l.length) : (splice l o xs).length = l.length := by
  simp [splice]; omega
theorem splice_get {α : Type} {l : List α} {o : Nat} {xs : List α} (h : o + xs.length ≤ l.length) (i : Nat) : (splice l o xs)[i]? = if o ≤ i ∧ i < o + xs.length then xs[i - o]? else l[i]? := by
  unfold splice
  have hl : (l.take o).length = o := by simp; omega
  by_cases h1 : i < o
  · rw [if_neg (by omega), List.append_assoc, List.getElem?_append_left (by omega), List.getElem?_take_of_lt h1]
  · by_cases h2 : i < o + xs.length
    · rw [if_pos (by omega), List.append_assoc, List.getElem?_append_right (by omega), hl, List.getElem?_append_left (by omega)]
    · rw [if_neg (by omega), List.getElem?_append_right (by simp; omega), List.getElem?_drop]
      congr 1
      simp; omega
theorem splice_rel {c : Ctx} {ks xs : List AV} {cs : List Value} {vs : List Value} {o : Nat} (hk : ∀ (i : Nat) x, ks[i]? = some x → ∃ y, cs[i]? = some y ∧ Rel c x y) (hv : RelL c xs vs) (hl : o + xs.length ≤ ks.length) (hl2 : ks.length ≤ cs.length) :
    ∀ (i : Nat) x, (splice ks o xs)[i]? = some x → ∃ y, (splice cs o vs)[i]? = some y ∧ Rel c x y := by
  intro i x hx
  rw [splice_get hl] at hx
  rw [splice_get (by have := hv.1; omega), ← hv.1]
  split at hx
  · rename_i h; rw [if_pos h]; exact hv.2 _ x hx
  · rename_i h; rw [if_neg h]; exact hk i x hx
theorem cells_le {c : Ctx} {ks : List AV} {cs : List Value} (hk : ∀ (i : Nat) x, ks[i]? = some x → ∃ y, cs[i]? = some y ∧ Rel c x y) : ks.length ≤ cs.length := by
  cases h : ks.length with
  | zero => omega
  | succ n =>
    obtain ⟨y, e, _⟩ := hk n _ (List.getElem?_eq_getElem (by omega))
    have := (List.getElem?_eq_some_iff.1 e).1
    omega

/-- Cells of a named block are written. -/
theorem step_row {c : Ctx} {w0 : World} (M : MemOk c w0) {n : Nat} {k : Blk} (hk : c.m n = some k) {g : Nat} (hg : c.ι n = some g) {cs : Array Value} {t : TypeId} (hh : c.w.heap[g]? = some (Obj.cells cs t (0, 0)))
    (hc : ∀ (i : Nat) x, k.cells[i]? = some x → ∃ y, cs[i]? = some y ∧ Rel c x y) {o : Nat} {xs : List AV} {vs : List Value} (hv : RelL c xs vs) (hl : o + xs.length ≤ k.cells.length) :
    c.le ⟨upd c.m n (some ⟨k.ver, splice k.cells o xs⟩), c.ι, c.w.setRow g (splice cs.toList o vs).toArray⟩ ∧
    MemOk ⟨upd c.m n (some ⟨k.ver, splice k.cells o xs⟩), c.ι, c.w.setRow g (splice cs.toList o vs).toArray⟩ w0 := by
  have hle := cells_le (cs := cs.toList) (fun i x hx => by simpa using hc i x hx)
  have hs : (splice cs.toList o vs).length = cs.size := by rw [splice_length (by have := hv.1; simp at hle ⊢; omega)]; simp
  have hι : c.ι = upd c.ι n (c.ι n) := by funext q; by_cases e : q = n <;> simp [upd, e]
  have := step (w' := c.w.setRow g (splice cs.toList o vs).toArray) M n ⟨k.ver, splice k.cells o xs⟩ (c.ι n) rfl rfl rfl (by simp) (fun k0 h0 => .inr ⟨by rw [hk] at h0; cases h0; rfl, rfl, by rw [hk] at h0; cases h0; exact splice_length hl⟩)
    (fun b hb hne => setRow_other c.w g b _ (fun e => hne k hk (by rw [hg, e])))
    (fun k0 b cs' t' h0 _ hb hb' => by
      rw [hg] at hb; cases hb
      rw [hh] at hb'; cases hb'
      exact ⟨_, setRow_heap c.w g cs _ t _ hh, by simpa using hs⟩)
    (fun e => by rw [hg] at e; cases e)
    (fun g' e => by
      rw [hg] at e; cases e
      refine ⟨.inr ⟨hg, k, hk⟩, _, t, setRow_heap c.w g cs _ t _ hh, fun i x hx => ?_⟩
      simpa using splice_rel (cs := cs.toList) (fun i x hx => by simpa using hc i x hx) hv hl hle i x hx)
  rwa [← hι] at this

/-- Store. -/
def aStore (P : Program) (T : TypeId) (x y : AV) (m : Mem) : Option Eff :=
  match x with
  | .ptr n ver off => match m n with
    | some k => if ver = k.ver ∧ szOf P T = some y.cells.length ∧ off + y.cells.length ≤ k.cells.length ∧ allOne y.cells = true then some (.v undef, some (n, ⟨ver, splice k.cells off y.cells⟩)) else none
    | none => none
  | _ => none
def GoodU (P : Program) (c : Ctx) (w0 : World) (s : Sem Unit) (e : Eff) : Prop :=
  ∃ w' ι', s.run P c.w = .ok () w' ∧ c.le ⟨memOf c.m e.2, ι', w'⟩ ∧ MemOk ⟨memOf c.m e.2, ι', w'⟩ w0 ∧ e.1 = .v undef
theorem aStore_sound {P : Program} {c : Ctx} {w0 : World} (M : MemOk c w0) {T : TypeId} {x y : AV} {v u : Value} {e : Eff} (h : aStore P T x y c.m = some e) (r : Rel c x v) (ry : Rel c y u) : GoodU P c w0 (Instr.storeAt T v u) e := by
  cases x with
  | ptr n ver off =>
    cases r with
    | @ptr _ _ _ k a hk hv ha =>
      simp only [aStore, hk] at h
      split at h
      · rename_i hh
        obtain ⟨rfl, hsz, hl, hone⟩ := hh
        cases h
        obtain ⟨g, cs, t, hg, rfl, hh⟩ := ha rfl
        · have hc := (M.row hk hg hh).2
          have rc := ry.cells
          obtain ⟨hle, hM⟩ := step_row M hk hg hh hc rc hl
          have hcl := cells_le (cs := cs.toList) (fun i x hx => by simpa using hc i x hx)
          have hst := run_storeCells_at P g off t u.cells.toList 0 cs c.w hh (by have := rc.1; simp at hcl this ⊢; omega) (fun z hz => by
            obtain ⟨i, hi⟩ := List.mem_iff_getElem?.1 hz
            obtain ⟨hi1, rfl⟩ := List.getElem?_eq_some_iff.1 hi
            obtain ⟨z', e1, e2⟩ := rc.2 i _ (List.getElem?_eq_getElem (by rw [rc.1]; exact hi1))
            rw [hi] at e1; cases e1
            exact e2.one (List.all_eq_true.1 hone _ (List.getElem_mem _)))
          simp only [Nat.add_zero] at hst
          refine ⟨_, c.ι, ?_, hle, hM, rfl⟩
          have hcs : u.cells.size = y.cells.length := by have := rc.1; simpa using this.symm
          simp only [Instr.storeAt, Instr.sureAddr, storeVar, Sem.run_bind, Sem.run_pure, Result.andThen_ok, run_sizeOf hsz, hcs, ne_eq, not_true_eq_false, if_false, hst]
          rfl
      · cases h
  | _ => simp [aStore] at h
end Go.Pm
