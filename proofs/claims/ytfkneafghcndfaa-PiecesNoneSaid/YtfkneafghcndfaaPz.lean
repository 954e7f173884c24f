/- A machine of values: walks over maps. -/
import Derived.Test.YtfkneafghcndfaaPw
import Derived.Laws.IdiomRangeMap
namespace Go.Pm
open Go.RowKit
set_option linter.unusedVariables false
set_option linter.unusedSimpArgs false

/-- A new walk. -/
def aRange (P : Program) (t : TypeId) (x : AV) (m : Mem) (n : Nat) : Option Eff :=
  (isMap P t).bind fun _ => match x with
    | .v (.map none) => some (.ip n (verNext m n), some (n, ⟨verNext m n, [.itr (.v (.map none)) 0 [] 0]⟩))
    | x => (mapEnts m x).bind fun q => some (.ip n (verNext m n), some (n, ⟨verNext m n, [.itr x q.2.2.2.1 [] q.2.2.2.1]⟩))
theorem step_newItr {c : Ctx} {w0 : World} (M : MemOk c w0) (n : Nat) {x : AV} {mm : Option Nat} (since : Nat) (seen : List Nat) (st : Nat) (r : Rel c x (.map mm)) :
    c.le ⟨upd c.m n (some ⟨verNext c.m n, [.itr x since seen st]⟩), upd c.ι n (some c.w.heap.size), c.w.alloc (.mapIter mm since seen.toArray st)⟩ ∧
    MemOk ⟨upd c.m n (some ⟨verNext c.m n, [.itr x since seen st]⟩), upd c.ι n (some c.w.heap.size), c.w.alloc (.mapIter mm since seen.toArray st)⟩ w0 := by
  refine stepG M n _ _ rfl rfl rfl (by simp) (fun k hk => .inl (verNext_gt hk)) (fun b hb _ => Below.heap_alloc _ _ _ hb) (fun k b cs' t hk _ hb hh => ⟨cs', (Below.heap_alloc _ _ _ (lt_heap hh)).trans hh, rfl⟩) (fun e => by cases e) fun g e => ?_
  cases e
  exact ⟨.inl (Nat.le_refl _), .inr (.inr ⟨x, mm, since, seen, st, heap_alloc_new _ _, rfl, r⟩)⟩
theorem aRange_sound {P : Program} {c : Ctx} {w0 : World} (M : MemOk c w0) {t : TypeId} {n : Nat} {x : AV} {v : Value} {e : Eff} (h : aRange P t x c.m n = some e) (r : Rel c x v) : Good P c w0 (Instr.range t v) e := by
  unfold aRange at h
  obtain ⟨⟨kt, et⟩, hm, h⟩ := Option.bind_eq_some_iff.1 h
  have hu := isMap_some hm
  split at h
  · cases h
    obtain ⟨rfl, _⟩ := r.inv_v
    obtain ⟨hle, hM⟩ := step_newItr M n 0 [] 0 r
    exact ⟨_, _, _, run_range_nilMap c.w t kt et hu, hle, hM, .ip (upd_eq _ _ _) (Nat.le_refl _) fun _ => upd_eq _ _ _⟩
  · obtain ⟨⟨n', ver, q, clk, xs⟩, hq, h⟩ := Option.bind_eq_some_iff.1 h
    cases h
    obtain ⟨g, es, rfl, h1, h2, h3, h4⟩ := mapEnts_sound M hq r
    obtain ⟨hle, hM⟩ := step_newItr M n clk [] clk r
    exact ⟨_, _, _, run_range_map c.w t kt et g es clk hu h3, hle, hM, .ip (upd_eq _ _ _) (Nat.le_refl _) fun _ => upd_eq _ _ _⟩

/-- An entry's stamp; the entries that a walk has not met. -/
def stampOf : AV → Nat
  | .tup [_, _, .v (.int _ b)] => b.toNat
  | _ => 0
def mLeft (seen : List Nat) (xs : List AV) : List AV := xs.filter fun x => !seen.contains (stampOf x)
/-- A walk: its name, version, map, since when, what it met, when last. -/
def itrOf (m : Mem) : AV → Option (Nat × Nat × AV × Nat × List Nat × Nat)
  | .ip n ver => (m n).bind fun k => if ver = k.ver then match k.cells with | [.itr x since seen st] => some (n, k.ver, x, since, seen, st) | _ => none else none
  | _ => none
theorem itrOf_sound {c : Ctx} {w0 : World} (M : MemOk c w0) {x y : AV} {v : Value} {n ver since st : Nat} {seen : List Nat} (h : itrOf c.m x = some (n, ver, y, since, seen, st)) (r : Rel c x v) :
    ∃ g mm, v = .pointer (some ⟨g, 0, none⟩) ∧ c.m n = some ⟨ver, [.itr y since seen st]⟩ ∧ c.ι n = some g ∧ c.w.heap[g]? = some (.mapIter mm since seen.toArray st) ∧ Rel c y (.map mm) := by
  cases x with
  | ip n' ver' =>
    cases r with
    | @ip _ _ k g hk hv ha =>
      simp only [itrOf, hk, Option.bind_some] at h
      split at h
      case isFalse => cases h
      rename_i he
      split at h
      · rename_i y' since' seen' st' hc
        cases h
        have hg := ha he
        rcases M.blk n k hk with ⟨h1, h2⟩ | ⟨g', cs, t, h1, _, _, h4⟩ | ⟨g', es, clk, q2, xs2, h1, _, h3, h4, h5⟩ | ⟨g', x, m, since, seen, st, h1, _, h3, h4, h5⟩
        · rw [hg] at h1; cases h1
        · obtain ⟨y, _, e2⟩ := h4 0 _ (by rw [hc]; rfl)
          exact (itr_norel e2).elim
        · rw [hc] at h4; cases h4
        · rw [hg] at h1; cases h1
          rw [hc] at h4
          cases h4
          refine ⟨g, m, rfl, ?_, hg, h3, h5⟩
          rw [hk, ← hc]
      · cases h
  | _ => cases h
/-- A walk goes on. -/
theorem step_itr {c : Ctx} {w0 w' : World} (M : MemOk c w0) {n ver g since st st' : Nat} {seen seen' : List Nat} {y : AV} {mm : Option Nat} (hk : c.m n = some ⟨ver, [.itr y since seen st]⟩) (hg : c.ι n = some g) (hh : c.w.heap[g]? = some (.mapIter mm since seen.toArray st)) (r : Rel c y (.map mm))
    (hos : w'.os = c.w.os) (htape : w'.tape = c.w.tape) (hout : w'.output = c.w.output) (hheap : w'.heap = c.w.heap.setIfInBounds g (.mapIter mm since seen'.toArray st')) :
    c.le ⟨upd c.m n (some ⟨ver, [.itr y since seen' st']⟩), c.ι, w'⟩ ∧ MemOk ⟨upd c.m n (some ⟨ver, [.itr y since seen' st']⟩), c.ι, w'⟩ w0 := by
  have hι : c.ι = upd c.ι n (c.ι n) := by funext x; by_cases e : x = n <;> simp [upd, e]
  have hs := MapKept.heap_set (o' := .mapIter mm since seen'.toArray st') hh
  have := stepG (w' := w') M n ⟨ver, [.itr y since seen' st']⟩ (c.ι n) hos htape hout (by rw [hheap]; simp) (fun k0 h0 => .inr ⟨by rw [hk] at h0; cases h0; rfl, rfl, by rw [hk] at h0; cases h0; rfl⟩)
    (fun b hb hne => by rw [hheap]; exact hs.2 b (fun e => hne _ hk (by rw [hg, e])))
    (fun k0 b cs' t' h0 _ hb hb' => by
      rw [hg] at hb; cases hb
      rw [hh] at hb'; cases hb')
    (fun e => by rw [hg] at e; cases e)
    (fun g' e => by
      rw [hg] at e; cases e
      exact ⟨.inr ⟨hg, _, hk⟩, .inr (.inr ⟨y, mm, since, seen', st', by rw [hheap]; exact hs.1, rfl, r⟩)⟩)
  rwa [← hι] at this

/-- The stamps are the entries'. -/
theorem EntsL.left {c : Ctx} {q : Option (Bool × List KT)} {xs : List AV} {es : List MapEntry} (h : EntsL c q xs es) (seen : List Nat) : EntsL c q (mLeft seen xs) (es.filter fun e => !seen.contains e.born) := by
  induction h with
  | nil => exact .nil
  | @cons y e xs es hk hr _ ih =>
    have hst : stampOf (.tup [.v e.key, y, .v (.int .i64 (e.born : Int))]) = e.born := rfl
    unfold mLeft at ih ⊢
    rw [List.filter_cons, List.filter_cons, hst]
    split
    · exact .cons hk hr ih
    · exact ih
theorem EntsL.at_ {c : Ctx} {q : Option (Bool × List KT)} {xs : List AV} {es : List MapEntry} (h : EntsL c q xs es) : ∀ (i : Nat) e, es[i]? = some e → ∃ y, xs[i]? = some (.tup [.v e.key, y, .v (.int .i64 (e.born : Int))]) ∧ Rel c y e.val := by
  induction h with
  | nil => intro i e h; simp at h
  | @cons y e xs es hk hr _ ih =>
    intro i e' h
    cases i with
    | zero => simp at h; subst h; exact ⟨y, rfl, hr⟩
    | succ i => exact ih i e' (by simpa using h)
theorem EntsL.stamps {c : Ctx} {q : Option (Bool × List KT)} {xs : List AV} {es : List MapEntry} (h : EntsL c q xs es) {Q : Nat → Prop} (hx : ∀ x ∈ xs, Q (stampOf x)) : ∀ e ∈ es, Q e.born := by
  induction h with
  | nil => intro e h; cases h
  | @cons y e xs es hk hr _ ih =>
    intro e' h
    rcases List.mem_cons.1 h with rfl | h
    · exact hx _ List.mem_cons_self
    · exact ih (fun x h => hx x (List.mem_cons_of_mem _ h)) e' h

/-- What 'next' may leave. -/
inductive NextEff (m : Mem) (x : AV) : Eff → Prop
  | nilMap {n ver since st : Nat} {seen : List Nat} (h : itrOf m x = some (n, ver, .v (.map none), since, seen, st)) : NextEff m x (.tup [.v (.bool false)], none)
  | over {n ver since st : Nat} {seen : List Nat} {y : AV} {q : Nat × Nat × Option (Bool × List KT) × Nat × List AV} (h : itrOf m x = some (n, ver, y, since, seen, st)) (hq : mapEnts m y = some q) (hl : mLeft seen q.2.2.2.2 = []) : NextEff m x (.tup [.v (.bool false)], none)
  | one {n ver since st : Nat} {seen : List Nat} {y : AV} {q : Nat × Nat × Option (Bool × List KT) × Nat × List AV} {kv : Value} {z : AV} {b : Nat} (h : itrOf m x = some (n, ver, y, since, seen, st)) (hq : mapEnts m y = some q) (hl : .tup [.v kv, z, .v (.int .i64 (b : Int))] ∈ mLeft seen q.2.2.2.2) :
      NextEff m x (.tup [.v (.bool true), ofV kv, z], some (n, ⟨ver, [.itr y since (seen ++ [b]) q.2.2.2.1]⟩))

theorem run_next_over {P : Program} {w : World} {ty : TypeId} {g bm since st clk : Nat} {seen : Array Nat} {es : Array MapEntry} (hi : w.heap[g]? = some (.mapIter (some bm) since seen st)) (hb : w.heap[bm]? = some (.map es clk)) (hl : (es.toList.filter fun e => !seen.contains e.born) = [])
    (ht : (!seen.isEmpty && !es.isEmpty && es.all (fun x => decide (x.born ≥ st))) = false) : (Instr.next (.pointer (some ⟨g, 0, none⟩)) false ty).run P w = .ok (.tuple #[.bool false]) w := by
  have hL : (es.filter fun e => !seen.contains e.born) = #[] := by
    apply Array.toList_inj.1
    rw [Array.toList_filter, hl]
  simp only [Instr.next, getObj, Sem.run_bind, Sem.run, hi, hb, Result.andThen, ht, Bool.false_eq_true, if_false, hL]
  simp [choose, Sem.run, Question.forced]
theorem run_next_one {P : Program} {w : World} {ty : TypeId} {g bm since st clk : Nat} {seen : Array Nat} {es : Array MapEntry} (hi : w.heap[g]? = some (.mapIter (some bm) since seen st)) (hb : w.heap[bm]? = some (.map es clk)) (hl : (es.toList.filter fun e => !seen.contains e.born) ≠ [])
    (hold : ∀ e ∈ es.toList, e.born < since) (ht : (!seen.isEmpty && !es.isEmpty && es.all (fun x => decide (x.born ≥ st))) = false) :
    ∃ e ∈ es.toList.filter (fun e => !seen.contains e.born), ∃ w' : World, w'.os = w.os ∧ w'.tape = w.tape ∧ w'.output = w.output ∧ w'.heap = w.heap.setIfInBounds g (.mapIter (some bm) since (seen.push e.born) clk) ∧ (Instr.next (.pointer (some ⟨g, 0, none⟩)) false ty).run P w = .ok (.tuple #[.bool true, e.key, e.val]) w' := by
  have hml : (es.filter fun e => !seen.contains e.born).toList = es.toList.filter fun e => !seen.contains e.born := by rw [Array.toList_filter]
  simp only [Instr.next, getObj, Sem.run_bind, Sem.run, hi, hb, Result.andThen, ht, Bool.false_eq_true, if_false]
  rw [← hml] at hl ⊢
  have hmem : ∀ x ∈ (es.filter fun e => !seen.contains e.born).toList, x.born < since := fun x hx => hold x (by rw [hml] at hx; exact (List.mem_filter.1 hx).1)
  clear hml
  generalize es.filter (fun e => !seen.contains e.born) = L at hmem hl ⊢
  have e1 : L.filter (fun x => decide (x.born < since)) = L := Array.filter_eq_self.2 (fun x hx => by simpa using hmem x (by simpa using hx))
  have e2 : L.filter (fun x => decide (x.born ≥ since)) = #[] := by
    rw [Array.filter_eq_empty_iff]
    intro x hx
    have := hmem x (by simpa using hx)
    simp
    omega
  simp only [e1, e2, Array.append_empty]
  have h0 : ¬ L.size = 0 := fun h => hl (by simpa using h)
  have hne : L.isEmpty = false := by simp [Array.isEmpty, h0]
  simp only [hne, Bool.false_eq_true, if_false, Array.empty_append, Array.size_map]
  have hch : ∃ (j : Nat) (w1 : World), j < L.size ∧ w1.heap = w.heap ∧ w1.os = w.os ∧ w1.tape = w.tape ∧ w1.output = w.output ∧ (choose (Question.mapNext L.size)).run P w = .ok j w1 := by
    by_cases hf : L.size ≤ 1
    · exact ⟨0, w, by omega, rfl, rfl, rfl, rfl, by simp [choose, Sem.run, Question.forced, hf]⟩
    · exact ⟨_, w.drew, Nat.mod_lt _ (by omega), rfl, rfl, rfl, rfl, by
        simp only [choose, Sem.run, Question.forced, decide_eq_true_eq, hf, if_false, Question.cut]
        rfl⟩
  obtain ⟨j, w1, hj, a1, a2, a3, a4, hrun⟩ := hch
  have hi1 : w1.heap[g]? = some (.mapIter (some bm) since seen st) := by rw [a1]; exact hi
  refine ⟨L[j], by simp, { w1 with heap := w1.heap.setIfInBounds g (.mapIter (some bm) since (seen.push L[j].born) clk) }, a2, a3, a4, by rw [a1], ?_⟩
  simp only [hrun, Array.getElem?_map, Array.getElem?_eq_getElem hj, Option.map_some, Sem.run_bind, setObj, Sem.run, hi1, Result.andThen]
  rfl

theorem next_any {P : Program} {c : Ctx} {w0 : World} (M : MemOk c w0) {x : AV} {v : Value} {ty : TypeId} (r : Rel c x v) {n ver since st : Nat} {seen : List Nat} {y : AV} (hi : itrOf c.m x = some (n, ver, y, since, seen, st))
    (hm : y = .v (.map none) ∨ ∃ q, mapEnts c.m y = some q ∧ (∀ z ∈ q.2.2.2.2, stampOf z < since) ∧ since ≤ st) : ∃ e, NextEff c.m x e ∧ Good P c w0 (Instr.next v false ty) e := by
  obtain ⟨g, mm, rfl, h1, h2, h3, h4⟩ := itrOf_sound M hi r
  rcases hm with rfl | ⟨⟨n', ver', q, clk, xs⟩, hq, hs, hle⟩
  · have := h4.inv_v.1
    cases this
    refine ⟨_, .nilMap hi, Good.same (v := .tuple #[.bool false]) ?_ M (.mkTup (.cons .v (.nil c)))⟩
    simp only [Instr.next, getObj, Sem.run_bind, Sem.run, h3, Result.andThen]
    rfl
  · obtain ⟨g', es, hv, k1, k2, k3, k4⟩ := mapEnts_sound M hq h4
    cases hv
    simp only at hs
    have hold : ∀ e ∈ es.toList, e.born < since := k4.1.stamps (Q := fun b => b < since) hs
    have ht := next_test_false seen.toArray es since st hold hle
    have hlf := k4.1.left seen
    have hll := hlf.length
    by_cases hl : (es.toList.filter fun e => !seen.toArray.contains e.born) = []
    · have hl' : (es.toList.filter fun e => !seen.contains e.born) = [] := by simpa using hl
      refine ⟨_, .over hi hq (List.eq_nil_of_length_eq_zero (by rw [hll, hl']; rfl)), Good.same (v := .tuple #[.bool false]) (run_next_over h3 k3 hl ht) M (.mkTup (.cons .v (.nil c)))⟩
    · obtain ⟨e, he, w', a1, a2, a3, a4, a5⟩ := run_next_one (P := P) (ty := ty) h3 k3 hl hold ht
      have he' : e ∈ es.toList.filter fun e => !seen.contains e.born := by simpa using he
      obtain ⟨i, hi'⟩ := List.mem_iff_getElem?.1 he'
      obtain ⟨z, hz, rz⟩ := hlf.at_ i e hi'
      have hst := step_itr (seen' := seen ++ [e.born]) (st' := clk) M h1 h2 h3 h4 a1 a2 a3 (by rw [a4]; congr 2; simp)
      refine ⟨_, .one hi hq (List.mem_of_getElem? hz), _, w', c.ι, a5, hst.1, hst.2, ?_⟩
      exact (Rel.mkTup (.cons .v (.cons (Rel.ofV c e.key) (.cons rz (.nil c))))).mono hst.1

/-- The next entry, where one at most is left. -/
def aNext (m : Mem) (x : AV) (str : Bool) : Option Eff :=
  if str = true then none else (itrOf m x).bind fun i => match i.2.2.1 with
    | .v (.map none) => some (.tup [.v (.bool false)], none)
    | y => (mapEnts m y).bind fun q => if q.2.2.2.2.all (fun z => decide (stampOf z < i.2.2.2.1)) = true ∧ i.2.2.2.1 ≤ i.2.2.2.2.2 then
        match mLeft i.2.2.2.2.1 q.2.2.2.2 with
        | [] => some (.tup [.v (.bool false)], none)
        | [.tup [.v kv, z, .v (.int .i64 b)]] => some (.tup [.v (.bool true), ofV kv, z], some (i.1, ⟨i.2.1, [.itr y i.2.2.2.1 (i.2.2.2.2.1 ++ [b.toNat]) q.2.2.2.1]⟩))
        | _ => none
      else none
theorem aNext_sound {P : Program} {c : Ctx} {w0 : World} (M : MemOk c w0) {x : AV} {v : Value} {ty : TypeId} {str : Bool} {e : Eff} (h : aNext c.m x str = some e) (r : Rel c x v) : Good P c w0 (Instr.next v str ty) e := by
  unfold aNext at h
  split at h
  · cases h
  rename_i hstr
  obtain rfl : str = false := by simpa using hstr
  obtain ⟨⟨n, ver, y, since, seen, st⟩, hi, h⟩ := Option.bind_eq_some_iff.1 h
  simp only at h
  split at h
  · cases h
    obtain ⟨e', he, hg⟩ := next_any (P := P) (ty := ty) M r hi (.inl rfl)
    cases he with
    | nilMap h' => exact hg
    | over h' hq hl => exact hg
    | one h' hq hl => rw [hi] at h'; cases h'; cases hq
  · obtain ⟨q, hq, h⟩ := Option.bind_eq_some_iff.1 h
    split at h
    case isFalse => cases h
    rename_i hh
    have hs : ∀ z ∈ q.2.2.2.2, stampOf z < since := fun z hz => by simpa using List.all_eq_true.1 hh.1 z hz
    obtain ⟨e', he, hg⟩ := next_any (P := P) (ty := ty) M r hi (.inr ⟨q, hq, hs, hh.2⟩)
    have key : e' = e := by
      cases he with
      | nilMap h' => rw [hi] at h'; cases h'; cases hq
      | over h' hq' hl =>
        rw [hi] at h'; cases h'
        rw [hq] at hq'; cases hq'
        rw [hl] at h
        simpa using h
      | one h' hq' hl =>
        rw [hi] at h'; cases h'
        rw [hq] at hq'; cases hq'
        split at h
        · rename_i e0; rw [e0] at hl; cases hl
        · rename_i kv' z' b' e0
          rw [e0] at hl
          simp only [List.mem_singleton, AV.tup.injEq, List.cons.injEq, AV.v.injEq, Value.int.injEq, true_and, and_true] at hl
          obtain ⟨rfl, rfl, rfl⟩ := hl
          cases h
          simp
        · cases h
    exact key ▸ hg

/-- The entry that a walk stands at. -/
def mAt (b : Nat) : List AV → Option AV
  | [] => none
  | x :: xs => if stampOf x = b then some x else mAt b xs
def entK : AV → Option AV
  | .tup [.v kv, z, _] => some (.tup [ofV kv, z])
  | _ => none
def aEntry (m : Mem) (x : AV) : Option AV :=
  (itrOf m x).bind fun i => (mapEnts m i.2.2.1).bind fun q => if q.2.2.2.1 = i.2.2.2.2.2 then
    i.2.2.2.2.1.getLast?.bind fun b => (mAt b q.2.2.2.2).bind entK
  else none
theorem EntsL.find {c : Ctx} {q : Option (Bool × List KT)} {xs : List AV} {es : List MapEntry} (h : EntsL c q xs es) (b : Nat) : ∀ x, mAt b xs = some x → ∃ e y, es.find? (·.born == b) = some e ∧ x = .tup [.v e.key, y, .v (.int .i64 (e.born : Int))] ∧ Rel c y e.val := by
  induction h with
  | nil => intro x h; cases h
  | @cons y e xs es hk hr _ ih =>
    intro x hx
    have hst : stampOf (.tup [.v e.key, y, .v (.int .i64 (e.born : Int))]) = e.born := rfl
    simp only [mAt, hst] at hx
    rw [List.find?_cons]
    split at hx
    · rename_i hb
      cases hx
      subst hb
      exact ⟨e, y, by simp, rfl, hr⟩
    · rename_i hb
      have : (e.born == b) = false := by simpa using hb
      rw [this]
      exact ih x hx
theorem aEntry_sound {P : Program} {c : Ctx} {w0 : World} (M : MemOk c w0) {x y : AV} {v : Value} (h : aEntry c.m x = some y) (r : Rel c x v) : Good P c w0 (Instr.entry v) (y, none) := by
  unfold aEntry at h
  obtain ⟨⟨n, ver, my, since, seen, st⟩, hi, h⟩ := Option.bind_eq_some_iff.1 h
  obtain ⟨⟨n', ver', q, clk, xs⟩, hq, h⟩ := Option.bind_eq_some_iff.1 h
  split at h
  case isFalse => cases h
  rename_i hc
  simp only at hc
  subst hc
  obtain ⟨b, hb, h⟩ := Option.bind_eq_some_iff.1 h
  obtain ⟨x0, hat, h⟩ := Option.bind_eq_some_iff.1 h
  obtain ⟨g, mm, rfl, h1, h2, h3, h4⟩ := itrOf_sound M hi r
  obtain ⟨g', es, hv, k1, k2, k3, k4⟩ := mapEnts_sound M hq h4
  cases hv
  obtain ⟨e, y', e1, rfl, e3⟩ := k4.1.find b _ hat
  cases h
  have hback : seen.toArray.back? = some b := by simpa [Array.back?, List.getLast?_eq_getElem?] using hb
  have hfind : es.find? (fun x => x.born == b) = some e := by rw [← Array.find?_toList]; exact e1
  refine Good.same (v := .tuple #[e.key, e.val]) ?_ M (.mkTup (.cons (Rel.ofV c _) (.cons e3 (.nil c))))
  simp only [Instr.entry, getObj, Sem.run_bind, Sem.run, h3, k3, Result.andThen, hback, hfind]
  simp
end Go.Pm
