/- A machine of values: maps: the operations. -/
import Derived.Test.YtfkneafghcndfaaPv
import Derived.Test.YtfkneafghcndfaaPt
namespace Go.Pm
open Go.RowKit
set_option linter.unusedVariables false
set_option linter.unusedSimpArgs false

open Classical in
/-- The first entry of a key. -/
noncomputable def findV (k : Value) : List MapEntry → Nat → Option (Nat × Value)
  | [], _ => none
  | e :: es, i => if e.key = k then some (i, e.val) else findV k es (i + 1)
theorem sameNow_eq {d : TypeDesc} {a b : Value} {r : Bool} (h : Instr.sameNow d a b = some r) : r = true ↔ b = a := by
  unfold Instr.sameNow at h
  split at h
  · split at h
    · rename_i e; cases h; subst e; rw [beq_iff_eq]; exact ⟨fun h => by rw [h], fun h => by cases h; rfl⟩
    · cases h
  · cases h; rw [MapKept.bytes_beq]; exact ⟨fun h => by rw [h], fun h => by cases h; rfl⟩
  · cases h; rw [beq_iff_eq]; exact ⟨fun h => by rw [h], fun h => by cases h; rfl⟩
  · cases h
theorem findNow_eq {d : TypeDesc} {k : Value} : ∀ (es : List MapEntry) (i : Nat) {r}, Instr.findNow d k es i = some r → r = findV k es i := by
  intro es
  induction es with
  | nil => intro i r h; cases h; rfl
  | cons e es ih =>
    intro i r h
    unfold Instr.findNow at h
    unfold findV
    split at h
    · rename_i hs; cases h; rw [if_pos ((sameNow_eq hs).1 rfl)]
    · rename_i hs; rw [if_neg (fun e => by have := (sameNow_eq hs).2 e; cases this)]; exact ih _ h
    · cases h
theorem findAsking_run {P : Program} {w : World} {kt : TypeId} {k : Value} (hk : keyB (ktOf P kt) k = true) : ∀ (es : List MapEntry) (i : Nat), (∀ e ∈ es, keyB (ktOf P kt) e.key = true) → (Instr.findAsking kt k es i).run P w = .ok (findV k es i) w := by
  intro es
  induction es with
  | nil => intro i _; rfl
  | cons e es ih =>
    intro i h
    obtain ⟨r, h1, h2⟩ := key_equal (w := w) hk (h e (List.mem_cons_self ..))
    unfold Instr.findAsking findV
    simp only [Sem.run_bind, h1, Result.andThen_ok]
    cases r with
    | true => rw [if_pos ((h2.1 rfl).symm)]; rfl
    | false =>
      simp only [Bool.false_eq_true, if_false]
      rw [if_neg (fun e' => by have := h2.2 e'.symm; cases this)]
      exact ih (i + 1) fun e he => h e (List.mem_cons_of_mem _ he)
theorem findKey_run {P : Program} {w : World} {kt : TypeId} {d : TypeDesc} (hd : P.underlying kt = some d) {k : Value} (hk : keyB (ktOf P kt) k = true) {es : List MapEntry} (h : ∀ e ∈ es, keyB (ktOf P kt) e.key = true) : (Instr.findKey kt k es).run P w = .ok (findV k es 0) w := by
  unfold Instr.findKey
  simp only [Sem.run_bind, run_underlying hd, Result.andThen_ok]
  split
  · rename_i r hr; rw [findNow_eq es 0 hr]; rfl
  · exact findAsking_run hk es 0 h

open Classical in
noncomputable def mGet (k : Value) : List AV → Option AV
  | [] => none
  | .tup [.v kv, y, _] :: xs => if kv = k then some y else mGet k xs
  | _ :: xs => mGet k xs
open Classical in
noncomputable def mPut (clk : Nat) (k : Value) (y : AV) : List AV → List AV
  | [] => [.tup [.v k, y, .v (.int .i64 (clk : Int))]]
  | .tup [.v kv, z, b] :: xs => if kv = k then .tup [.v k, y, b] :: xs else .tup [.v kv, z, b] :: mPut clk k y xs
  | x :: xs => x :: mPut clk k y xs
open Classical in
/-- The stamp of the next new entry. -/
noncomputable def mClk (clk : Nat) (k : Value) : List AV → Nat
  | [] => clk + 1
  | .tup [.v kv, _, _] :: xs => if kv = k then clk else mClk clk k xs
  | _ :: xs => mClk clk k xs
open Classical in
noncomputable def mDel (k : Value) : List AV → List AV
  | [] => []
  | .tup [.v kv, z, b] :: xs => if kv = k then xs else .tup [.v kv, z, b] :: mDel k xs
  | x :: xs => x :: mDel k xs

theorem EntsL.keys {c : Ctx} {q : Option (Bool × List KT)} {xs : List AV} {es : List MapEntry} (h : EntsL c q xs es) : ∀ e ∈ es, keyB q e.key = true := by
  induction h with
  | nil => intro e h; cases h
  | cons hk _ _ ih =>
    intro e h
    rcases List.mem_cons.1 h with rfl | h
    · exact hk
    · exact ih e h
theorem EntsL.length {c : Ctx} {q : Option (Bool × List KT)} {xs : List AV} {es : List MapEntry} (h : EntsL c q xs es) : xs.length = es.length := by
  induction h with
  | nil => rfl
  | cons _ _ _ ih => simp [ih]
theorem EntsL.get {c : Ctx} {q : Option (Bool × List KT)} {xs : List AV} {es : List MapEntry} (h : EntsL c q xs es) (k : Value) : ∀ i, (findV k es i = none ∧ mGet k xs = none) ∨ ∃ j v y, findV k es i = some (j, v) ∧ mGet k xs = some y ∧ Rel c y v := by
  induction h with
  | nil => intro i; exact .inl ⟨rfl, rfl⟩
  | @cons y e xs es hk hr _ ih =>
    intro i
    simp only [findV, mGet]
    by_cases he : e.key = k
    · rw [if_pos he, if_pos he]; exact .inr ⟨i, e.val, y, rfl, rfl, hr⟩
    · rw [if_neg he, if_neg he]; exact ih (i + 1)
theorem EntsL.put {c : Ctx} {q : Option (Bool × List KT)} {xs : List AV} {es : List MapEntry} (h : EntsL c q xs es) {k u : Value} {y : AV} (hk : keyB q k = true) (r : Rel c y u) (b : Nat) :
    ∀ i, (findV k es i = none ∧ mClk b k xs = b + 1 ∧ EntsL c q (mPut b k y xs) (es ++ [⟨k, u, b⟩])) ∨ ∃ j v e, findV k es i = some (i + j, v) ∧ mClk b k xs = b ∧ es[j]? = some e ∧ e.key = k ∧ EntsL c q (mPut b k y xs) (es.modify j fun e => { e with key := k, val := u }) := by
  induction h with
  | nil => intro i; exact .inl ⟨rfl, rfl, .cons (e := ⟨k, u, b⟩) hk r .nil⟩
  | @cons z e xs es hk' hr ht ih =>
    intro i
    simp only [findV, mPut, mClk]
    by_cases he : e.key = k
    · rw [if_pos he, if_pos he, if_pos he]
      exact .inr ⟨0, e.val, e, rfl, rfl, rfl, he, .cons (e := { e with key := k, val := u }) hk r ht⟩
    · rw [if_neg he, if_neg he, if_neg he]
      rcases ih (i + 1) with ⟨h1, h0, h2⟩ | ⟨j, v, e', h1, h0, h2, h3, h4⟩
      · exact .inl ⟨h1, h0, .cons hk' hr h2⟩
      · exact .inr ⟨j + 1, v, e', by rw [h1]; congr 2; omega, h0, by simpa using h2, h3, .cons hk' hr h4⟩
theorem EntsL.del {c : Ctx} {q : Option (Bool × List KT)} {xs : List AV} {es : List MapEntry} (h : EntsL c q xs es) (k : Value) :
    ∀ i, (findV k es i = none ∧ mDel k xs = xs) ∨ ∃ j v, findV k es i = some (i + j, v) ∧ EntsL c q (mDel k xs) (es.eraseIdx j) := by
  induction h with
  | nil => intro i; exact .inl ⟨rfl, rfl⟩
  | @cons z e xs es hk' hr ht ih =>
    intro i
    simp only [findV, mDel]
    by_cases he : e.key = k
    · rw [if_pos he, if_pos he]
      exact .inr ⟨0, e.val, rfl, ht⟩
    · rw [if_neg he, if_neg he]
      rcases ih (i + 1) with ⟨h1, h2⟩ | ⟨j, v, h1, h2⟩
      · exact .inl ⟨h1, by rw [h2]⟩
      · exact .inr ⟨j + 1, v, by rw [h1]; congr 2; omega, .cons hk' hr h2⟩

/-- A key's value. -/
def keyV : AV → Option Value
  | .v x => some x
  | .agg xs => (valsOf xs).map fun l => .agg l.toArray
  | _ => none
theorem keyV_sound {c : Ctx} {x : AV} {v k : Value} (h : keyV x = some k) (r : Rel c x v) : v = k := by
  cases x with
  | v x => cases h; exact r.inv_v.1
  | agg xs =>
    obtain ⟨l, h1, rfl⟩ := Option.map_eq_some_iff.1 h
    obtain ⟨cs, rfl, r1⟩ := r.inv_agg
    have := valsOf_rel h1 r1
    rw [← this]
  | _ => cases h
/-- A map's entries. -/
def mapEnts (m : Mem) : AV → Option (Nat × Nat × Option (Bool × List KT) × Nat × List AV)
  | .mp n ver => (m n).bind fun k => if ver = k.ver then match k.cells with | [.ents q clk xs] => some (n, k.ver, q, clk, xs) | _ => none else none
  | _ => none
theorem mapEnts_sound {c : Ctx} {w0 : World} (M : MemOk c w0) {x : AV} {v : Value} {n ver clk : Nat} {q : Option (Bool × List KT)} {xs : List AV} (h : mapEnts c.m x = some (n, ver, q, clk, xs)) (r : Rel c x v) :
    ∃ g es, v = .map (some g) ∧ c.m n = some ⟨ver, [.ents q clk xs]⟩ ∧ c.ι n = some g ∧ c.w.heap[g]? = some (.map es clk) ∧ EntsOk c q xs es clk := by
  cases x with
  | mp n' ver' =>
    cases r with
    | @mp _ _ k g hk hv ha =>
      simp only [mapEnts, hk, Option.bind_some] at h
      split at h
      case isFalse => cases h
      rename_i he
      split at h
      · rename_i q' clk' xs' hc
        cases h
        have hg := ha he
        rcases M.blk n k hk with ⟨h1, h2⟩ | ⟨g', cs, t, h1, _, _, h4⟩ | ⟨g', es, clk, q2, xs2, h1, _, h3, h4, h5⟩ | ⟨g', x, m, since, seen, st, h1, _, h3, h4, h5⟩
        · rw [hg] at h1; cases h1
        · obtain ⟨y, _, e2⟩ := h4 0 _ (by rw [hc]; rfl)
          exact (ents_norel e2).elim
        · rw [hg] at h1; cases h1
          rw [hc] at h4
          cases h4
          refine ⟨g, es, rfl, ?_, hg, h3, h5⟩
          rw [hk, ← hc]
        · rw [hc] at h4; cases h4
      · cases h
  | _ => cases h

/-- A map of the call's own turns. -/
theorem step_map {c : Ctx} {w0 : World} (M : MemOk c w0) {n ver g clk clk' : Nat} {q : Option (Bool × List KT)} {xs xs' : List AV} {es es' : Array MapEntry} (hk : c.m n = some ⟨ver, [.ents q clk xs]⟩) (hg : c.ι n = some g) (hh : c.w.heap[g]? = some (.map es clk)) (h' : EntsOk c q xs' es' clk') :
    c.le ⟨upd c.m n (some ⟨ver, [.ents q clk' xs']⟩), c.ι, { c.w with heap := c.w.heap.setIfInBounds g (.map es' clk') }⟩ ∧
    MemOk ⟨upd c.m n (some ⟨ver, [.ents q clk' xs']⟩), c.ι, { c.w with heap := c.w.heap.setIfInBounds g (.map es' clk') }⟩ w0 := by
  have hι : c.ι = upd c.ι n (c.ι n) := by funext x; by_cases e : x = n <;> simp [upd, e]
  have hs := MapKept.heap_set (o' := .map es' clk') hh
  have := stepG (w' := { c.w with heap := c.w.heap.setIfInBounds g (.map es' clk') }) M n ⟨ver, [.ents q clk' xs']⟩ (c.ι n) rfl rfl rfl (by simp) (fun k0 h0 => .inr ⟨by rw [hk] at h0; cases h0; rfl, rfl, by rw [hk] at h0; cases h0; rfl⟩)
    (fun b hb hne => hs.2 b (fun e => hne _ hk (by rw [hg, e])))
    (fun k0 b cs' t' h0 _ hb hb' => by
      rw [hg] at hb; cases hb
      rw [hh] at hb'; cases hb')
    (fun e => by rw [hg] at e; cases e)
    (fun g' e => by
      rw [hg] at e; cases e
      exact ⟨.inr ⟨hg, _, hk⟩, .inr (.inl ⟨es', clk', q, xs', hs.1, rfl, h'⟩)⟩)
  rwa [← hι] at this
theorem step_newMap {c : Ctx} {w0 : World} (M : MemOk c w0) (n : Nat) (q : Option (Bool × List KT)) (xs : List AV) {es : Array MapEntry} {clk : Nat} (h : EntsOk c q xs es clk) :
    c.le ⟨upd c.m n (some ⟨verNext c.m n, [.ents q clk xs]⟩), upd c.ι n (some c.w.heap.size), c.w.alloc (.map es clk)⟩ ∧
    MemOk ⟨upd c.m n (some ⟨verNext c.m n, [.ents q clk xs]⟩), upd c.ι n (some c.w.heap.size), c.w.alloc (.map es clk)⟩ w0 := by
  refine stepG M n _ _ rfl rfl rfl (by simp) (fun k hk => .inl (verNext_gt hk)) (fun b hb _ => Below.heap_alloc _ _ _ hb) (fun k b cs' t hk _ hb hh => ⟨cs', (Below.heap_alloc _ _ _ (lt_heap hh)).trans hh, rfl⟩) (fun e => by cases e) fun g e => ?_
  cases e
  exact ⟨.inl (Nat.le_refl _), .inr (.inl ⟨es, clk, q, xs, heap_alloc_new _ _, rfl, h⟩)⟩

def isMap (P : Program) (t : TypeId) : Option (TypeId × TypeId) := match P.underlying t with | some (.map k e) => some (k, e) | _ => none
theorem isMap_some {P : Program} {t k e : TypeId} (h : isMap P t = some (k, e)) : P.underlying t = some (.map k e) := by
  unfold isMap at h
  split at h
  · rename_i k' e' hu; cases h; exact hu
  · cases h
theorem und_of_key {P : Program} {kt : TypeId} {k : Value} (h : keyB (ktOf P kt) k = true) : ∃ d, P.underlying kt = some d := by
  obtain ⟨b, l, xs, hq, _⟩ := keyB_shape h
  obtain ⟨e1, _⟩ := ktOf_some hq
  unfold isAggT at e1
  obtain ⟨d, hd, _⟩ := Option.map_eq_some_iff.1 e1
  exact ⟨d, hd⟩

/-- A new map. -/
def aMakeMap (P : Program) (t : TypeId) (r : Option AV) (m : Mem) (n : Nat) : Option Eff :=
  (isMap P t).bind fun ke => match r with
    | none | some (.v (.int _ _)) => some (.mp n (verNext m n), some (n, ⟨verNext m n, [.ents (ktOf P ke.1) 0 []]⟩))
    | _ => none
theorem aMakeMap_sound {P : Program} {c : Ctx} {w0 : World} (M : MemOk c w0) {t : TypeId} {n : Nat} {r : Option AV} {v : Option Value} {e : Eff} (h : aMakeMap P t r c.m n = some e) (hr : ∀ y, r = some y → ∃ u, v = some u ∧ Rel c y u) (hn : r = none → v = none) : Good P c w0 (Instr.makeMap t v) e := by
  unfold aMakeMap at h
  obtain ⟨⟨kt, et⟩, hm, h⟩ := Option.bind_eq_some_iff.1 h
  have hm' := isMap_some hm
  obtain ⟨hle, hM⟩ := step_newMap (q := ktOf P kt) (xs := []) (es := #[]) (clk := 0) M n ⟨.nil, fun e h => by simp at h, by simp⟩
  have fin : (Instr.makeMap t v).run P c.w = .ok (.map (some c.w.heap.size)) (c.w.alloc (.map #[] 0)) → e = (.mp n (verNext c.m n), some (n, ⟨verNext c.m n, [.ents (ktOf P kt) 0 []]⟩)) → Good P c w0 (Instr.makeMap t v) e := fun hrun he => by
    subst he
    exact ⟨_, _, _, hrun, hle, hM, .mp (upd_eq _ _ _) (Nat.le_refl _) fun _ => upd_eq _ _ _⟩
  split at h
  · cases h
    obtain rfl := hn rfl
    exact fin rfl rfl
  · cases h
    rename_i k x
    obtain ⟨u, rfl, ru⟩ := hr _ rfl
    obtain ⟨rfl, _⟩ := ru.inv_v
    refine fin ?_ rfl
    simp [Instr.makeMap, run_underlying hm', asInt]
    rfl
  · cases h

/-- A plain zero value. -/
def zeroV (P : Program) (t : TypeId) : Option AV := ((P.info? t).bind (·.zero)).bind fun z => if flatV z = true then some (ofV z) else none
theorem zeroV_sound {P : Program} {t : TypeId} {x : AV} (h : zeroV P t = some x) (c : Ctx) : ∃ z, (∀ w, (zeroValue t).run P w = .ok z w) ∧ Rel c x z := by
  unfold zeroV at h
  obtain ⟨z, hz, h⟩ := Option.bind_eq_some_iff.1 h
  split at h
  · cases h
    obtain ⟨i, hi, hz'⟩ := Option.bind_eq_some_iff.1 hz
    exact ⟨z, fun w => by simp [zeroValue, typeInfo, hi, hz'], Rel.ofV c z⟩
  · cases h
def lkK (ok : Bool) (z : AV) : Option AV → AV
  | some y => if ok = true then .tup [y, .v (.bool true)] else y
  | none => if ok = true then .tup [z, .v (.bool false)] else z
noncomputable def aLookup (P : Program) (t : TypeId) (x i : AV) (ok : Bool) (m : Mem) : Option AV :=
  (isMap P t).bind fun ke => (zeroV P ke.2).bind fun z => (keyV i).bind fun k => if keyB (ktOf P ke.1) k = true then
    match x with
    | .v (.map none) => some (lkK ok z none)
    | x => (mapEnts m x).bind fun q => if q.2.2.1 = ktOf P ke.1 then some (lkK ok z (mGet k q.2.2.2.2)) else none
  else none
theorem aLookup_sound {P : Program} {c : Ctx} {w0 : World} (M : MemOk c w0) {t : TypeId} {x i y : AV} {ok : Bool} {v u : Value} (h : aLookup P t x i ok c.m = some y) (r : Rel c x v) (ri : Rel c i u) : Good P c w0 (Instr.lookup t v u ok) (y, none) := by
  unfold aLookup at h
  obtain ⟨⟨kt, et⟩, hm, h⟩ := Option.bind_eq_some_iff.1 h
  obtain ⟨z, hz, h⟩ := Option.bind_eq_some_iff.1 h
  obtain ⟨k, hk, h⟩ := Option.bind_eq_some_iff.1 h
  split at h
  case isFalse => cases h
  rename_i hkb
  simp only at hkb hz
  obtain rfl := keyV_sound hk ri
  obtain ⟨zv, hzr, rz⟩ := zeroV_sound hz c
  have hu := isMap_some hm
  obtain ⟨d, hd⟩ := und_of_key hkb
  split at h
  · cases h
    obtain ⟨rfl, _⟩ := r.inv_v
    refine Good.same (v := if ok then .tuple #[zv, .bool false] else zv) ?_ M ?_
    · simp only [Instr.lookup, Sem.run_bind, run_underlying hu, Result.andThen_ok, Sem.run_pure, key_check hkb, findKey_run hd hkb (es := []) (by simp), findV, hzr]
    · cases ok with
      | true => exact .mkTup (.cons rz (.cons .v (.nil c)))
      | false => exact rz
  · obtain ⟨⟨n, ver, q, clk, xs⟩, hq, h⟩ := Option.bind_eq_some_iff.1 h
    split at h
    case isFalse => cases h
    rename_i hqe
    simp only at hqe
    subst hqe
    cases h
    obtain ⟨g, es, rfl, h1, h2, h3, h4⟩ := mapEnts_sound M hq r
    have hf := findKey_run (w := c.w) hd hkb h4.1.keys
    have hget := MapKept.run_getObj_map (P := P) h3
    rcases h4.1.get u 0 with ⟨e1, e2⟩ | ⟨j, v, y, e1, e2, e3⟩
    · rw [e1] at hf
      refine Good.same (v := if ok then .tuple #[zv, .bool false] else zv) ?_ M ?_
      · simp only [Instr.lookup, Sem.run_bind, run_underlying hu, Result.andThen_ok, Sem.run_pure, hget, key_check hkb, hf, hzr]
      · simp only [e2]
        cases ok with
        | true => exact .mkTup (.cons rz (.cons .v (.nil c)))
        | false => exact rz
    · rw [e1] at hf
      refine Good.same (v := if ok then .tuple #[v, .bool true] else v) ?_ M ?_
      · simp only [Instr.lookup, Sem.run_bind, run_underlying hu, Result.andThen_ok, Sem.run_pure, hget, key_check hkb, hf]
      · simp only [e2]
        cases ok with
        | true => exact .mkTup (.cons e3 (.cons .v (.nil c)))
        | false => exact e3

theorem bytes_refl (s : ByteArray) : (s == s) = true := (MapKept.bytes_beq s s).2 rfl
theorem sameBits_self {l : List KT} {n : Nat} : ∀ {xs : List Value}, ktAll l xs = true → ∀ p ∈ xs.zip xs, Instr.sameBits (n + 1) p.1 p.2 = true := by
  induction l with
  | nil => intro xs h; cases xs <;> simp [ktAll] at h; intro p hp; simp at hp
  | cons a l ih =>
    intro xs h
    cases xs <;> simp [ktAll] at h
    rename_i x xs
    intro p hp
    simp only [List.zip_cons_cons, List.mem_cons] at hp
    rcases hp with rfl | hp
    · cases a <;> cases x <;> simp [ktOk] at h <;> simp [Instr.sameBits, bytes_refl]
    · exact ih h.2 p hp
theorem stays_run {P : Program} {w : World} {q : Option (Bool × List KT)} {k : Value} (h : keyB q k = true) : (Instr.keyThatStays k k).run P w = .ok k w := by
  have hs : Instr.sameBits 10000 k k = true := by
    obtain ⟨b, l, xs, hq, rfl, h1⟩ := keyB_shape h
    cases b with
    | true =>
      show Instr.sameBits (9998 + 1 + 1) (.agg xs.toArray) (.agg xs.toArray) = true
      simp only [Instr.sameBits, beq_self_eq_true, Bool.true_and, List.all_eq_true]
      intro p hp
      exact sameBits_self (n := 9998) h1 p hp
    | false =>
      unfold keyB at h
      subst hq
      split at h <;> simp_all [Instr.sameBits, bytes_refl]
  simp [Instr.keyThatStays, hs]

noncomputable def aMapUpdate (P : Program) (t : TypeId) (x i y : AV) (m : Mem) : Option Eff :=
  (isMap P t).bind fun ke => (keyV i).bind fun k => if keyB (ktOf P ke.1) k = true then
    (mapEnts m x).bind fun q => if q.2.2.1 = ktOf P ke.1 then some (.v undef, some (q.1, ⟨q.2.1, [.ents q.2.2.1 (mClk q.2.2.2.1 k q.2.2.2.2) (mPut q.2.2.2.1 k y q.2.2.2.2)]⟩)) else none
  else none
theorem born_modify {f : MapEntry → MapEntry} (hf : ∀ e, (f e).born = e.born) : ∀ (es : List MapEntry) (j : Nat), (es.modify j f).map (·.born) = es.map (·.born) := by
  intro es
  induction es with
  | nil => intro j; cases j <;> rfl
  | cons e es ih =>
    intro j
    cases j with
    | zero => simp [hf]
    | succ j => simp [ih]
theorem pw_born {es : List MapEntry} : (es.Pairwise fun a b => a.born < b.born) ↔ (es.map (·.born)).Pairwise (· < ·) := by rw [List.pairwise_map]
theorem lt_born {es : List MapEntry} {clk : Nat} : (∀ e ∈ es, e.born < clk) ↔ ∀ b ∈ es.map (·.born), b < clk := by simp
theorem aMapUpdate_sound {P : Program} {c : Ctx} {w0 : World} (M : MemOk c w0) {t : TypeId} {x i y : AV} {v u z : Value} {e : Eff} (h : aMapUpdate P t x i y c.m = some e) (r : Rel c x v) (ri : Rel c i u) (ry : Rel c y z) : GoodU P c w0 (Instr.mapUpdate t v u z) e := by
  unfold aMapUpdate at h
  obtain ⟨⟨kt, et⟩, hm, h⟩ := Option.bind_eq_some_iff.1 h
  obtain ⟨k, hk, h⟩ := Option.bind_eq_some_iff.1 h
  split at h
  case isFalse => cases h
  rename_i hkb
  simp only at hkb
  obtain rfl := keyV_sound hk ri
  have hu := isMap_some hm
  obtain ⟨d, hd⟩ := und_of_key hkb
  obtain ⟨⟨n, ver, q, clk, xs⟩, hq, h⟩ := Option.bind_eq_some_iff.1 h
  split at h
  case isFalse => cases h
  rename_i hqe
  simp only at hqe
  subst hqe
  cases h
  obtain ⟨g, es, rfl, h1, h2, h3, h4⟩ := mapEnts_sound M hq r
  have hf := findKey_run (w := c.w) hd hkb h4.1.keys
  have hget := MapKept.run_getObj_map (P := P) h3
  obtain ⟨h4, h5, h6⟩ := h4
  rcases h4.put hkb ry clk 0 with ⟨e1, e0, e2⟩ | ⟨j, v, e0, e1, e6, e2, e3, e4⟩
  · rw [e1] at hf
    have hset := MapKept.run_setObj_map (P := P) (.map (es.push ⟨u, z, clk⟩) (clk + 1)) h3
    obtain ⟨hle, hM⟩ := step_map (es' := es.push ⟨u, z, clk⟩) (clk' := clk + 1) M h1 h2 h3 ⟨by simpa using e2, (fun e he => by
      simp only [Array.toList_push, List.mem_append, List.mem_singleton] at he
      rcases he with he | rfl
      · have := h5 e he; omega
      · exact Nat.lt_succ_self _), by
      simp only [Array.toList_push]
      rw [List.pairwise_append]
      exact ⟨h6, by simp, fun a ha b hb => by simp at hb; subst hb; exact h5 a ha⟩⟩
    refine ⟨_, c.ι, ?_, by simp only [e0]; exact hle, by simp only [e0]; exact hM, rfl⟩
    simp only [Instr.mapUpdate, Sem.run_bind, run_underlying hu, Result.andThen_ok, Sem.run_pure, hget, key_check hkb, hf]
    exact hset
  · rw [e1] at hf
    have hset := MapKept.run_setObj_map (P := P) (.map (es.modify j fun e => { e with key := u, val := z }) clk) h3
    have hml : (es.modify j fun e => { e with key := u, val := z }).toList = es.toList.modify j fun e => { e with key := u, val := z } := by simp
    obtain ⟨hle, hM⟩ := step_map (es' := es.modify j fun e => { e with key := u, val := z }) (clk' := clk) M h1 h2 h3 ⟨by rw [hml]; exact e4, (by
      rw [hml, lt_born, born_modify (f := fun e => { e with key := u, val := z }) (fun _ => rfl), ← lt_born]; exact h5), by
      rw [hml, pw_born, born_modify (f := fun e => { e with key := u, val := z }) (fun _ => rfl), ← pw_born]; exact h6⟩
    refine ⟨_, c.ι, ?_, by simp only [e6]; exact hle, by simp only [e6]; exact hM, rfl⟩
    have hj : es[j]? = some e0 := by simpa using e2
    have hkt : (Instr.keyThatStays e0.key u).run P c.w = .ok u c.w := by rw [e3]; exact stays_run hkb
    simp only [Instr.mapUpdate, Sem.run_bind, run_underlying hu, Result.andThen_ok, Sem.run_pure, hget, key_check hkb, hf, hj, Option.map_some, Option.getD_some, hkt, Nat.zero_add]
    exact hset

noncomputable def aDelete (P : Program) (t : TypeId) (x i : AV) (m : Mem) : Option Eff :=
  (isMap P t).bind fun ke => (keyV i).bind fun k => if keyB (ktOf P ke.1) k = true then
    (mapEnts m x).bind fun q => if q.2.2.1 = ktOf P ke.1 then some (.v (.tuple #[]), some (q.1, ⟨q.2.1, [.ents q.2.2.1 q.2.2.2.1 (mDel k q.2.2.2.2)]⟩)) else none
  else none
theorem aDelete_sound {P : Program} {c : Ctx} {w0 : World} (M : MemOk c w0) {t t2 ty : TypeId} {x i : AV} {v u : Value} {e : Eff} (h : aDelete P t x i c.m = some e) (r : Rel c x v) (ri : Rel c i u) : Good P c w0 (Builtin.delete_ #[t, t2] ty #[v, u]) e := by
  unfold aDelete at h
  obtain ⟨⟨kt, et⟩, hm, h⟩ := Option.bind_eq_some_iff.1 h
  obtain ⟨k, hk, h⟩ := Option.bind_eq_some_iff.1 h
  split at h
  case isFalse => cases h
  rename_i hkb
  simp only at hkb
  obtain rfl := keyV_sound hk ri
  have hu := isMap_some hm
  obtain ⟨d, hd⟩ := und_of_key hkb
  obtain ⟨⟨n, ver, q, clk, xs⟩, hq, h⟩ := Option.bind_eq_some_iff.1 h
  split at h
  case isFalse => cases h
  rename_i hqe
  simp only at hqe
  subst hqe
  cases h
  obtain ⟨g, es, rfl, h1, h2, h3, h4⟩ := mapEnts_sound M hq r
  have hf := findKey_run (w := c.w) hd hkb h4.1.keys
  have hget := MapKept.run_getObj_map (P := P) h3
  obtain ⟨h4, h5, h6⟩ := h4
  rcases h4.del u 0 with ⟨e1, e2⟩ | ⟨j, v, e1, e4⟩
  · rw [e1] at hf
    have hset := MapKept.run_setObj_map (P := P) (.map es clk) h3
    obtain ⟨hle, hM⟩ := step_map (xs' := mDel u xs) (es' := es) (clk' := clk) M h1 h2 h3 ⟨by rw [e2]; exact h4, h5, h6⟩
    refine ⟨.tuple #[], _, c.ι, ?_, hle, hM, .v⟩
    simp only [Builtin.delete_, List.getElem?_toArray, List.getElem?_cons_zero, List.getElem?_cons_succ, Sem.run_bind, run_underlying hu, Result.andThen_ok, Sem.run_pure, hget, key_check hkb, hf, hset]
  · rw [e1] at hf
    have hset := MapKept.run_setObj_map (P := P) (.map (es.eraseIdxIfInBounds j) clk) h3
    have hml : (es.eraseIdxIfInBounds j).toList = es.toList.eraseIdx j := by simp
    have hsub := List.eraseIdx_sublist es.toList j
    obtain ⟨hle, hM⟩ := step_map (es' := es.eraseIdxIfInBounds j) (clk' := clk) M h1 h2 h3 ⟨by rw [hml]; exact e4, (by rw [hml]; exact fun e he => h5 e (hsub.subset he)), by rw [hml]; exact h6.sublist hsub⟩
    refine ⟨.tuple #[], _, c.ι, ?_, hle, hM, .v⟩
    simp only [Builtin.delete_, List.getElem?_toArray, List.getElem?_cons_zero, List.getElem?_cons_succ, Sem.run_bind, run_underlying hu, Result.andThen_ok, Sem.run_pure, hget, key_check hkb, hf, Nat.zero_add, hset]

/-- How many entries. -/
def aMapLen (P : Program) (t : TypeId) (x : AV) (m : Mem) : Option AV :=
  (isMap P t).bind fun _ => (mapEnts m x).bind fun q => some (.v (.int .i64 (q.2.2.2.2.length : Nat)))
theorem aMapLen_sound {P : Program} {c : Ctx} {w0 : World} (M : MemOk c w0) {t ty : TypeId} {x y : AV} {v : Value} (h : aMapLen P t x c.m = some y) (r : Rel c x v) : Good P c w0 (Builtin.len_ #[t] ty #[v]) (y, none) := by
  unfold aMapLen at h
  obtain ⟨⟨kt, et⟩, hm, h⟩ := Option.bind_eq_some_iff.1 h
  obtain ⟨⟨n, ver, q, clk, xs⟩, hq, h⟩ := Option.bind_eq_some_iff.1 h
  cases h
  have hu := isMap_some hm
  obtain ⟨g, es, rfl, h1, h2, h3, h4⟩ := mapEnts_sound M hq r
  have hget := MapKept.run_getObj_map (P := P) h3
  have hl : xs.length = es.size := by simpa using h4.1.length
  refine Good.same (v := .int .i64 (xs.length : Nat)) ?_ M .v
  simp [Builtin.len_, run_underlying hu, hget, hl, goInt]
end Go.Pm
