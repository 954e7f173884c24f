/- A machine of values: what is built, appended, copied. -/
import Derived.Test.YtfkneafghcndfaaPe
namespace Go.Pm
open Go.RowKit
set_option linter.unusedVariables false
set_option linter.unusedSimpArgs false

/-- Parts laid over cells. -/
def aFill (place : Nat → Option (Nat × Nat)) : List AV → List (Nat × AV) → Option (List AV)
  | cells, [] => some cells
  | cells, (i, x) :: rest => (place i).bind fun os => if x.cells.length = os.2 ∧ os.1 + x.cells.length ≤ cells.length then aFill place (splice cells os.1 x.cells) rest else none

theorem fold_set (vs : List Value) : ∀ (k off : Nat) (cells : Array Value), off + k + vs.length ≤ cells.size →
    ((vs.zipIdx k).foldl (fun cs (c, j) => cs.setIfInBounds (off + j) c) cells).toList = splice cells.toList (off + k) vs := by
  induction vs with
  | nil => intro k off cells h; simp [splice]
  | cons v vs ih =>
    intro k off cells h
    simp only [List.zipIdx_cons, List.foldl_cons]
    simp only [List.length_cons] at h
    rw [ih (k + 1) off _ (by simp; omega)]
    apply List.ext_getElem?
    intro i
    rw [splice_get (by simp; omega), splice_get (by simp; omega)]
    simp only [Array.toList_setIfInBounds, List.getElem?_set, Array.length_toList, List.length_cons]
    by_cases h1 : i = off + k
    · subst h1
      rw [if_neg (by omega), if_pos rfl, if_pos (by omega), if_pos (by omega)]
      simp
    · by_cases h2 : off + (k + 1) ≤ i ∧ i < off + (k + 1) + vs.length
      · rw [if_pos h2, if_pos (by omega)]
        have : i - (off + k) = (i - (off + (k + 1))) + 1 := by omega
        rw [this]; simp
      · rw [if_neg h2, if_neg (by omega), if_neg (by omega)]

theorem aFill_sound {c : Ctx} {place : Nat → Option (Nat × Nat)} : ∀ {ps : List (Nat × AV)} {qs : List (Nat × Value)} {xs ys : List AV} {cs : Array Value}, aFill place xs ps = some ys → RelL c xs cs.toList →
    ps.map (·.1) = qs.map (·.1) → (∀ (i : Nat) a, ps[i]? = some a → ∃ b, qs[i]? = some b ∧ Rel c a.2 b.2) → ∃ ds, Instr.fill place cs qs = some ds ∧ RelL c ys ds.toList := by
  intro ps
  induction ps with
  | nil =>
    intro qs xs ys cs h r hm hr
    cases h
    have : qs = [] := by simpa using hm.symm
    subst this
    exact ⟨cs, rfl, r⟩
  | cons p ps ih =>
    intro qs xs ys cs h r hm hr
    obtain ⟨i, x⟩ := p
    cases qs with
    | nil => simp at hm
    | cons q qs =>
      obtain ⟨i', u⟩ := q
      simp only [List.map_cons, List.cons.injEq] at hm
      obtain ⟨rfl, hm⟩ := hm
      obtain ⟨b, e, ru⟩ := hr 0 (i, x) rfl
      simp at e; subst e
      simp only [aFill] at h
      obtain ⟨⟨o, s⟩, hp, h⟩ := Option.bind_eq_some_iff.1 h
      split at h
      · rename_i hs
        obtain ⟨hs1, hs2⟩ := hs
        have rc := ru.cells
        have hcs : u.cells.size = x.cells.length := by have := rc.1; simpa using this.symm
        have hl : cs.size = xs.length := by have := r.1; simpa using this.symm
        have hf := fold_set u.cells.toList 0 o cs (by simp; simp at hs2; omega)
        simp only [Nat.add_zero] at hf
        have rs : RelL c (splice xs o x.cells) (splice cs.toList o u.cells.toList) := by
          unfold splice
          rw [← rc.1]
          exact ((r.take _).append rc).append (r.drop _)
        have hz : (u.cells.zipIdx).toList = u.cells.toList.zipIdx := by simp
        obtain ⟨ds, e1, e2⟩ := ih (cs := u.cells.zipIdx.foldl (fun cs (c, j) => cs.setIfInBounds (o + j) c) cs) h (by rw [← Array.foldl_toList, hz, hf]; exact rs) hm (fun i a ha => by simpa using hr (i + 1) a (by simpa using ha))
        refine ⟨ds, ?_, e2⟩
        simp only [Instr.fill, hp]
        rw [if_neg]
        · exact e1
        · simp only [hcs, ne_eq, Bool.or_eq_true, decide_eq_true_eq, not_or, hs1]
          refine ⟨by simp, by simp at hs2; omega⟩
      · cases h

/-- The zero value's cells. -/
def zeroOf (P : Program) (t : TypeId) : Option (List AV) := ((P.info? t).bind (·.zero)).bind fun z => if flatV z = true then some (ofV z).cells else none
theorem zeroOf_sound {P : Program} {t : TypeId} {xs : List AV} (h : zeroOf P t = some xs) (c : Ctx) : ∃ z, (∀ w, (zeroValue t).run P w = .ok z w) ∧ RelL c xs z.cells.toList ∧ (P.info? t).bind (·.zero) = some z := by
  unfold zeroOf at h
  obtain ⟨z, hz, h⟩ := Option.bind_eq_some_iff.1 h
  split at h
  · rename_i hf
    cases h
    refine ⟨z, fun w => ?_, (Rel.ofV c z).cells, hz⟩
    obtain ⟨i, hi, hz'⟩ := Option.bind_eq_some_iff.1 hz
    simp [zeroValue, typeInfo, hi, hz']
  · cases h

def placesOf (P : Program) (t : TypeId) (i : Nat) : Option (Nat × Nat) :=
  match isArr P t with
  | some (_, e) => (szOf P e).map fun s => (i * s, s)
  | none => (fieldOf P t i).bind fun ot => (szOf P ot.2).map fun s => (ot.1, s)
/-- Are all fields' sizes known? -/
def sizesOk (P : Program) (t : TypeId) : Bool :=
  match P.underlying t with
  | some (.struct fs) => fs.all fun f => (szOf P f.type).isSome
  | some (.array _ e) => (szOf P e).isSome
  | _ => false

theorem mapM_places {P : Program} {w : World} : ∀ (l : List Field), (∀ f ∈ l, (szOf P f.type).isSome = true) →
    (l.mapM fun f => (do pure (f.offset, ← sizeOf f.type) : Sem (Nat × Nat))).run P w = .ok (l.map fun f => (f.offset, (szOf P f.type).getD 0)) w := by
  intro l
  induction l with
  | nil => intro _; rfl
  | cons f l ih =>
    intro h
    obtain ⟨n, hn⟩ := Option.isSome_iff_exists.1 (h f (List.mem_cons_self ..))
    have ih' := ih fun g hg => h g (List.mem_cons_of_mem _ hg)
    simp only [List.mapM_cons, Sem.run_bind, run_sizeOf hn, Result.andThen_ok, Sem.run_pure, ih', List.map_cons, hn, Option.getD_some]

def aBuild (P : Program) (t : TypeId) (ps : List (Nat × AV)) : Option AV :=
  if sizesOk P t = true then (zeroOf P t).bind fun z => (aFill (placesOf P t) z ps).map .agg else none
theorem fill_congr {p q : Nat → Option (Nat × Nat)} (h : ∀ i, p i = q i) (cs : Array Value) (ps : List (Nat × Value)) : Instr.fill p cs ps = Instr.fill q cs ps := by
  have : p = q := funext h
  rw [this]
theorem aBuild_sound {P : Program} {c : Ctx} {w0 : World} (M : MemOk c w0) {t : TypeId} {ps : List (Nat × AV)} {qs : Array (Nat × Value)} {y : AV} (h : aBuild P t ps = some y)
    (hm : ps.map (·.1) = qs.toList.map (·.1)) (hr : ∀ (i : Nat) a, ps[i]? = some a → ∃ b, qs.toList[i]? = some b ∧ Rel c a.2 b.2) : Good P c w0 (Instr.build t qs) (y, none) := by
  unfold aBuild at h
  split at h
  · rename_i hs
    obtain ⟨z, hz, h⟩ := Option.bind_eq_some_iff.1 h
    obtain ⟨ys, hy, rfl⟩ := Option.map_eq_some_iff.1 h
    obtain ⟨zv, hzr, rz, _⟩ := zeroOf_sound hz c
    obtain ⟨ds, hf, rd⟩ := aFill_sound hy rz hm hr
    refine Good.same (v := .agg ds) ?_ M (.mkAgg rd)
    unfold sizesOk at hs
    cases hu : P.underlying t with
    | none => rw [hu] at hs; cases hs
    | some d =>
      rw [hu] at hs
      cases d with
      | array n e =>
        simp only at hs
        obtain ⟨s, hs⟩ := Option.isSome_iff_exists.1 hs
        have hp : placesOf P t = fun i => some (i * s, s) := by funext i; simp [placesOf, isArr, hu, hs]
        rw [hp] at hf
        simp [Instr.build, hzr, run_underlying hu, run_sizeOf hs, hf]
      | struct fs =>
        simp only at hs
        have hall : ∀ f ∈ fs.toList, (szOf P f.type).isSome = true := fun f hf' => by
          have := Array.all_eq_true_iff_forall_mem.1 hs f (Array.mem_toList_iff.1 hf')
          exact this
        have hmm := mapM_places (P := P) (w := c.w) fs.toList hall
        have hp : ∀ i, placesOf P t i = (fs.map fun f => (f.offset, (szOf P f.type).getD 0))[i]? := fun i => by
          simp only [placesOf, isArr, hu, fieldOf, Array.getElem?_map]
          cases e : fs[i]? with
          | none => rfl
          | some f =>
            have hin : f ∈ fs.toList := Array.mem_toList_iff.2 (Array.mem_of_getElem? e)
            obtain ⟨n, hn⟩ := Option.isSome_iff_exists.1 (hall f hin)
            simp [hn]
        rw [fill_congr hp] at hf
        have hmm' : (fs.mapM fun f => (do pure (f.offset, ← sizeOf f.type) : Sem (Nat × Nat))).run P c.w = .ok (fs.map fun f => (f.offset, (szOf P f.type).getD 0)) c.w := by
          rw [Array.mapM_eq_mapM_toList]
          simp only [Sem.run_map, hmm, Result.andThen_ok]
          congr 1
          apply Array.toList_inj.1
          simp
        simp only [Instr.build, Sem.run_bind, hzr, Result.andThen_ok, run_underlying hu, hmm', hf]
        rfl
      | _ => cases hs
  · cases h

/-- A new variable of a type. -/
def aNew (m : Mem) (n : Nat) (xs : List AV) : Eff := (.ptr n (verNext m n) 0, some (n, ⟨verNext m n, xs⟩))
def aAlloc (P : Program) (t : TypeId) (m : Mem) (n : Nat) : Option Eff := (zeroOf P t).map (aNew m n)
theorem aAlloc_sound {P : Program} {c : Ctx} {w0 : World} (M : MemOk c w0) {t : TypeId} {n : Nat} {e : Eff} (h : aAlloc P t c.m n = some e) : Good P c w0 (Instr.alloc t true (.tuple #[])) e := by
  obtain ⟨xs, hz, rfl⟩ := Option.map_eq_some_iff.1 h
  obtain ⟨z, hr, rl, _⟩ := zeroOf_sound hz c
  refine (good_new (P := P) M n t rl).congr ?_
  simp [Instr.alloc, hr, newVar]
theorem aBox_sound {P : Program} {c : Ctx} {w0 : World} (M : MemOk c w0) {t : TypeId} {n : Nat} {x : AV} {v : Value} (r : Rel c x v) : Good P c w0 (Instr.box t v) (aNew c.m n x.cells) :=
  (good_new (P := P) M n t r.cells).congr (by simp [Instr.box, newVar])

/-- A slice's new cells. -/
theorem good_slice {P : Program} {c : Ctx} {w0 : World} (M : MemOk c w0) (n len cap z : Nat) (e : TypeId) {xs : List AV} {cs : Array Value} (hx : ∀ (i : Nat) x, xs[i]? = some x → ∃ y, cs[i]? = some y ∧ Rel c x y) (hl : len ≤ cap) (hm : cap ≤ maxLen) (hs : cs.size = cap * z) (hlen : xs.length = len * z) :
    Good P c w0 (do pure (.slice (some (← newRow e cs)) len cap)) (.own n (verNext c.m n) 0 len z (.whole e), some (n, ⟨verNext c.m n, xs⟩)) := by
  obtain ⟨hle, hM⟩ := step_new M n xs cs e hx
  refine ⟨.slice (some ⟨c.w.heap.size, 0, none⟩) len cap, _, _, by simp only [Sem.run_bind, run_newRow, Result.andThen_ok, Sem.run_pure], hle, hM, ?_⟩
  exact .own (upd_eq _ _ _) (Nat.le_refl _) hl hm (fun e => by cases e) fun _ => .inr ⟨_, 0, cs, e, upd_eq _ _ _, rfl, fun _ => rfl, by simp [hlen], heap_alloc_new _ _, rfl, rfl, rfl, hs⟩

/-- So many zero values. -/
def zeros (n : Nat) (z : List AV) : List AV := match z with | [x] => List.replicate n x | _ => (List.replicate n z).flatten
theorem flatten_get {α : Type} (z : List α) (hz : 0 < z.length) : ∀ (n i : Nat), i < n * z.length → (List.replicate n z).flatten[i]? = z[i % z.length]? := by
  intro n
  induction n with
  | zero => intro i h; simp at h
  | succ n ih =>
    intro i h
    simp only [List.replicate_succ, List.flatten_cons]
    by_cases hi : i < z.length
    · rw [List.getElem?_append_left hi, Nat.mod_eq_of_lt hi]
    · rw [List.getElem?_append_right (by omega), ih _ (by rw [Nat.succ_mul] at h; omega)]
      congr 1
      exact (Nat.mod_eq_sub_mod (by omega)).symm
theorem zeros_len (n : Nat) (z : List AV) : (zeros n z).length = n * z.length := by
  unfold zeros
  split
  · simp
  · simp
theorem zeros_get {n : Nat} {z : List AV} {i : Nat} {x : AV} (h : (zeros n z)[i]? = some x) : i < n * z.length ∧ z[i % z.length]? = some x := by
  have hlt : i < n * z.length := by have := (List.getElem?_eq_some_iff.1 h).1; rwa [zeros_len] at this
  refine ⟨hlt, ?_⟩
  unfold zeros at h
  split at h
  · rename_i y
    simp only [List.length_cons, List.length_nil, Nat.zero_add, Nat.mul_one] at hlt
    rw [List.getElem?_replicate, if_pos hlt] at h
    simpa [Nat.mod_one] using h
  · have hz : 0 < z.length := by
      rcases Nat.eq_zero_or_pos z.length with e | e
      · rw [e] at hlt; simp at hlt
      · exact e
    rwa [flatten_get z hz _ _ hlt] at h
theorem zeros_rel {c : Ctx} {z : List AV} {zs : Array Value} (r : RelL c z zs.toList) (n N : Nat) (hN : n ≤ N) : ∀ (i : Nat) x, (zeros n z)[i]? = some x → ∃ y, ((Array.range (N * zs.size)).map (zs[· % zs.size]!))[i]? = some y ∧ Rel c x y := by
  intro i x h
  obtain ⟨hlt, hx⟩ := zeros_get h
  obtain ⟨y, e, ry⟩ := r.2 _ x hx
  have hl : z.length = zs.size := by simpa using r.1
  have : n * z.length ≤ N * zs.size := by rw [hl]; exact Nat.mul_le_mul_right _ hN
  have hz : 0 < zs.size := by
    rcases Nat.eq_zero_or_pos zs.size with e | e
    · rw [hl, e] at hlt; simp at hlt
    · exact e
  refine ⟨y, ?_, ry⟩
  rw [hl] at e
  have e' : zs[i % zs.size]? = some y := by simpa using e
  simp only [Array.getElem?_map]
  rw [Array.getElem?_range, if_pos (by omega)]
  simp only [Option.map_some]
  congr 1
  rw [getElem!_def, e']

theorem range0 (f : Nat → Value) : (Array.range 0).map f = #[] := Array.eq_empty_of_size_eq_zero (by simp)

def aBuildSlice (P : Program) (t : TypeId) (len : Nat) (ps : List (Nat × AV)) (m : Mem) (n : Nat) : Option Eff :=
  (isSl P t).bind fun e => (szOf P e).bind fun s => (zeroOf P e).bind fun z =>
    if z.length = s ∧ 0 < s ∧ len * s ≤ 16777216 ∧ len ≤ 16777216 then (aFill (fun i => some (i * s, s)) (zeros len z) ps).map fun xs => (.own n (verNext m n) 0 len s (.whole e), some (n, ⟨verNext m n, xs⟩)) else none
theorem aFill_len {place : Nat → Option (Nat × Nat)} : ∀ {ps : List (Nat × AV)} {xs ys : List AV}, aFill place xs ps = some ys → ys.length = xs.length := by
  intro ps
  induction ps with
  | nil => intro xs ys h; cases h; rfl
  | cons p ps ih =>
    intro xs ys h
    obtain ⟨i, x⟩ := p
    simp only [aFill] at h
    obtain ⟨os, _, h⟩ := Option.bind_eq_some_iff.1 h
    split at h
    · rename_i hs; rw [ih h, splice_length hs.2]
    · cases h
theorem aBuildSlice_sound {P : Program} {c : Ctx} {w0 : World} (M : MemOk c w0) {t : TypeId} {len n : Nat} {ps : List (Nat × AV)} {qs : Array (Nat × Value)} {e : Eff} (h : aBuildSlice P t len ps c.m n = some e)
    (hm : ps.map (·.1) = qs.toList.map (·.1)) (hr : ∀ (i : Nat) a, ps[i]? = some a → ∃ b, qs.toList[i]? = some b ∧ Rel c a.2 b.2) : Good P c w0 (Instr.buildSlice t len qs) e := by
  unfold aBuildSlice at h
  obtain ⟨el, he, h⟩ := Option.bind_eq_some_iff.1 h
  obtain ⟨s, hs, h⟩ := Option.bind_eq_some_iff.1 h
  obtain ⟨z, hz, h⟩ := Option.bind_eq_some_iff.1 h
  split at h
  · rename_i hh
    obtain ⟨h1, h2, h3, h4⟩ := hh
    obtain ⟨xs, hf, rfl⟩ := Option.map_eq_some_iff.1 h
    obtain ⟨zv, hzr, rz, _⟩ := zeroOf_sound hz c
    have hzs : zv.cells.size = s := by have := rz.1; simp at this; omega
    have rz' : RelL c (zeros len z) ((Array.range (len * s)).map (zv.cells[· % zv.cells.size]!)).toList := by
      refine ⟨by simp [zeros_len, h1], fun i x hx => ?_⟩
      obtain ⟨y, e, r⟩ := zeros_rel rz len len (Nat.le_refl _) i x hx
      rw [hzs] at e
      exact ⟨y, by rw [Array.getElem?_toList, hzs]; exact e, r⟩
    have hu := isSl_some he
    by_cases h0 : len * s = 0
    · have hl0 : len = 0 := by
        rcases Nat.mul_eq_zero.1 h0 with h | h
        · exact h
        · omega
      subst hl0
      have hzn : zeros 0 z = [] := List.eq_nil_of_length_eq_zero (by simp [zeros_len])
      rw [hzn] at hf
      obtain ⟨ds, hfd, rd⟩ := aFill_sound (cs := #[]) hf (.nil c) hm hr
      have hdl : ds.size = 0 := by have := rd.1; rw [aFill_len hf] at this; simpa using this.symm
      refine (good_slice (P := P) M n 0 0 s el (relL_at rd) (Nat.le_refl _) (by simp [maxLen]) (by simpa using hdl) (by rw [aFill_len hf]; simp)).congr ?_
      simp [Instr.buildSlice, run_underlying hu, run_sizeOf hs, hfd, range0]
    · obtain ⟨ds, hfd, rd⟩ := aFill_sound hf rz' hm hr
      have hdl : ds.size = len * s := by have := rd.1; rw [aFill_len hf, zeros_len, h1] at this; simpa using this.symm
      refine (good_slice (P := P) M n len len s el (relL_at rd) (Nat.le_refl _) (by simp only [maxLen]; omega) hdl (by rw [aFill_len hf, zeros_len, h1])).congr ?_
      have : ¬ (16777216 < len * s) := by omega
      simp [Instr.buildSlice, run_underlying hu, run_sizeOf hs, this, h0, hzr, hfd]
  · cases h

/-- make([]T, len, cap). -/
def aMakeSlice (P : Program) (t : TypeId) (l c : AV) (m : Mem) (n : Nat) : Option Eff :=
  match l, c with
  | .v (.int _ l), .v (.int _ c) => (isSl P t).bind fun e => (szOf P e).bind fun s => (zeroOf P e).bind fun z => ((P.info? e).map (·.bytes)).bind fun by_ =>
    if z.length = s ∧ 0 < s ∧ 0 ≤ l ∧ l ≤ c ∧ c ≤ 1099511627776 ∧ by_ ≤ 128 then some (.own n (verNext m n) 0 l.toNat s (.whole e), some (n, ⟨verNext m n, zeros l.toNat z⟩)) else none
  | _, _ => none
theorem aMakeSlice_sound {P : Program} {c : Ctx} {w0 : World} (M : MemOk c w0) {t : TypeId} {n : Nat} {x y : AV} {u v : Value} {e : Eff} (h : aMakeSlice P t x y c.m n = some e) (rx : Rel c x u) (ry : Rel c y v) : Good P c w0 (Instr.makeSlice t u v) e := by
  unfold aMakeSlice at h
  split at h
  · rename_i k1 l k2 cp
    obtain ⟨rfl, _⟩ := rx.inv_v
    obtain ⟨rfl, _⟩ := ry.inv_v
    obtain ⟨el, he, h⟩ := Option.bind_eq_some_iff.1 h
    obtain ⟨s, hs, h⟩ := Option.bind_eq_some_iff.1 h
    obtain ⟨z, hz, h⟩ := Option.bind_eq_some_iff.1 h
    obtain ⟨by_, hb, h⟩ := Option.bind_eq_some_iff.1 h
    split at h
    · rename_i hh
      obtain ⟨h1, h2, h3, h4, h5, h6⟩ := hh
      cases h
      obtain ⟨zv, hzr, rz, _⟩ := zeroOf_sound hz c
      have hu := isSl_some he
      have hzs : zv.cells.size = s := by have := rz.1; simp at this; omega
      obtain ⟨i, hi, rfl⟩ := Option.map_eq_some_iff.1 hb
      have hw1 : IntKind.i64.wrap l = l := by simp [IntKind.wrap, IntKind.signed, IntKind.bits]; omega
      have hw2 : IntKind.i64.wrap cp = cp := by simp [IntKind.wrap, IntKind.signed, IntKind.bits]; omega
      have hc : (cp.toNat : Int) = cp := by omega
      have hb1 : ¬ ((281474976710656 : Int) < (i.bytes : Int) * cp) := by
        have : (i.bytes : Int) * cp ≤ 128 * 1099511627776 := Int.mul_le_mul (by omega) (by omega) (by omega) (by omega)
        omega
      have hzx : ∀ (j : Nat) x, (zeros l.toNat z)[j]? = some x → ∃ y, ((Array.range (cp.toNat * s)).map (zv.cells[· % zv.cells.size]!))[j]? = some y ∧ Rel c x y := by
        have := zeros_rel rz l.toNat cp.toNat (by omega)
        rw [hzs] at this ⊢
        exact this
      have hg := good_slice (P := P) M n l.toNat cp.toNat s el hzx (by omega) (by simp only [maxLen]; omega) (by simp) (by rw [zeros_len, h1])
      refine hg.congr ?_
      have e1 : ¬ cp < 0 := by omega
      have e2 : ¬ l < 0 := by omega
      have e3 : ¬ cp < l := by omega
      by_cases h0 : cp.toNat * s = 0
      · have : cp.toNat = 0 := by
          rcases Nat.mul_eq_zero.1 h0 with h | h
          · exact h
          · omega
        simp [Instr.makeSlice, run_underlying hu, asInt, asIntOf, typeInfo, hi, hw1, hw2, hb1, e1, e2, e3, run_sizeOf hs, this, range0]
      · simp [Instr.makeSlice, run_underlying hu, asInt, asIntOf, typeInfo, hi, hw1, hw2, hb1, e1, e2, e3, run_sizeOf hs, h0, hzr]
    · cases h
  · cases h
end Go.Pm
