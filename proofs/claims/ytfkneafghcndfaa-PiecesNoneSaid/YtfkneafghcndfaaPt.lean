/- A machine of values: append to a slice that is full and of a block's whole; clear. -/
import Derived.Test.YtfkneafghcndfaaPi
import Derived.Lib.AppendZeros
namespace Go.Pm
open Go.RowKit
set_option linter.unusedVariables false
set_option linter.unusedSimpArgs false

theorem zeroCells_one (z : Value) (n : Nat) : (Builtin.zeroCells #[z] n).toList = List.replicate n z := by
  apply List.ext_getElem
  · simp [Builtin.zeroCells]
  · intro i h1 h2
    simp [Builtin.zeroCells, Nat.mod_one]
def aAppendFull (P : Program) (t t2 : TypeId) (n ver off len sz q : Nat) (x : AV) (m : Mem) : Option Eff :=
  (isSl P t).bind fun e => (szOf P e).bind fun z => (zeroOf P e).bind fun zl => ((P.info? e).map (·.bytes)).bind fun by_ => (slCells m x).bind fun ys =>
    match m n with
    | some k => if t2 = t ∧ zl.length = z ∧ 0 < z ∧ ys.1.length = ys.2 * z ∧ allOne ys.1 = true ∧ len + ys.2 ≤ 549755813888 ∧ by_ ≤ 128 ∧ ver = k.ver ∧ off = 0 ∧ sz = z ∧ q = len ∧ 0 < len ∧ 0 < ys.2 ∧ len * z ≤ k.cells.length then
        some (.own n (verNext m n) 0 (len + ys.2) z (.whole e), some (n, ⟨verNext m n, k.cells.take (len * z) ++ ys.1⟩)) else none
    | none => none
theorem aAppendFull_sound {P : Program} {c : Ctx} {w0 : World} (M : MemOk c w0) {t t2 ty : TypeId} {n ver off len sz q : Nat} {x : AV} {v u : Value} {e : Eff} (h : aAppendFull P t t2 n ver off len sz q x c.m = some e)
    (rs : Rel c (.own n ver off len sz (.known q)) v) (rx : Rel c x u) : Good P c w0 (Builtin.append_ #[t, t2] ty #[v, u]) e := by
  unfold aAppendFull at h
  obtain ⟨el, he, h1⟩ := Option.bind_eq_some_iff.1 h
  obtain ⟨z, hz, h2⟩ := Option.bind_eq_some_iff.1 h1
  obtain ⟨zl, hzl, h3⟩ := Option.bind_eq_some_iff.1 h2
  obtain ⟨by_, hby, h4⟩ := Option.bind_eq_some_iff.1 h3
  obtain ⟨⟨ys, m⟩, hys, h5⟩ := Option.bind_eq_some_iff.1 h4
  clear h h1 h2 h3 h4
  cases rs with
  | @own _ _ _ _ _ _ k sa scp hk hv hl hm hn ha =>
    rw [hk] at h5
    simp only at h5
    split at h5
    case isFalse => cases h5
    rename_i hh
    obtain ⟨rfl, hzlen, hz0, hyl, hone, hlen, hbyte, rfl, rfl, rfl, rfl, hpos, hmpos, hfit⟩ := hh
    obtain rfl := Option.some.inj h5
    clear h5
    have hu := isSl_some he
    obtain ⟨i, hi, rfl⟩ := Option.map_eq_some_iff.1 hby
    have hsz : i.size = sz := by unfold szOf at hz; rw [hi] at hz; simpa using hz
    obtain ⟨zv, hzr, rz, hzi⟩ := zeroOf_sound hzl c
    have hzero : i.zero = some zv := by rw [hi] at hzi; simpa using hzi
    have hzs : zv.cells.size = sz := by have := rz.1; simp at this; omega
    obtain ⟨a, cp, rfl, hk1, hcm, hnone, hcells⟩ := slCells_sound M hys rx
    obtain ⟨news, rnews, hnews⟩ := pick_list (Q := fun i z => ∃ b o, a = some ⟨b, o, none⟩ ∧ c.w.cell? ⟨b, o + i, none⟩ = some z) (fun i y hy => by obtain ⟨b, o, z, e1, e2, e3⟩ := hcells i y hy; exact ⟨z, ⟨b, o, e1, e2⟩, e3⟩)
    have hnl : news.length = m * i.size := by rw [← rnews.1, hyl, hsz]
    have hnews' : ∀ ad, a = some ad → ∀ (j : Nat) v, news[j]? = some v → c.w.cell? (ad.add j) = some v := fun ad had j v hj => by
      obtain ⟨b, o, e1, e2⟩ := hnews j v hj
      rw [had] at e1; cases e1
      rw [addr_add]; exact e2
    have hones := ones_of rnews hone
    have hprod : (q + m) * i.bytes ≤ 140737488355328 := by
      have : (q + m) * i.bytes ≤ 549755813888 * 128 := Nat.mul_le_mul hlen hbyte
      omega
    rcases ha rfl with ⟨_, h2, _⟩ | ⟨g, o, cs, tt, g1, rfl, g3, g4, g5, g6⟩
    · omega
    have g6 : scp = q := g6
    obtain rfl := g3 (by omega)
    have hcl : k.cells.length ≤ cs.size ∧ ∀ (i : Nat) x, k.cells[i]? = some x → ∃ y, cs[i]? = some y ∧ Rel c x y := by
      have hc := (M.row hk g1 g5).2
      have := cells_le (cs := cs.toList) (fun i x hx => by simpa using hc i x hx)
      exact ⟨by simpa using this, hc⟩
    have ro : RelL c (k.cells.take (q * sz)) (cs.toList.take (q * sz)) := by
      refine ⟨by simp; omega, fun i x hx => ?_⟩
      rw [List.getElem?_take] at hx ⊢
      split at hx
      · rename_i hlt
        rw [if_pos hlt]
        obtain ⟨y, e1, e2⟩ := hcl.2 i x hx
        exact ⟨y, by simpa using e1, e2⟩
      · cases hx
    have hol : (cs.toList.take (q * sz)).length = q * sz := by simp; omega
    have rapp := ro.append rnews
    cases a with
    | none => have := (hnone rfl).1; omega
    | some ad =>
      have hroom : ¬ q + m ≤ scp := by omega
      have hrun := run_append_grow (P := P) c.w t2 ty _ i zv hu hi hzero ⟨g, 0, none⟩ q scp (cs.toList.take (q * sz)) (by rw [hol, hsz]) (fun j v hj => by
          rw [addr_add, Nat.zero_add, cell_of_row _ _ _ _ _ _ g5]
          rw [List.getElem?_take] at hj
          split at hj
          · simpa using hj
          · cases hj) ad m cp news hnl (hnews' ad rfl) (by omega) (by omega) (growslice_fits (by omega) hprod)
      have hcap := grownCap_ge c.w (q + m) scp el
      have hcap2 : grownCap c.w (q + m) scp el ≤ maxLen := grownCap_le_maxLen _ _ _ _ (by simp only [maxLen]; omega)
      generalize grownCap c.w (q + m) scp el = cap at *
      obtain ⟨hle, hM⟩ := step (w' := c.w.drew.alloc (.cells ((cs.toList.take (q * sz)).toArray ++ news.toArray ++ Builtin.zeroCells zv.cells (cap - (q + m))) el)) M n ⟨verNext c.m n, k.cells.take (q * sz) ++ ys⟩ (some c.w.heap.size) rfl rfl rfl (by simp) (fun k hk => .inl (verNext_gt hk))
        (fun b hb _ => Below.heap_alloc _ _ _ hb) (fun k b cs' t hk e hb hh => absurd e (by have := verNext_gt hk; simp only; omega)) (fun e => by cases e) (fun g e => by
          cases e
          refine ⟨.inl (Nat.le_refl _), _, el, heap_alloc_new c.w.drew _, fun i x hx => ?_⟩
          obtain ⟨y, e1, e2⟩ := rapp.2 i x hx
          exact ⟨y, grown_get e1, e2⟩)
      refine ⟨_, _, _, hrun, hle, hM, .own (upd_eq _ _ _) (Nat.le_refl _) hcap hcap2 (fun e => by cases e) fun _ => .inr ⟨c.w.heap.size, 0, _, el, upd_eq _ _ _, rfl, fun _ => rfl, ?_, heap_alloc_new c.w.drew _, rfl, rfl, rfl, ?_⟩⟩
      · have e1 := rapp.1
        simp only [List.length_append] at e1 ⊢
        have : (q + m) * sz = q * sz + m * sz := Nat.add_mul ..
        have e2 := ro.1
        omega
      · have hzc : (Builtin.zeroCells zv.cells (cap - (q + m))).size = (cap - (q + m)) * sz := by rw [size_zeroCells, hzs]
        simp only [Array.size_append, List.size_toArray, hzc, hol, hnl, hsz]
        rw [← Nat.add_mul, ← Nat.add_mul]
        congr 1
        omega

def aAppendAt (P : Program) (t t2 : TypeId) (n ver off len sz q : Nat) (x : AV) (m : Mem) (site : Nat) : Option Eff :=
  (isSl P t).bind fun e => (szOf P e).bind fun z => (zeroOf P e).bind fun zl => ((P.info? e).map (·.bytes)).bind fun by_ => (slCells m x).bind fun ys =>
    match m n with
    | some k => if t2 = t ∧ zl.length = z ∧ 0 < z ∧ ys.1.length = ys.2 * z ∧ allOne ys.1 = true ∧ len + ys.2 ≤ 549755813888 ∧ by_ ≤ 128 ∧ ver = k.ver ∧ sz = z ∧ q = len ∧ 0 < len ∧ 0 < ys.2 ∧ off + len * z ≤ k.cells.length then
        some (.own site (verNext m site) 0 (len + ys.2) z (.whole e), some (site, ⟨verNext m site, (k.cells.drop off).take (len * z) ++ ys.1⟩)) else none
    | none => none
theorem aAppendAt_sound {P : Program} {c : Ctx} {w0 : World} (M : MemOk c w0) {t t2 ty : TypeId} {n ver off len sz q site : Nat} {x : AV} {v u : Value} {e : Eff} (h : aAppendAt P t t2 n ver off len sz q x c.m site = some e)
    (rs : Rel c (.own n ver off len sz (.known q)) v) (rx : Rel c x u) : Good P c w0 (Builtin.append_ #[t, t2] ty #[v, u]) e := by
  unfold aAppendAt at h
  obtain ⟨el, he, h1⟩ := Option.bind_eq_some_iff.1 h
  obtain ⟨z, hz, h2⟩ := Option.bind_eq_some_iff.1 h1
  obtain ⟨zl, hzl, h3⟩ := Option.bind_eq_some_iff.1 h2
  obtain ⟨by_, hby, h4⟩ := Option.bind_eq_some_iff.1 h3
  obtain ⟨⟨ys, m⟩, hys, h5⟩ := Option.bind_eq_some_iff.1 h4
  clear h h1 h2 h3 h4
  cases rs with
  | @own _ _ off _ _ _ k sa scp hk hv hl hm hn ha =>
    rw [hk] at h5
    simp only at h5
    split at h5
    case isFalse => cases h5
    rename_i hh
    obtain ⟨rfl, hzlen, hz0, hyl, hone, hlen, hbyte, rfl, rfl, rfl, hpos, hmpos, hfit⟩ := hh
    obtain rfl := Option.some.inj h5
    clear h5
    have hu := isSl_some he
    obtain ⟨i, hi, rfl⟩ := Option.map_eq_some_iff.1 hby
    have hsz : i.size = sz := by unfold szOf at hz; rw [hi] at hz; simpa using hz
    obtain ⟨zv, hzr, rz, hzi⟩ := zeroOf_sound hzl c
    have hzero : i.zero = some zv := by rw [hi] at hzi; simpa using hzi
    have hzs : zv.cells.size = sz := by have := rz.1; simp at this; omega
    obtain ⟨a, cp, rfl, hk1, hcm, hnone, hcells⟩ := slCells_sound M hys rx
    obtain ⟨news, rnews, hnews⟩ := pick_list (Q := fun i z => ∃ b o, a = some ⟨b, o, none⟩ ∧ c.w.cell? ⟨b, o + i, none⟩ = some z) (fun i y hy => by obtain ⟨b, o, z, e1, e2, e3⟩ := hcells i y hy; exact ⟨z, ⟨b, o, e1, e2⟩, e3⟩)
    have hnl : news.length = m * i.size := by rw [← rnews.1, hyl, hsz]
    have hnews' : ∀ ad, a = some ad → ∀ (j : Nat) v, news[j]? = some v → c.w.cell? (ad.add j) = some v := fun ad had j v hj => by
      obtain ⟨b, o, e1, e2⟩ := hnews j v hj
      rw [had] at e1; cases e1
      rw [addr_add]; exact e2
    have hones := ones_of rnews hone
    have hprod : (q + m) * i.bytes ≤ 140737488355328 := by
      have : (q + m) * i.bytes ≤ 549755813888 * 128 := Nat.mul_le_mul hlen hbyte
      omega
    rcases ha rfl with ⟨_, h2, _⟩ | ⟨g, o, cs, tt, g1, rfl, g3, g4, g5, g6⟩
    · omega
    have g6 : scp = q := g6
    obtain rfl := g3 (by omega)
    have hcl : k.cells.length ≤ cs.size ∧ ∀ (i : Nat) x, k.cells[i]? = some x → ∃ y, cs[i]? = some y ∧ Rel c x y := by
      have hc := (M.row hk g1 g5).2
      have := cells_le (cs := cs.toList) (fun i x hx => by simpa using hc i x hx)
      exact ⟨by simpa using this, hc⟩
    have ro : RelL c ((k.cells.drop o).take (q * sz)) ((cs.toList.drop o).take (q * sz)) := by
      refine ⟨by simp; omega, fun i x hx => ?_⟩
      rw [List.getElem?_take] at hx ⊢
      split at hx
      · rename_i hlt
        rw [if_pos hlt]
        rw [List.getElem?_drop] at hx ⊢
        obtain ⟨y, e1, e2⟩ := hcl.2 _ x hx
        exact ⟨y, by simpa using e1, e2⟩
      · cases hx
    have hol : ((cs.toList.drop o).take (q * sz)).length = q * sz := by simp; omega
    have rapp := ro.append rnews
    cases a with
    | none => have := (hnone rfl).1; omega
    | some ad =>
      have hroom : ¬ q + m ≤ scp := by omega
      have hrun := run_append_grow (P := P) c.w t2 ty _ i zv hu hi hzero ⟨g, o, none⟩ q scp ((cs.toList.drop o).take (q * sz)) (by rw [hol, hsz]) (fun j v hj => by
          rw [addr_add, cell_of_row _ _ _ _ _ _ g5]
          rw [List.getElem?_take] at hj
          split at hj
          · rw [List.getElem?_drop] at hj; simpa using hj
          · cases hj) ad m cp news hnl (hnews' ad rfl) (by omega) (by omega) (growslice_fits (by omega) hprod)
      have hcap := grownCap_ge c.w (q + m) scp el
      have hcap2 : grownCap c.w (q + m) scp el ≤ maxLen := grownCap_le_maxLen _ _ _ _ (by simp only [maxLen]; omega)
      generalize grownCap c.w (q + m) scp el = cap at *
      obtain ⟨hle, hM⟩ := step (w' := c.w.drew.alloc (.cells (((cs.toList.drop o).take (q * sz)).toArray ++ news.toArray ++ Builtin.zeroCells zv.cells (cap - (q + m))) el)) M site ⟨verNext c.m site, (k.cells.drop o).take (q * sz) ++ ys⟩ (some c.w.heap.size) rfl rfl rfl (by simp) (fun k hk => .inl (verNext_gt hk))
        (fun b hb _ => Below.heap_alloc _ _ _ hb) (fun k b cs' t hk e hb hh => absurd e (by have := verNext_gt hk; simp only; omega)) (fun e => by cases e) (fun g e => by
          cases e
          refine ⟨.inl (Nat.le_refl _), _, el, heap_alloc_new c.w.drew _, fun i x hx => ?_⟩
          obtain ⟨y, e1, e2⟩ := rapp.2 i x hx
          exact ⟨y, grown_get e1, e2⟩)
      refine ⟨_, _, _, hrun, hle, hM, .own (upd_eq _ _ _) (Nat.le_refl _) hcap hcap2 (fun e => by cases e) fun _ => .inr ⟨c.w.heap.size, 0, _, el, upd_eq _ _ _, rfl, fun _ => rfl, ?_, heap_alloc_new c.w.drew _, rfl, rfl, rfl, ?_⟩⟩
      · have e1 := rapp.1
        simp only [List.length_append] at e1 ⊢
        have : (q + m) * sz = q * sz + m * sz := Nat.add_mul ..
        have e2 := ro.1
        omega
      · have hzc : (Builtin.zeroCells zv.cells (cap - (q + m))).size = (cap - (q + m)) * sz := by rw [size_zeroCells, hzs]
        simp only [Array.size_append, List.size_toArray, hzc, hol, hnl, hsz]
        rw [← Nat.add_mul, ← Nat.add_mul]
        congr 1
        omega

/-- Append n zero values to nil. -/
def aAppZ (P : Program) (t t2 : TypeId) (n : Int) (m : Mem) (site : Nat) : Option Eff :=
  (isSl P t).bind fun e => (szOf P e).bind fun s => (zeroOf P e).bind fun z => ((P.info? e).map (·.bytes)).bind fun by_ => (isInt P t2).bind fun kn =>
    if z.length = s ∧ 0 < s ∧ 0 < n ∧ n ≤ 549755813888 ∧ by_ ≤ 128 then some (.own site (verNext m site) 0 n.toNat s (.whole e), some (site, ⟨verNext m site, zeros n.toNat z⟩)) else none
theorem aAppZ_sound {P : Program} {c : Ctx} {w0 : World} (M : MemOk c w0) {t t2 ty : TypeId} {k : IntKind} {n : Int} {site : Nat} {e : Eff} (h : aAppZ P t t2 n c.m site = some e) :
    Good P c w0 (Builtin.append_ #[t, t2] ty #[.slice none 0 0, .int k n]) e := by
  unfold aAppZ at h
  obtain ⟨el, he, h⟩ := Option.bind_eq_some_iff.1 h
  obtain ⟨s, hs, h⟩ := Option.bind_eq_some_iff.1 h
  obtain ⟨z, hz, h⟩ := Option.bind_eq_some_iff.1 h
  obtain ⟨by_, hb, h⟩ := Option.bind_eq_some_iff.1 h
  obtain ⟨kn, hkn, h⟩ := Option.bind_eq_some_iff.1 h
  split at h
  case isFalse => cases h
  rename_i hh
  obtain ⟨h1, h2, h3, h4, h5⟩ := hh
  cases h
  obtain ⟨zv, hzr, rz, hzi⟩ := zeroOf_sound hz c
  have hu := isSl_some he
  have hzs : zv.cells.size = s := by have := rz.1; simp at this; omega
  obtain ⟨i, hi, rfl⟩ := Option.map_eq_some_iff.1 hb
  have hsz : i.size = s := by unfold szOf at hs; rw [hi] at hs; simpa using hs
  have hzero : i.zero = some zv := by rw [hi] at hzi; simpa using hzi
  obtain ⟨N, rfl⟩ := Int.eq_ofNat_of_zero_le (show 0 ≤ n by omega)
  simp only [Int.toNat_natCast]
  have hprod : N * i.bytes ≤ 140737488355328 := by
    have : N * i.bytes ≤ 549755813888 * 128 := Nat.mul_le_mul (by omega) h5
    omega
  have hrun := Lib.run_append_nil_zeros (P := P) c.w t t2 ty el i zv k kn hu (isInt_some hkn) hi hzero N (by omega) (by omega) (by omega) (by omega)
  generalize hcap : grownCap c.w N 0 el = cap at hrun
  have hcap1 : N ≤ cap := by rw [← hcap]; exact grownCap_ge ..
  have hcap2 : cap ≤ maxLen := by rw [← hcap]; exact grownCap_le_maxLen _ _ _ _ (by simp only [maxLen]; omega)
  have hzc : ∀ q, (Builtin.zeroCells zv.cells q).size = q * s := fun q => by rw [size_zeroCells, hzs]
  have hcl : ∀ (j : Nat) x, (zeros N z)[j]? = some x → ∃ y, (Builtin.zeroCells zv.cells N ++ Builtin.zeroCells zv.cells (cap - N))[j]? = some y ∧ Rel c x y := fun j x hx => by
    obtain ⟨y, e1, e2⟩ := zeros_rel rz N N (Nat.le_refl _) j x hx
    have hlt := (zeros_get hx).1
    refine ⟨y, ?_, e2⟩
    rw [Array.getElem?_append_left (by rw [hzc, ← h1]; exact hlt)]
    exact e1
  obtain ⟨hle, hM⟩ := step (w' := c.w.drew.alloc (.cells (Builtin.zeroCells zv.cells N ++ Builtin.zeroCells zv.cells (cap - N)) el)) M site ⟨verNext c.m site, zeros N z⟩ (some c.w.heap.size) rfl rfl rfl (by simp) (fun k hk => .inl (verNext_gt hk))
    (fun b hb _ => Below.heap_alloc _ _ _ hb) (fun k b cs' t hk e hb hh => absurd e (by have := verNext_gt hk; simp only; omega)) (fun e => by cases e) (fun g e => by
      cases e
      exact ⟨.inl (Nat.le_refl _), _, el, heap_alloc_new c.w.drew _, hcl⟩)
  refine ⟨_, _, _, hrun, hle, hM, .own (upd_eq _ _ _) (Nat.le_refl _) hcap1 hcap2 (fun e => by cases e) fun _ => .inr ⟨c.w.heap.size, 0, _, el, upd_eq _ _ _, rfl, fun _ => rfl, ?_, heap_alloc_new c.w.drew _, rfl, rfl, rfl, ?_⟩⟩
  · simp only [zeros_len, h1]; omega
  · simp only [Array.size_append, hzc]
    rw [← Nat.add_mul]
    congr 1
    omega

/-- Append: to a full slice of known room, or as before. -/
def aApp (P : Program) (t t2 : TypeId) (s x : AV) (m : Mem) (site : Nat) : Option Eff :=
  match s with
  | .own n ver off len sz (.known q) => if off = 0 then aAppendFull P t t2 n ver off len sz q x m else aAppendAt P t t2 n ver off len sz q x m site
  | .own n ver off len sz (.whole e) => aAppend P t t2 (.own n ver off len sz (.whole e)) x m site
  | .v (.slice none 0 0) => match x with | .v (.int k i) => aAppZ P t t2 i m site | x => aAppend P t t2 (.v (.slice none 0 0)) x m site
  | .v y => aAppend P t t2 (.v y) x m site
  | _ => none
theorem aApp_sound {P : Program} {c : Ctx} {w0 : World} (M : MemOk c w0) {t t2 ty : TypeId} {site : Nat} {s x : AV} {v u : Value} {e : Eff} (h : aApp P t t2 s x c.m site = some e) (rs : Rel c s v) (rx : Rel c x u) :
    Good P c w0 (Builtin.append_ #[t, t2] ty #[v, u]) e := by
  cases s with
  | own n ver off len sz r => cases r with
    | known q =>
      simp only [aApp] at h
      split at h
      · exact aAppendFull_sound M h rs rx
      · exact aAppendAt_sound M h rs rx
    | whole e => exact aAppend_sound M h rs rx
    | unk => cases h
  | v y =>
    by_cases e : y = .slice none 0 0
    · subst e
      cases x with
      | v xv =>
        cases xv with
        | int k i =>
          obtain ⟨rfl, _⟩ := rs.inv_v
          obtain ⟨rfl, _⟩ := rx.inv_v
          exact aAppZ_sound M h
        | _ => exact aAppend_sound M h rs rx
      | _ => exact aAppend_sound M h rs rx
    · have : aApp P t t2 (.v y) x c.m site = aAppend P t t2 (.v y) x c.m site := by
        unfold aApp
        split <;> simp_all
      rw [this] at h
      exact aAppend_sound M h rs rx
  | _ => cases h

/-- Clear: a slice of one cell an element. -/
def aClear (P : Program) (t : TypeId) (d : AV) (m : Mem) : Option Eff :=
  (isSl P t).bind fun e => (zeroOf P e).bind fun zl =>
    match d with
    | .own n ver off len sz r => match m n with
      | some k => if ver = k.ver ∧ zl.length = 1 ∧ allOne zl = true ∧ 0 < len ∧ sz = 1 ∧ off + len ≤ k.cells.length then some (.tup [], some (n, ⟨ver, splice k.cells off (zeros len zl)⟩)) else none
      | none => none
    | _ => none
theorem aClear_sound {P : Program} {c : Ctx} {w0 : World} (M : MemOk c w0) {t ty : TypeId} {d : AV} {v : Value} {e : Eff} (h : aClear P t d c.m = some e) (rd : Rel c d v) : Good P c w0 (Builtin.clear_ #[t] ty #[v]) e := by
  unfold aClear at h
  obtain ⟨el, he, h1⟩ := Option.bind_eq_some_iff.1 h
  obtain ⟨zl, hzl, h2⟩ := Option.bind_eq_some_iff.1 h1
  clear h h1
  have hu := isSl_some he
  cases d with
  | own n ver off len sz rm =>
    cases rd with
    | @own _ _ _ _ _ _ k sa scp hk hv hl hm hn ha =>
      simp only [hk] at h2
      split at h2
      case isFalse => cases h2
      rename_i hh
      obtain ⟨rfl, hz1, hone, hpos, rfl, hfit⟩ := hh
      obtain rfl := Option.some.inj h2
      clear h2
      obtain ⟨zv, hzr, rz, hzi⟩ := zeroOf_sound hzl c
      match zl, hz1 with
      | [zc], _ =>
      obtain ⟨z0, hz0⟩ : ∃ z0, zv.cells = #[z0] := by
        have hs : zv.cells.size = 1 := by have := rz.1; simpa using this.symm
        exact ⟨zv.cells[0], by apply Array.ext <;> simp [hs]; intro i hi; obtain rfl : i = 0 := by omega
                               rfl⟩
      rcases ha rfl with ⟨_, h2, _⟩ | ⟨g, o, cs, tt, g1, rfl, g3, g4, g5, g6⟩
      · omega
      obtain rfl := g3 (by omega)
      have hcl : ∀ (i : Nat) x, k.cells[i]? = some x → ∃ y, cs[i]? = some y ∧ Rel c x y := by
        exact (M.row hk g1 g5).2
      have rzc : Rel c zc z0 := by
        rw [hz0] at rz
        obtain ⟨y, l, e1, r1, _⟩ := rz.inv_cons
        simp at e1
        rw [e1.1]; exact r1
      have rt : RelL c (zeros len [zc]) (List.replicate len z0) := by
        refine ⟨by simp [zeros], fun i x hx => ?_⟩
        simp only [zeros] at hx
        rw [List.getElem?_replicate] at hx ⊢
        split at hx
        · rename_i hlt
          cases hx
          exact ⟨z0, by rw [if_pos hlt], rzc⟩
        · cases hx
      have hzo : z0.oneCell' = true := rzc.one (by simpa [allOne] using hone)
      have hlz : (zeros len [zc]).length = len := by simp [zeros]
      obtain ⟨hle, hM⟩ := step_row (o := o) M hk g1 g5 hcl rt (by rw [hlz]; omega)
      have hcc := cells_le (cs := cs.toList) (fun i x hx => by simpa using hcl i x hx)
      have hst := run_storeCells_at P g o tt (List.replicate len z0) 0 cs c.w g5 (by simp at hcc ⊢; omega) (fun z hz => by rw [(List.mem_replicate.1 hz).2]; exact hzo)
      simp only [Nat.add_zero] at hst
      have hzc : (Builtin.zeroCells zv.cells len).toList = List.replicate len z0 := by rw [hz0]; exact zeroCells_one z0 len
      refine ⟨.tuple #[], _, c.ι, ?_, hle, hM, .tup (fun _ => default) rfl (fun i x h => by simp at h) (fun i x h => by simp at h)⟩
      have hst' : (storeCells ⟨g, o, none⟩ (List.replicate len z0)).run P c.w = .ok () (c.w.setRow g (splice cs.toList o (List.replicate len z0)).toArray) := hst
      match len, hpos with
      | l + 1, _ => simp [Builtin.clear_, run_underlying hu, hzr, hzc, hst']
  | _ => cases h2
end Go.Pm
