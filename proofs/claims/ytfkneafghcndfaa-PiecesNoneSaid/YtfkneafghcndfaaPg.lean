/- A machine of values: append, copy, len. -/
import Derived.Test.YtfkneafghcndfaaPf
namespace Go.Pm
open Go.RowKit
set_option linter.unusedVariables false
set_option linter.unusedSimpArgs false

theorem pick_list {c : Ctx} {xs : List AV} {Q : Nat → Value → Prop} (h : ∀ (i : Nat) y, xs[i]? = some y → ∃ z, Q i z ∧ Rel c y z) : ∃ zs : List Value, RelL c xs zs ∧ ∀ (i : Nat) z, zs[i]? = some z → Q i z := by
  have hl : ∀ i, ∃ z : Value, ∀ y, xs[i]? = some y → Q i z ∧ Rel c y z := fun i => by
    cases e : xs[i]? with
    | none => exact ⟨default, fun y h => by cases h⟩
    | some y => obtain ⟨z, h1, h2⟩ := h i y e; exact ⟨z, fun y' h => by cases h; exact ⟨h1, h2⟩⟩
  let f : Nat → Value := fun i => Classical.choose (hl i)
  have hf : ∀ i y, xs[i]? = some y → Q i (f i) ∧ Rel c y (f i) := fun i => Classical.choose_spec (hl i)
  refine ⟨(List.range xs.length).map f, ⟨by simp, fun i x hx => ?_⟩, fun i z hz => ?_⟩
  · have hi := (List.getElem?_eq_some_iff.1 hx).1
    exact ⟨f i, by simp [hi], (hf i x hx).2⟩
  · rw [List.getElem?_map] at hz
    cases e : (List.range xs.length)[i]? with
    | none => rw [e] at hz; cases hz
    | some j =>
      rw [e] at hz; cases hz
      obtain ⟨hlt, rfl⟩ := List.getElem?_eq_some_iff.1 e
      simp at hlt
      simp only [List.getElem_range]
      exact (hf i _ (List.getElem?_eq_getElem hlt)).1

theorem ones_of {c : Ctx} {xs : List AV} {zs : List Value} (r : RelL c xs zs) (h : xs.all AV.one = true) : ∀ z ∈ zs, z.oneCell' = true := by
  intro z hz
  obtain ⟨i, hi⟩ := List.mem_iff_getElem?.1 hz
  obtain ⟨hi1, _⟩ := List.getElem?_eq_some_iff.1 hi
  obtain ⟨z', e1, e2⟩ := r.2 i _ (List.getElem?_eq_getElem (by rw [r.1]; exact hi1))
  rw [hi] at e1; cases e1
  exact e2.one (List.all_eq_true.1 h _ (List.getElem_mem _))

/-- A slice that may be appended to: its name (the place's, if it is nil), its cells, its length. -/
def appBase (m : Mem) (site : Nat) (e z : Nat) : AV → Option (Nat × List AV × Nat)
  | .own n ver off len sz (.whole e') => match m n with
    | some k => if ver = k.ver ∧ off = 0 ∧ e' = e ∧ sz = z ∧ len * sz ≤ k.cells.length then some (n, k.cells.take (len * sz), len) else none
    | none => none
  | .v (.slice a n q) => if a.isNone = true ∧ n = 0 ∧ q = 0 then some (site, [], 0) else none
  | _ => none

def aAppend (P : Program) (t t2 : TypeId) (s x : AV) (m : Mem) (site : Nat) : Option Eff :=
  (isSl P t).bind fun e => (szOf P e).bind fun z => (zeroOf P e).bind fun zl => ((P.info? e).map (·.bytes)).bind fun by_ => (slCells m x).bind fun ys => (appBase m site e z s).bind fun b =>
    if t2 = t ∧ zl.length = z ∧ 0 < z ∧ ys.1.length = ys.2 * z ∧ allOne ys.1 = true ∧ b.2.2 + ys.2 ≤ 549755813888 ∧ by_ ≤ 128 then
      some (.own b.1 (verNext m b.1) 0 (b.2.2 + ys.2) z (.whole e), some (b.1, ⟨verNext m b.1, b.2.1 ++ ys.1⟩)) else none

theorem grown_get {xs ys : List Value} {zc : Array Value} : ∀ {i : Nat} {y : Value}, (xs ++ ys)[i]? = some y → (xs.toArray ++ ys.toArray ++ zc)[i]? = some y := by
  intro i y h
  have : (xs.toArray ++ ys.toArray ++ zc)[i]? = (xs ++ ys ++ zc.toList)[i]? := by
    rw [← Array.getElem?_toList]; simp
  rw [this, List.getElem?_append_left]
  · exact h
  · exact (List.getElem?_eq_some_iff.1 h).1

theorem aAppend_sound {P : Program} {c : Ctx} {w0 : World} (M : MemOk c w0) {t t2 ty : TypeId} {site : Nat} {s x : AV} {v u : Value} {e : Eff} (h : aAppend P t t2 s x c.m site = some e) (rs : Rel c s v) (rx : Rel c x u) :
    Good P c w0 (Builtin.append_ #[t, t2] ty #[v, u]) e := by
  unfold aAppend at h
  obtain ⟨el, he, h1⟩ := Option.bind_eq_some_iff.1 h
  obtain ⟨z, hz, h2⟩ := Option.bind_eq_some_iff.1 h1
  obtain ⟨zl, hzl, h3⟩ := Option.bind_eq_some_iff.1 h2
  obtain ⟨by_, hby, h4⟩ := Option.bind_eq_some_iff.1 h3
  obtain ⟨⟨ys, m⟩, hys, h5⟩ := Option.bind_eq_some_iff.1 h4
  obtain ⟨⟨n, os, len⟩, hb, h6⟩ := Option.bind_eq_some_iff.1 h5
  clear h h1 h2 h3 h4 h5
  split at h6
  case isFalse => cases h6
  rename_i hh
  obtain ⟨rfl, hzlen, hz0, hyl, hone, hlen, hbyte⟩ := hh
  obtain rfl := Option.some.inj h6
  clear h6
  simp only at hyl hlen hone ⊢
  have hu := isSl_some he
  obtain ⟨i, hi, rfl⟩ := Option.map_eq_some_iff.1 hby
  have hsz : i.size = z := by unfold szOf at hz; rw [hi] at hz; simpa using hz
  obtain ⟨zv, hzr, rz, hzi⟩ := zeroOf_sound hzl c
  have hzero : i.zero = some zv := by rw [hi] at hzi; simpa using hzi
  have hzs : zv.cells.size = z := by have := rz.1; simp at this; omega
  obtain ⟨a, cp, rfl, hk, hcm, hnone, hcells⟩ := slCells_sound M hys rx
  -- the values that come
  obtain ⟨news, rnews, hnews⟩ := pick_list (Q := fun i z => ∃ b o, a = some ⟨b, o, none⟩ ∧ c.w.cell? ⟨b, o + i, none⟩ = some z) (fun i y hy => by obtain ⟨b, o, z, e1, e2, e3⟩ := hcells i y hy; exact ⟨z, ⟨b, o, e1, e2⟩, e3⟩)
  have hnl : news.length = m * i.size := by rw [← rnews.1, hyl, hsz]
  have hnews' : ∀ ad, a = some ad → ∀ (j : Nat) v, news[j]? = some v → c.w.cell? (ad.add j) = some v := fun ad had j v hj => by
    obtain ⟨b, o, e1, e2⟩ := hnews j v hj
    rw [had] at e1; cases e1
    rw [addr_add]; exact e2
  have hones := ones_of rnews hone
  have hprod : (len + m) * i.bytes ≤ 140737488355328 := by
    have : (len + m) * i.bytes ≤ 549755813888 * 128 := Nat.mul_le_mul hlen hbyte
    omega
  -- a new block
  have fresh : ∀ (olds : List Value) (cap : Nat) (w1 : World), RelL c os olds → len + m ≤ cap → cap ≤ maxLen → olds.length = len * z →
      w1 = c.w.drew.alloc (.cells (olds.toArray ++ news.toArray ++ Builtin.zeroCells zv.cells (cap - (len + m))) el) → 
      (Builtin.append_ #[t2, t2] ty #[v, .slice a m cp]).run P c.w = .ok (.slice (some ⟨c.w.heap.size, 0, none⟩) (len + m) cap) w1 →
      Good P c w0 (Builtin.append_ #[t2, t2] ty #[v, .slice a m cp]) (.own n (verNext c.m n) 0 (len + m) z (.whole el), some (n, ⟨verNext c.m n, os ++ ys⟩)) := by
    intro olds cap w1 ro hcap hcap2 hol hw1 hrun
    subst hw1
    have rapp := ro.append rnews
    obtain ⟨hle, hM⟩ := step (w' := c.w.drew.alloc (.cells (olds.toArray ++ news.toArray ++ Builtin.zeroCells zv.cells (cap - (len + m))) el)) M n ⟨verNext c.m n, os ++ ys⟩ (some c.w.heap.size) rfl rfl rfl (by simp) (fun k hk => .inl (verNext_gt hk))
      (fun b hb _ => Below.heap_alloc _ _ _ hb) (fun k b cs' t hk e hb hh => absurd e (by have := verNext_gt hk; simp only; omega)) (fun e => by cases e) (fun g e => by
        cases e
        refine ⟨.inl (Nat.le_refl _), _, el, heap_alloc_new c.w.drew _, fun i x hx => ?_⟩
        obtain ⟨y, e1, e2⟩ := rapp.2 i x hx
        exact ⟨y, grown_get e1, e2⟩)
    refine ⟨_, _, _, hrun, hle, hM, .own (upd_eq _ _ _) (Nat.le_refl _) hcap hcap2 (fun e => by cases e) fun _ => .inr ⟨c.w.heap.size, 0, _, el, upd_eq _ _ _, rfl, fun _ => rfl, ?_, heap_alloc_new c.w.drew _, rfl, rfl, rfl, ?_⟩⟩
    · have e1 := rapp.1
      simp only [List.length_append] at e1 ⊢
      have : (len + m) * z = len * z + m * z := Nat.add_mul ..
      have e2 := ro.1
      omega
    · have hzc : (Builtin.zeroCells zv.cells (cap - (len + m))).size = (cap - (len + m)) * z := by rw [size_zeroCells, hzs]
      simp only [Array.size_append, List.size_toArray, hzc, hol, hnl, hsz]
      rw [← Nat.add_mul, ← Nat.add_mul]
      congr 1
      omega
  cases s with
  | own nm ver off ln sz rm =>
    cases rm with
    | whole e' =>
      cases rs with
      | @own _ _ _ _ _ _ k sa scp hk' hv hl hm hn ha =>
        simp only [appBase, hk'] at hb
        split at hb
        case isFalse => cases hb
        rename_i hh
        obtain ⟨rfl, rfl, rfl, rfl, hfit⟩ := hh
        simp only [Option.some.injEq, Prod.mk.injEq] at hb
        obtain ⟨rfl, rfl, rfl⟩ := hb
        rcases ha rfl with ⟨rfl, rfl, rfl, h4, _⟩ | ⟨g, o, cs, tt, g1, rfl, g3, g4, g5, g6, g7, rfl, g8⟩
        · -- nil
          have hos : k.cells.take (0 * sz) = [] := by simp
          rw [hos] at fresh ⊢
          rcases Nat.eq_zero_or_pos m with hm0 | hm0
          · subst hm0
            have hyn : ys = [] := List.eq_nil_of_length_eq_zero (by simpa using hyl)
            subst hyn
            have hnn : news = [] := by simpa using rnews.inv_nil
            have hrun : (Builtin.append_ #[t2, t2] ty #[.slice none 0 0, .slice a 0 cp]).run P c.w = .ok (.slice none 0 0) c.w := by
              cases a with
              | none => simp [Builtin.append_, run_underlying hu, sizeOf, typeInfo, hi, Builtin.lenOf, Builtin.firstCells]
              | some ad =>
                have hf := run_firstCells_some (P := P) c.w i.size 0 ad 0 cp [] (by simp) (by simp)
                simp [Builtin.append_, run_underlying hu, sizeOf, typeInfo, hi, Builtin.lenOf, hf]
            obtain ⟨hle, hM⟩ := step (w' := c.w) M nm ⟨verNext c.m nm, []⟩ none rfl rfl rfl (Nat.le_refl _) (fun k hk => .inl (verNext_gt hk)) (fun b hb _ => rfl)
              (fun k b cs' t hk e hb hh => absurd e (by have := verNext_gt hk; simp only; omega)) (fun _ => rfl) (fun g e => by cases e)
            exact ⟨_, _, _, hrun, hle, hM, .own (upd_eq _ _ _) (Nat.le_refl _) (Nat.le_refl _) (by simp [maxLen]) (fun _ => rfl) fun _ => .inl ⟨rfl, rfl, rfl, rfl, rfl⟩⟩
          · cases a with
            | none => have := (hnone rfl).1; omega
            | some ad =>
              simp only [Nat.zero_add] at fresh hprod hlen ⊢
              have hrun := run_append_nil (P := P) c.w t2 ty e' i zv hu hi hzero ad m cp news hnl (hnews' ad rfl) hm0 (by omega) (by omega)
              exact fresh [] (grownCap c.w m 0 e') _ (.nil c) (grownCap_ge ..) (grownCap_le_maxLen _ _ _ _ (by simp only [maxLen]; omega)) (by simp) (by simp) hrun
        · -- a block
          have hcl : k.cells.length ≤ cs.size ∧ ∀ (i : Nat) x, k.cells[i]? = some x → ∃ y, cs[i]? = some y ∧ Rel c x y := by
            · have hc := (M.row hk' g1 g5).2
              have := cells_le (cs := cs.toList) (fun i x hx => by simpa using hc i x hx)
              exact ⟨by simpa using this, hc⟩
          obtain rfl := g7
          have ro : RelL c (k.cells.take (ln * sz)) (cs.toList.take (ln * sz)) := by
            refine ⟨by simp; omega, fun i x hx => ?_⟩
            rw [List.getElem?_take] at hx ⊢
            split at hx
            · rename_i hlt
              rw [if_pos hlt]
              obtain ⟨y, e1, e2⟩ := hcl.2 i x hx
              exact ⟨y, by simpa using e1, e2⟩
            · cases hx
          have hol : (cs.toList.take (ln * sz)).length = ln * sz := by simp; omega
          have rapp := ro.append rnews
          cases a with
          | none =>
            obtain ⟨rfl, rfl⟩ := hnone rfl
            have hyn : ys = [] := List.eq_nil_of_length_eq_zero (by simpa using hyl)
            subst hyn
            have hrun : (Builtin.append_ #[t2, t2] ty #[.slice (some ⟨g, 0, none⟩) ln scp, .slice none 0 0]).run P c.w = .ok (.slice (some ⟨g, 0, none⟩) ln scp) c.w := by
              simp [Builtin.append_, run_underlying hu, sizeOf, typeInfo, hi, Builtin.lenOf, Builtin.firstCells, hl, storeCells]
            obtain ⟨hle, hM⟩ := step (w' := c.w) M nm ⟨verNext c.m nm, k.cells.take (ln * sz) ++ []⟩ (some g) rfl rfl rfl (Nat.le_refl _) (fun k hk => .inl (verNext_gt hk)) (fun b hb _ => rfl)
              (fun k b cs' t hk e hb hh => absurd e (by have := verNext_gt hk; simp only; omega)) (fun e => by cases e) (fun g' e => by
                cases e
                refine ⟨.inr ⟨g1, k, hk'⟩, cs, _, g5, fun i x hx => ?_⟩
                rw [List.append_nil, List.getElem?_take] at hx
                split at hx
                · exact hcl.2 i x hx
                · cases hx)
            refine ⟨_, _, _, hrun, hle, hM, .own (upd_eq _ _ _) (Nat.le_refl _) (by simpa using hl) hm (fun e => by cases e) fun _ => .inr ⟨g, 0, cs, _, upd_eq _ _ _, rfl, fun _ => rfl, ?_, g5, rfl, rfl, rfl, g8⟩⟩
            simp
            omega
          | some ad =>
            by_cases hroom : ln + m ≤ scp
            · have hfit2 : ln * i.size + news.length ≤ cs.size := by
                rw [hnl, hsz, ← Nat.add_mul, g8]; exact Nat.mul_le_mul_right _ hroom
              have hrun := run_append_room (P := P) c.w t2 ty _ i hu hi g ln scp cs g5 ad m cp news hnl (hnews' ad rfl) hones hroom hfit2
              rw [hsz] at hrun hfit2
              have hsize : (cs.toList.take (ln * sz) ++ news ++ cs.toList.drop (ln * sz + news.length)).length = cs.size := by simp; omega
              obtain ⟨hle, hM⟩ := step (w' := c.w.setRow g (cs.toList.take (ln * sz) ++ news ++ cs.toList.drop (ln * sz + news.length)).toArray) M nm ⟨verNext c.m nm, k.cells.take (ln * sz) ++ ys⟩ (some g) rfl rfl rfl (by simp) (fun k hk => .inl (verNext_gt hk))
                (fun b hb hne => setRow_other c.w g b _ (fun e => hne k hk' (by rw [g1, e])))
                (fun k b cs' t hk e hb hh => absurd e (by have := verNext_gt hk; simp only; omega)) (fun e => by cases e) (fun g' e => by
                  cases e
                  refine ⟨.inr ⟨g1, k, hk'⟩, _, _, setRow_heap c.w g cs _ _ _ g5, fun i x hx => ?_⟩
                  obtain ⟨y, e1, e2⟩ := rapp.2 i x hx
                  refine ⟨y, ?_, e2⟩
                  rw [List.getElem?_toArray, List.getElem?_append_left]
                  · exact e1
                  · exact (List.getElem?_eq_some_iff.1 e1).1)
              refine ⟨_, _, _, hrun, hle, hM, .own (upd_eq _ _ _) (Nat.le_refl _) hroom hm (fun e => by cases e) fun _ => .inr ⟨g, 0, _, _, upd_eq _ _ _, rfl, fun _ => rfl, ?_, setRow_heap c.w g cs _ _ _ g5, rfl, rfl, rfl, ?_⟩⟩
              · have e1 := rapp.1
                simp only [List.length_append] at e1 ⊢
                have : (ln + m) * sz = ln * sz + m * sz := Nat.add_mul ..
                have e2 := ro.1
                omega
              · simp only [List.size_toArray]
                omega
            · have hrun := run_append_grow (P := P) c.w t2 ty _ i zv hu hi hzero ⟨g, 0, none⟩ ln scp (cs.toList.take (ln * sz)) (by rw [hol, hsz]) (fun j v hj => by
                  rw [addr_add, Nat.zero_add, cell_of_row _ _ _ _ _ _ g5]
                  rw [List.getElem?_take] at hj
                  split at hj
                  · simpa using hj
                  · cases hj) ad m cp news hnl (hnews' ad rfl) (by omega) (by omega) (growslice_fits (by omega) hprod)
              exact fresh _ (grownCap c.w (ln + m) scp _) _ ro (grownCap_ge ..) (grownCap_le_maxLen _ _ _ _ (by simp only [maxLen]; omega)) hol rfl hrun
    | known => simp [appBase] at hb
    | unk => simp [appBase] at hb
  | v y =>
    obtain ⟨rfl, _⟩ := rs.inv_v
    cases v with
    | slice sa sn sq =>
      simp only [appBase] at hb
      split at hb
      case isFalse => cases hb
      rename_i hh
      obtain ⟨e1, rfl, rfl⟩ := hh
      obtain rfl : sa = none := by simpa using e1
      simp only [Option.some.injEq, Prod.mk.injEq] at hb
      obtain ⟨rfl, rfl, rfl⟩ := hb
      rcases Nat.eq_zero_or_pos m with hm0 | hm0
      · subst hm0
        have hyn : ys = [] := List.eq_nil_of_length_eq_zero (by simpa using hyl)
        subst hyn
        have hrun : (Builtin.append_ #[t2, t2] ty #[.slice none 0 0, .slice a 0 cp]).run P c.w = .ok (.slice none 0 0) c.w := by
          cases a with
          | none => simp [Builtin.append_, run_underlying hu, sizeOf, typeInfo, hi, Builtin.lenOf, Builtin.firstCells]
          | some ad =>
            have hf := run_firstCells_some (P := P) c.w i.size 0 ad 0 cp [] (by simp) (by simp)
            simp [Builtin.append_, run_underlying hu, sizeOf, typeInfo, hi, Builtin.lenOf, hf]
        obtain ⟨hle, hM⟩ := step (w' := c.w) M site ⟨verNext c.m site, []⟩ none rfl rfl rfl (Nat.le_refl _) (fun k hk => .inl (verNext_gt hk)) (fun b hb _ => rfl)
          (fun k b cs' t hk e hb hh => absurd e (by have := verNext_gt hk; simp only; omega)) (fun _ => rfl) (fun g e => by cases e)
        exact ⟨_, _, _, hrun, hle, hM, .own (upd_eq _ _ _) (Nat.le_refl _) (Nat.le_refl _) (by simp [maxLen]) (fun _ => rfl) fun _ => .inl ⟨rfl, rfl, rfl, rfl, rfl⟩⟩
      · cases a with
        | none => have := (hnone rfl).1; omega
        | some ad =>
          simp only [Nat.zero_add] at fresh hprod hlen ⊢
          have hrun := run_append_nil (P := P) c.w t2 ty el i zv hu hi hzero ad m cp news hnl (hnews' ad rfl) hm0 (by omega) (by omega)
          exact fresh [] (grownCap c.w m 0 el) _ (.nil c) (grownCap_ge ..) (grownCap_le_maxLen _ _ _ _ (by simp only [maxLen]; omega)) (by simp) (by simp) hrun
    | _ => simp [appBase] at hb
  | _ => simp [appBase] at hb
end Go.Pm
