import Derived.Test.YtmdafjegddnecaaMa
import Derived.ChangeKeysEq
import Derived.Laws.StructEq
import Derived.Laws.BytesString
/- A machine of values: append, copy, len. -/
namespace Go.Pm
open Go.RowKit
set_option linter.unusedVariables false
set_option linter.unusedSimpArgs false

theorem pick_list {c : Ctx} {xs : List AV} {Q : Nat → Value → Prop} (h : ∀ (i : Nat) y, xs[i]? = some y → ∃ z, Q i z ∧ Rel c y z) : ∃ zs : List Value, RelL c xs zs ∧ ∀ (i : Nat) z, zs[i]? = some z → Q i z := by
  have hl : ∀ i, ∃ z : Value, ∀ y, xs[i]? = some y → Q i z ∧ Rel c y z := fun i => by
    cases e : xs[i]? with
    | none => exact ⟨default, fun y h => by cases h⟩
    | some y => obtain ⟨z, h1, h2⟩ := h i y e; exact ⟨z, fun y' h => by cases h; exact ⟨h1, h2⟩⟩
  let f : Nat → Value := fun i => Classical.choose (hl i)
  have hf : ∀ i y, xs[i]? = some y → Q i (f i) ∧ Rel c y (f i) := fun i => Classical.choose_spec (hl i)
  refine ⟨(List.range xs.length).map f, ⟨by simp, fun i x hx => ?_⟩, fun i z hz => ?_⟩
  · have hi := (List.getElem?_eq_some_iff.1 hx).1
    exact ⟨f i, by simp [hi], (hf i x hx).2⟩
  · rw [List.getElem?_map] at hz
    cases e : (List.range xs.length)[i]? with
    | none => rw [e] at hz; cases hz
    | some j =>
      rw [e] at hz; cases hz
      obtain ⟨hlt, rfl⟩ := List.getElem?_eq_some_iff.1 e
      simp at hlt
      simp only [List.getElem_range]
      exact (hf i _ (List.getElem?_eq_getElem hlt)).1

theorem ones_of {c : Ctx} {xs : List AV} {zs : List Value} (r : RelL c xs zs) (h : xs.all AV.one = true) : ∀ z ∈ zs, z.oneCell' = true := by
  intro z hz
  obtain ⟨i, hi⟩ := List.mem_iff_getElem?.1 hz
  obtain ⟨hi1, _⟩ := List.getElem?_eq_some_iff.1 hi
  obtain ⟨z', e1, e2⟩ := r.2 i _ (List.getElem?_eq_getElem (by rw [r.1]; exact hi1))
  rw [hi] at e1; cases e1
  exact e2.one (List.all_eq_true.1 h _ (List.getElem_mem _))

/-- A slice that may be appended to: its name (the place's, if it is nil), its cells, its length. -/
def appBase (m : Mem) (site : Nat) (e z : Nat) : AV → Option (Nat × List AV × Nat)
  | .own n ver off len sz (.whole e') => match m n with
    | some k => if ver = k.ver ∧ off = 0 ∧ e' = e ∧ sz = z ∧ len * sz ≤ k.cells.length then some (n, k.cells.take (len * sz), len) else none
    | none => none
  | .v (.slice a n q) => if a.isNone = true ∧ n = 0 ∧ q = 0 then some (site, [], 0) else none
  | _ => none

def aAppend (P : Program) (t t2 : TypeId) (s x : AV) (m : Mem) (site : Nat) : Option Eff :=
  (isSl P t).bind fun e => (szOf P e).bind fun z => (zeroOf P e).bind fun zl => ((P.info? e).map (·.bytes)).bind fun by_ => (slCells m x).bind fun ys => (appBase m site e z s).bind fun b =>
    if t2 = t ∧ zl.length = z ∧ 0 < z ∧ ys.1.length = ys.2 * z ∧ allOne ys.1 = true ∧ b.2.2 + ys.2 ≤ 549755813888 ∧ by_ ≤ 128 then
      some (.own b.1 (verNext m b.1) 0 (b.2.2 + ys.2) z (.whole e), some (b.1, ⟨verNext m b.1, b.2.1 ++ ys.1⟩)) else none

theorem grown_get {xs ys : List Value} {zc : Array Value} : ∀ {i : Nat} {y : Value}, (xs ++ ys)[i]? = some y → (xs.toArray ++ ys.toArray ++ zc)[i]? = some y := by
  intro i y h
  have : (xs.toArray ++ ys.toArray ++ zc)[i]? = (xs ++ ys ++ zc.toList)[i]? := by
    rw [← Array.getElem?_toList]; simp
  rw [this, List.getElem?_append_left]
  · exact h
  · exact (List.getElem?_eq_some_iff.1 h).1

theorem aAppend_sound {P : Program} {c : Ctx} {w0 : World} (M : MemOk c w0) {t t2 ty : TypeId} {site : Nat} {s x : AV} {v u : Value} {e : Eff} (h : aAppend P t t2 s x c.m site = some e) (rs : Rel c s v) (rx : Rel c x u) :
    Good P c w0 (Builtin.append_ #[t, t2] ty #[v, u]) e := by
  unfold aAppend at h
  obtain ⟨el, he, h1⟩ := Option.bind_eq_some_iff.1 h
  obtain ⟨z, hz, h2⟩ := Option.bind_eq_some_iff.1 h1
  obtain ⟨zl, hzl, h3⟩ := Option.bind_eq_some_iff.1 h2
  obtain ⟨by_, hby, h4⟩ := Option.bind_eq_some_iff.1 h3
  obtain ⟨⟨ys, m⟩, hys, h5⟩ := Option.bind_eq_some_iff.1 h4
  obtain ⟨⟨n, os, len⟩, hb, h6⟩ := Option.bind_eq_some_iff.1 h5
  clear h h1 h2 h3 h4 h5
  split at h6
  case isFalse => cases h6
  rename_i hh
  obtain ⟨rfl, hzlen, hz0, hyl, hone, hlen, hbyte⟩ := hh
  obtain rfl := Option.some.inj h6
  clear h6
  simp only at hyl hlen hone ⊢
  have hu := isSl_some he
  obtain ⟨i, hi, rfl⟩ := Option.map_eq_some_iff.1 hby
  have hsz : i.size = z := by unfold szOf at hz; rw [hi] at hz; simpa using hz
  obtain ⟨zv, hzr, rz, hzi⟩ := zeroOf_sound hzl c
  have hzero : i.zero = some zv := by rw [hi] at hzi; simpa using hzi
  have hzs : zv.cells.size = z := by have := rz.1; simp at this; omega
  obtain ⟨a, cp, rfl, hk, hcm, hnone, hcells⟩ := slCells_sound M hys rx
  -- the values that come
  obtain ⟨news, rnews, hnews⟩ := pick_list (Q := fun i z => ∃ b o, a = some ⟨b, o, none⟩ ∧ c.w.cell? ⟨b, o + i, none⟩ = some z) (fun i y hy => by obtain ⟨b, o, z, e1, e2, e3⟩ := hcells i y hy; exact ⟨z, ⟨b, o, e1, e2⟩, e3⟩)
  have hnl : news.length = m * i.size := by rw [← rnews.1, hyl, hsz]
  have hnews' : ∀ ad, a = some ad → ∀ (j : Nat) v, news[j]? = some v → c.w.cell? (ad.add j) = some v := fun ad had j v hj => by
    obtain ⟨b, o, e1, e2⟩ := hnews j v hj
    rw [had] at e1; cases e1
    rw [addr_add]; exact e2
  have hones := ones_of rnews hone
  have hprod : (len + m) * i.bytes ≤ 140737488355328 := by
    have : (len + m) * i.bytes ≤ 549755813888 * 128 := Nat.mul_le_mul hlen hbyte
    omega
  -- a new block
  have fresh : ∀ (olds : List Value) (cap : Nat) (w1 : World), RelL c os olds → len + m ≤ cap → cap ≤ maxLen → olds.length = len * z →
      w1 = c.w.drew.alloc (.cells (olds.toArray ++ news.toArray ++ Builtin.zeroCells zv.cells (cap - (len + m))) el) → 
      (Builtin.append_ #[t2, t2] ty #[v, .slice a m cp]).run P c.w = .ok (.slice (some ⟨c.w.heap.size, 0, none⟩) (len + m) cap) w1 →
      Good P c w0 (Builtin.append_ #[t2, t2] ty #[v, .slice a m cp]) (.own n (verNext c.m n) 0 (len + m) z (.whole el), some (n, ⟨verNext c.m n, os ++ ys⟩)) := by
    intro olds cap w1 ro hcap hcap2 hol hw1 hrun
    subst hw1
    have rapp := ro.append rnews
    obtain ⟨hle, hM⟩ := step (w' := c.w.drew.alloc (.cells (olds.toArray ++ news.toArray ++ Builtin.zeroCells zv.cells (cap - (len + m))) el)) M n ⟨verNext c.m n, os ++ ys⟩ (some c.w.heap.size) rfl rfl rfl (by simp) (fun k hk => .inl (verNext_gt hk))
      (fun b hb _ => Below.heap_alloc _ _ _ hb) (fun k b cs' t hk e hb hh => absurd e (by have := verNext_gt hk; simp only; omega)) (fun e => by cases e) (fun g e => by
        cases e
        refine ⟨.inl (Nat.le_refl _), _, el, heap_alloc_new c.w.drew _, fun i x hx => ?_⟩
        obtain ⟨y, e1, e2⟩ := rapp.2 i x hx
        exact ⟨y, grown_get e1, e2⟩)
    refine ⟨_, _, _, hrun, hle, hM, .own (upd_eq _ _ _) (Nat.le_refl _) hcap hcap2 (fun e => by cases e) fun _ => .inr ⟨c.w.heap.size, 0, _, el, upd_eq _ _ _, rfl, fun _ => rfl, ?_, heap_alloc_new c.w.drew _, rfl, rfl, rfl, ?_⟩⟩
    · have e1 := rapp.1
      simp only [List.length_append] at e1 ⊢
      have : (len + m) * z = len * z + m * z := Nat.add_mul ..
      have e2 := ro.1
      omega
    · have hzc : (Builtin.zeroCells zv.cells (cap - (len + m))).size = (cap - (len + m)) * z := by rw [size_zeroCells, hzs]
      simp only [Array.size_append, List.size_toArray, hzc, hol, hnl, hsz]
      rw [← Nat.add_mul, ← Nat.add_mul]
      congr 1
      omega
  cases s with
  | own nm ver off ln sz rm =>
    cases rm with
    | whole e' =>
      cases rs with
      | @own _ _ _ _ _ _ k sa scp hk' hv hl hm hn ha =>
        simp only [appBase, hk'] at hb
        split at hb
        case isFalse => cases hb
        rename_i hh
        obtain ⟨rfl, rfl, rfl, rfl, hfit⟩ := hh
        simp only [Option.some.injEq, Prod.mk.injEq] at hb
        obtain ⟨rfl, rfl, rfl⟩ := hb
        rcases ha rfl with ⟨rfl, rfl, rfl, h4, _⟩ | ⟨g, o, cs, tt, g1, rfl, g3, g4, g5, g6, g7, rfl, g8⟩
        · -- nil
          have hos : k.cells.take (0 * sz) = [] := by simp
          rw [hos] at fresh ⊢
          rcases Nat.eq_zero_or_pos m with hm0 | hm0
          · subst hm0
            have hyn : ys = [] := List.eq_nil_of_length_eq_zero (by simpa using hyl)
            subst hyn
            have hnn : news = [] := by simpa using rnews.inv_nil
            have hrun : (Builtin.append_ #[t2, t2] ty #[.slice none 0 0, .slice a 0 cp]).run P c.w = .ok (.slice none 0 0) c.w := by
              cases a with
              | none => simp [Builtin.append_, run_underlying hu, sizeOf, typeInfo, hi, Builtin.lenOf, Builtin.firstCells]
              | some ad =>
                have hf := run_firstCells_some (P := P) c.w i.size 0 ad 0 cp [] (by simp) (by simp)
                simp [Builtin.append_, run_underlying hu, sizeOf, typeInfo, hi, Builtin.lenOf, hf]
            obtain ⟨hle, hM⟩ := step (w' := c.w) M nm ⟨verNext c.m nm, []⟩ none rfl rfl rfl (Nat.le_refl _) (fun k hk => .inl (verNext_gt hk)) (fun b hb _ => rfl)
              (fun k b cs' t hk e hb hh => absurd e (by have := verNext_gt hk; simp only; omega)) (fun _ => rfl) (fun g e => by cases e)
            exact ⟨_, _, _, hrun, hle, hM, .own (upd_eq _ _ _) (Nat.le_refl _) (Nat.le_refl _) (by simp [maxLen]) (fun _ => rfl) fun _ => .inl ⟨rfl, rfl, rfl, rfl, rfl⟩⟩
          · cases a with
            | none => have := (hnone rfl).1; omega
            | some ad =>
              simp only [Nat.zero_add] at fresh hprod hlen ⊢
              have hrun := run_append_nil (P := P) c.w t2 ty e' i zv hu hi hzero ad m cp news hnl (hnews' ad rfl) hm0 (by omega) (by omega)
              exact fresh [] (grownCap c.w m 0 e') _ (.nil c) (grownCap_ge ..) (grownCap_le_maxLen _ _ _ _ (by simp only [maxLen]; omega)) (by simp) (by simp) hrun
        · -- a block
          have hcl : k.cells.length ≤ cs.size ∧ ∀ (i : Nat) x, k.cells[i]? = some x → ∃ y, cs[i]? = some y ∧ Rel c x y := by
            rcases M.blk nm k hk' with ⟨h, _⟩ | ⟨g', cs', t', h, _, hh, hc⟩
            · rw [g1] at h; cases h
            · rw [g1] at h; cases h
              rw [g5] at hh; cases hh
              have := cells_le (cs := cs.toList) (fun i x hx => by simpa using hc i x hx)
              exact ⟨by simpa using this, hc⟩
          obtain rfl := g7
          have ro : RelL c (k.cells.take (ln * sz)) (cs.toList.take (ln * sz)) := by
            refine ⟨by simp; omega, fun i x hx => ?_⟩
            rw [List.getElem?_take] at hx ⊢
            split at hx
            · rename_i hlt
              rw [if_pos hlt]
              obtain ⟨y, e1, e2⟩ := hcl.2 i x hx
              exact ⟨y, by simpa using e1, e2⟩
            · cases hx
          have hol : (cs.toList.take (ln * sz)).length = ln * sz := by simp; omega
          have rapp := ro.append rnews
          cases a with
          | none =>
            obtain ⟨rfl, rfl⟩ := hnone rfl
            have hyn : ys = [] := List.eq_nil_of_length_eq_zero (by simpa using hyl)
            subst hyn
            have hrun : (Builtin.append_ #[t2, t2] ty #[.slice (some ⟨g, 0, none⟩) ln scp, .slice none 0 0]).run P c.w = .ok (.slice (some ⟨g, 0, none⟩) ln scp) c.w := by
              simp [Builtin.append_, run_underlying hu, sizeOf, typeInfo, hi, Builtin.lenOf, Builtin.firstCells, hl, storeCells]
            obtain ⟨hle, hM⟩ := step (w' := c.w) M nm ⟨verNext c.m nm, k.cells.take (ln * sz) ++ []⟩ (some g) rfl rfl rfl (Nat.le_refl _) (fun k hk => .inl (verNext_gt hk)) (fun b hb _ => rfl)
              (fun k b cs' t hk e hb hh => absurd e (by have := verNext_gt hk; simp only; omega)) (fun e => by cases e) (fun g' e => by
                cases e
                refine ⟨.inr ⟨g1, k, hk'⟩, cs, _, g5, fun i x hx => ?_⟩
                rw [List.append_nil, List.getElem?_take] at hx
                split at hx
                · exact hcl.2 i x hx
                · cases hx)
            refine ⟨_, _, _, hrun, hle, hM, .own (upd_eq _ _ _) (Nat.le_refl _) (by simpa using hl) hm (fun e => by cases e) fun _ => .inr ⟨g, 0, cs, _, upd_eq _ _ _, rfl, fun _ => rfl, ?_, g5, rfl, rfl, rfl, g8⟩⟩
            simp
            omega
          | some ad =>
            by_cases hroom : ln + m ≤ scp
            · have hfit2 : ln * i.size + news.length ≤ cs.size := by
                rw [hnl, hsz, ← Nat.add_mul, g8]; exact Nat.mul_le_mul_right _ hroom
              have hrun := run_append_room (P := P) c.w t2 ty _ i hu hi g ln scp cs g5 ad m cp news hnl (hnews' ad rfl) hones hroom hfit2
              rw [hsz] at hrun hfit2
              have hsize : (cs.toList.take (ln * sz) ++ news ++ cs.toList.drop (ln * sz + news.length)).length = cs.size := by simp; omega
              obtain ⟨hle, hM⟩ := step (w' := c.w.setRow g (cs.toList.take (ln * sz) ++ news ++ cs.toList.drop (ln * sz + news.length)).toArray) M nm ⟨verNext c.m nm, k.cells.take (ln * sz) ++ ys⟩ (some g) rfl rfl rfl (by simp) (fun k hk => .inl (verNext_gt hk))
                (fun b hb hne => setRow_other c.w g b _ (fun e => hne k hk' (by rw [g1, e])))
                (fun k b cs' t hk e hb hh => absurd e (by have := verNext_gt hk; simp only; omega)) (fun e => by cases e) (fun g' e => by
                  cases e
                  refine ⟨.inr ⟨g1, k, hk'⟩, _, _, setRow_heap c.w g cs _ _ _ g5, fun i x hx => ?_⟩
                  obtain ⟨y, e1, e2⟩ := rapp.2 i x hx
                  refine ⟨y, ?_, e2⟩
                  rw [List.getElem?_toArray, List.getElem?_append_left]
                  · exact e1
                  · exact (List.getElem?_eq_some_iff.1 e1).1)
              refine ⟨_, _, _, hrun, hle, hM, .own (upd_eq _ _ _) (Nat.le_refl _) hroom hm (fun e => by cases e) fun _ => .inr ⟨g, 0, _, _, upd_eq _ _ _, rfl, fun _ => rfl, ?_, setRow_heap c.w g cs _ _ _ g5, rfl, rfl, rfl, ?_⟩⟩
              · have e1 := rapp.1
                simp only [List.length_append] at e1 ⊢
                have : (ln + m) * sz = ln * sz + m * sz := Nat.add_mul ..
                have e2 := ro.1
                omega
              · simp only [List.size_toArray]
                omega
            · have hrun := run_append_grow (P := P) c.w t2 ty _ i zv hu hi hzero ⟨g, 0, none⟩ ln scp (cs.toList.take (ln * sz)) (by rw [hol, hsz]) (fun j v hj => by
                  rw [addr_add, Nat.zero_add, cell_of_row _ _ _ _ _ _ g5]
                  rw [List.getElem?_take] at hj
                  split at hj
                  · simpa using hj
                  · cases hj) ad m cp news hnl (hnews' ad rfl) (by omega) (by omega) (growslice_fits (by omega) hprod)
              exact fresh _ (grownCap c.w (ln + m) scp _) _ ro (grownCap_ge ..) (grownCap_le_maxLen _ _ _ _ (by simp only [maxLen]; omega)) hol rfl hrun
    | known => simp [appBase] at hb
    | unk => simp [appBase] at hb
  | v y =>
    obtain ⟨rfl, _⟩ := rs.inv_v
    cases v with
    | slice sa sn sq =>
      simp only [appBase] at hb
      split at hb
      case isFalse => cases hb
      rename_i hh
      obtain ⟨e1, rfl, rfl⟩ := hh
      obtain rfl : sa = none := by simpa using e1
      simp only [Option.some.injEq, Prod.mk.injEq] at hb
      obtain ⟨rfl, rfl, rfl⟩ := hb
      rcases Nat.eq_zero_or_pos m with hm0 | hm0
      · subst hm0
        have hyn : ys = [] := List.eq_nil_of_length_eq_zero (by simpa using hyl)
        subst hyn
        have hrun : (Builtin.append_ #[t2, t2] ty #[.slice none 0 0, .slice a 0 cp]).run P c.w = .ok (.slice none 0 0) c.w := by
          cases a with
          | none => simp [Builtin.append_, run_underlying hu, sizeOf, typeInfo, hi, Builtin.lenOf, Builtin.firstCells]
          | some ad =>
            have hf := run_firstCells_some (P := P) c.w i.size 0 ad 0 cp [] (by simp) (by simp)
            simp [Builtin.append_, run_underlying hu, sizeOf, typeInfo, hi, Builtin.lenOf, hf]
        obtain ⟨hle, hM⟩ := step (w' := c.w) M site ⟨verNext c.m site, []⟩ none rfl rfl rfl (Nat.le_refl _) (fun k hk => .inl (verNext_gt hk)) (fun b hb _ => rfl)
          (fun k b cs' t hk e hb hh => absurd e (by have := verNext_gt hk; simp only; omega)) (fun _ => rfl) (fun g e => by cases e)
        exact ⟨_, _, _, hrun, hle, hM, .own (upd_eq _ _ _) (Nat.le_refl _) (Nat.le_refl _) (by simp [maxLen]) (fun _ => rfl) fun _ => .inl ⟨rfl, rfl, rfl, rfl, rfl⟩⟩
      · cases a with
        | none => have := (hnone rfl).1; omega
        | some ad =>
          simp only [Nat.zero_add] at fresh hprod hlen ⊢
          have hrun := run_append_nil (P := P) c.w t2 ty el i zv hu hi hzero ad m cp news hnl (hnews' ad rfl) hm0 (by omega) (by omega)
          exact fresh [] (grownCap c.w m 0 el) _ (.nil c) (grownCap_ge ..) (grownCap_le_maxLen _ _ _ _ (by simp only [maxLen]; omega)) (by simp) (by simp) hrun
    | _ => simp [appBase] at hb
  | _ => simp [appBase] at hb
end Go.Pm

/- A machine of values: '==' of plain values, arrays and structs of such. -/
namespace Go.Pm
open Go.RowKit
set_option linter.unusedVariables false
set_option linter.unusedSimpArgs false

/-- Kinds of a plain type's cells. -/
inductive LK where
  | int | bool | str
  deriving DecidableEq
def fieldsK (P : Program) (g : TypeId → Option (List LK)) : List Field → Nat → Option (List LK)
  | [], _ => some []
  | f :: fs, off => (g f.type).bind fun l => if f.name ≠ "_" ∧ f.offset = off ∧ szOf P f.type = some l.length then (fieldsK P g fs (off + l.length)).map (l ++ ·) else none
def flatK (P : Program) : Nat → TypeId → Option (List LK)
  | 0, _ => none
  | d + 1, t => match P.underlying t with
    | some (.int _) => some [.int]
    | some .bool => some [.bool]
    | some .string => some [.str]
    | some (.array n e) => (flatK P d e).bind fun l => if szOf P e = some l.length ∧ (isAggT P e).isSome = true ∧ ((P.info? e).isSome = true) then some (List.replicate n l).flatten else none
    | some (.struct fs) => if P.stoodInHeld t = true then none else fieldsK P (flatK P d) fs.toList 0
    | _ => none

def leafOk : LK → Value → Value → Bool
  | .int, .int k _, .int k' _ => decide (k = k')
  | .bool, .bool _, .bool _ => true
  | .str, .string _, .string _ => true
  | _, _, _ => false
def vEq : Value → Value → Bool
  | .int _ a, .int _ b => a == b
  | .bool a, .bool b => a == b
  | .string a, .string b => a.toList == b.toList
  | _, _ => false
def eqV (xs ys : List Value) : Bool := (xs.zip ys).all fun p => vEq p.1 p.2
def PairOk (l : List LK) (xs ys : List Value) : Prop := xs.length = l.length ∧ ys.length = l.length ∧ ∀ (i : Nat) k x y, l[i]? = some k → xs[i]? = some x → ys[i]? = some y → leafOk k x y = true

theorem eqV_append {a b c d : List Value} (h : a.length = c.length) : eqV (a ++ b) (c ++ d) = (eqV a c && eqV b d) := by
  unfold eqV
  rw [List.zip_append h, List.all_append]
theorem PairOk.left {a b : List LK} {xs ys : List Value} (h : PairOk (a ++ b) xs ys) : PairOk a (xs.take a.length) (ys.take a.length) := by
  obtain ⟨h1, h2, h3⟩ := h
  simp only [List.length_append] at h1 h2
  refine ⟨by simp; omega, by simp; omega, fun i k x y hk hx hy => ?_⟩
  have hi := (List.getElem?_eq_some_iff.1 hk).1
  rw [List.getElem?_take_of_lt hi] at hx hy
  exact h3 i k x y (by rw [List.getElem?_append_left hi]; exact hk) hx hy
theorem PairOk.right {a b : List LK} {xs ys : List Value} (h : PairOk (a ++ b) xs ys) : PairOk b (xs.drop a.length) (ys.drop a.length) := by
  obtain ⟨h1, h2, h3⟩ := h
  simp only [List.length_append] at h1 h2
  refine ⟨by simp; omega, by simp; omega, fun i k x y hk hx hy => ?_⟩
  rw [List.getElem?_drop] at hx hy
  exact h3 (a.length + i) k x y (by rw [List.getElem?_append_right (by omega)]; simpa using hk) hx hy

/-- A value by its cells. -/
def shapeV (agg : Bool) (xs : List Value) : Value := if agg then .agg xs.toArray else xs.headD default
theorem run_part {P : Program} {w : World} {e : TypeId} {b : Bool} {z off : Nat} {xs : List Value} (hb : isAggT P e = some b) (hz : szOf P e = some z) (h1 : b = false → z = 1) (hl : off + z ≤ xs.length) :
    (part e xs.toArray off).run P w = .ok (shapeV b ((xs.drop off).take z)) w := by
  cases b with
  | true =>
    simp only [part, Sem.run_bind, run_isAgg hb, Result.andThen_ok, if_true, run_sizeOf hz, Sem.run_pure, shapeV]
    congr 2
    apply Array.toList_inj.1
    simp [List.drop_take]
  | false =>
    obtain rfl := h1 rfl
    have hlt : off < xs.length := by omega
    have e1 : xs.toArray[off]? = some xs[off] := by simp [hlt]
    simp only [part, Sem.run_bind, run_isAgg hb, Result.andThen_ok, Bool.false_eq_true, if_false, e1, Sem.run_pure, shapeV]
    congr 1
    rw [List.drop_eq_getElem_cons hlt]
    rfl

/-- '==' at a type, at a depth. -/
def EqOk (P : Program) (d : Nat) (t : TypeId) (l : List LK) : Prop :=
  ∃ b, isAggT P t = some b ∧ (b = false → l.length = 1) ∧ ∀ (w : World) (xs ys : List Value), PairOk l xs ys → (Op.equalIn d t (shapeV b xs) (shapeV b ys)).run P w = .ok (eqV xs ys) w

theorem eqItems_run {P : Program} {d e c : Nat} {l : List LK} (E : EqOk P d e l) (hz : szOf P e = some l.length) (hc : c = l.length) (w : World) (xs ys : List Value) : ∀ (k i : Nat), PairOk (List.replicate k l).flatten (xs.drop (i * c)) (ys.drop (i * c)) →
    (Op.eqItems d e c xs.toArray ys.toArray (List.range' i k)).run P w = .ok (eqV (xs.drop (i * c)) (ys.drop (i * c))) w := by
  subst hc
  intro k
  induction k with
  | zero =>
    intro i h
    have h1 := h.1
    simp only [List.replicate_zero, List.flatten_nil, List.length_nil, List.length_drop] at h1
    have : xs.drop (i * l.length) = [] := List.drop_eq_nil_of_le (by omega)
    simp [Op.eqItems, this, eqV]
  | succ k ih =>
    intro i h
    obtain ⟨b, hb, hb1, hE⟩ := E
    rw [List.replicate_succ, List.flatten_cons] at h
    have hl := h.left
    have hr := h.right
    rw [List.drop_drop, List.drop_drop] at hr
    have e1 : i * l.length + l.length = (i + 1) * l.length := (Nat.succ_mul ..).symm
    have len1 := h.1
    have len2 := h.2.1
    simp only [List.length_append, List.length_drop] at len1 len2
    rw [show i * l.length + l.length = (i + 1) * l.length from e1] at hr
    have b1 : i * l.length ≤ xs.length ∧ i * l.length ≤ ys.length := by
      rcases Nat.eq_zero_or_pos l.length with e | e
      · rw [e]; simp
      · omega
    have p1 := run_part (P := P) (w := w) (off := i * l.length) (xs := xs) hb hz hb1 (by omega)
    have p2 := run_part (P := P) (w := w) (off := i * l.length) (xs := ys) hb hz hb1 (by omega)
    have q := hE w _ _ hl
    have hi := ih (i + 1) hr
    have split : eqV (xs.drop (i * l.length)) (ys.drop (i * l.length)) = (eqV ((xs.drop (i * l.length)).take l.length) ((ys.drop (i * l.length)).take l.length) && eqV (xs.drop ((i + 1) * l.length)) (ys.drop ((i + 1) * l.length))) := by
      rw [← e1, ← List.drop_drop, ← List.drop_drop, ← eqV_append (by simp; omega), List.take_append_drop, List.take_append_drop]
    rw [List.range'_succ, Op.eqItems]
    simp only [Sem.run_bind, p1, p2, q, Result.andThen_ok, split]
    cases hq : eqV ((xs.drop (i * l.length)).take l.length) ((ys.drop (i * l.length)).take l.length)
    · simp
    · simpa using hi

theorem eqFields_run {P : Program} {d : Nat} {g : TypeId → Option (List LK)} (E : ∀ t l, g t = some l → EqOk P d t l) (w : World) (xs ys : List Value) : ∀ (fs : List Field) (off : Nat) (l : List LK), fieldsK P g fs off = some l → PairOk l (xs.drop off) (ys.drop off) →
    (Op.eqFields d xs.toArray ys.toArray fs).run P w = .ok (eqV (xs.drop off) (ys.drop off)) w := by
  intro fs
  induction fs with
  | nil =>
    intro off l h hp
    cases h
    have h1 := hp.1
    simp only [List.length_nil, List.length_drop] at h1
    have : xs.drop off = [] := List.drop_eq_nil_of_le (by omega)
    simp [Op.eqFields, this, eqV]
  | cons f fs ih =>
    intro off l h hp
    simp only [fieldsK] at h
    obtain ⟨l1, hl1, h⟩ := Option.bind_eq_some_iff.1 h
    split at h
    case isFalse => cases h
    rename_i hh
    obtain ⟨hn, rfl, hz⟩ := hh
    obtain ⟨l2, hl2, rfl⟩ := Option.map_eq_some_iff.1 h
    obtain ⟨b, hb, hb1, hE⟩ := E _ _ hl1
    have hr := hp.right
    rw [List.drop_drop, List.drop_drop] at hr
    have len1 := hp.1
    have len2 := hp.2.1
    simp only [List.length_append, List.length_drop] at len1 len2
    rcases Nat.eq_zero_or_pos l1.length with h0 | h0
    · -- a field of no cells
      have p1 : ∀ zs : List Value, b = true → (part f.type zs.toArray f.offset).run P w = .ok (shapeV b ((zs.drop f.offset).take 0)) w := fun zs e => by
        subst e
        simp only [part, Sem.run_bind, run_isAgg hb, Result.andThen_ok, if_true, run_sizeOf hz, h0, Sem.run_pure, shapeV]
        congr 2
        apply Array.toList_inj.1
        simp
      have hbt : b = true := by
        cases b with
        | true => rfl
        | false => have := hb1 rfl; omega
      have q := hE w _ _ hp.left
      rw [h0] at q hr
      have hi := ih _ l2 (by rw [h0] at hl2; exact hl2) hr
      have e0 : l1 = [] := List.eq_nil_of_length_eq_zero h0
      rw [Op.eqFields]
      simp only [hn, ne_eq, not_false_eq_true, if_true, Sem.run_bind, p1 xs hbt, p1 ys hbt, q, Result.andThen_ok]
      simp only [Nat.add_zero] at hi
      simp [eqV] at hi ⊢
      exact hi
    · have p1 := run_part (P := P) (w := w) (off := f.offset) (xs := xs) hb hz hb1 (by omega)
      have p2 := run_part (P := P) (w := w) (off := f.offset) (xs := ys) hb hz hb1 (by omega)
      have q := hE w _ _ hp.left
      have hi := ih _ l2 hl2 hr
      have split : eqV (xs.drop f.offset) (ys.drop f.offset) = (eqV ((xs.drop f.offset).take l1.length) ((ys.drop f.offset).take l1.length) && eqV (xs.drop (f.offset + l1.length)) (ys.drop (f.offset + l1.length))) := by
        rw [← List.drop_drop, ← List.drop_drop, ← eqV_append (by simp; omega), List.take_append_drop, List.take_append_drop]
      rw [Op.eqFields]
      simp only [hn, ne_eq, not_false_eq_true, if_true, Sem.run_bind, p1, p2, q, Result.andThen_ok, split]
      cases hq : eqV ((xs.drop f.offset).take l1.length) ((ys.drop f.offset).take l1.length)
      · simp
      · simpa using hi

theorem szOf_info {P : Program} {t n : Nat} (h : szOf P t = some n) : ∃ i, P.info? t = some i ∧ i.size = n := by
  unfold szOf at h
  obtain ⟨i, hi, rfl⟩ := Option.map_eq_some_iff.1 h
  exact ⟨i, hi, rfl⟩

theorem flatK_eq {P : Program} : ∀ (m : Nat) (t : TypeId) (l : List LK), flatK P m t = some l → ∀ d, EqOk P (d + m) t l := by
  intro m
  induction m with
  | zero => intro t l h; cases h
  | succ m ih =>
    intro t l h d
    unfold flatK at h
    cases hu : P.underlying t with
    | none => rw [hu] at h; cases h
    | some k =>
      rw [hu] at h
      have hone : ∀ {xs : List Value} {q : LK}, xs.length = [q].length → ∃ x, xs = [x] := fun {xs q} h => by
        match xs, h with
        | [x], _ => exact ⟨x, rfl⟩
      cases k with
      | int q =>
        cases h
        refine ⟨false, by simp [isAggT, hu], fun _ => rfl, fun w xs ys hp => ?_⟩
        obtain ⟨x, rfl⟩ := hone hp.1
        obtain ⟨y, rfl⟩ := hone hp.2.1
        have := hp.2.2 0 _ x y rfl rfl rfl
        cases x <;> simp [leafOk] at this
        cases y <;> simp [leafOk] at this
        subst this
        have e := fun k a b => run_equalIn_int w (d + m) t k q a b hu
        rw [show d + (m + 1) = d + m + 1 from rfl]
        simp only [shapeV, Bool.false_eq_true, if_false, List.headD_cons, e]
        simp [eqV, vEq]
      | bool =>
        cases h
        refine ⟨false, by simp [isAggT, hu], fun _ => rfl, fun w xs ys hp => ?_⟩
        obtain ⟨x, rfl⟩ := hone hp.1
        obtain ⟨y, rfl⟩ := hone hp.2.1
        have := hp.2.2 0 _ x y rfl rfl rfl
        cases x <;> simp [leafOk] at this
        cases y <;> simp [leafOk] at this
        have e := fun a b => run_equalIn_bool w (d + m) t a b hu
        rw [show d + (m + 1) = d + m + 1 from rfl]
        simp only [shapeV, Bool.false_eq_true, if_false, List.headD_cons, e]
        simp [eqV, vEq]
      | string =>
        cases h
        refine ⟨false, by simp [isAggT, hu], fun _ => rfl, fun w xs ys hp => ?_⟩
        obtain ⟨x, rfl⟩ := hone hp.1
        obtain ⟨y, rfl⟩ := hone hp.2.1
        have := hp.2.2 0 _ x y rfl rfl rfl
        cases x <;> simp [leafOk] at this
        cases y <;> simp [leafOk] at this
        have e := fun a b => run_equalIn_string w (d + m) t a b hu
        rw [show d + (m + 1) = d + m + 1 from rfl]
        simp only [shapeV, Bool.false_eq_true, if_false, List.headD_cons, e]
        simp [eqV, vEq]
      | array n e =>
        obtain ⟨l1, hl1, h⟩ := Option.bind_eq_some_iff.1 h
        split at h
        case isFalse => cases h
        rename_i hh
        obtain ⟨hz, _, _⟩ := hh
        cases h
        obtain ⟨i, hi, hiz⟩ := szOf_info hz
        have hc : P.cellsOf e = l1.length := by simp [Program.cellsOf, hi, hiz]
        refine ⟨true, by simp [isAggT, hu], (fun e => by cases e), fun w xs ys hp => ?_⟩
        have := eqItems_run (c := P.cellsOf e) (ih e l1 hl1 d) hz hc w xs ys n 0 (by simpa using hp)
        simp only [Nat.zero_mul, List.drop_zero] at this
        simp only [shapeV, if_true]
        rw [show d + (m + 1) = (d + m) + 1 from rfl, run_equalIn_array w (d + m) xs.toArray ys.toArray hu hi, List.range_eq_range']
        exact this
      | struct fs =>
        simp only at h
        split at h
        · cases h
        rename_i hs
        have hs' : P.stoodInHeld t = false := by simpa using hs
        have hf : P.underlying t = some (.struct (P.fieldsOf t)) := by simp [Program.fieldsOf, hu]
        have hfs : P.fieldsOf t = fs := by simp [Program.fieldsOf, hu]
        refine ⟨true, by simp [isAggT, hu], (fun e => by cases e), fun w xs ys hp => ?_⟩
        have := eqFields_run (fun t l h => ih t l h d) w xs ys fs.toList 0 l h (by simpa using hp)
        simp only [List.drop_zero] at this
        simp only [shapeV, if_true]
        rw [show d + (m + 1) = (d + m) + 1 from rfl, run_equalIn_struct w (d + m) t xs.toArray ys.toArray hf hs', hfs]
        exact this
      | _ => cases h
end Go.Pm

/- A machine of values: numbers, bytes, comparisons. -/
namespace Go.Pm
open Go.RowKit
set_option linter.unusedVariables false
set_option linter.unusedSimpArgs false

/-- Bytes as values; the string of bytes. -/
def B8 (zs : List Int) : List AV := zs.map fun z => .v (.int .u8 z)
def asB8 : List AV → Option (List Int)
  | [] => some []
  | .v (.int .u8 z) :: xs => (asB8 xs).map (z :: ·)
  | _ => none
theorem asB8_eq : ∀ {xs : List AV} {zs : List Int}, asB8 xs = some zs → xs = B8 zs := by
  intro xs
  induction xs with
  | nil => intro zs h; cases h; rfl
  | cons x xs ih =>
    intro zs h
    unfold asB8 at h
    split at h
    · rename_i e; cases e
    · rename_i z ys e
      cases e
      obtain ⟨ws, h1, rfl⟩ := Option.map_eq_some_iff.1 h
      rw [ih h1]; rfl
    · cases h
theorem asB8_B8 (zs : List Int) : asB8 (B8 zs) = some zs := by
  induction zs with
  | nil => rfl
  | cons z zs ih => show (asB8 (B8 zs)).map (z :: ·) = _; rw [ih]; rfl
def bstr (zs : List Int) : ByteArray := ⟨(zs.map fun z => UInt8.ofNat z.toNat).toArray⟩
theorem fold_bstr (zs : List Int) : ∀ s : ByteArray, zs.foldl (fun r n => r.push (UInt8.ofNat n.toNat)) s = ⟨s.data ++ (zs.map fun z => UInt8.ofNat z.toNat).toArray⟩ := by
  induction zs with
  | nil => intro s; simp
  | cons z zs ih =>
    intro s
    rw [List.foldl_cons, ih]
    congr 1
    apply Array.toList_inj.1
    simp [ByteArray.push]
theorem relL_B8 {c : Ctx} {zs : List Int} {ys : List Value} (r : RelL c (B8 zs) ys) : ys = zs.map (Value.int .u8) := by
  apply List.ext_getElem?
  intro i
  by_cases hi : i < zs.length
  · obtain ⟨y, e, ry⟩ := r.2 i (.v (.int .u8 zs[i])) (by simp [B8, hi])
    obtain ⟨rfl, _⟩ := ry.inv_v
    rw [e]; simp [hi]
  · have : ys.length = zs.length := by have := r.1; simpa [B8] using this.symm
    rw [List.getElem?_eq_none (by omega), List.getElem?_eq_none (by simp; omega)]

def isU8 (P : Program) (t : TypeId) : Bool := match P.underlying t with | some (.int .u8) => true | _ => false
theorem isU8_some {P : Program} {t : TypeId} (h : isU8 P t = true) : P.underlying t = some (.int .u8) := by
  unfold isU8 at h
  split at h
  · assumption
  · cases h
def isInt (P : Program) (t : TypeId) : Option IntKind := match P.underlying t with | some (.int k) => some k | _ => none
theorem isInt_some {P : Program} {t : TypeId} {k : IntKind} (h : isInt P t = some k) : P.underlying t = some (.int k) := by
  unfold isInt at h
  split at h
  · cases h; assumption
  · cases h

/-- Conversions. -/
def aConvert (P : Program) (src dst : TypeId) (x : AV) (m : Mem) : Option AV :=
  match isInt P dst with
  | some k => match x with
    | .v (.int _ n) => if (P.underlying src).isSome = true then some (.v (.int k (k.wrap n))) else none
    | _ => none
  | none => if isStr P dst = true then
      match x with
      | .v (.string s) => if (P.underlying src).isSome = true then some (.v (.string s)) else none
      | x => (isSl P src).bind fun e => if isU8 P e = true then (slCells m x).bind fun ys => if ys.1.length = ys.2 then (asB8 ys.1).map fun zs => .v (.string (bstr zs)) else none else none
    else none
theorem aConvert_sound {P : Program} {c : Ctx} {w0 : World} (M : MemOk c w0) {src dst : TypeId} {x y : AV} {v : Value} (h : aConvert P src dst x c.m = some y) (r : Rel c x v) : Good P c w0 (convert src dst v) (y, none) := by
  unfold aConvert at h
  split at h
  · rename_i k hk
    have hu := isInt_some hk
    split at h
    · rename_i q n
      split at h
      · rename_i hs
        obtain ⟨d, hd⟩ := Option.isSome_iff_exists.1 hs
        cases h
        obtain ⟨rfl, _⟩ := r.inv_v
        refine Good.same (v := .int k (k.wrap n)) ?_ M .v
        cases d <;> simp [convert, run_underlying hd, run_underlying hu, Conv.intToInt]
      · cases h
    · cases h
  · split at h
    · rename_i hstr
      have hu := isStr_some hstr
      split at h
      · rename_i s
        split at h
        · rename_i hs
          obtain ⟨d, hd⟩ := Option.isSome_iff_exists.1 hs
          cases h
          obtain ⟨rfl, _⟩ := r.inv_v
          refine Good.same (v := .string s) ?_ M .v
          cases d <;> simp [convert, run_underlying hd, run_underlying hu]
        · cases h
      · obtain ⟨e, he, h⟩ := Option.bind_eq_some_iff.1 h
        split at h
        · rename_i h8
          obtain ⟨⟨ys, n⟩, hys, h⟩ := Option.bind_eq_some_iff.1 h
          split at h
          · rename_i hlen
            obtain ⟨zs, hz, rfl⟩ := Option.map_eq_some_iff.1 h
            obtain rfl := asB8_eq hz
            obtain ⟨a, cp, rfl, h1, h2, h3, h4⟩ := slCells_sound M hys r
            have hus := isSl_some he
            have hue := isU8_some h8
            refine Good.same (v := .string (bstr zs)) ?_ M .v
            rw [run_convert_bytes_string c.w src dst e a n cp hus hue hu]
            cases a with
            | none =>
              obtain ⟨rfl, _⟩ := h3 rfl
              have : zs = [] := List.eq_nil_of_length_eq_zero (by simpa [B8] using hlen)
              subst this
              rfl
            | some ad =>
              obtain ⟨vs, rv, hv⟩ := pick_list (Q := fun i z => ∃ b o, some ad = some (⟨b, o, none⟩ : Addr) ∧ c.w.cell? ⟨b, o + i, none⟩ = some z) (fun i y hy => by obtain ⟨b, o, z, e1, e2, e3⟩ := h4 i y hy; exact ⟨z, ⟨b, o, e1, e2⟩, e3⟩)
              obtain rfl := relL_B8 rv
              have hl := run_loadCells_list (P := P) c.w ad (zs.map (Value.int .u8)) (fun j v hj => by
                obtain ⟨b, o, e1, e2⟩ := hv j v hj
                cases e1
                rw [addr_add]; exact e2)
              have hn : n = zs.length := by simpa [B8] using hlen.symm
              rw [List.length_map, ← hn] at hl
              rw [run_bytesToString c.w ad n cp zs hl, fold_bstr]
              simp [bstr]
          · cases h
        · cases h
    · cases h

/-- How long something is. -/
def aLen (P : Program) (t : TypeId) (x : AV) : Option AV :=
  match isSl P t with
  | some _ => (slLen x).map fun n : Nat => .v (.int .i64 (n : Int))
  | none => if isStr P t = true then (match x with | .v (.string s) => some (.v (.int .i64 s.size)) | _ => none)
    else (isArr P t).map fun ne => .v (.int .i64 (ne.1 : Int))
theorem aLen_sound {P : Program} {c : Ctx} {w0 : World} (M : MemOk c w0) {t ty : TypeId} {x y : AV} {v : Value} (h : aLen P t x = some y) (r : Rel c x v) : Good P c w0 (Builtin.len_ #[t] ty #[v]) (y, none) := by
  unfold aLen at h
  split at h
  · rename_i e he
    have hu := isSl_some he
    obtain ⟨n, hn, rfl⟩ := Option.map_eq_some_iff.1 h
    obtain ⟨a, cp, rfl⟩ := slLen_sound hn r
    exact Good.same (v := goInt n) (by simp [Builtin.len_, run_underlying hu]) M .v
  · split at h
    · rename_i hs
      have hu := isStr_some hs
      split at h
      · cases h
        obtain ⟨rfl, _⟩ := r.inv_v
        exact Good.same (v := goInt _) (by simp [Builtin.len_, run_underlying hu]) M .v
      · cases h
    · obtain ⟨⟨n, e⟩, hn, rfl⟩ := Option.map_eq_some_iff.1 h
      have hu := isArr_some hn
      exact Good.same (v := goInt n) (by simp [Builtin.len_, run_underlying hu]) M .v

/-- A slice as an array's place. -/
def aS2A (P : Program) (t : TypeId) (x : AV) (m : Mem) : Option AV :=
  (isArr P t).bind fun ne => (szOf P ne.2).bind fun z => match x with
    | .own n ver off len sz r => if 0 < ne.1 ∧ ne.1 ≤ len then some (.ptr n ver off) else none
    | .sl nn xs len cap => if 0 < ne.1 ∧ ne.1 ≤ len then some (.at_ xs) else none
    | _ => none
theorem aS2A_sound {P : Program} {c : Ctx} {w0 : World} (M : MemOk c w0) {t : TypeId} {x y : AV} {v : Value} (h : aS2A P t x c.m = some y) (r : Rel c x v) : Good P c w0 (Instr.arrayAt t v) (y, none) := by
  unfold aS2A at h
  obtain ⟨⟨N, e⟩, hn, h⟩ := Option.bind_eq_some_iff.1 h
  obtain ⟨z, hz, h⟩ := Option.bind_eq_some_iff.1 h
  have hu := isArr_some hn
  cases x with
  | own n ver off len sz rm =>
    simp only at h
    split at h
    · rename_i hl
      cases h
      cases r with
      | @own _ _ _ _ _ _ k a cp hk hv hl2 hm hn2 ha =>
        have hlt : ¬ len < N := by omega
        cases a with
        | none => have := hn2 rfl; omega
        | some a =>
          refine Good.same (v := .pointer (some a)) (by simp [Instr.arrayAt, run_underlying hu, hlt]) M (.ptr hk hv fun e => ?_)
          rcases ha e with ⟨h1, _⟩ | ⟨g, o, cs, t, h1, h2, h3, _⟩
          · cases h1
          · cases h2
            obtain rfl := h3 (by omega)
            exact ⟨g, h1, rfl⟩
    · cases h
  | sl nn xs len cap =>
    simp only at h
    split at h
    · rename_i hl
      cases h
      cases r with
      | @sl _ _ _ _ a cp f hl2 hm hc hn2 ha hx hr =>
        have hlt : ¬ len < N := by omega
        cases a with
        | none => have := (hn2 rfl).2.2; omega
        | some a =>
          obtain ⟨b, o, sp⟩ := a
          have hsp := ha _ rfl (by omega)
          simp at hsp
          subst hsp
          refine Good.same (v := .pointer (some ⟨b, o, none⟩)) (by simp [Instr.arrayAt, run_underlying hu, hlt]) M (.at_ f (fun i x hi => ?_) hr)
          obtain ⟨b', o', e1, e2, e3⟩ := hx i x hi
          cases e1
          exact ⟨e2, e3⟩
    · cases h
  | _ => cases h

/-- Copy. -/
def aCopy (P : Program) (t : TypeId) (d x : AV) (m : Mem) : Option Eff :=
  (isSl P t).bind fun e => (szOf P e).bind fun z => (slCells m x).bind fun ys =>
    match d with
    | .own n ver off len sz r => match m n with
      | some k => if ver = k.ver ∧ sz = z ∧ ys.1.length = ys.2 * z ∧ allOne ys.1 = true ∧ off + len * sz ≤ k.cells.length then
          if 0 < len then some (.v (.int .i64 (min ys.2 len : Nat)), some (n, ⟨ver, splice k.cells off (ys.1.take (min ys.2 len * z))⟩)) else some (.v (.int .i64 0), none) else none
      | none => none
    | _ => none
theorem aCopy_sound {P : Program} {c : Ctx} {w0 : World} (M : MemOk c w0) {t t2 ty : TypeId} {d x : AV} {v u : Value} {e : Eff} (h : aCopy P t d x c.m = some e) (rd : Rel c d v) (rx : Rel c x u) : Good P c w0 (Builtin.copy_ #[t, t2] ty #[v, u]) e := by
  unfold aCopy at h
  obtain ⟨el, he, h1⟩ := Option.bind_eq_some_iff.1 h
  obtain ⟨z, hz, h2⟩ := Option.bind_eq_some_iff.1 h1
  obtain ⟨⟨ys, m⟩, hys, h3⟩ := Option.bind_eq_some_iff.1 h2
  clear h h1 h2
  have hu := isSl_some he
  cases d with
  | own n ver off len sz rm =>
    cases rd with
    | @own _ _ _ _ _ _ k sa scp hk hv hl hm hn ha =>
      simp only [hk] at h3
      split at h3
      case isFalse => cases h3
      rename_i hh
      obtain ⟨rfl, rfl, hyl, hone, hfit⟩ := hh
      split at h3
      case isFalse =>
        rename_i hpos
        obtain rfl : len = 0 := by omega
        obtain rfl := Option.some.inj h3
        obtain ⟨a, cp, rfl, hk1, hk2, hk3, hk4⟩ := slCells_sound M hys rx
        have hz0 : Nat.min m 0 = 0 := Nat.min_zero _
        refine Good.same (v := goInt 0) ?_ M .v
        cases a with
        | none =>
          cases sa <;> simp [Builtin.copy_, run_underlying hu, Builtin.lenOf, Builtin.firstCells, run_sizeOf hz, storeCells, hz0]
        | some ad =>
          have hld := run_loadCells_list (P := P) c.w ad [] (fun j v hj => by simp at hj)
          simp only [List.length_nil] at hld
          cases sa <;> simp [Builtin.copy_, run_underlying hu, Builtin.lenOf, Builtin.firstCells, run_sizeOf hz, storeCells, hz0, hld]
      rename_i hpos
      obtain rfl := Option.some.inj h3
      rcases ha rfl with ⟨_, h2, _⟩ | ⟨g, o, cs, tt, g1, rfl, g3, g4, g5, g6⟩
      · omega
      obtain rfl := g3 (by omega)
      obtain ⟨a, cp, rfl, hk1, hk2, hk3, hk4⟩ := slCells_sound M hys rx
      have hcl : ∀ (i : Nat) x, k.cells[i]? = some x → ∃ y, cs[i]? = some y ∧ Rel c x y := by
        rcases M.blk n k hk with ⟨h, _⟩ | ⟨g', cs', t', h, _, hh, hc⟩
        · rw [g1] at h; cases h
        · rw [g1] at h; cases h
          rw [g5] at hh; cases hh
          exact hc
      obtain ⟨news, rnews, hnews⟩ := pick_list (Q := fun i z => ∃ b o, a = some (⟨b, o, none⟩ : Addr) ∧ c.w.cell? ⟨b, o + i, none⟩ = some z) (fun i y hy => by obtain ⟨b, o, z, e1, e2, e3⟩ := hk4 i y hy; exact ⟨z, ⟨b, o, e1, e2⟩, e3⟩)
      have rt := rnews.take (min m len * sz)
      have hmul : min m len * sz ≤ len * sz := Nat.mul_le_mul_right _ (by omega)
      have hmul2 : min m len * sz ≤ m * sz := Nat.mul_le_mul_right _ (by omega)
      have htl : (ys.take (min m len * sz)).length = min m len * sz := by simp; omega
      have hnl : (news.take (min m len * sz)).length = min m len * sz := by rw [← rt.1, htl]
      obtain ⟨hle, hM⟩ := step_row (o := o) M hk g1 g5 hcl rt (by rw [htl]; omega)
      have hcc := cells_le (cs := cs.toList) (fun i x hx => by simpa using hcl i x hx)
      have hst := run_storeCells_at P g o tt (news.take (min m len * sz)) 0 cs c.w g5 (by rw [hnl]; simp at hcc ⊢; omega) (fun z hz => ones_of rnews hone z (List.mem_of_mem_take hz))
      simp only [Nat.add_zero] at hst
      refine ⟨goInt (min m len : Nat), _, c.ι, ?_, hle, hM, .v⟩
      have hmin : Nat.min m len = min m len := rfl
      cases a with
      | none =>
        obtain ⟨rfl, rfl⟩ := hk3 rfl
        have hn0 : news.take (min 0 len * sz) = [] := by simp
        rw [hn0] at hst ⊢
        have hw : c.w.setRow g (splice cs.toList o []).toArray = c.w := by
          simp only [storeCells, Sem.run_pure, Result.ok.injEq, true_and] at hst
          exact hst.symm
        rw [hw]
        have hz0 : Nat.min 0 len = 0 := Nat.zero_min _
        simp [Builtin.copy_, run_underlying hu, Builtin.lenOf, Builtin.firstCells, run_sizeOf hz, storeCells, hz0]
      | some ad =>
        have hld := run_loadCells_list (P := P) c.w ad (news.take (min m len * sz)) (fun j v hj => by
          rw [List.getElem?_take] at hj
          split at hj
          · obtain ⟨b, o, e1, e2⟩ := hnews j v hj
            cases e1
            rw [addr_add]; exact e2
          · cases hj)
        rw [hnl] at hld
        have hst' : (storeCells ⟨g, o, none⟩ (news.take (min m len * sz))).run P c.w = .ok () (c.w.setRow g (splice cs.toList o (news.take (min m len * sz))).toArray) := hst
        simp [Builtin.copy_, run_underlying hu, Builtin.lenOf, Builtin.firstCells, run_sizeOf hz, hmin, hld, hst']
  | _ => cases h3
end Go.Pm

/- A machine of values: append to a slice that is full and of a block's whole; clear. -/
namespace Go.Pm
open Go.RowKit
set_option linter.unusedVariables false
set_option linter.unusedSimpArgs false

theorem zeroCells_one (z : Value) (n : Nat) : (Builtin.zeroCells #[z] n).toList = List.replicate n z := by
  apply List.ext_getElem
  · simp [Builtin.zeroCells]
  · intro i h1 h2
    simp [Builtin.zeroCells, Nat.mod_one]
def aAppendFull (P : Program) (t t2 : TypeId) (n ver off len sz q : Nat) (x : AV) (m : Mem) : Option Eff :=
  (isSl P t).bind fun e => (szOf P e).bind fun z => (zeroOf P e).bind fun zl => ((P.info? e).map (·.bytes)).bind fun by_ => (slCells m x).bind fun ys =>
    match m n with
    | some k => if t2 = t ∧ zl.length = z ∧ 0 < z ∧ ys.1.length = ys.2 * z ∧ allOne ys.1 = true ∧ len + ys.2 ≤ 549755813888 ∧ by_ ≤ 128 ∧ ver = k.ver ∧ off = 0 ∧ sz = z ∧ q = len ∧ 0 < len ∧ 0 < ys.2 ∧ len * z ≤ k.cells.length then
        some (.own n (verNext m n) 0 (len + ys.2) z (.whole e), some (n, ⟨verNext m n, k.cells.take (len * z) ++ ys.1⟩)) else none
    | none => none
theorem aAppendFull_sound {P : Program} {c : Ctx} {w0 : World} (M : MemOk c w0) {t t2 ty : TypeId} {n ver off len sz q : Nat} {x : AV} {v u : Value} {e : Eff} (h : aAppendFull P t t2 n ver off len sz q x c.m = some e)
    (rs : Rel c (.own n ver off len sz (.known q)) v) (rx : Rel c x u) : Good P c w0 (Builtin.append_ #[t, t2] ty #[v, u]) e := by
  unfold aAppendFull at h
  obtain ⟨el, he, h1⟩ := Option.bind_eq_some_iff.1 h
  obtain ⟨z, hz, h2⟩ := Option.bind_eq_some_iff.1 h1
  obtain ⟨zl, hzl, h3⟩ := Option.bind_eq_some_iff.1 h2
  obtain ⟨by_, hby, h4⟩ := Option.bind_eq_some_iff.1 h3
  obtain ⟨⟨ys, m⟩, hys, h5⟩ := Option.bind_eq_some_iff.1 h4
  clear h h1 h2 h3 h4
  cases rs with
  | @own _ _ _ _ _ _ k sa scp hk hv hl hm hn ha =>
    rw [hk] at h5
    simp only at h5
    split at h5
    case isFalse => cases h5
    rename_i hh
    obtain ⟨rfl, hzlen, hz0, hyl, hone, hlen, hbyte, rfl, rfl, rfl, rfl, hpos, hmpos, hfit⟩ := hh
    obtain rfl := Option.some.inj h5
    clear h5
    have hu := isSl_some he
    obtain ⟨i, hi, rfl⟩ := Option.map_eq_some_iff.1 hby
    have hsz : i.size = sz := by unfold szOf at hz; rw [hi] at hz; simpa using hz
    obtain ⟨zv, hzr, rz, hzi⟩ := zeroOf_sound hzl c
    have hzero : i.zero = some zv := by rw [hi] at hzi; simpa using hzi
    have hzs : zv.cells.size = sz := by have := rz.1; simp at this; omega
    obtain ⟨a, cp, rfl, hk1, hcm, hnone, hcells⟩ := slCells_sound M hys rx
    obtain ⟨news, rnews, hnews⟩ := pick_list (Q := fun i z => ∃ b o, a = some ⟨b, o, none⟩ ∧ c.w.cell? ⟨b, o + i, none⟩ = some z) (fun i y hy => by obtain ⟨b, o, z, e1, e2, e3⟩ := hcells i y hy; exact ⟨z, ⟨b, o, e1, e2⟩, e3⟩)
    have hnl : news.length = m * i.size := by rw [← rnews.1, hyl, hsz]
    have hnews' : ∀ ad, a = some ad → ∀ (j : Nat) v, news[j]? = some v → c.w.cell? (ad.add j) = some v := fun ad had j v hj => by
      obtain ⟨b, o, e1, e2⟩ := hnews j v hj
      rw [had] at e1; cases e1
      rw [addr_add]; exact e2
    have hones := ones_of rnews hone
    have hprod : (q + m) * i.bytes ≤ 140737488355328 := by
      have : (q + m) * i.bytes ≤ 549755813888 * 128 := Nat.mul_le_mul hlen hbyte
      omega
    rcases ha rfl with ⟨_, h2, _⟩ | ⟨g, o, cs, tt, g1, rfl, g3, g4, g5, g6⟩
    · omega
    have g6 : scp = q := g6
    obtain rfl := g3 (by omega)
    have hcl : k.cells.length ≤ cs.size ∧ ∀ (i : Nat) x, k.cells[i]? = some x → ∃ y, cs[i]? = some y ∧ Rel c x y := by
      rcases M.blk n k hk with ⟨h, _⟩ | ⟨g', cs', t', h, _, hh, hc⟩
      · rw [g1] at h; cases h
      · rw [g1] at h; cases h
        rw [g5] at hh; cases hh
        have := cells_le (cs := cs.toList) (fun i x hx => by simpa using hc i x hx)
        exact ⟨by simpa using this, hc⟩
    have ro : RelL c (k.cells.take (q * sz)) (cs.toList.take (q * sz)) := by
      refine ⟨by simp; omega, fun i x hx => ?_⟩
      rw [List.getElem?_take] at hx ⊢
      split at hx
      · rename_i hlt
        rw [if_pos hlt]
        obtain ⟨y, e1, e2⟩ := hcl.2 i x hx
        exact ⟨y, by simpa using e1, e2⟩
      · cases hx
    have hol : (cs.toList.take (q * sz)).length = q * sz := by simp; omega
    have rapp := ro.append rnews
    cases a with
    | none => have := (hnone rfl).1; omega
    | some ad =>
      have hroom : ¬ q + m ≤ scp := by omega
      have hrun := run_append_grow (P := P) c.w t2 ty _ i zv hu hi hzero ⟨g, 0, none⟩ q scp (cs.toList.take (q * sz)) (by rw [hol, hsz]) (fun j v hj => by
          rw [addr_add, Nat.zero_add, cell_of_row _ _ _ _ _ _ g5]
          rw [List.getElem?_take] at hj
          split at hj
          · simpa using hj
          · cases hj) ad m cp news hnl (hnews' ad rfl) (by omega) (by omega) (growslice_fits (by omega) hprod)
      have hcap := grownCap_ge c.w (q + m) scp el
      have hcap2 : grownCap c.w (q + m) scp el ≤ maxLen := grownCap_le_maxLen _ _ _ _ (by simp only [maxLen]; omega)
      generalize grownCap c.w (q + m) scp el = cap at *
      obtain ⟨hle, hM⟩ := step (w' := c.w.drew.alloc (.cells ((cs.toList.take (q * sz)).toArray ++ news.toArray ++ Builtin.zeroCells zv.cells (cap - (q + m))) el)) M n ⟨verNext c.m n, k.cells.take (q * sz) ++ ys⟩ (some c.w.heap.size) rfl rfl rfl (by simp) (fun k hk => .inl (verNext_gt hk))
        (fun b hb _ => Below.heap_alloc _ _ _ hb) (fun k b cs' t hk e hb hh => absurd e (by have := verNext_gt hk; simp only; omega)) (fun e => by cases e) (fun g e => by
          cases e
          refine ⟨.inl (Nat.le_refl _), _, el, heap_alloc_new c.w.drew _, fun i x hx => ?_⟩
          obtain ⟨y, e1, e2⟩ := rapp.2 i x hx
          exact ⟨y, grown_get e1, e2⟩)
      refine ⟨_, _, _, hrun, hle, hM, .own (upd_eq _ _ _) (Nat.le_refl _) hcap hcap2 (fun e => by cases e) fun _ => .inr ⟨c.w.heap.size, 0, _, el, upd_eq _ _ _, rfl, fun _ => rfl, ?_, heap_alloc_new c.w.drew _, rfl, rfl, rfl, ?_⟩⟩
      · have e1 := rapp.1
        simp only [List.length_append] at e1 ⊢
        have : (q + m) * sz = q * sz + m * sz := Nat.add_mul ..
        have e2 := ro.1
        omega
      · have hzc : (Builtin.zeroCells zv.cells (cap - (q + m))).size = (cap - (q + m)) * sz := by rw [size_zeroCells, hzs]
        simp only [Array.size_append, List.size_toArray, hzc, hol, hnl, hsz]
        rw [← Nat.add_mul, ← Nat.add_mul]
        congr 1
        omega

def aAppendAt (P : Program) (t t2 : TypeId) (n ver off len sz q : Nat) (x : AV) (m : Mem) (site : Nat) : Option Eff :=
  (isSl P t).bind fun e => (szOf P e).bind fun z => (zeroOf P e).bind fun zl => ((P.info? e).map (·.bytes)).bind fun by_ => (slCells m x).bind fun ys =>
    match m n with
    | some k => if t2 = t ∧ zl.length = z ∧ 0 < z ∧ ys.1.length = ys.2 * z ∧ allOne ys.1 = true ∧ len + ys.2 ≤ 549755813888 ∧ by_ ≤ 128 ∧ ver = k.ver ∧ sz = z ∧ q = len ∧ 0 < len ∧ 0 < ys.2 ∧ off + len * z ≤ k.cells.length then
        some (.own site (verNext m site) 0 (len + ys.2) z (.whole e), some (site, ⟨verNext m site, (k.cells.drop off).take (len * z) ++ ys.1⟩)) else none
    | none => none
theorem aAppendAt_sound {P : Program} {c : Ctx} {w0 : World} (M : MemOk c w0) {t t2 ty : TypeId} {n ver off len sz q site : Nat} {x : AV} {v u : Value} {e : Eff} (h : aAppendAt P t t2 n ver off len sz q x c.m site = some e)
    (rs : Rel c (.own n ver off len sz (.known q)) v) (rx : Rel c x u) : Good P c w0 (Builtin.append_ #[t, t2] ty #[v, u]) e := by
  unfold aAppendAt at h
  obtain ⟨el, he, h1⟩ := Option.bind_eq_some_iff.1 h
  obtain ⟨z, hz, h2⟩ := Option.bind_eq_some_iff.1 h1
  obtain ⟨zl, hzl, h3⟩ := Option.bind_eq_some_iff.1 h2
  obtain ⟨by_, hby, h4⟩ := Option.bind_eq_some_iff.1 h3
  obtain ⟨⟨ys, m⟩, hys, h5⟩ := Option.bind_eq_some_iff.1 h4
  clear h h1 h2 h3 h4
  cases rs with
  | @own _ _ off _ _ _ k sa scp hk hv hl hm hn ha =>
    rw [hk] at h5
    simp only at h5
    split at h5
    case isFalse => cases h5
    rename_i hh
    obtain ⟨rfl, hzlen, hz0, hyl, hone, hlen, hbyte, rfl, rfl, rfl, hpos, hmpos, hfit⟩ := hh
    obtain rfl := Option.some.inj h5
    clear h5
    have hu := isSl_some he
    obtain ⟨i, hi, rfl⟩ := Option.map_eq_some_iff.1 hby
    have hsz : i.size = sz := by unfold szOf at hz; rw [hi] at hz; simpa using hz
    obtain ⟨zv, hzr, rz, hzi⟩ := zeroOf_sound hzl c
    have hzero : i.zero = some zv := by rw [hi] at hzi; simpa using hzi
    have hzs : zv.cells.size = sz := by have := rz.1; simp at this; omega
    obtain ⟨a, cp, rfl, hk1, hcm, hnone, hcells⟩ := slCells_sound M hys rx
    obtain ⟨news, rnews, hnews⟩ := pick_list (Q := fun i z => ∃ b o, a = some ⟨b, o, none⟩ ∧ c.w.cell? ⟨b, o + i, none⟩ = some z) (fun i y hy => by obtain ⟨b, o, z, e1, e2, e3⟩ := hcells i y hy; exact ⟨z, ⟨b, o, e1, e2⟩, e3⟩)
    have hnl : news.length = m * i.size := by rw [← rnews.1, hyl, hsz]
    have hnews' : ∀ ad, a = some ad → ∀ (j : Nat) v, news[j]? = some v → c.w.cell? (ad.add j) = some v := fun ad had j v hj => by
      obtain ⟨b, o, e1, e2⟩ := hnews j v hj
      rw [had] at e1; cases e1
      rw [addr_add]; exact e2
    have hones := ones_of rnews hone
    have hprod : (q + m) * i.bytes ≤ 140737488355328 := by
      have : (q + m) * i.bytes ≤ 549755813888 * 128 := Nat.mul_le_mul hlen hbyte
      omega
    rcases ha rfl with ⟨_, h2, _⟩ | ⟨g, o, cs, tt, g1, rfl, g3, g4, g5, g6⟩
    · omega
    have g6 : scp = q := g6
    obtain rfl := g3 (by omega)
    have hcl : k.cells.length ≤ cs.size ∧ ∀ (i : Nat) x, k.cells[i]? = some x → ∃ y, cs[i]? = some y ∧ Rel c x y := by
      rcases M.blk n k hk with ⟨h, _⟩ | ⟨g', cs', t', h, _, hh, hc⟩
      · rw [g1] at h; cases h
      · rw [g1] at h; cases h
        rw [g5] at hh; cases hh
        have := cells_le (cs := cs.toList) (fun i x hx => by simpa using hc i x hx)
        exact ⟨by simpa using this, hc⟩
    have ro : RelL c ((k.cells.drop o).take (q * sz)) ((cs.toList.drop o).take (q * sz)) := by
      refine ⟨by simp; omega, fun i x hx => ?_⟩
      rw [List.getElem?_take] at hx ⊢
      split at hx
      · rename_i hlt
        rw [if_pos hlt]
        rw [List.getElem?_drop] at hx ⊢
        obtain ⟨y, e1, e2⟩ := hcl.2 _ x hx
        exact ⟨y, by simpa using e1, e2⟩
      · cases hx
    have hol : ((cs.toList.drop o).take (q * sz)).length = q * sz := by simp; omega
    have rapp := ro.append rnews
    cases a with
    | none => have := (hnone rfl).1; omega
    | some ad =>
      have hroom : ¬ q + m ≤ scp := by omega
      have hrun := run_append_grow (P := P) c.w t2 ty _ i zv hu hi hzero ⟨g, o, none⟩ q scp ((cs.toList.drop o).take (q * sz)) (by rw [hol, hsz]) (fun j v hj => by
          rw [addr_add, cell_of_row _ _ _ _ _ _ g5]
          rw [List.getElem?_take] at hj
          split at hj
          · rw [List.getElem?_drop] at hj; simpa using hj
          · cases hj) ad m cp news hnl (hnews' ad rfl) (by omega) (by omega) (growslice_fits (by omega) hprod)
      have hcap := grownCap_ge c.w (q + m) scp el
      have hcap2 : grownCap c.w (q + m) scp el ≤ maxLen := grownCap_le_maxLen _ _ _ _ (by simp only [maxLen]; omega)
      generalize grownCap c.w (q + m) scp el = cap at *
      obtain ⟨hle, hM⟩ := step (w' := c.w.drew.alloc (.cells (((cs.toList.drop o).take (q * sz)).toArray ++ news.toArray ++ Builtin.zeroCells zv.cells (cap - (q + m))) el)) M site ⟨verNext c.m site, (k.cells.drop o).take (q * sz) ++ ys⟩ (some c.w.heap.size) rfl rfl rfl (by simp) (fun k hk => .inl (verNext_gt hk))
        (fun b hb _ => Below.heap_alloc _ _ _ hb) (fun k b cs' t hk e hb hh => absurd e (by have := verNext_gt hk; simp only; omega)) (fun e => by cases e) (fun g e => by
          cases e
          refine ⟨.inl (Nat.le_refl _), _, el, heap_alloc_new c.w.drew _, fun i x hx => ?_⟩
          obtain ⟨y, e1, e2⟩ := rapp.2 i x hx
          exact ⟨y, grown_get e1, e2⟩)
      refine ⟨_, _, _, hrun, hle, hM, .own (upd_eq _ _ _) (Nat.le_refl _) hcap hcap2 (fun e => by cases e) fun _ => .inr ⟨c.w.heap.size, 0, _, el, upd_eq _ _ _, rfl, fun _ => rfl, ?_, heap_alloc_new c.w.drew _, rfl, rfl, rfl, ?_⟩⟩
      · have e1 := rapp.1
        simp only [List.length_append] at e1 ⊢
        have : (q + m) * sz = q * sz + m * sz := Nat.add_mul ..
        have e2 := ro.1
        omega
      · have hzc : (Builtin.zeroCells zv.cells (cap - (q + m))).size = (cap - (q + m)) * sz := by rw [size_zeroCells, hzs]
        simp only [Array.size_append, List.size_toArray, hzc, hol, hnl, hsz]
        rw [← Nat.add_mul, ← Nat.add_mul]
        congr 1
        omega

/-- Append: to a full slice of known room, or as before. -/
def aApp (P : Program) (t t2 : TypeId) (s x : AV) (m : Mem) (site : Nat) : Option Eff :=
  match s with
  | .own n ver off len sz (.known q) => if off = 0 then aAppendFull P t t2 n ver off len sz q x m else aAppendAt P t t2 n ver off len sz q x m site
  | .own n ver off len sz (.whole e) => aAppend P t t2 (.own n ver off len sz (.whole e)) x m site
  | .v y => aAppend P t t2 (.v y) x m site
  | _ => none
theorem aApp_sound {P : Program} {c : Ctx} {w0 : World} (M : MemOk c w0) {t t2 ty : TypeId} {site : Nat} {s x : AV} {v u : Value} {e : Eff} (h : aApp P t t2 s x c.m site = some e) (rs : Rel c s v) (rx : Rel c x u) :
    Good P c w0 (Builtin.append_ #[t, t2] ty #[v, u]) e := by
  cases s with
  | own n ver off len sz r => cases r with
    | known q =>
      simp only [aApp] at h
      split at h
      · exact aAppendFull_sound M h rs rx
      · exact aAppendAt_sound M h rs rx
    | whole e => exact aAppend_sound M h rs rx
    | unk => cases h
  | v y => exact aAppend_sound M h rs rx
  | _ => cases h

/-- Clear: a slice of one cell an element. -/
def aClear (P : Program) (t : TypeId) (d : AV) (m : Mem) : Option Eff :=
  (isSl P t).bind fun e => (zeroOf P e).bind fun zl =>
    match d with
    | .own n ver off len sz r => match m n with
      | some k => if ver = k.ver ∧ zl.length = 1 ∧ allOne zl = true ∧ 0 < len ∧ sz = 1 ∧ off + len ≤ k.cells.length then some (.tup [], some (n, ⟨ver, splice k.cells off (zeros len zl)⟩)) else none
      | none => none
    | _ => none
theorem aClear_sound {P : Program} {c : Ctx} {w0 : World} (M : MemOk c w0) {t ty : TypeId} {d : AV} {v : Value} {e : Eff} (h : aClear P t d c.m = some e) (rd : Rel c d v) : Good P c w0 (Builtin.clear_ #[t] ty #[v]) e := by
  unfold aClear at h
  obtain ⟨el, he, h1⟩ := Option.bind_eq_some_iff.1 h
  obtain ⟨zl, hzl, h2⟩ := Option.bind_eq_some_iff.1 h1
  clear h h1
  have hu := isSl_some he
  cases d with
  | own n ver off len sz rm =>
    cases rd with
    | @own _ _ _ _ _ _ k sa scp hk hv hl hm hn ha =>
      simp only [hk] at h2
      split at h2
      case isFalse => cases h2
      rename_i hh
      obtain ⟨rfl, hz1, hone, hpos, rfl, hfit⟩ := hh
      obtain rfl := Option.some.inj h2
      clear h2
      obtain ⟨zv, hzr, rz, hzi⟩ := zeroOf_sound hzl c
      match zl, hz1 with
      | [zc], _ =>
      obtain ⟨z0, hz0⟩ : ∃ z0, zv.cells = #[z0] := by
        have hs : zv.cells.size = 1 := by have := rz.1; simpa using this.symm
        exact ⟨zv.cells[0], by apply Array.ext <;> simp [hs]; intro i hi; obtain rfl : i = 0 := by omega
                               rfl⟩
      rcases ha rfl with ⟨_, h2, _⟩ | ⟨g, o, cs, tt, g1, rfl, g3, g4, g5, g6⟩
      · omega
      obtain rfl := g3 (by omega)
      have hcl : ∀ (i : Nat) x, k.cells[i]? = some x → ∃ y, cs[i]? = some y ∧ Rel c x y := by
        rcases M.blk n k hk with ⟨h, _⟩ | ⟨g', cs', t', h, _, hh, hc⟩
        · rw [g1] at h; cases h
        · rw [g1] at h; cases h
          rw [g5] at hh; cases hh
          exact hc
      have rzc : Rel c zc z0 := by
        rw [hz0] at rz
        obtain ⟨y, l, e1, r1, _⟩ := rz.inv_cons
        simp at e1
        rw [e1.1]; exact r1
      have rt : RelL c (zeros len [zc]) (List.replicate len z0) := by
        refine ⟨by simp [zeros], fun i x hx => ?_⟩
        simp only [zeros] at hx
        rw [List.getElem?_replicate] at hx ⊢
        split at hx
        · rename_i hlt
          cases hx
          exact ⟨z0, by rw [if_pos hlt], rzc⟩
        · cases hx
      have hzo : z0.oneCell' = true := rzc.one (by simpa [allOne] using hone)
      have hlz : (zeros len [zc]).length = len := by simp [zeros]
      obtain ⟨hle, hM⟩ := step_row (o := o) M hk g1 g5 hcl rt (by rw [hlz]; omega)
      have hcc := cells_le (cs := cs.toList) (fun i x hx => by simpa using hcl i x hx)
      have hst := run_storeCells_at P g o tt (List.replicate len z0) 0 cs c.w g5 (by simp at hcc ⊢; omega) (fun z hz => by rw [(List.mem_replicate.1 hz).2]; exact hzo)
      simp only [Nat.add_zero] at hst
      have hzc : (Builtin.zeroCells zv.cells len).toList = List.replicate len z0 := by rw [hz0]; exact zeroCells_one z0 len
      refine ⟨.tuple #[], _, c.ι, ?_, hle, hM, .tup (fun _ => default) rfl (fun i x h => by simp at h) (fun i x h => by simp at h)⟩
      have hst' : (storeCells ⟨g, o, none⟩ (List.replicate len z0)).run P c.w = .ok () (c.w.setRow g (splice cs.toList o (List.replicate len z0)).toArray) := hst
      match len, hpos with
      | l + 1, _ => simp [Builtin.clear_, run_underlying hu, hzr, hzc, hst']
  | _ => cases h2
end Go.Pm

/- A machine of values: operators. -/
namespace Go.Pm
open Go.RowKit
set_option linter.unusedVariables false
set_option linter.unusedSimpArgs false

/-- Operators on whole numbers. -/
def intBin (op : BinOp) (k k' : IntKind) (a b : Int) : Option Value :=
  match op with
  | .shl => if 0 ≤ b then some (.int k (k.wrap (a * 2 ^ min b.toNat k.bits))) else none
  | .shr => if 0 ≤ b then some (.int k (a.fdiv (2 ^ min b.toNat k.bits))) else none
  | op => if k = k' then
      match op with
      | .add => some (.int k (k.wrap (a + b)))
      | .sub => some (.int k (k.wrap (a - b)))
      | .mul => some (.int k (k.wrap (a * b)))
      | .quo => if b = 0 then none else some (.int k (k.wrap (a.tdiv b)))
      | .rem => if b = 0 then none else some (.int k (a.tmod b))
      | .and => some (.int k (bits .and k a b))
      | .or => some (.int k (bits .or k a b))
      | .xor => some (.int k (bits .xor k a b))
      | .andNot => some (.int k (bits .andNot k a b))
      | .eql => some (.bool (a == b))
      | .neq => some (.bool (a != b))
      | .lss => some (.bool (a < b))
      | .leq => some (.bool (a ≤ b))
      | .gtr => some (.bool (a > b))
      | .geq => some (.bool (a ≥ b))
      | _ => none
    else none
theorem intBin_run {P : Program} {w : World} {op : BinOp} {k k' : IntKind} {a b : Int} {y : Value} {T : TypeId} (h : intBin op k k' a b = some y) : (binOp op T (.int k a) (.int k' b)).run P w = .ok y w := by
  cases op <;> simp only [intBin] at h <;> (try (split at h <;> try (cases h; done)))
  case shl => cases h; rename_i h0; have h1 : ¬ b < 0 := by omega
              simp [binOp, Op.shift, h1]
  case shr => cases h; rename_i h0; have h1 : ¬ b < 0 := by omega
              simp [binOp, Op.shift, h1]
  case quo => split at h
              · cases h
              · rename_i h1 h0; cases h; subst h1; simp [binOp, Op.intDiv, h0]
  case rem => split at h
              · cases h
              · rename_i h1 h0; cases h; subst h1; simp [binOp, Op.intDiv, h0]
  all_goals (rename_i h1; subst h1; cases h; first | (simp [binOp, Op.intArith]; done) | (simp [binOp, Op.intCmp]; done) | (simp only [binOp, ne_eq, not_true_eq_false, if_false]; rfl))

def isBool (P : Program) (t : TypeId) : Bool := match P.underlying t with | some .bool => true | _ => false
theorem isBool_some {P : Program} {t : TypeId} (h : isBool P t = true) : P.underlying t = some .bool := by
  unfold isBool at h
  split at h
  · assumption
  · cases h

/-- The plain values of cells. -/
def valsOf : List AV → Option (List Value)
  | [] => some []
  | .v x :: xs => (valsOf xs).map (x :: ·)
  | _ => none
theorem valsOf_rel {c : Ctx} : ∀ {xs : List AV} {vs ys : List Value}, valsOf xs = some vs → RelL c xs ys → ys = vs := by
  intro xs
  induction xs with
  | nil => intro vs ys h r; cases h; exact r.inv_nil
  | cons x xs ih =>
    intro vs ys h r
    unfold valsOf at h
    split at h
    · rename_i e; cases e
    · rename_i x0 xs0 e
      cases e
      obtain ⟨ws, h1, rfl⟩ := Option.map_eq_some_iff.1 h
      obtain ⟨y, ys', rfl, r1, r2⟩ := r.inv_cons
      rw [ih h1 r2, r1.inv_v.1]
    · cases h
def pairOk : List LK → List Value → List Value → Bool
  | [], [], [] => true
  | l :: ls, x :: xs, y :: ys => leafOk l x y && pairOk ls xs ys
  | _, _, _ => false
theorem pairOk_iff : ∀ {l : List LK} {xs ys : List Value}, pairOk l xs ys = true → PairOk l xs ys := by
  intro l
  induction l with
  | nil => intro xs ys h; cases xs <;> cases ys <;> simp [pairOk] at h; exact ⟨rfl, rfl, fun i k x y hk => by simp at hk⟩
  | cons a l ih =>
    intro xs ys h
    cases xs <;> cases ys <;> simp [pairOk] at h
    obtain ⟨h1, h2⟩ := h
    obtain ⟨e1, e2, e3⟩ := ih h2
    refine ⟨by simp [e1], by simp [e2], fun i k x y hk hx hy => ?_⟩
    cases i with
    | zero => simp at hk hx hy; subst hk hx hy; exact h1
    | succ i => exact e3 i k x y (by simpa using hk) (by simpa using hx) (by simpa using hy)

/-- Is a value known to be nil, or not to be? -/
def nilOf : AV → Option Bool
  | .v (.slice a _ _) => some a.isNone
  | .v (.pointer a) => some a.isNone
  | .v .nilFunc => some true
  | .sl nn _ len _ => if nn = true ∨ 0 < len then some false else none
  | .own _ _ _ len _ _ => if 0 < len then some false else none
  | .ptr _ _ _ => some false
  | .at_ _ => some false
  | .fn _ _ _ => some false
  | _ => none
def isNilV : Value → Option Bool
  | .slice a _ _ => some a.isNone
  | .pointer a => some a.isNone
  | .nilFunc => some true
  | .func _ _ _ => some false
  | _ => none
theorem nilOf_sound {c : Ctx} {x : AV} {v : Value} {b : Bool} (h : nilOf x = some b) (r : Rel c x v) : isNilV v = some b := by
  cases x with
  | v y => obtain ⟨rfl, _⟩ := r.inv_v; cases v <;> simp [nilOf] at h <;> simp [isNilV, h]
  | sl nn xs len cap =>
    simp only [nilOf] at h
    split at h
    · rename_i hh
      cases h
      cases r with
      | @sl _ _ _ _ a cp f hl hm hc hn ha hx hr =>
        cases a with
        | none => have := hn rfl; rcases hh with h | h <;> simp_all
        | some a => rfl
    · cases h
  | own n ver off len sz rm =>
    simp only [nilOf] at h
    split at h
    · rename_i hh
      cases h
      cases r with
      | @own _ _ _ _ _ _ k a cp hk hv hl hm hn ha =>
        cases a with
        | none => have := hn rfl; omega
        | some a => rfl
    · cases h
  | ptr => cases h; cases r; rfl
  | at_ => cases h; cases r; rfl
  | fn => cases h; obtain ⟨cs, ds, rfl, _⟩ := r.inv_fn; rfl
  | _ => cases h
/-- The kinds that nil is compared at. -/
inductive NK where
  | slice | ptr | func
  deriving DecidableEq
def nkT (P : Program) (t : TypeId) : Option NK := match P.underlying t with | some (.slice _) => some .slice | some (.pointer _) => some .ptr | some (.func _ _ _) => some .func | _ => none
def nkV : Value → Option NK
  | .slice _ _ _ => some .slice
  | .pointer _ => some .ptr
  | .nilFunc | .func _ _ _ => some .func
  | _ => none
def nkA : AV → Option NK
  | .v x => nkV x
  | .sl _ _ _ _ | .own _ _ _ _ _ _ => some .slice
  | .ptr _ _ _ | .at_ _ => some .ptr
  | .fn _ _ _ => some .func
  | _ => none
theorem nkA_sound {c : Ctx} {x : AV} {v : Value} {k : NK} (h : nkA x = some k) (r : Rel c x v) : nkV v = some k := by
  cases x with
  | v y => obtain ⟨rfl, _⟩ := r.inv_v; exact h
  | sl => cases h; cases r; rfl
  | own => cases h; cases r; rfl
  | ptr => cases h; cases r; rfl
  | at_ => cases h; cases r; rfl
  | fn => cases h; obtain ⟨cs, ds, rfl, _⟩ := r.inv_fn; rfl
  | _ => cases h
theorem equal_nil {P : Program} {w : World} {d : Nat} {t : TypeId} {k : NK} {x y : Value} {a b : Bool} (hk : nkT P t = some k) (hx : nkV x = some k) (hy : nkV y = some k) (nx : isNilV x = some a) (ny : isNilV y = some b) (hab : a = true ∨ b = true) :
    (Op.equalIn (d + 1) t x y).run P w = .ok (a && b) w := by
  cases hu : P.underlying t with
  | none => simp [nkT, hu] at hk
  | some u =>
    cases u <;> simp [nkT, hu] at hk
    all_goals
      subst hk
      cases x <;> simp [nkV, isNilV] at hx nx
      all_goals (cases y <;> simp [nkV, isNilV] at hy ny)
    case slice e a1 n1 c1 a2 n2 c2 =>
      subst nx ny
      cases a1 <;> cases a2 <;> simp at hab <;> simp [Op.equalIn, run_underlying hu]
    case pointer e a1 a2 =>
      subst nx ny
      cases a1 <;> cases a2 <;> simp at hab <;> simp [Op.equalIn, run_underlying hu]
    all_goals (subst nx ny; first | (simp at hab; done) | simp [Op.equalIn, run_underlying hu])

/-- '==' of two values. -/
def aEq (P : Program) (T : TypeId) (x y : AV) : Option Bool :=
  match x, y with
  | .agg xs, .agg ys => if P.eqGuardType P.depth T = true ∨ isAggT P T ≠ some true then none else
      (flatK P 40 T).bind fun l => (valsOf xs).bind fun vs => (valsOf ys).bind fun us => if pairOk l vs us = true then some (eqV vs us) else none
  | .v (.bool a), .v (.bool b) => if isBool P T = true then some (a == b) else none
  | .v (.string a), .v (.string b) => some (a.toList == b.toList)
  | x, y => (nkT P T).bind fun k => if nkA x = some k ∧ nkA y = some k then (nilOf x).bind fun a => (nilOf y).bind fun b => if a = true ∨ b = true then some (a && b) else none else none
def aBin (P : Program) (op : BinOp) (T : TypeId) (x y : AV) : Option AV :=
  match x, y with
  | .v (.int k a), .v (.int k' b) => (intBin op k k' a b).map .v
  | x, y => match op with
    | .eql => (aEq P T x y).map fun b => .v (.bool b)
    | .neq => (aEq P T x y).map fun b => .v (.bool !b)
    | _ => none

theorem intBin_plain {op : BinOp} {k k' : IntKind} {a b : Int} {y : Value} (h : intBin op k k' a b = some y) : ∀ cs, y ≠ .agg cs := by
  intro cs e
  subst e
  cases op <;> simp only [intBin] at h <;> (repeat' (split at h)) <;> cases h

/-- What 'binOp' says where both are no whole numbers. -/
theorem binOp_eq {P : Program} {w : World} {T : TypeId} {x y : Value} {b : Bool} (h : (Op.equal T x y).run P w = .ok b w) (hs : ∀ a c, ¬ (x = .int a c)) (hstr : ∀ s u, x = .string s → y = .string u → (s.toList == u.toList) = b) 
    (hf : (∀ k a, x ≠ .float k a) ∧ (∀ k a c, x ≠ .complex k a c)) :
    (binOp .eql T x y).run P w = .ok (.bool b) w ∧ (binOp .neq T x y).run P w = .ok (.bool !b) w := by
  constructor
  all_goals
    cases x <;> first
      | exact absurd rfl (hs _ _)
      | exact absurd rfl (hf.1 _ _)
      | exact absurd rfl (hf.2 _ _ _)
      | skip
    all_goals (cases y <;> first | (simp [binOp, h]; done) | (simp [binOp, Op.stringOp, hstr _ _ rfl rfl]; done) | skip)

theorem eqGuard_plain {P : Program} {w : World} {op : BinOp} {T : TypeId} {o1 o2 : Operand} {x y : Value} (h1 : x ≠ .nilIface) (h2 : ∀ a, x = .agg a → P.eqGuardType P.depth T = false) : (eqGuard op T o1 o2 x y).run P w = .ok () w := by
  unfold eqGuard
  cases op <;> simp <;> (cases x <;> first | exact absurd rfl h1 | skip) <;> (try (cases y)) <;> simp_all [run_program]

theorem aBin_sound {P : Program} {c : Ctx} {w0 : World} (M : MemOk c w0) {op : BinOp} {T : TypeId} {o1 o2 : Operand} {x y z : AV} {v u : Value} (h : aBin P op T x y = some z) (rx : Rel c x v) (ry : Rel c y u) :
    Good P c w0 (do eqGuard op T o1 o2 v u; binOp op T v u) (z, none) := by
  unfold aBin at h
  split at h
  · rename_i k a k' b
    obtain ⟨rfl, _⟩ := rx.inv_v
    obtain ⟨rfl, _⟩ := ry.inv_v
    obtain ⟨q, hq, rfl⟩ := Option.map_eq_some_iff.1 h
    refine Good.same (v := q) ?_ M .v
    rw [Sem.run_bind, eqGuard_plain (by intro h; cases h) (by intro a h; cases h)]
    exact intBin_run hq
  · rename_i hni
    -- the comparison's own answer
    have key : ∀ b, aEq P T x y = some b → (∀ o1 o2, ∀ op, (eqGuard op T o1 o2 v u).run P c.w = .ok () c.w) ∧ (binOp .eql T v u).run P c.w = .ok (.bool b) c.w ∧ (binOp .neq T v u).run P c.w = .ok (.bool !b) c.w := by
      intro b hb
      unfold aEq at hb
      split at hb
      · rename_i xs ys
        split at hb
        · cases hb
        rename_i hg
        obtain ⟨l, hl, hb⟩ := Option.bind_eq_some_iff.1 hb
        obtain ⟨vs, hvs, hb⟩ := Option.bind_eq_some_iff.1 hb
        obtain ⟨us, hus, hb⟩ := Option.bind_eq_some_iff.1 hb
        split at hb
        case isFalse => cases hb
        rename_i hp
        cases hb
        obtain ⟨cs, rfl, r1⟩ := rx.inv_agg
        obtain ⟨ds, rfl, r2⟩ := ry.inv_agg
        have e1 := valsOf_rel hvs r1
        have e2 := valsOf_rel hus r2
        obtain ⟨b', hb', _, hE⟩ := flatK_eq 40 T l hl 9960
        simp only [not_or, Bool.not_eq_true, Decidable.not_not] at hg
        rw [hg.2] at hb'
        obtain rfl : b' = true := by cases hb'; rfl
        have hh := hE c.w vs us (pairOk_iff hp)
        simp only [shapeV, if_true] at hh
        rw [← e1, ← e2] at hh ⊢
        rw [Array.toArray_toList, Array.toArray_toList] at hh
        refine ⟨fun o1 o2 op => eqGuard_plain (by intro h; cases h) (fun _ _ => hg.1), binOp_eq (by simpa [Op.equal, Op.maxDepth] using hh) (by intro a c h; cases h) (by intro s u h; cases h) ⟨(by intro _ _ h; cases h), (by intro _ _ _ h; cases h)⟩⟩
      · rename_i a b0
        split at hb
        · rename_i hT
          cases hb
          obtain ⟨rfl, _⟩ := rx.inv_v
          obtain ⟨rfl, _⟩ := ry.inv_v
          refine ⟨fun o1 o2 op => eqGuard_plain (by intro h; cases h) (by intro _ h; cases h), binOp_eq (run_equal_bool c.w T a b0 (isBool_some hT)) (by intro a c h; cases h) (by intro s u h; cases h) ⟨(by intro _ _ h; cases h), (by intro _ _ _ h; cases h)⟩⟩
        · cases hb
      · rename_i a b0
        cases hb
        obtain ⟨rfl, _⟩ := rx.inv_v
        obtain ⟨rfl, _⟩ := ry.inv_v
        refine ⟨fun o1 o2 op => eqGuard_plain (by intro h; cases h) (by intro _ h; cases h), ?_, ?_⟩ <;> simp [binOp, Op.stringOp]
      · obtain ⟨k, hk, hb⟩ := Option.bind_eq_some_iff.1 hb
        split at hb
        case isFalse => cases hb
        rename_i hn
        obtain ⟨a, ha, hb⟩ := Option.bind_eq_some_iff.1 hb
        obtain ⟨b0, hb0, hb⟩ := Option.bind_eq_some_iff.1 hb
        split at hb
        case isFalse => cases hb
        rename_i hab
        cases hb
        have n1 := nkA_sound hn.1 rx
        have n2 := nkA_sound hn.2 ry
        have i1 := nilOf_sound ha rx
        have i2 := nilOf_sound hb0 ry
        have hh := equal_nil (P := P) (w := c.w) (d := 9999) hk n1 n2 i1 i2 hab
        refine ⟨fun o1 o2 op => eqGuard_plain (by intro h; rw [h] at n1; cases n1) (by intro _ h; rw [h] at n1; cases n1), binOp_eq (by simpa [Op.equal, Op.maxDepth] using hh) (by intro a c h; rw [h] at n1; cases n1) (by intro s u h; rw [h] at n1; cases n1) ⟨(by intro _ _ h; rw [h] at n1; cases n1), (by intro _ _ _ h; rw [h] at n1; cases n1)⟩⟩
    split at h
    · obtain ⟨b, hb, rfl⟩ := Option.map_eq_some_iff.1 h
      obtain ⟨g, e1, e2⟩ := key b hb
      refine Good.same (v := .bool b) ?_ M .v
      rw [Sem.run_bind, g]; exact e1
    · obtain ⟨b, hb, rfl⟩ := Option.map_eq_some_iff.1 h
      obtain ⟨g, e1, e2⟩ := key b hb
      refine Good.same (v := .bool !b) ?_ M .v
      rw [Sem.run_bind, g]; exact e2
    · cases h

def aUn (op : UnOp) (x : AV) : Option AV :=
  match op, x with
  | .not, .v (.bool b) => some (.v (.bool !b))
  | .neg, .v (.int k n) => some (.v (.int k (k.wrap (0 - n))))
  | .xor, .v (.int k n) => some (.v (.int k (bits .xor k (if k.signed then -1 else k.max) n)))
  | _, _ => none
theorem aUn_sound {P : Program} {c : Ctx} {w0 : World} (M : MemOk c w0) {op : UnOp} {x y : AV} {v : Value} (h : aUn op x = some y) (r : Rel c x v) : Good P c w0 (Op.unary op v) (y, none) := by
  unfold aUn at h
  split at h
  · cases h; obtain ⟨rfl, _⟩ := r.inv_v
    exact Good.same (by simp [Op.unary]) M .v
  · cases h; obtain ⟨rfl, _⟩ := r.inv_v
    exact Good.same (by simp [Op.unary, Op.intArith]) M .v
  · cases h; obtain ⟨rfl, _⟩ := r.inv_v
    exact Good.same (v := .int _ _) (by simp only [Op.unary]; rfl) M .v
  · cases h
end Go.Pm

/- A machine of values: one operation. -/
namespace Go.Pm
open Go.RowKit
set_option linter.unusedVariables false
set_option linter.unusedSimpArgs false

def aPick (c a b : AV) : Option AV := match c with | .v (.bool t) => some (if t = true then a else b) | _ => none
def aNilCheck (x : AV) : Option AV := match x with | .ptr n v off => some (.ptr n v off) | .at_ xs => some (.at_ xs) | .fn (.func f) xs ys => some (.fn (.func f) xs ys) | _ => none
def aBuiltin (P : Program) (b : Builtin) (ts : List TypeId) (xs : List AV) (m : Mem) (site : Nat) : Option Eff :=
  match b, ts, xs with
  | .len, [t], [x] => (aLen P t x).map fun y => (y, none)
  | .append, [t, t2], [x, y] => aApp P t t2 x y m site
  | .copy, [t, _], [x, y] => aCopy P t x y m
  | .clear, [t], [x] => aClear P t x m
  | .min, _, [.v (.int k x), .v (.int _ y)] => some (.v (.int k (if y < x then y else x)), none)
  | .max, _, [.v (.int k x), .v (.int _ y)] => some (.v (.int k (if y > x then y else x)), none)
  | _, _, _ => none

/-- An operation that calls no function: its value, the block that turns. -/
def absOp (P : Program) (o : Oper) (ρ : Operand → AV) (m : Mem) (site : Nat) : Option Eff :=
  match o.op with
  | .move x | .assign x => some (ρ x, none)
  | .pick c a b => (aPick (ρ c) (ρ a) (ρ b)).map fun y => (y, none)
  | .alloc e => aAlloc P e m site
  | .box e x => some (aNew m site (ρ x).cells)
  | .build t ps => (aBuild P t (ps.toList.map fun p => (p.1, ρ p.2))).map fun y => (y, none)
  | .buildSlice t n ps => aBuildSlice P t n (ps.toList.map fun p => (p.1, ρ p.2)) m site
  | .load t a => (aLoad P t (ρ a) m).map fun y => (y, none)
  | .store t a x => aStore P t (ρ a) (ρ x) m
  | .nilCheck x => (aNilCheck (ρ x)).map fun y => (y, none)
  | .binOp op t x y _ => (aBin P op t (ρ x) (ρ y)).map fun y => (y, none)
  | .unOp op _ x => (aUn op (ρ x)).map fun y => (y, none)
  | .convert s d x => (aConvert P s d (ρ x) m).map fun y => (y, none)
  | .sliceToArrayPointer t x => (aS2A P t (ρ x) m).map fun y => (y, none)
  | .makeFunc f first caps => some (.fn f (first.toList.map ρ) (caps.toList.map ρ), none)
  | .makeSlice t l c => aMakeSlice P t (ρ l) (ρ c) m site
  | .slice t x lo hi mx => (aSlice P t (ρ x) (lo.map ρ) (hi.map ρ) (mx.map ρ) m).map fun y => (y, none)
  | .fieldAddr s x f => (aFieldAddr P s f (ρ x)).map fun y => (y, none)
  | .field t x f => (aField P t (ρ x) f).map fun y => (y, none)
  | .indexAddr t x i => (aIndexAddr P t (ρ x) (ρ i)).map fun y => (y, none)
  | .index t x i => (aIndex P t (ρ x) (ρ i)).map fun y => (y, none)
  | .extract x i => (aExtract (ρ x) i).map fun y => (y, none)
  | .call q => match q.callee with | .builtin b => aBuiltin P b q.argTypes.toList (q.args.toList.map ρ) m site | _ => none
  | _ => none

/-- The run of an operation comes to this effect. -/
def GoodN (P : Program) (c : Ctx) (w0 : World) (s : Sem Next) (e : Eff) : Prop :=
  ∃ n v w' ι', s.run P c.w = .ok n w' ∧ (n = .value v ∨ (n = .skip ∧ v = undef)) ∧ c.le ⟨memOf c.m e.2, ι', w'⟩ ∧ MemOk ⟨memOf c.m e.2, ι', w'⟩ w0 ∧ Rel ⟨memOf c.m e.2, ι', w'⟩ e.1 v
theorem Good.next {P : Program} {c : Ctx} {w0 : World} {s : Sem Value} {e : Eff} (h : Good P c w0 s e) : GoodN P c w0 (do pure (.value (← s))) e := by
  obtain ⟨v, w', ι', h1, h2⟩ := h
  exact ⟨_, v, w', ι', by simp only [Sem.run_bind, h1, Result.andThen_ok, Sem.run_pure], .inl rfl, h2⟩
theorem GoodU.next {P : Program} {c : Ctx} {w0 : World} {s : Sem Unit} {e : Eff} (h : GoodU P c w0 s e) : GoodN P c w0 (do s; pure .skip) e := by
  obtain ⟨w', ι', h1, h2, h3, h4⟩ := h
  refine ⟨_, undef, w', ι', by simp only [Sem.run_bind, h1, Result.andThen_ok, Sem.run_pure], .inr ⟨rfl, rfl⟩, h2, h3, ?_⟩
  rw [h4]; exact .v
theorem GoodN.same {P : Program} {c : Ctx} {w0 : World} {s : Sem Next} {x : AV} {v : Value} (h : s.run P c.w = .ok (.value v) c.w) (M : MemOk c w0) (r : Rel c x v) : GoodN P c w0 s (x, none) :=
  ⟨_, v, c.w, c.ι, h, .inl rfl, .refl c, M, r⟩
theorem GoodN.congr {P : Program} {c : Ctx} {w0 : World} {s s' : Sem Next} {e : Eff} (h : GoodN P c w0 s e) (he : s'.run P c.w = s.run P c.w) : GoodN P c w0 s' e := by
  obtain ⟨n, v, w', ι', h1, h2⟩ := h
  exact ⟨n, v, w', ι', he.trans h1, h2⟩
theorem relL_map {c : Ctx} {ρ : Operand → AV} {a : Act} (R : ∀ x, Rel c (ρ x) (a.eval x)) (xs : List Operand) : RelL c (xs.map ρ) (xs.map a.eval) := by
  induction xs with
  | nil => exact .nil c
  | cons x xs ih => exact .cons (R x) ih

theorem aPick_sound {c : Ctx} {x y z r : AV} {u v q : Value} (h : aPick x y z = some r) (rx : Rel c x u) (ry : Rel c y v) (rz : Rel c z q) : ∃ t, u = .bool t ∧ Rel c r (if t = true then v else q) := by
  unfold aPick at h
  split at h
  · cases h
    obtain ⟨rfl, _⟩ := rx.inv_v
    refine ⟨_, rfl, ?_⟩
    split
    · exact ry
    · exact rz
  · cases h
theorem aNilCheck_sound {c : Ctx} {x r : AV} {u : Value} (h : aNilCheck x = some r) (rx : Rel c x u) : r = x ∧ ((∃ a, u = .pointer (some a)) ∨ ∃ f xs ys, u = .func (.func f) xs ys) := by
  unfold aNilCheck at h
  split at h
  · cases h; cases rx; exact ⟨rfl, .inl ⟨_, rfl⟩⟩
  · cases h; cases rx; exact ⟨rfl, .inl ⟨_, rfl⟩⟩
  · cases h; obtain ⟨cs, ds, rfl, _⟩ := rx.inv_fn; exact ⟨rfl, .inr ⟨_, _, _, rfl⟩⟩
  · cases h
theorem aBuiltin_sound {P : Program} {c : Ctx} {w0 : World} (M : MemOk c w0) {b : Builtin} {ts : Array TypeId} {ty : TypeId} {cs : Array Bool} {xs : List AV} {vs : Array Value} {site : Nat} {e : Eff} (h : aBuiltin P b ts.toList xs c.m site = some e) (r : RelL c xs vs.toList) :
    GoodN P c w0 (builtin b ts ty cs vs) e := by
  obtain ⟨ts⟩ := ts
  obtain ⟨vs⟩ := vs
  unfold aBuiltin at h
  simp only at h r
  split at h
  · obtain ⟨y, hy, rfl⟩ := Option.map_eq_some_iff.1 h
    obtain ⟨v, vs', rfl, r1, r2⟩ := r.inv_cons
    obtain rfl := r2.inv_nil
    exact (aLen_sound (ty := ty) M hy r1).next
  · obtain ⟨v, vs', rfl, r1, r2⟩ := r.inv_cons
    obtain ⟨u, vs', rfl, r3, r4⟩ := r2.inv_cons
    obtain rfl := r4.inv_nil
    exact (aApp_sound (ty := ty) M h r1 r3).next
  · obtain ⟨v, vs', rfl, r1, r2⟩ := r.inv_cons
    obtain ⟨u, vs', rfl, r3, r4⟩ := r2.inv_cons
    obtain rfl := r4.inv_nil
    exact (aCopy_sound (ty := ty) M h r1 r3).next
  · obtain ⟨v, vs', rfl, r1, r2⟩ := r.inv_cons
    obtain rfl := r2.inv_nil
    exact (aClear_sound (ty := ty) M h r1).next
  · rename_i k x k' y
    obtain ⟨v, vs', rfl, r1, r2⟩ := r.inv_cons
    obtain ⟨u, vs', rfl, r3, r4⟩ := r2.inv_cons
    obtain rfl := r4.inv_nil
    cases r1; cases r3; cases h
    exact .same (by show (do pure (.value (← Builtin.min_ _ _ _)) : Sem Next).run P c.w = _; simp [run_min_int2]) M .v
  · rename_i k x k' y
    obtain ⟨v, vs', rfl, r1, r2⟩ := r.inv_cons
    obtain ⟨u, vs', rfl, r3, r4⟩ := r2.inv_cons
    obtain rfl := r4.inv_nil
    cases r1; cases r3; cases h
    exact .same (by show (do pure (.value (← Builtin.max_ _ _ _)) : Sem Next).run P c.w = _; simp [run_max_int2]) M .v
  · cases h

set_option maxHeartbeats 4000000 in
theorem absOp_sound {P : Program} {c : Ctx} {w0 : World} (M : MemOk c w0) {o : Oper} {ρ : Operand → AV} {a : Act} {site : Nat} {e : Eff} (h : absOp P o ρ c.m site = some e) (R : ∀ x, Rel c (ρ x) (a.eval x)) :
    GoodN P c w0 (execOp a.eval o) e := by
  obtain ⟨dst, op, ty, pos, aft, grd⟩ := o
  unfold absOp at h
  simp only [execOp]
  cases op with
  | move x => cases h; exact .same rfl M (R x)
  | assign x => cases h; exact .same rfl M (R x)
  | pick q x y =>
    obtain ⟨z, hz, rfl⟩ := Option.map_eq_some_iff.1 h
    obtain ⟨t, ht, r⟩ := aPick_sound hz (R q) (R x) (R y)
    exact .same (v := if t = true then a.eval x else a.eval y) (by simp [ht, asBool]) M r
  | alloc t => exact (aAlloc_sound M h).next
  | box t x => cases h; exact (aBox_sound M (R x)).next
  | build t ps =>
    obtain ⟨y, hy, rfl⟩ := Option.map_eq_some_iff.1 h
    refine (aBuild_sound (qs := ps.map fun (i, x) => (i, a.eval x)) M hy (by simp [Function.comp_def]) (fun i b hb => ?_)).next
    rw [List.getElem?_map] at hb
    cases e : ps.toList[i]? with
    | none => rw [e] at hb; cases hb
    | some q =>
      rw [e] at hb; cases hb
      exact ⟨(q.1, a.eval q.2), by simp [Array.toList_map, e], R q.2⟩
  | buildSlice t n ps =>
    refine (aBuildSlice_sound (qs := ps.map fun (i, x) => (i, a.eval x)) M h (by simp [Function.comp_def]) (fun i b hb => ?_)).next
    rw [List.getElem?_map] at hb
    cases e : ps.toList[i]? with
    | none => rw [e] at hb; cases hb
    | some q =>
      rw [e] at hb; cases hb
      exact ⟨(q.1, a.eval q.2), by simp [Array.toList_map, e], R q.2⟩
  | load t x =>
    obtain ⟨y, hy, rfl⟩ := Option.map_eq_some_iff.1 h
    exact (aLoad_sound M hy (R x)).next
  | store t x y => exact (aStore_sound M h (R x) (R y)).next
  | nilCheck x =>
    obtain ⟨z, hz, rfl⟩ := Option.map_eq_some_iff.1 h
    have hr := R x
    obtain ⟨rfl, h2⟩ := aNilCheck_sound hz hr
    rcases h2 with ⟨ad, h2⟩ | ⟨f, xs, ys, h2⟩
    · exact .same (v := a.eval x) (by simp only [h2]; rfl) M hr
    · exact .same (v := a.eval x) (by simp only [h2]; rfl) M hr
  | binOp op t x y ty2 =>
    obtain ⟨z, hz, rfl⟩ := Option.map_eq_some_iff.1 h
    exact (aBin_sound M hz (R x) (R y)).next
  | unOp op t x =>
    obtain ⟨z, hz, rfl⟩ := Option.map_eq_some_iff.1 h
    exact (aUn_sound M hz (R x)).next
  | convert s d x =>
    obtain ⟨z, hz, rfl⟩ := Option.map_eq_some_iff.1 h
    exact (aConvert_sound M hz (R x)).next
  | sliceToArrayPointer t x =>
    obtain ⟨z, hz, rfl⟩ := Option.map_eq_some_iff.1 h
    exact (aS2A_sound M hz (R x)).next
  | makeFunc f first caps =>
    cases h
    exact .same (v := .func f (first.map a.eval) (caps.map a.eval)) (by simp [Instr.makeFunc]) M (.mkFn (by rw [Array.toList_map]; exact relL_map R _) (by rw [Array.toList_map]; exact relL_map R _))
  | makeSlice t l q => exact (aMakeSlice_sound M h (R l) (R q)).next
  | slice t x lo hi mx =>
    obtain ⟨z, hz, rfl⟩ := Option.map_eq_some_iff.1 h
    have key : ∀ q : Option Operand, (∀ y, q.map ρ = some y → ∃ u, q.map a.eval = some u ∧ Rel c y u) ∧ (q.map ρ = none → q.map a.eval = none) := fun q => by
      cases q with
      | none => exact ⟨(fun y h => by cases h), fun _ => rfl⟩
      | some q => exact ⟨(fun y h => by cases h; exact ⟨_, rfl, R q⟩), (fun h => by cases h)⟩
    exact (aSlice_sound M hz (R x) (key lo).1 (key lo).2 (key hi).1 (key hi).2 (key mx).1 (key mx).2).next
  | fieldAddr s x f =>
    obtain ⟨z, hz, rfl⟩ := Option.map_eq_some_iff.1 h
    exact (aFieldAddr_sound M hz (R x)).next
  | field t x f =>
    obtain ⟨z, hz, rfl⟩ := Option.map_eq_some_iff.1 h
    exact (aField_sound M hz (R x)).next
  | indexAddr t x i =>
    obtain ⟨z, hz, rfl⟩ := Option.map_eq_some_iff.1 h
    exact (aIndexAddr_sound M hz (R x) (R i)).next
  | index t x i =>
    obtain ⟨z, hz, rfl⟩ := Option.map_eq_some_iff.1 h
    exact (aIndex_sound M hz (R x) (R i)).next
  | extract x i =>
    obtain ⟨z, hz, rfl⟩ := Option.map_eq_some_iff.1 h
    exact (aExtract_sound M hz (R x)).next
  | call q =>
    obtain ⟨cal, args, ats⟩ := q
    simp only at h
    cases cal with
    | builtin b =>
      have := aBuiltin_sound (ty := ty) (cs := args.map fun | .const _ => true | _ => false) (vs := args.map a.eval) M h (by rw [Array.toList_map]; exact relL_map R _)
      exact this.congr (by simp only [resolve, Sem.run_bind, Sem.run_pure, Result.andThen_ok, invoke]; rfl)
    | _ => cases h
  | _ => cases h
end Go.Pm

/- A machine of values: other names; calls by contract. -/
namespace Go.Pm
open Go.RowKit
set_option linter.unusedVariables false
set_option linter.unusedSimpArgs false

/- The names that stand in a value. -/
mutual
def AV.names : AV → List Nat
  | .v _ => []
  | .own n _ _ _ _ _ => [n]
  | .ptr n _ _ => [n]
  | .sl _ xs _ _ => namesL xs
  | .at_ xs => namesL xs
  | .agg xs => namesL xs
  | .tup xs => namesL xs
  | .fn _ xs ys => namesL xs ++ namesL ys
def namesL : List AV → List Nat
  | [] => []
  | x :: xs => x.names ++ namesL xs
end
/- No name, nothing in memory. -/
mutual
def AV.shut : AV → Bool
  | .v _ => true
  | .own _ _ _ _ _ _ => false
  | .ptr _ _ _ => false
  | .sl _ xs _ _ => shutL xs
  | .at_ xs => shutL xs
  | .agg xs => shutL xs
  | .tup xs => shutL xs
  | .fn _ xs ys => shutL xs && shutL ys
def shutL : List AV → Bool
  | [] => true
  | x :: xs => x.shut && shutL xs
end
/- A value under other names and versions; none where a name is not there, or where it holds other memory's cells. -/
mutual
def AV.ren (f : Nat → Nat → Option (Nat × Nat)) : AV → Option AV
  | .v x => some (.v x)
  | .own n ver off len sz r => (f n ver).map fun p => .own p.1 p.2 off len sz r
  | .ptr n ver off => (f n ver).map fun p => .ptr p.1 p.2 off
  | .sl nn xs len cap => match xs with | [] => some (.sl nn [] len cap) | _ => none
  | .at_ xs => match xs with | [] => some (.at_ []) | _ => none
  | .agg xs => (renL f xs).map .agg
  | .tup xs => (renL f xs).map .tup
  | .fn g xs ys => (renL f xs).bind fun xs' => (renL f ys).map fun ys' => .fn g xs' ys'
def renL (f : Nat → Nat → Option (Nat × Nat)) : List AV → Option (List AV)
  | [] => some []
  | x :: xs => (x.ren f).bind fun x' => (renL f xs).map fun xs' => x' :: xs'
end

theorem shutL_get {xs : List AV} : shutL xs = true → ∀ (i : Nat) x, xs[i]? = some x → x.shut = true := by
  induction xs with
  | nil => intro _ i x h; simp at h
  | cons y xs ih =>
    intro h i x hx
    simp only [shutL, Bool.and_eq_true] at h
    cases i with
    | zero => simp at hx; subst hx; exact h.1
    | succ i => exact ih h.2 i x (by simpa using hx)
theorem renL_get {f : Nat → Nat → Option (Nat × Nat)} : ∀ {xs ys : List AV}, renL f xs = some ys → xs.length = ys.length ∧ ∀ (i : Nat) y, ys[i]? = some y → ∃ x, xs[i]? = some x ∧ x.ren f = some y := by
  intro xs
  induction xs with
  | nil => intro ys h; simp only [renL, Option.some.injEq] at h; subst h; exact ⟨rfl, fun i y h => by simp at h⟩
  | cons x xs ih =>
    intro ys h
    simp only [renL] at h
    obtain ⟨x', h1, h⟩ := Option.bind_eq_some_iff.1 h
    obtain ⟨xs', h2, rfl⟩ := Option.map_eq_some_iff.1 h
    obtain ⟨e1, e2⟩ := ih h2
    refine ⟨by simp [e1], fun i y hy => ?_⟩
    cases i with
    | zero => simp at hy; subst hy; exact ⟨x, rfl, h1⟩
    | succ i => obtain ⟨z, a, b⟩ := e2 i y (by simpa using hy); exact ⟨z, by simpa using a, b⟩

/-- The empty state of names. -/
def noneAt (w : World) : Ctx := ⟨fun _ => none, fun _ => none, w⟩
theorem Rel.bare {c : Ctx} {x : AV} {v : Value} (h : Rel c x v) : x.shut = true → Rel (noneAt c.w) x v := by
  induction h with
  | v => intro _; exact .v
  | own => intro h; simp [AV.shut] at h
  | ptr => intro h; simp [AV.shut] at h
  | sl f hl hm hc hn ha hx hr ih =>
    intro h
    refine .sl f hl hm hc hn ha (fun i x hi => ?_) (fun i x hi => ih i x hi (shutL_get h i x hi))
    obtain ⟨b, o, e1, e2, e3⟩ := hx i x hi
    exact ⟨b, o, e1, (fun ⟨n, k, h, _⟩ => by cases h), e3⟩
  | at_ f hx hr ih =>
    intro h
    exact .at_ f (fun i x hi => ⟨(fun ⟨n, k, h, _⟩ => by cases h), (hx i x hi).2⟩) (fun i x hi => ih i x hi (shutL_get h i x hi))
  | agg f hl hx hr ih => intro h; exact .agg f hl hx (fun i x hi => ih i x hi (shutL_get h i x hi))
  | tup f hl hx hr ih => intro h; exact .tup f hl hx (fun i x hi => ih i x hi (shutL_get h i x hi))
  | fn p q hl hx hr hl2 hx2 hr2 ih ih2 =>
    intro h
    simp only [AV.shut, Bool.and_eq_true] at h
    exact .fn p q hl hx (fun i x hi => ih i x hi (shutL_get h.1 i x hi)) hl2 hx2 (fun i x hi => ih2 i x hi (shutL_get h.2 i x hi))

/-- Other names for the same blocks. -/
def Names (c c1 : Ctx) (f : Nat → Nat → Option (Nat × Nat)) : Prop :=
  ∀ n ver n' v', f n ver = some (n', v') → ∀ k, c.m n = some k → k.ver = ver ∧ ∃ k', c1.m n' = some k' ∧ k'.ver = v' ∧ k'.cells.length = k.cells.length ∧ c1.ι n' = c.ι n
theorem Rel.ren {c c1 : Ctx} {f : Nat → Nat → Option (Nat × Nat)} (H : Names c c1 f) (hw : c1.w = c.w) {x : AV} {v : Value} (h : Rel c x v) : ∀ y, x.ren f = some y → Rel c1 y v := by
  induction h with
  | v => intro y hy; simp only [AV.ren, Option.some.injEq] at hy; subst hy; exact .v
  | own hk hv hl hm hn ha =>
    intro y hy
    simp only [AV.ren] at hy
    obtain ⟨⟨n', v'⟩, hf, rfl⟩ := Option.map_eq_some_iff.1 hy
    obtain ⟨e1, k', e2, e3, e4, e5⟩ := H _ _ _ _ hf _ hk
    show Rel c1 (.own n' v' _ _ _ _) _
    refine .own e2 (by omega) hl hm hn fun _ => (ha e1.symm).mono e5 e4 (fun b cs t _ hb => ⟨cs, by rw [hw]; exact hb, rfl⟩)
  | ptr hk hv ha =>
    intro y hy
    simp only [AV.ren] at hy
    obtain ⟨⟨n', v'⟩, hf, rfl⟩ := Option.map_eq_some_iff.1 hy
    obtain ⟨e1, k', e2, e3, e4, e5⟩ := H _ _ _ _ hf _ hk
    obtain ⟨g, g1, g2⟩ := ha e1.symm
    show Rel c1 (.ptr n' v' _) _
    exact .ptr e2 (by omega) fun _ => ⟨g, e5.trans g1, g2⟩
  | @sl nn xs len cap a cp f hl hm hc hn ha hx hr ih =>
    intro y hy
    cases xs with
    | nil => simp only [AV.ren, Option.some.injEq] at hy; subst hy; exact .sl f hl hm hc hn ha (fun i x hi => by simp at hi) (fun i x hi => by simp at hi)
    | cons => simp [AV.ren] at hy
  | @at_ xs b o f hx hr ih =>
    intro y hy
    cases xs with
    | nil => simp only [AV.ren, Option.some.injEq] at hy; subst hy; exact .at_ f (fun i x hi => by simp at hi) (fun i x hi => by simp at hi)
    | cons => simp [AV.ren] at hy
  | agg g hl hx hr ih =>
    intro y hy
    simp only [AV.ren] at hy
    obtain ⟨xs', h1, rfl⟩ := Option.map_eq_some_iff.1 hy
    obtain ⟨e1, e2⟩ := renL_get h1
    exact .agg g (by omega) (fun i x hi => by obtain ⟨z, a, b⟩ := e2 i x hi; exact hx i z a) (fun i x hi => by obtain ⟨z, a, b⟩ := e2 i x hi; exact ih i z a x b)
  | tup g hl hx hr ih =>
    intro y hy
    simp only [AV.ren] at hy
    obtain ⟨xs', h1, rfl⟩ := Option.map_eq_some_iff.1 hy
    obtain ⟨e1, e2⟩ := renL_get h1
    exact .tup g (by omega) (fun i x hi => by obtain ⟨z, a, b⟩ := e2 i x hi; exact hx i z a) (fun i x hi => by obtain ⟨z, a, b⟩ := e2 i x hi; exact ih i z a x b)
  | fn p q hl hx hr hl2 hx2 hr2 ih ih2 =>
    intro y hy
    simp only [AV.ren] at hy
    obtain ⟨xs', h1, hy⟩ := Option.bind_eq_some_iff.1 hy
    obtain ⟨ys', h2, rfl⟩ := Option.map_eq_some_iff.1 hy
    obtain ⟨e1, e2⟩ := renL_get h1
    obtain ⟨e3, e4⟩ := renL_get h2
    exact .fn p q (by omega) (fun i x hi => by obtain ⟨z, a, b⟩ := e2 i x hi; exact hx i z a) (fun i x hi => by obtain ⟨z, a, b⟩ := e2 i x hi; exact ih i z a x b)
      (by omega) (fun i x hi => by obtain ⟨z, a, b⟩ := e4 i x hi; exact hx2 i z a) (fun i x hi => by obtain ⟨z, a, b⟩ := e4 i x hi; exact ih2 i z a x b)

/-- An argument by its cells, for a call that reads it alone. -/
def closeLeaf (m : Mem) (x : AV) : Option AV :=
  match x with
  | .own n ver off len sz r => (slCells m (.own n ver off len sz r)).bind fun ys => if shutL ys.1 = true then some (.sl (decide (0 < len)) ys.1 len none) else none
  | .ptr n ver off => (ptrCells m (.ptr n ver off)).bind fun ys => if shutL ys = true then some (.at_ ys) else none
  | x => if x.shut = true then some x else none
def closeL (m : Mem) : List AV → Option (List AV)
  | [] => some []
  | x :: xs => (closeLeaf m x).bind fun y => (closeL m xs).map (y :: ·)
def closeArg (m : Mem) (x : AV) : Option AV :=
  match x with
  | .agg xs => (closeL m xs).map .agg
  | x => closeLeaf m x
def closeArgs (m : Mem) : List AV → Option (List AV)
  | [] => some []
  | x :: xs => (closeArg m x).bind fun y => (closeArgs m xs).map (y :: ·)

theorem slCells_own {m : Mem} {n ver off len sz : Nat} {r : Room} {ys : List AV} {q : Nat} (h : slCells m (.own n ver off len sz r) = some (ys, q)) : ∃ k, m n = some k ∧ ver = k.ver ∧ q = len := by
  cases hk : m n with
  | none => simp [slCells, hk] at h
  | some k =>
    simp only [slCells, hk] at h
    split at h
    · rename_i e
      simp only [Option.some.injEq, Prod.mk.injEq] at h
      exact ⟨k, rfl, e, h.2.symm⟩
    · cases h
theorem closeLeaf_sound {c : Ctx} {w0 : World} (M : MemOk c w0) {x y : AV} {v : Value} (h : closeLeaf c.m x = some y) (r : Rel c x v) : Rel (noneAt c.w) y v := by
  have fin : ∀ x : AV, (if x.shut = true then some x else none) = some y → Rel c x v → Rel (noneAt c.w) y v := fun x h r => by
    split at h
    · rename_i hs; cases h; exact r.bare hs
    · cases h
  cases x with
  | own n ver off len sz rm =>
    simp only [closeLeaf] at h
    obtain ⟨⟨ys, n'⟩, hys, h⟩ := Option.bind_eq_some_iff.1 h
    split at h
    case isFalse => cases h
    rename_i hs
    cases h
    obtain ⟨k0, hk0, hver, rfl⟩ := slCells_own hys
    obtain ⟨a, cp, rfl, h1, h2, h3, h4⟩ := slCells_sound M hys r
    have hsp : ∀ p, a = some p → p.spot = none := by
      cases r with
      | @own _ _ _ _ _ _ k _ _ hk hv hl hm hn ha =>
        intro p hp
        rw [hk] at hk0
        cases hk0
        rcases ha hver with ⟨h, _⟩ | ⟨g, o, cs, t, _, h, _⟩
        · rw [h] at hp; cases hp
        · rw [h] at hp; cases hp; rfl
    obtain ⟨vs, rv, hv⟩ := pick_list (Q := fun i z => ∃ b o, a = some (⟨b, o, none⟩ : Addr) ∧ c.w.cell? ⟨b, o + i, none⟩ = some z) (fun i y hy => by obtain ⟨b, o, z, e1, e2, e3⟩ := h4 i y hy; exact ⟨z, ⟨b, o, e1, e2⟩, e3⟩)
    obtain ⟨f, f1, f2⟩ := fun_of rv
    refine .sl f h1 h2 (fun q e => by cases e) (fun e => ⟨by have := h3 e; simp [this.1], (h3 e).2, (h3 e).1⟩) (fun p e _ => hsp p e) (fun i x hi => ?_) (fun i x hi => (f2 i x hi).bare (shutL_get hs i x hi))
    obtain ⟨b, o, e1, e2⟩ := hv i _ (f1 i x hi)
    exact ⟨b, o, e1, (fun ⟨n, k, h, _⟩ => by cases h), e2⟩
  | ptr n ver off =>
    simp only [closeLeaf] at h
    obtain ⟨ys, hys, h⟩ := Option.bind_eq_some_iff.1 h
    split at h
    case isFalse => cases h
    rename_i hs
    cases h
    obtain ⟨b, o, rfl, h4⟩ := ptrCells_sound M hys r
    obtain ⟨vs, rv, hv⟩ := pick_list (Q := fun i z => c.w.cell? ⟨b, o + i, none⟩ = some z) (fun i y hy => by obtain ⟨z, e2, e3⟩ := h4 i y hy; exact ⟨z, e2, e3⟩)
    obtain ⟨f, f1, f2⟩ := fun_of rv
    exact .at_ f (fun i x hi => ⟨(fun ⟨n, k, h, _⟩ => by cases h), hv i _ (f1 i x hi)⟩) (fun i x hi => (f2 i x hi).bare (shutL_get hs i x hi))
  | v x => exact fin (.v x) h r
  | sl nn xs len cap => exact fin (.sl nn xs len cap) h r
  | at_ xs => exact fin (.at_ xs) h r
  | agg xs => exact fin (.agg xs) h r
  | tup xs => exact fin (.tup xs) h r
  | fn f xs ys => exact fin (.fn f xs ys) h r
theorem closeL_sound {c : Ctx} {w0 : World} (M : MemOk c w0) : ∀ {xs ys : List AV} {vs : List Value}, closeL c.m xs = some ys → RelL c xs vs → RelL (noneAt c.w) ys vs := by
  intro xs
  induction xs with
  | nil => intro ys vs h r; cases h; rw [r.inv_nil]; exact .nil _
  | cons x xs ih =>
    intro ys vs h r
    simp only [closeL] at h
    obtain ⟨y, h1, h⟩ := Option.bind_eq_some_iff.1 h
    obtain ⟨zs, h2, rfl⟩ := Option.map_eq_some_iff.1 h
    obtain ⟨v, vs', rfl, r1, r2⟩ := r.inv_cons
    exact .cons (closeLeaf_sound M h1 r1) (ih h2 r2)
theorem closeArg_sound {c : Ctx} {w0 : World} (M : MemOk c w0) {x y : AV} {v : Value} (h : closeArg c.m x = some y) (r : Rel c x v) : Rel (noneAt c.w) y v := by
  cases x with
  | agg xs =>
    obtain ⟨ys, h1, rfl⟩ := Option.map_eq_some_iff.1 h
    obtain ⟨cs, rfl, rl⟩ := r.inv_agg
    exact .mkAgg (closeL_sound M h1 rl)
  | v x => exact closeLeaf_sound (x := .v x) M h r
  | own n ver off len sz rm => exact closeLeaf_sound (x := .own n ver off len sz rm) M h r
  | ptr n ver off => exact closeLeaf_sound (x := .ptr n ver off) M h r
  | sl nn xs len cap => exact closeLeaf_sound (x := .sl nn xs len cap) M h r
  | at_ xs => exact closeLeaf_sound (x := .at_ xs) M h r
  | tup xs => exact closeLeaf_sound (x := .tup xs) M h r
  | fn f xs ys => exact closeLeaf_sound (x := .fn f xs ys) M h r
theorem closeArgs_sound {c : Ctx} {w0 : World} (M : MemOk c w0) : ∀ {xs ys : List AV} {vs : List Value}, closeArgs c.m xs = some ys → RelL c xs vs → RelL (noneAt c.w) ys vs := by
  intro xs
  induction xs with
  | nil => intro ys vs h r; cases h; rw [r.inv_nil]; exact .nil _
  | cons x xs ih =>
    intro ys vs h r
    simp only [closeArgs] at h
    obtain ⟨y, h1, h⟩ := Option.bind_eq_some_iff.1 h
    obtain ⟨zs, h2, rfl⟩ := Option.map_eq_some_iff.1 h
    obtain ⟨v, vs', rfl, r1, r2⟩ := r.inv_cons
    exact .cons (closeArg_sound M h1 r1) (ih h2 r2)

/-- A function by its answers: from arguments by their cells to a result, its new blocks by number. -/
abbrev Fun := List AV → Option (AV × List (List AV))
def blkMem (bs : List (List AV)) : Mem := fun n => (bs[n]?).map fun cells => ⟨0, cells⟩
/-- The function makes at most memory, and its results are these. -/
def Pure (P : Program) (f : FuncId) (F : Fun) : Prop :=
  ∀ (w : World) (args : List AV) (vs : Array Value) r bs, RelL (noneAt w) args vs.toList → F args = some (r, bs) →
    Calls P f vs w fun e w' => ∃ v ι, e = .returned v ∧ MemOk ⟨blkMem bs, ι, w'⟩ w ∧ Rel ⟨blkMem bs, ι, w'⟩ r v

/-- New blocks under a place's names. -/
def place (m : Mem) (site : Nat) : Nat → List (List AV) → Mem
  | _, [] => m
  | j, b :: bs => upd (place m site (j + 1) bs) (site * 16 + j) (some ⟨verNext m (site * 16 + j), b⟩)
def siteRen (m : Mem) (site cnt : Nat) (n ver : Nat) : Option (Nat × Nat) := if ver = 0 ∧ n < cnt then some (site * 16 + n, verNext m (site * 16 + n)) else none
def renBlks (f : Nat → Nat → Option (Nat × Nat)) : List (List AV) → Option (List (List AV))
  | [] => some []
  | b :: bs => (renL f b).bind fun b' => (renBlks f bs).map (b' :: ·)

theorem place_at (m : Mem) (site : Nat) : ∀ (bs : List (List AV)) (j n : Nat), place m site j bs n = if site * 16 + j ≤ n ∧ n < site * 16 + j + bs.length then (bs[n - (site * 16 + j)]?).map (fun b => ⟨verNext m n, b⟩) else m n := by
  intro bs
  induction bs with
  | nil => intro j n; simp [place]; intro h1 h2; omega
  | cons b bs ih =>
    intro j n
    simp only [place, upd_at, ih, List.length_cons]
    by_cases h : n = site * 16 + j
    · subst h
      rw [if_pos rfl, if_pos (by omega)]
      simp
    · rw [if_neg h]
      by_cases h2 : site * 16 + (j + 1) ≤ n ∧ n < site * 16 + (j + 1) + bs.length
      · rw [if_pos h2, if_pos (by omega)]
        have : n - (site * 16 + j) = n - (site * 16 + (j + 1)) + 1 := by omega
        rw [this]; simp
      · rw [if_neg h2, if_neg (by omega)]
theorem renBlks_get {f : Nat → Nat → Option (Nat × Nat)} : ∀ {bs cs : List (List AV)}, renBlks f bs = some cs → bs.length = cs.length ∧ ∀ (i : Nat) y, cs[i]? = some y → ∃ x, bs[i]? = some x ∧ renL f x = some y := by
  intro bs
  induction bs with
  | nil => intro cs h; cases h; exact ⟨rfl, fun i y h => by simp at h⟩
  | cons b bs ih =>
    intro cs h
    simp only [renBlks] at h
    obtain ⟨b', h1, h⟩ := Option.bind_eq_some_iff.1 h
    obtain ⟨bs', h2, rfl⟩ := Option.map_eq_some_iff.1 h
    obtain ⟨e1, e2⟩ := ih h2
    refine ⟨by simp [e1], fun i y hy => ?_⟩
    cases i with
    | zero => simp at hy; subst hy; exact ⟨b, rfl, h1⟩
    | succ i => obtain ⟨z, a, b⟩ := e2 i y (by simpa using hy); exact ⟨z, by simpa using a, b⟩

/-- What a call by contract leaves: its result under the place's names. -/
def callBy (F : Fun) (m : Mem) (site : Nat) (args : List AV) : Option (AV × Mem) :=
  (closeArgs m args).bind fun as => (F as).bind fun rb =>
    (rb.1.ren (siteRen m site rb.2.length)).bind fun r => (renBlks (siteRen m site rb.2.length) rb.2).map fun bs => (r, place m site 0 bs)

theorem callBy_sound {P : Program} {f : FuncId} {F : Fun} (hF : Pure P f F) {c : Ctx} {w0 : World} (M : MemOk c w0) {site : Nat} {args : List AV} {vs : Array Value} {r : AV} {m' : Mem} (h : callBy F c.m site args = some (r, m')) (ra : RelL c args vs.toList) :
    Calls P f vs c.w fun e w' => ∃ v ι', e = .returned v ∧ c.le ⟨m', ι', w'⟩ ∧ MemOk ⟨m', ι', w'⟩ w0 ∧ Rel ⟨m', ι', w'⟩ r v := by
  unfold callBy at h
  obtain ⟨as, has, h⟩ := Option.bind_eq_some_iff.1 h
  obtain ⟨⟨r0, bs⟩, hr0, h⟩ := Option.bind_eq_some_iff.1 h
  obtain ⟨r1, hr1, h⟩ := Option.bind_eq_some_iff.1 h
  obtain ⟨bs', hbs, h⟩ := Option.map_eq_some_iff.1 h
  simp only [Prod.mk.injEq] at h
  obtain ⟨rfl, rfl⟩ := h
  simp only at hr1 hbs
  refine (hF c.w as vs r0 bs (closeArgs_sound M has ra) hr0).mono ?_
  rintro e w' ⟨v, ι, rfl, M0, rr⟩
  obtain ⟨hlen, hget⟩ := renBlks_get hbs
  have hb := M0.below
  -- the new state of names
  let isNew : Nat → Prop := fun n => site * 16 ≤ n ∧ n < site * 16 + bs.length
  let ι' : Nat → Option Nat := fun n => if site * 16 ≤ n ∧ n < site * 16 + bs.length then ι (n - site * 16) else c.ι n
  have hm : ∀ n, place c.m site 0 bs' n = if site * 16 ≤ n ∧ n < site * 16 + bs.length then (bs'[n - site * 16]?).map (fun b => ⟨verNext c.m n, b⟩) else c.m n := fun n => by
    have := place_at c.m site bs' 0 n
    simpa [← hlen] using this
  have hnew : ∀ n, isNew n → ∃ x b, bs[n - site * 16]? = some x ∧ bs'[n - site * 16]? = some b ∧ renL (siteRen c.m site bs.length) x = some b ∧ place c.m site 0 bs' n = some ⟨verNext c.m n, b⟩ ∧ ι' n = ι (n - site * 16) := fun n hn => by
    have hlt : n - site * 16 < bs'.length := by have := hn.1; have := hn.2; omega
    obtain ⟨x, a, b⟩ := hget _ _ (List.getElem?_eq_getElem hlt)
    refine ⟨x, _, a, List.getElem?_eq_getElem hlt, b, ?_, if_pos hn⟩
    rw [hm, if_pos hn, List.getElem?_eq_getElem hlt]
    rfl
  have hold : ∀ n, ¬ isNew n → place c.m site 0 bs' n = c.m n ∧ ι' n = c.ι n := fun n hn => ⟨by rw [hm, if_neg hn], if_neg hn⟩
  -- new blocks lie past the old ones
  have hpast : ∀ n g, isNew n → ι' n = some g → c.w.heap.size ≤ g := fun n g hn hg => by
    obtain ⟨x, b, h1, h2, h3, h4, h5⟩ := hnew n hn
    rw [h5] at hg
    rcases M0.blk (n - site * 16) ⟨0, x⟩ (by simp [blkMem, h1]) with ⟨h, _⟩ | ⟨g', cs, t, h, hge, _⟩
    · simp only at h; rw [hg] at h; cases h
    · simp only at h; rw [hg] at h; cases h; exact hge
  have hle : c.le ⟨place c.m site 0 bs', ι', w'⟩ := by
    refine ⟨hb.size, fun n k hk => ?_, fun b hb' hlt => ⟨hb.block b hlt, fun ⟨n, k, h1, h2⟩ => ?_⟩⟩
    · by_cases hn : isNew n
      · obtain ⟨x, b, h1, h2, h3, h4, h5⟩ := hnew n hn
        exact ⟨_, h4, Nat.le_of_lt (verNext_gt hk), fun e => absurd e (by have := verNext_gt hk; simp only; omega)⟩
      · obtain ⟨h1, h2⟩ := hold n hn
        exact ⟨k, h1.trans hk, Nat.le_refl _, fun _ => ⟨h2, rfl, fun b cs t _ hh => ⟨cs, (hb.block b (lt_heap hh)).trans hh, rfl⟩⟩⟩
    · by_cases hn : isNew n
      · have := hpast n b hn h2; omega
      · obtain ⟨e1, e2⟩ := hold n hn
        exact hb' ⟨n, k, e1.symm.trans h1, e2.symm.trans h2⟩
  have hN : Names ⟨blkMem bs, ι, w'⟩ ⟨place c.m site 0 bs', ι', w'⟩ (siteRen c.m site bs.length) := by
    intro n ver n' v' hf k hk
    unfold siteRen at hf
    split at hf
    · rename_i hh
      obtain ⟨rfl, hlt⟩ := hh
      cases hf
      have hn : isNew (site * 16 + n) := ⟨by omega, by omega⟩
      obtain ⟨x, b, h1, h2, h3, h4, h5⟩ := hnew _ hn
      rw [Nat.add_sub_cancel_left] at h1 h2 h5
      simp only [blkMem, h1, Option.map_some, Option.some.injEq] at hk
      subst hk
      exact ⟨rfl, _, h4, rfl, (renL_get h3).1.symm, h5⟩
    · cases hf
  refine ⟨v, ι', rfl, hle, ⟨?_, fun n k hk => ?_, fun n n' k k2 g h1 h2 h3 h4 => ?_⟩, rr.ren hN rfl r1 hr1⟩
  · exact M.below.trans (hb.mono M.below.size)
  · by_cases hn : isNew n
    · obtain ⟨x, b, h1, h2, h3, h4, h5⟩ := hnew n hn
      simp only at hk
      rw [h4] at hk; cases hk
      rcases M0.blk (n - site * 16) ⟨0, x⟩ (by simp [blkMem, h1]) with ⟨h, h'⟩ | ⟨g', cs, t, h, hge, hh, hc⟩
      · refine .inl ⟨h5.trans h, ?_⟩
        simp only at h'
        subst h'
        simp only [renL, Option.some.injEq] at h3
        exact h3.symm
      · refine .inr ⟨g', cs, t, h5.trans h, by have := M.below.size; omega, hh, fun i y hy => ?_⟩
        obtain ⟨z, e1, e2⟩ := (renL_get h3).2 i y hy
        obtain ⟨u, e3, e4⟩ := hc i z e1
        exact ⟨u, e3, e4.ren hN rfl y e2⟩
    · obtain ⟨h1, h2⟩ := hold n hn
      simp only at hk
      rw [h1] at hk
      rcases M.blk n k hk with ⟨h, h'⟩ | ⟨g, cs, t, h, hg, hh, hc⟩
      · exact .inl ⟨h2.trans h, h'⟩
      · refine .inr ⟨g, cs, t, h2.trans h, hg, (hb.block g (lt_heap hh)).trans hh, fun i x hx => ?_⟩
        obtain ⟨y, e1, e2⟩ := hc i x hx
        exact ⟨y, e1, e2.mono hle⟩
  · by_cases hn : isNew n <;> by_cases hn' : isNew n'
    · obtain ⟨x, b, a1, a2, a3, a4, a5⟩ := hnew n hn
      obtain ⟨y, d, b1, b2, b3, b4, b5⟩ := hnew n' hn'
      have e := M0.inj (n - site * 16) (n' - site * 16) ⟨0, x⟩ ⟨0, y⟩ g (by simp [blkMem, a1]) (by simp [blkMem, b1]) (a5.symm.trans h3) (b5.symm.trans h4)
      have := hn.1; have := hn'.1
      omega
    · have p := hpast n g hn h3
      obtain ⟨e1, e2⟩ := hold n' hn'
      rcases M.blk n' k2 (e1.symm.trans h2) with ⟨h, _⟩ | ⟨g', cs, t, h, _, hh, _⟩
      · rw [← e2] at h; simp only at h4; rw [h4] at h; cases h
      · rw [← e2] at h; simp only at h4; rw [h4] at h; cases h; have := lt_heap hh; omega
    · have p := hpast n' g hn' h4
      obtain ⟨e1, e2⟩ := hold n hn
      rcases M.blk n k (e1.symm.trans h1) with ⟨h, _⟩ | ⟨g', cs, t, h, _, hh, _⟩
      · rw [← e2] at h; simp only at h3; rw [h3] at h; cases h
      · rw [← e2] at h; simp only at h3; rw [h3] at h; cases h; have := lt_heap hh; omega
    · obtain ⟨e1, e2⟩ := hold n hn
      obtain ⟨e3, e4⟩ := hold n' hn'
      exact M.inj n n' k k2 g (e1.symm.trans h1) (e3.symm.trans h2) (e2.symm.trans h3) (e4.symm.trans h4)
end Go.Pm
