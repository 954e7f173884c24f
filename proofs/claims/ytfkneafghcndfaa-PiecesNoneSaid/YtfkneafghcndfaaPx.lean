/- A machine of values: contracts of functions that append to their first argument. -/
import Derived.Test.YtfkneafghcndfaaPm
namespace Go.Pm
open Go.RowKit
set_option linter.unusedVariables false
set_option linter.unusedSimpArgs false

/-- What holds no own names is so for fewer names too. -/
theorem Rel.sub {c d : Ctx} (hw : d.w = c.w) (hd : ∀ b, d.mine b → c.mine b) {x : AV} {v : Value} (h : Rel c x v) : x.shut = true → Rel d x v := by
  induction h with
  | v => intro _; exact .v
  | own => intro h; simp [AV.shut] at h
  | ptr => intro h; simp [AV.shut] at h
  | mp => intro h; simp [AV.shut] at h
  | ip => intro h; simp [AV.shut] at h
  | sl f hl hm hc hn ha hx hr ih =>
    intro h
    refine .sl f hl hm hc hn ha (fun i x hi => ?_) (fun i x hi => ih i x hi (shutL_get h i x hi))
    obtain ⟨b, o, e1, e2, e3⟩ := hx i x hi
    exact ⟨b, o, e1, fun h => e2 (hd _ h), by rw [hw]; exact e3⟩
  | at_ f hx hr ih =>
    intro h
    exact .at_ f (fun i x hi => ⟨fun h => (hx i x hi).1 (hd _ h), by rw [hw]; exact (hx i x hi).2⟩) (fun i x hi => ih i x hi (shutL_get h i x hi))
  | agg f hl hx hr ih => intro h; exact .agg f hl hx (fun i x hi => ih i x hi (shutL_get h i x hi))
  | tup f hl hx hr ih => intro h; exact .tup f hl hx (fun i x hi => ih i x hi (shutL_get h i x hi))
  | fn p q hl hx hr hl2 hx2 hr2 ih ih2 =>
    intro h
    simp only [AV.shut, Bool.and_eq_true] at h
    exact .fn p q hl hx (fun i x hi => ih i x hi (shutL_get h.1 i x hi)) hl2 hx2 (fun i x hi => ih2 i x hi (shutL_get h.2 i x hi))

theorem B8_noents (zs : List Int) (x : AV) (hx : ∀ k v, x ≠ .v (.int k v)) (h : B8 zs = [x]) : False := by
  match zs, h with
  | [z], h => simp only [B8, List.map_cons, List.map_nil, List.cons.injEq, and_true] at h; exact hx _ _ h.symm
/-- From the bytes that are there and the other arguments to the bytes that come behind. -/
abbrev App := List Int → List AV → Option (List Int)
def mem0 (zs : List Int) : Mem := fun n => if n = 0 then some ⟨0, B8 zs⟩ else none
def AppOk (P : Program) (f : FuncId) (e : TypeId) (G : App) : Prop :=
  ∀ (c : Ctx) (w0 : World) (v : Value) (vs : List Value) zs as ys, MemOk c w0 → c.m = mem0 zs → Rel c (.own 0 0 0 zs.length 1 (.whole e)) v → RelL c as vs → G zs as = some ys →
    Calls P f (v :: vs).toArray c.w fun x w' => ∃ v' ι' m' ver, x = .returned v' ∧ c.le ⟨m', ι', w'⟩ ∧ MemOk ⟨m', ι', w'⟩ w0 ∧ Rel ⟨m', ι', w'⟩ (.own 0 ver 0 (zs ++ ys).length 1 (.whole e)) v' ∧ m' 0 = some ⟨ver, B8 (zs ++ ys)⟩
def appE (e : TypeId) (G : App) (m : Mem) (site : Nat) : List AV → Option (AV × List (Nat × Blk) × List Nat)
  | s :: rest => (appBase m site e 1 s).bind fun b => (asB8 b.2.1).bind fun zs => (G zs rest).bind fun ys =>
      if zs.length = b.2.2 ∧ shutL rest = true then some (.own b.1 (verNext m b.1) 0 (zs ++ ys).length 1 (.whole e), [(b.1, ⟨verNext m b.1, B8 (zs ++ ys)⟩)], b.1 :: namesL (s :: rest)) else none
  | [] => none

theorem B8_get_v {zs : List Int} {i : Nat} {x : AV} (h : (B8 zs)[i]? = some x) : ∃ z, x = .v (.int .u8 z) := by
  unfold B8 at h
  rw [List.getElem?_map] at h
  cases e : zs[i]? with
  | none => rw [e] at h; cases h
  | some z => rw [e] at h; cases h; exact ⟨z, rfl⟩
theorem rel_v {c d : Ctx} {z : Value} {y : Value} (h : Rel c (.v z) y) : Rel d (.v z) y := by cases h; exact .v

theorem appE_sound {P : Program} {f : FuncId} {e : TypeId} {G : App} (hA : AppOk P f e G) {c : Ctx} {w0 : World} (M : MemOk c w0) {site : Nat} {args : List AV} {vs : Array Value} {r : AV} {us : List (Nat × Blk)} {F : List Nat}
    (h : appE e G c.m site args = some (r, us, F)) (ra : RelL c args vs.toList) :
    ∃ n k, us = [(n, k)] ∧ Calls P f vs c.w fun x w' => ∃ v ι', x = .returned v ∧ c.le ⟨upd c.m n (some k), ι', w'⟩ ∧ MemOk ⟨upd c.m n (some k), ι', w'⟩ w0 ∧ Rel ⟨upd c.m n (some k), ι', w'⟩ r v := by
  match args, h, ra with
  | s :: rest, h, ra =>
  obtain ⟨v, vl, hvl, rs, rr⟩ := ra.inv_cons
  simp only [appE] at h
  obtain ⟨⟨n, cells, len⟩, hb, h1⟩ := Option.bind_eq_some_iff.1 h
  obtain ⟨zs, hz, h2⟩ := Option.bind_eq_some_iff.1 h1
  obtain ⟨ys, hy, h3⟩ := Option.bind_eq_some_iff.1 h2
  clear h h1 h2
  split at h3
  case isFalse => cases h3
  rename_i hh
  obtain ⟨hlen, hshut⟩ := hh
  simp only [Option.some.injEq, Prod.mk.injEq] at h3 hlen hz
  obtain ⟨rfl, rfl, rfl⟩ := h3
  have hcells := asB8_eq hz
  refine ⟨n, _, rfl, ?_⟩
  -- where the first argument's block is
  have hbase : ∃ ι0 : Option Nat, (∀ g, ι0 = some g → c.ι n = some g ∧ ∃ k, c.m n = some k) ∧ MemOk ⟨mem0 zs, fun q => if q = 0 then ι0 else none, c.w⟩ w0 ∧ Rel ⟨mem0 zs, fun q => if q = 0 then ι0 else none, c.w⟩ (.own 0 0 0 zs.length 1 (.whole e)) v := by
    have hnil : v = .slice none 0 0 → zs = [] → ∃ ι0 : Option Nat, (∀ g, ι0 = some g → c.ι n = some g ∧ ∃ k, c.m n = some k) ∧ MemOk ⟨mem0 zs, fun q => if q = 0 then ι0 else none, c.w⟩ w0 ∧ Rel ⟨mem0 zs, fun q => if q = 0 then ι0 else none, c.w⟩ (.own 0 0 0 zs.length 1 (.whole e)) v := by
      rintro rfl rfl
      refine ⟨none, (fun g hg => by cases hg), ⟨M.below, fun q k hk => ?_, fun q q' k k' g hq hq' h3 h4 => ?_⟩, ?_⟩
      · simp only [mem0] at hk
        split at hk
        · cases hk; exact .inl ⟨by simp, rfl⟩
        · cases hk
      · simp at h3
      · exact .own (k := ⟨0, B8 []⟩) rfl (Nat.le_refl _) (Nat.le_refl _) (by simp [maxLen]) (fun _ => rfl) fun _ => .inl ⟨rfl, rfl, rfl, rfl, rfl⟩
    cases s with
    | v x =>
      cases rs
      cases v with
      | slice a q q2 =>
        simp only [appBase] at hb
        split at hb
        · rename_i hq
          obtain ⟨ha, rfl, rfl⟩ := hq
          simp only [Option.some.injEq, Prod.mk.injEq] at hb
          obtain ⟨rfl, rfl, rfl⟩ := hb
          have : a = none := by simpa using ha
          subst this
          exact hnil rfl (List.eq_nil_of_length_eq_zero hlen)
        · cases hb
      | _ => simp [appBase] at hb
    | own nm ver off ln sz rm =>
      cases rm with
      | whole e' =>
        cases rs with
        | @own _ _ _ _ _ _ k sa scp hk' hv hl hm hn ha =>
          simp only [appBase, hk'] at hb
          split at hb
          case isFalse => cases hb
          rename_i hq
          obtain ⟨rfl, rfl, rfl, rfl, hfit⟩ := hq
          simp only [Option.some.injEq, Prod.mk.injEq] at hb
          obtain ⟨rfl, rfl, rfl⟩ := hb
          rcases ha rfl with ⟨rfl, rfl, rfl, h4, _⟩ | ⟨g, o, cs, tt, g1, rfl, g3, g4, g5, g6, g7, rfl, g8⟩
          · exact hnil rfl (List.eq_nil_of_length_eq_zero hlen)
          · refine ⟨some g, (fun g' hg => by cases hg; exact ⟨g1, k, hk'⟩), ⟨M.below, fun q k2 hk2 => ?_, fun q q' k2 k3 g' hq hq' h3 h4 => ?_⟩, ?_⟩
            · simp only [mem0] at hk2
              split at hk2
              · rename_i hq0
                cases hk2
                subst hq0
                · obtain ⟨hg, hc⟩ := M.row hk' g1 g5
                  refine .inr ⟨_, by simp, hg, .inl ⟨cs, tt, g5, fun i x hx => ?_⟩⟩
                  simp only at hx
                  rw [← hcells, List.getElem?_take] at hx
                  split at hx
                  · obtain ⟨y, e1, e2⟩ := hc i x hx
                    have hx' : (B8 zs)[i]? = some x := by rw [← hcells, List.getElem?_take]; simp_all
                    obtain ⟨z, rfl⟩ := B8_get_v hx'
                    exact ⟨y, e1, rel_v e2⟩
                  · cases hx
              · cases hk2
            · simp only [mem0] at hq hq'
              split at hq
              · split at hq'
                · omega
                · cases hq'
              · cases hq
            · have hzl : zs.length = ln := hlen
              rw [hzl]
              refine .own (k := ⟨0, B8 zs⟩) rfl (Nat.le_refl _) hl hm hn fun _ => .inr ⟨g, 0, cs, _, by simp, by rw [g7], fun _ => rfl, by simp [B8, hzl], g5, ?_⟩
              exact ⟨rfl, rfl, rfl, g8⟩
      | known q => simp [appBase] at hb
      | unk => simp [appBase] at hb
    | _ => simp [appBase] at hb
  obtain ⟨ι0, hι, M0, r0⟩ := hbase
  have hmine : ∀ b, Ctx.mine ⟨mem0 zs, fun q => if q = 0 then ι0 else none, c.w⟩ b → c.mine b := by
    rintro b ⟨q, k, h1, h2⟩
    simp only at h2
    split at h2
    · obtain ⟨a, k', hk'⟩ := hι b h2; exact ⟨n, k', hk', a⟩
    · cases h2
  have rrest : RelL ⟨mem0 zs, fun q => if q = 0 then ι0 else none, c.w⟩ rest vl := ⟨rr.1, fun i x hx => by
    obtain ⟨y, e1, e2⟩ := rr.2 i x hx
    exact ⟨y, e1, Rel.sub (c := c) (d := ⟨mem0 zs, fun q => if q = 0 then ι0 else none, c.w⟩) rfl hmine e2 (shutL_get hshut i x hx)⟩⟩
  have hvs : vs = (v :: vl).toArray := by rw [← hvl]
  subst hvs
  refine (hA _ w0 v vl zs rest ys M0 rfl r0 rrest hy).mono ?_
  rintro x w' ⟨v', ι', m', ver, rfl, hle, M1, r1, hm0⟩
  have hb0 := M.below
  have hb1 := M1.below
  have hst := step (c := c) (w0 := w0) (w' := w') M n ⟨verNext c.m n, B8 (zs ++ ys)⟩ (ι' 0) (hb1.os.trans hb0.os.symm) (hb1.tape.trans hb0.tape.symm) (hb1.output.trans hb0.output.symm) hle.size
    (fun k hk => .inl (verNext_gt hk)) (fun b hlt hb => ?_) (fun k b cs t hk he => ?_) (fun hnone => ?_) (fun g hg => ?_)
  rotate_left
  · refine (hle.keep b ?_ hlt).1
    rintro ⟨q, k, h1, h2⟩
    simp only at h2
    split at h2
    · obtain ⟨a, k', hk'⟩ := hι b h2; exact hb k' hk' a
    · cases h2
  · have := verNext_gt hk; simp only at he; omega
  · rcases M1.blk0 0 _ hm0 with ⟨_, h⟩ | ⟨g, h, _⟩
    · exact h
    · simp only at h; rw [hnone] at h; cases h
  · rcases M1.blk 0 _ hm0 with ⟨h, _⟩ | ⟨g', cs, t, h, _, hh, hc⟩ | ⟨g', es, clk, q, xs, h, _, hh, hc, _⟩ | ⟨g', x, m, since, seen, st, h, _, hh, hc, _⟩
    · simp only at h; rw [hg] at h; cases h
    rotate_left
    · exact (B8_noents (zs ++ ys) _ (by rintro _ _ h; cases h) hc).elim
    · exact (B8_noents (zs ++ ys) _ (by rintro _ _ h; cases h) hc).elim
    · simp only at h; rw [hg] at h; cases h
      refine ⟨?_, cs, t, hh, fun i x hx => ?_⟩
      · by_cases hlt : c.w.heap.size ≤ g
        · exact .inl hlt
        · right
          by_cases hm : Ctx.mine ⟨mem0 zs, fun q => if q = 0 then ι0 else none, c.w⟩ g
          · obtain ⟨q, k, h1, h2⟩ := hm
            simp only at h2
            split at h2
            · exact hι g h2
            · cases h2
          · exact absurd ⟨0, _, hm0, hg⟩ (hle.keep g hm (by simp only; omega)).2
      · obtain ⟨y, e1, e2⟩ := hc i x hx
        obtain ⟨z, rfl⟩ := B8_get_v hx
        exact ⟨y, e1, rel_v e2⟩
  · refine ⟨v', _, rfl, hst.1, hst.2, ?_⟩
    cases r1 with
    | @own _ _ _ _ _ _ k sa scp hk' hv hl hm hn ha =>
      have hk2 : k = ⟨ver, B8 (zs ++ ys)⟩ := by simp only at hk'; rw [hm0] at hk'; cases hk'; rfl
      subst hk2
      refine .own (upd_eq _ _ _) (Nat.le_refl _) hl hm hn fun _ => ?_
      exact (ha rfl).mono (by simp only [upd_eq]) rfl fun b cs t _ hh => ⟨cs, hh, rfl⟩
end Go.Pm
