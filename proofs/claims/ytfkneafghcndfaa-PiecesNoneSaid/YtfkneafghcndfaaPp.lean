/- A machine of values: a drawn region comes to the same in every order. -/
import Derived.Test.YtfkneafghcndfaaPo
namespace Go.Pm
open Go.RowKit
set_option linter.unusedVariables false
set_option linter.unusedSimpArgs false

theorem overF_none {α : Type} {S : Nat → Bool} {Wr : Nat → Nat → Bool} {val : Nat → Nat → α} {f : Nat → α} (h : ∀ i, S i = false) : ∀ n k, overF S Wr val f n k = f k := by
  intro n
  induction n with
  | zero => intro k; rfl
  | succ n ih => intro k; simp [overF, h n, ih]
theorem getD_set (l : Array Bool) (i k : Nat) (hi : i < l.size) : (l.setIfInBounds i true).getD k false = if k = i then true else l.getD k false := by
  simp only [Array.getD_eq_getD_getElem?, Array.getElem?_setIfInBounds]
  by_cases h : i = k
  · subst h; simp [hi]
  · rw [if_neg h, if_neg (fun e => h e.symm)]

theorem draw_sound {P : Program} {K : FuncId → Option Con} (hK : KOk P K) {nt px : Nat} {ops : Array Oper} {masks : List Nat} (hD : DrawOk ops masks) {Q : Exit → Act → World → Prop} {c0 : Ctx} {w0 : World} {st st' : St} {a : Act} {w : World}
    (h : drawGo P K nt px ops masks ops.toList 0 [] st = some st') (hS : Sim c0 w0 nt st a w) (hQ : ∀ a w, Sim c0 w0 nt st' a w → Q .normal a w) : wpAny P .any ops Q ops.size (Array.replicate ops.size false) a w := by
  obtain ⟨sts, es, h0, hn, sq⟩ := drawGo_seq ops.toList 0 [] st st' h
  simp only [Nat.zero_add, Array.length_toList] at hn
  have run : ∀ (i : Nat) o, ops[i]? = some o → effD P K px ops o (sts i) = some (es i) ∧ St.put nt ⟨(sts i).t, applyU (sts i).m (es i).2.1⟩ o.dst (es i).1 = some (sts (i + 1)) := fun i o ho => by
    have := sq.run i o (by simpa using ho)
    simpa using this
  have apart : ∀ (i i' : Nat), i < ops.size → i' < i → (masks.getD i 0).testBit i' = true ∨ (disj (wOf (es i')) (fOf (es i)) = true ∧ disj (wOf (es i)) (fOf (es i')) = true) := fun i i' hi hi' => by
    have := sq.apart i i' (by simpa using hi) hi'
    simpa using this
  let WrT : Nat → Nat → Bool := fun i k => decide ((ops[i]?).bind (·.dst) = some k)
  let WrM : Nat → Nat → Bool := fun i q => (wOf (es i)).contains q
  let vT : Nat → Nat → AV := fun i k => (sts (i + 1)).t k
  let vM : Nat → Nat → Option Blk := fun i q => (sts (i + 1)).m q
  let stS : (Nat → Bool) → St := fun S => ⟨overF S WrT vT st.t ops.size, overF S WrM vM st.m ops.size⟩
  have hop : ∀ i, i < ops.size → ∃ o, ops[i]? = some o := fun i hi => ⟨_, Array.getElem?_eq_getElem hi⟩
  -- the text's own states
  have textT : ∀ j, j ≤ ops.size → ∀ k, (sts j).t k = overF (fun _ => true) WrT vT st.t j k := by
    intro j
    induction j with
    | zero => intro _ k; rw [h0]; rfl
    | succ j ih =>
      intro hj k
      obtain ⟨o, ho⟩ := hop j (by omega)
      have hp := (put_some (run j o ho).2).2.1 k
      simp only [overF, Bool.true_and]
      by_cases e : o.dst = some k
      · have : WrT j k = true := by simp [WrT, ho, e]
        rw [this]; rfl
      · have : WrT j k = false := by simp [WrT, ho, e]
        rw [this, hp, if_neg e]
        exact ih (by omega) k
  have textM : ∀ j, j ≤ ops.size → ∀ k, (sts j).m k = overF (fun _ => true) WrM vM st.m j k := by
    intro j
    induction j with
    | zero => intro _ k; rw [h0]; rfl
    | succ j ih =>
      intro hj k
      obtain ⟨o, ho⟩ := hop j (by omega)
      have hp := (put_some (run j o ho).2).1
      simp only [overF, Bool.true_and]
      by_cases e : k ∈ wOf (es j)
      · have : WrM j k = true := by simp [WrM, e]
        rw [this]; rfl
      · have : WrM j k = false := by simp [WrM, e]
        rw [this, hp]
        simp only
        have e' : k ∉ (es j).2.1.map (·.1) := e
        rw [applyU_at (sts j).m (sts j).m (es j).2.1 k, if_neg e']
        exact ih (by omega) k
  let I : Array Bool → Act → World → Prop := fun l a w => l.size = ops.size ∧ (∀ j k, l.getD j false = true → (masks.getD j 0).testBit k = true → l.getD k false = true) ∧ Sim c0 w0 nt (stS fun i => l.getD i false) a w
  have hfalse : ∀ i, (Array.replicate ops.size false).getD i false = false := fun i => by
    rw [Array.getD_eq_getD_getElem?, Array.getElem?_replicate]
    split <;> rfl
  refine wpAny_inv (md := .any) I (fun l a w h => h.1) (fun l a w hI j hj => ?_) (fun l a w hI hr => ?_) ops.size _ a w (by simp) ⟨(by simp), (fun j k hj => by rw [hfalse] at hj; cases hj), ?_⟩
  · -- a step
    obtain ⟨hsz, hcl, hSim⟩ := hI
    rw [mem_ready] at hj
    obtain ⟨hj1, o, ho, hed⟩ := hj
    obtain ⟨hlt, hlf⟩ := getD_false hj1
    have hltn : j < ops.size := by omega
    have hSj : l.getD j false = false := by rw [Array.getD_eq_getD_getElem?, hlf]; rfl
    have hmask : ∀ k, (masks.getD j 0).testBit k = true → l.getD k false = true := fun k hk => by
      obtain ⟨e, he, hb, h | h⟩ := hD.edge j k o ho hk
      · rw [h]; exact hed e he hb
      · exact hcl e.on k (hed e he hb) h
    obtain ⟨hrun, hput⟩ := run j o ho
    -- which entries of a place are in
    have lower : ∀ i, i < j → (masks.getD j 0).testBit i = true → l.getD i false = true := fun i _ h => hmask i h
    have upper : ∀ i, (masks.getD i 0).testBit j = true → l.getD i false = false := fun i h => by
      cases e : l.getD i false with
      | false => rfl
      | true => have := hcl i j e h; rw [hSj] at this; cases this
    have agreeT : ∀ k, (k ∈ o.looksAt ops ∨ o.dst = some k) → ∀ i, i < ops.size → i ≠ j → WrT i k = true → l.getD i false = decide (i < j) := fun k hk i hi hne hw => by
      obtain ⟨oi, hoi⟩ := hop i hi
      have hdi : oi.dst = some k := by simpa [WrT, hoi] using hw
      rcases Nat.lt_or_gt_of_ne hne with hij | hij
      · rcases hD.tmps i j oi o hij hoi ho with h | ⟨h1, h2⟩
        · rw [lower i hij h]; simp [hij]
        · have := h1 k hdi
          rcases hk with hk | hk
          · exact absurd hk this.1
          · exact absurd hk this.2
      · rcases hD.tmps j i o oi hij ho hoi with h | ⟨h1, h2⟩
        · rw [upper i h]; simp; omega
        · rcases hk with hk | hk
          · exact absurd hk (h2 k hdi)
          · exact absurd hdi (h1 k hk).2
    have agreeM : ∀ q, q ∈ fOf (es j) → ∀ i, i < ops.size → i ≠ j → WrM i q = true → l.getD i false = decide (i < j) := fun q hq i hi hne hw => by
      have hdi : q ∈ wOf (es i) := by simpa [WrM] using hw
      rcases Nat.lt_or_gt_of_ne hne with hij | hij
      · rcases apart j i hltn hij with h | ⟨h1, h2⟩
        · rw [lower i hij h]; simp [hij]
        · exact (disj_out h1 hdi hq).elim
      · rcases apart i j hi hij with h | ⟨h1, h2⟩
        · rw [upper i h]; simp; omega
        · exact (disj_out h2 hdi hq).elim
    have seeT : ∀ k ∈ o.looksAt ops, (stS fun i => l.getD i false).t k = (sts j).t k := fun k hk => by
      rw [textT j (by omega)]
      refine overF_text (by omega) fun i hi hw => ?_
      by_cases e : i = j
      · subst e; simp [hSj]
      · exact agreeT k (.inl hk) i hi e hw
    have seeM : ∀ q ∈ fOf (es j), (sts j).m q = (stS fun i => l.getD i false).m q := fun q hq => by
      rw [textM j (by omega)]
      refine (overF_text (by omega) fun i hi hw => ?_).symm
      by_cases e : i = j
      · subst e; simp [hSj]
      · exact agreeM q hq i hi e hw
    have hrun2 := effD_local (st2 := stS fun i => l.getD i false) hrun seeT (fun q hq => seeM q (List.mem_append_left _ hq)) (fun q hq => seeM q (List.mem_append_right _ hq))
    obtain ⟨hm0, ht0, hex⟩ := put_some hput
    obtain ⟨s3, hs3⟩ := hex ⟨(stS fun i => l.getD i false).t, applyU (stS fun i => l.getD i false).m (es j).2.1⟩
    have hstep := stepOp_sound (Q := Q) (callK_ok hK) ho (effD_step hrun2 hs3) hSim
    refine wpOp_mono (fun a' w' hS' => ⟨by simp [hsz], fun i k hi hk => ?_, ?_⟩) hstep
    · rw [getD_set l j _ hlt] at hi ⊢
      split at hi
      · rename_i e; subst e
        split
        · rfl
        · exact hmask k hk
      · split
        · rfl
        · exact hcl i k hi hk
    · have hnew : ∀ i, (l.setIfInBounds j true).getD i false = if i = j then true else l.getD i false := fun i => getD_set l j i hlt
      obtain ⟨hm3, ht3, _⟩ := put_some hs3
      have key : s3 = stS fun i => (l.setIfInBounds j true).getD i false := by
        have eT : s3.t = (stS fun i => (l.setIfInBounds j true).getD i false).t := by
          funext k
          rw [ht3 k]
          by_cases e : o.dst = some k
          · rw [if_pos e]
            have : (stS fun i => (l.setIfInBounds j true).getD i false).t k = (sts (j + 1)).t k := by
              rw [textT (j + 1) (by omega)]
              refine overF_text (by omega) fun i hi hw => ?_
              rw [hnew]
              by_cases e2 : i = j
              · subst e2; simp
              · rw [if_neg e2, agreeT k (.inr e) i hi e2 hw]
                have : (i < j) ↔ (i < j + 1) := by omega
                simp [this]
            rw [this, ht0 k, if_pos e]
          · rw [if_neg e]
            refine overF_congr fun i hi hw => ?_
            rw [hnew]
            by_cases e2 : i = j
            · subst e2
              have : o.dst = some k := by simpa [WrT, ho] using hw
              exact absurd this e
            · rw [if_neg e2]
        have eM : s3.m = (stS fun i => (l.setIfInBounds j true).getD i false).m := by
          funext q
          rw [hm3]
          simp only
          rw [applyU_at (sts j).m (stS fun i => l.getD i false).m (es j).2.1 q]
          by_cases e : q ∈ wOf (es j)
          · have e' : q ∈ (es j).2.1.map (·.1) := e
            rw [if_pos e']
            have : (stS fun i => (l.setIfInBounds j true).getD i false).m q = (sts (j + 1)).m q := by
              rw [textM (j + 1) (by omega)]
              refine overF_text (by omega) fun i hi hw => ?_
              rw [hnew]
              by_cases e2 : i = j
              · subst e2; simp
              · rw [if_neg e2, agreeM q (List.mem_append_right _ e) i hi e2 hw]
                have : (i < j) ↔ (i < j + 1) := by omega
                simp [this]
            rw [this, hm0]
          · have e' : q ∉ (es j).2.1.map (·.1) := e
            rw [if_neg e']
            refine overF_congr fun i hi hw => ?_
            rw [hnew]
            by_cases e2 : i = j
            · subst e2
              have : q ∈ wOf (es i) := by simpa [WrM] using hw
              exact absurd this e
            · rw [if_neg e2]
        cases s3
        simp only at eT eM
        subst eT eM
        rfl
      rw [← key]; exact hS'
  · -- the end
    obtain ⟨hsz, hcl, hSim⟩ := hI
    have all : ∀ j, j < ops.size → l.getD j false = true := by
      intro j
      induction j using Nat.strongRecOn with
      | _ j ih =>
        intro hj
        cases e : l.getD j false with
        | true => rfl
        | false =>
          exfalso
          obtain ⟨o, ho⟩ := hop j hj
          have : j ∈ Region.ready .any ops l := by
            rw [mem_ready]
            refine ⟨?_, o, ho, fun ed he hb => ?_⟩
            · rw [Array.getD_eq_getD_getElem?] at e ⊢
              rw [Array.getElem?_eq_getElem (by omega)] at e ⊢
              simpa using e
            · have := hD.back j o ed ho he hb
              exact ih ed.on this (by omega)
          rw [hr] at this
          cases this
    refine hQ a w ?_
    have : stS (fun i => l.getD i false) = st' := by
      have eT : (stS fun i => l.getD i false).t = st'.t := by
        funext k
        rw [← hn, textT ops.size (Nat.le_refl _)]
        exact overF_congr fun i hi hw => all i hi
      have eM : (stS fun i => l.getD i false).m = st'.m := by
        funext k
        rw [← hn, textM ops.size (Nat.le_refl _)]
        exact overF_congr fun i hi hw => all i hi
      show (⟨(stS fun i => l.getD i false).t, (stS fun i => l.getD i false).m⟩ : St) = st'
      rw [eT, eM]
    rw [← this]; exact hSim
  · have : stS (fun i => (Array.replicate ops.size false).getD i false) = st := by
      have eT : (stS fun i => (Array.replicate ops.size false).getD i false).t = st.t := by funext k; exact overF_none hfalse _ _
      have eM : (stS fun i => (Array.replicate ops.size false).getD i false).m = st.m := by funext k; exact overF_none hfalse _ _
      show (⟨(stS fun i => (Array.replicate ops.size false).getD i false).t, (stS fun i => (Array.replicate ops.size false).getD i false).m⟩ : St) = st
      rw [eT, eM]
    rw [this]; exact hS
end Go.Pm
