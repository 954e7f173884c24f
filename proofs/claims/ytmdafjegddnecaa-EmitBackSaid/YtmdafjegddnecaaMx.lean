import Derived.Test.YtmdafjegddnecaaQf
import Derived.Test.YtmdafjegddnecaaRf
/- A machine of values: nil slices as slices; lists of bytes within structs; loops that may leave at any round. -/
namespace Go.Pm
open Go.RowKit
set_option linter.unusedVariables false
set_option linter.unusedSimpArgs false

/-- A nil slice as a slice of no bytes. -/
def normV : Value → AV
  | .slice none 0 0 => .sl false [] 0 none
  | y => .v y
mutual
def AV.norm : AV → AV
  | .v x => normV x
  | .agg xs => .agg (normL xs)
  | .own n ver off len sz r => .own n ver off len sz r
  | .ptr n ver off => .ptr n ver off
  | .sl nn xs len cap => .sl nn xs len cap
  | .at_ xs => .at_ xs
  | .tup xs => .tup xs
  | .fn f xs ys => .fn f xs ys
def normL : List AV → List AV
  | [] => []
  | x :: xs => x.norm :: normL xs
end
theorem normL_length (xs : List AV) : (normL xs).length = xs.length := by
  induction xs with
  | nil => rfl
  | cons x xs ih => simp [normL, ih]
theorem normL_get : ∀ (xs : List AV) (i : Nat) y, (normL xs)[i]? = some y → ∃ x, xs[i]? = some x ∧ y = x.norm := by
  intro xs
  induction xs with
  | nil => intro i y h; simp [normL] at h
  | cons x xs ih =>
    intro i y h
    cases i with
    | zero => simp [normL] at h; exact ⟨x, rfl, h.symm⟩
    | succ i => simp [normL] at h; obtain ⟨z, a, b⟩ := ih i y h; exact ⟨z, by simpa using a, b⟩
theorem Rel.norm {c : Ctx} {x : AV} {v : Value} (h : Rel c x v) : Rel c x.norm v := by
  induction h with
  | @v x =>
    show Rel c (normV x) x
    unfold normV
    split
    · exact .sl (fun _ => undef) (Nat.le_refl _) (by simp [maxLen]) (fun q e => by cases e) (fun _ => ⟨rfl, rfl, rfl⟩) (fun p e => by cases e) (fun i x hi => by simp at hi) (fun i x hi => by simp at hi)
    · exact .v
  | own hk hv hl hm hn ha => exact .own hk hv hl hm hn ha
  | ptr hk hv ha => exact .ptr hk hv ha
  | sl f hl hm hc hn ha hx hr ih => exact .sl f hl hm hc hn ha hx hr
  | at_ f hx hr ih => exact .at_ f hx hr
  | @agg xs cs f hl hx hr ih =>
    refine .agg f (by rw [normL_length]; exact hl) (fun i y hy => ?_) (fun i y hy => ?_)
    · obtain ⟨x, e, _⟩ := normL_get xs i y hy; exact hx i x e
    · obtain ⟨x, e, rfl⟩ := normL_get xs i y hy; exact ih i x e
  | tup f hl hx hr ih => exact .tup f hl hx hr
  | fn p q hl hx hr hl2 hx2 hr2 ih ih2 => exact .fn p q hl hx hr hl2 hx2 hr2
theorem RelL.norm {c : Ctx} {xs : List AV} {vs : List Value} (h : RelL c xs vs) : RelL c (xs.map AV.norm) vs := by
  refine ⟨by simpa using h.1, fun i y hy => ?_⟩
  rw [List.getElem?_map] at hy
  obtain ⟨x, e, rfl⟩ := Option.map_eq_some_iff.1 hy
  obtain ⟨z, a, b⟩ := h.2 i x e
  exact ⟨z, a, b.norm⟩
/-- A contract's arguments may hold nil slices. -/
theorem Pure.norm {P : Program} {f : FuncId} {F : Fun} (h : Pure P f F) : Pure P f (fun args => F (args.map AV.norm)) := fun w args vs r bs ra hr => h w _ vs r bs ra.norm hr

section
variable {P : Program} {K : FuncId → Option Con} {call : CallF} {D : Nat → List Nat} {nt px L : Nat}
/-- A loop that may leave at any round. -/
theorem loop_any {c : Code} (I : Nat → St → Prop) (Q : Ex → St → Prop) (n : Nat) (hstep : ∀ j st, j ≤ n → I j st → (∃ e st', e ≠ .normal ∧ evalC P K call D nt px L c st = some (e, st') ∧ Q e st') ∨ (j < n ∧ ∃ st', evalC P K call D nt px L c st = some (.normal, st') ∧ I (j + 1) st')) :
    ∀ (N j : Nat) (st : St), j ≤ n → n - j < N → I j st → ∃ e st', loopK P K call D nt px L c N st = some (e, st') ∧ Q e st' := by
  intro N
  induction N with
  | zero => intro j st _ h; omega
  | succ N ih =>
    intro j st hj hN hI
    rw [loopK_succ]
    rcases hstep j st hj hI with ⟨e, st', h0, h1, h2⟩ | ⟨hlt, st', h1, h2⟩
    · refine ⟨e, st', ?_, h2⟩
      rw [h1]
      cases e with
      | normal => exact absurd rfl h0
      | exit i => rfl
      | ret => rfl
    · rw [h1, againK_normal]
      exact ih (j + 1) st' (by omega) (by omega) h2
theorem loop_met3 {c : Code} {N : Nat} {st0 : St} {R : Option (Ex × St)} (hL : loopK P K call D nt px L c N st0 = R) (I : Nat → St → Prop) (Q : Ex → St → Prop) (n : Nat) (hN : n < N) (h0 : I 0 st0)
    (hstep : ∀ j st, j ≤ n → I j st → (∃ e st', e ≠ .normal ∧ evalC P K call D nt px L c st = some (e, st') ∧ Q e st') ∨ (j < n ∧ ∃ st', evalC P K call D nt px L c st = some (.normal, st') ∧ I (j + 1) st')) : ∃ e st', R = some (e, st') ∧ Q e st' := by
  subst hL
  exact loop_any I Q n hstep N 0 st0 (Nat.zero_le _) (by omega) h0
/-- A loop whose rounds turn no memory. -/
theorem loop_met4 {c : Code} {N : Nat} {t0 : Nat → AV} {m0 : Mem} {R : Option (Ex × St)} (hL : loopK P K call D nt px L c N ⟨t0, m0⟩ = R) (ts : List Nat) (I : Nat → (Nat → AV) → Prop) (Q : Ex → (Nat → AV) → Prop) (n : Nat) (hN : n < N) (h0 : I 0 t0)
    (hstep : ∀ j t, j ≤ n → Kept ts t0 t → I j t → (∃ e t', e ≠ .normal ∧ evalC P K call D nt px L c ⟨t, m0⟩ = some (e, ⟨t', m0⟩) ∧ Kept ts t0 t' ∧ Q e t') ∨ (j < n ∧ ∃ t', evalC P K call D nt px L c ⟨t, m0⟩ = some (.normal, ⟨t', m0⟩) ∧ Kept ts t0 t' ∧ I (j + 1) t')) :
    ∃ e t', R = some (e, ⟨t', m0⟩) ∧ Kept ts t0 t' ∧ Q e t' := by
  obtain ⟨e, st', h1, t', h2, h3, h4⟩ := loop_met3 hL (fun j st => ∃ t, st = ⟨t, m0⟩ ∧ Kept ts t0 t ∧ I j t) (fun e st => ∃ t, st = ⟨t, m0⟩ ∧ Kept ts t0 t ∧ Q e t) n hN ⟨t0, rfl, .refl _ _, h0⟩ (fun j st hj ⟨t, e, hk, hI⟩ => by
    subst e
    rcases hstep j t hj hk hI with ⟨e, t', a, b, c', d⟩ | ⟨a, t', b, c', d⟩
    · exact .inl ⟨e, _, a, b, t', rfl, c', d⟩
    · exact .inr ⟨a, _, b, t', rfl, c', d⟩)
  subst h2
  exact ⟨e, t', h1, h3, h4⟩
/-- Blocks that a loop may turn; the others stay. -/
def KeptM (ns : List Nat) (m m' : Mem) : Prop := ∀ k, k ∉ ns → m' k = m k
theorem KeptM.refl (ns : List Nat) (m : Mem) : KeptM ns m m := fun _ _ => rfl
theorem KeptM.upd {ns : List Nat} {m m' : Mem} (h : KeptM ns m m') {k : Nat} (hk : k ∈ ns) (x : Option Blk) : KeptM ns m (upd m' k x) := fun q hq => by
  rw [upd_at, if_neg (fun e => hq (by rw [e]; exact hk))]
  exact h q hq
/-- A loop whose rounds turn some places and some blocks. -/
theorem loop_met5 {c : Code} {N : Nat} {t0 : Nat → AV} {m0 : Mem} {R : Option (Ex × St)} (hL : loopK P K call D nt px L c N ⟨t0, m0⟩ = R) (ts ns : List Nat) (I : Nat → (Nat → AV) → Mem → Prop) (Q : Ex → (Nat → AV) → Mem → Prop) (n : Nat) (hN : n < N) (h0 : I 0 t0 m0)
    (hstep : ∀ j t m, j ≤ n → Kept ts t0 t → KeptM ns m0 m → I j t m → (∃ e t' m', e ≠ .normal ∧ evalC P K call D nt px L c ⟨t, m⟩ = some (e, ⟨t', m'⟩) ∧ Kept ts t0 t' ∧ KeptM ns m0 m' ∧ Q e t' m') ∨ (j < n ∧ ∃ t' m', evalC P K call D nt px L c ⟨t, m⟩ = some (.normal, ⟨t', m'⟩) ∧ Kept ts t0 t' ∧ KeptM ns m0 m' ∧ I (j + 1) t' m')) :
    ∃ e t' m', R = some (e, ⟨t', m'⟩) ∧ Kept ts t0 t' ∧ KeptM ns m0 m' ∧ Q e t' m' := by
  obtain ⟨e, st', h1, t', m', h2, h3, h5, h4⟩ := loop_met3 hL (fun j st => ∃ t m, st = ⟨t, m⟩ ∧ Kept ts t0 t ∧ KeptM ns m0 m ∧ I j t m) (fun e st => ∃ t m, st = ⟨t, m⟩ ∧ Kept ts t0 t ∧ KeptM ns m0 m ∧ Q e t m) n hN ⟨t0, m0, rfl, .refl _ _, .refl _ _, h0⟩ (fun j st hj ⟨t, m, e, hk, hm, hI⟩ => by
    subst e
    rcases hstep j t m hj hk hm hI with ⟨e, t', m', a, b, c', c2, d⟩ | ⟨a, t', m', b, c', c2, d⟩
    · exact .inl ⟨e, _, a, b, t', m', rfl, c', c2, d⟩
    · exact .inr ⟨a, _, b, t', m', rfl, c', c2, d⟩)
  subst h2
  exact ⟨e, t', m', h1, h3, h5, h4⟩
end
end Go.Pm
namespace Go.Proofs.Ytmdafjegddnecaa
open Go.Pm
set_option linter.unusedVariables false
set_option linter.unusedSimpArgs false
@[simp] theorem normV_int (k : IntKind) (n : Int) : normV (.int k n) = .v (.int k n) := rfl
@[simp] theorem normV_bool (b : Bool) : normV (.bool b) = .v (.bool b) := rfl
@[simp] theorem normV_nil : normV (.slice none 0 0) = .sl false [] 0 none := rfl
attribute [simp] AV.norm normL
@[simp] theorem normL_B8 (zs : List Int) : normL (B8 zs) = B8 zs := by
  induction zs with
  | nil => rfl
  | cons z zs ih => show AV.norm _ :: normL (B8 zs) = _; rw [ih]; rfl
@[simp] theorem normL_app (xs ys : List AV) : normL (xs ++ ys) = normL xs ++ normL ys := by
  induction xs with
  | nil => rfl
  | cons x xs ih => simp [normL, ih]
@[simp] theorem closeL_app (m : Mem) (zs : List Int) (ys : List AV) : closeL m (B8 zs ++ ys) = (closeL m ys).map (B8 zs ++ ·) := by
  induction zs with
  | nil => show closeL m ys = _; cases closeL m ys <;> rfl
  | cons z zs ih => show (closeLeaf m (.v (.int .u8 z))).bind (fun y => (closeL m (B8 zs ++ ys)).map (y :: ·)) = _; rw [ih]; cases closeL m ys <;> rfl
@[simp] theorem shutL_app (xs ys : List AV) : shutL (xs ++ ys) = (shutL xs && shutL ys) := by
  induction xs with
  | nil => rfl
  | cons x xs ih => simp [shutL, ih, Bool.and_assoc]
@[simp] theorem namesL_app (xs ys : List AV) : namesL (xs ++ ys) = namesL xs ++ namesL ys := by
  induction xs with
  | nil => rfl
  | cons x xs ih => simp [namesL, ih]
@[simp] theorem renL_app (f : Nat → Nat → Option (Nat × Nat)) (zs : List Int) (ys : List AV) : renL f (B8 zs ++ ys) = (renL f ys).map (B8 zs ++ ·) := by
  induction zs with
  | nil => show renL f ys = _; cases renL f ys <;> rfl
  | cons z zs ih => show (AV.ren f (.v (.int .u8 z))).bind (fun x' => (renL f (B8 zs ++ ys)).map fun xs' => x' :: xs') = _; rw [ih]; cases renL f ys <;> rfl
theorem topsOf_app (xs ys : List AV) : topsOf (xs ++ ys) = topsOf xs ++ topsOf ys := topsOf_append xs ys
section
variable {ss ds : List Int} {T : List AV}
theorem B8t16 (h : ss.length = 16) (T : List AV) : (B8 ss ++ T).take 16 = B8 ss := List.take_left' (by simp [h])
theorem B8d16 (h : ss.length = 16) (T : List AV) : (B8 ss ++ T).drop 16 = T := List.drop_left' (by simp [h])
theorem B8d32 (h : ss.length = 16) (T : List AV) : (B8 ss ++ T).drop 32 = T.drop 16 := by
  rw [show (32 : Nat) = 16 + 16 from rfl, ← List.drop_drop, B8d16 h]
theorem B8t32 (h : ss.length = 16) (T : List AV) : (B8 ss ++ T).take 32 = B8 ss ++ T.take 16 := by
  rw [List.take_append, B8_length, h, List.take_of_length_le (by simp [h])]
theorem B8t33 (h : ss.length = 16) (T : List AV) : (B8 ss ++ T).take 33 = B8 ss ++ T.take 17 := by
  rw [List.take_append, B8_length, h, List.take_of_length_le (by simp [h])]
theorem B8t17 (h : ss.length = 16) (T : List AV) : (B8 ss ++ T).take 17 = B8 ss ++ T.take 1 := by
  rw [List.take_append, B8_length, h, List.take_of_length_le (by simp [h])]
theorem B8g16 (h : ss.length = 16) (T : List AV) : (B8 ss ++ T)[16]? = T[0]? := by
  rw [List.getElem?_append_right (by simp [h])]; simp [h]
theorem B8g32 (h : ss.length = 16) (T : List AV) : (B8 ss ++ T)[32]? = T[16]? := by
  rw [List.getElem?_append_right (by simp [h])]; simp [h]
theorem B8d33 (h : ss.length = 16) (T : List AV) : (B8 ss ++ T).drop 33 = T.drop 17 := by
  rw [show (33 : Nat) = 16 + 17 from rfl, ← List.drop_drop, B8d16 h]
theorem B8d17 (h : ss.length = 16) (T : List AV) : (B8 ss ++ T).drop 17 = T.drop 1 := by
  rw [show (17 : Nat) = 16 + 1 from rfl, ← List.drop_drop, B8d16 h]
theorem B8x33 (h : ss.length = 16) (h2 : ds.length = 16) (x : AV) : (B8 (ss ++ ds) ++ [x]).take 33 = B8 ss ++ (B8 ds ++ [x]) := by
  rw [List.take_of_length_le (by simp [h, h2]), ← B8_append, List.append_assoc]
theorem B8x33d (h : ss.length = 16) (h2 : ds.length = 16) (x : AV) : (B8 (ss ++ ds) ++ [x]).drop 33 = [] := List.drop_of_length_le (by simp [h, h2])
theorem B8gk (zs : List Int) (T : List AV) (k : Nat) (h : k < zs.length) : (B8 zs ++ T)[k]? = some (.v (.int .u8 (gb zs k))) := by
  rw [List.getElem?_append_left (by simpa using h)]; exact B8_get zs k h
end
@[simp] theorem B8_elem (zs : List Int) (i : Nat) (h : i < (B8 zs).length) : (B8 zs)[i]'h = .v (.int .u8 (gb zs i)) := by
  have h' : i < zs.length := by simpa using h
  have := B8_get zs i h'
  rw [List.getElem?_eq_getElem h] at this
  exact Option.some.inj this
@[simp] theorem gK_undef' (want : Bool) : gK want (.v undef) = some false := rfl
theorem B8_snoc' (zs : List Int) (x : Int) : B8 zs ++ [.v (.int .u8 x)] = B8 (zs ++ [x]) := by simp [B8]
theorem take_snoc {ss : List Int} {j : Nat} (h : j < ss.length) : ss.take j ++ [gb ss j] = ss.take (j + 1) := by
  rw [List.take_add_one, List.getElem?_eq_getElem h]
  unfold gb
  rw [List.getD_eq_getElem?_getD, List.getElem?_eq_getElem h]; rfl
theorem cell5 {zs : List Int} {j : Nat} (h : j < zs.length) (a b c d e : AV) (T : List AV) : (a :: b :: c :: d :: e :: (B8 zs ++ T))[5 + j]? = some (.v (.int .u8 (gb zs j))) := by
  rw [show 5 + j = j + 1 + 1 + 1 + 1 + 1 by omega]
  simp only [List.getElem?_cons_succ]
  exact B8gk zs T j h
theorem cell21 {ss zs : List Int} {j : Nat} (hs : ss.length = 16) (h : j < zs.length) (a b c d e : AV) (T : List AV) : (a :: b :: c :: d :: e :: (B8 ss ++ (B8 zs ++ T)))[21 + j]? = some (.v (.int .u8 (gb zs j))) := by
  rw [show 21 + j = (16 + j) + 1 + 1 + 1 + 1 + 1 by omega]
  simp only [List.getElem?_cons_succ]
  rw [List.getElem?_append_right (by simp [hs])]
  simp only [B8_length, hs, Nat.add_sub_cancel_left]
  exact B8gk zs T j h
end Go.Proofs.Ytmdafjegddnecaa

/- A machine of values: arrays of bytes compared; bytes turned by a loop. -/
namespace Go.Proofs.Ytmdafjegddnecaa
open Go.Pm
set_option linter.unusedVariables false
set_option linter.unusedSimpArgs false
@[simp] theorem valsOf_B8 (zs : List Int) : valsOf (B8 zs) = some (zs.map (Value.int .u8)) := by
  induction zs with
  | nil => rfl
  | cons z zs ih => show (valsOf (B8 zs)).map _ = _; rw [ih]; rfl
theorem pairOk_ints {ss ds : List Int} (h : ss.length = ds.length) : pairOk (ss.map fun _ => LK.int) (ss.map (Value.int .u8)) (ds.map (Value.int .u8)) = true := by
  induction ss generalizing ds with
  | nil => cases ds with
    | nil => rfl
    | cons d ds => simp at h
  | cons s ss ih => cases ds with
    | nil => simp at h
    | cons d ds => simp only [List.map_cons, pairOk, leafOk, decide_true, Bool.true_and]; exact ih (by simpa using h)
theorem kinds_of {n : Nat} {ss : List Int} (h : ss.length = n) : (ss.map fun _ => LK.int) = List.replicate n LK.int := by
  subst h
  induction ss with
  | nil => rfl
  | cons s ss ih => simp [List.replicate_succ]; exact ih
theorem pairOk16 {ss ds : List Int} (h : ss.length = 16) (h2 : ds.length = 16) : pairOk [.int, .int, .int, .int, .int, .int, .int, .int, .int, .int, .int, .int, .int, .int, .int, .int] (ss.map (Value.int .u8)) (ds.map (Value.int .u8)) = true := by
  have := pairOk_ints (ss := ss) (ds := ds) (by omega)
  rwa [kinds_of h] at this
theorem pairOk12 {ss ds : List Int} (h : ss.length = 12) (h2 : ds.length = 12) : pairOk [.int, .int, .int, .int, .int, .int, .int, .int, .int, .int, .int, .int] (ss.map (Value.int .u8)) (ds.map (Value.int .u8)) = true := by
  have := pairOk_ints (ss := ss) (ds := ds) (by omega)
  rwa [kinds_of h] at this
theorem eqV_ints {ss ds : List Int} (h : ss.length = ds.length) : eqV (ss.map (Value.int .u8)) (ds.map (Value.int .u8)) = decide (ss = ds) := by
  unfold eqV
  induction ss generalizing ds with
  | nil => cases ds with
    | nil => rfl
    | cons d ds => simp at h
  | cons s ss ih => cases ds with
    | nil => simp at h
    | cons d ds =>
      have := ih (ds := ds) (by simpa using h)
      rw [List.map_cons, List.map_cons, List.zip_cons_cons, List.all_cons, this, show vEq (Value.int .u8 s, Value.int .u8 d).1 (Value.int .u8 s, Value.int .u8 d).2 = (s == d) from rfl]
      by_cases h1 : s = d
      · subst h1; simp
      · simp [h1]
theorem eqV_same (ss : List Int) : eqV (ss.map (Value.int .u8)) (ss.map (Value.int .u8)) = true := by rw [eqV_ints rfl]; simp
theorem asB8_nil'' : asB8 [] = some [] := rfl
theorem asB8_cons'' (z : Int) (xs : List AV) : asB8 (.v (.int .u8 z) :: xs) = (asB8 xs).map (z :: ·) := rfl
end Go.Proofs.Ytmdafjegddnecaa
