/- A machine of values: operators. -/
import Derived.Test.YtfkneafghcndfaaPi
namespace Go.Pm
open Go.RowKit
set_option linter.unusedVariables false
set_option linter.unusedSimpArgs false

/-- Operators on whole numbers. -/
def intBin (op : BinOp) (k k' : IntKind) (a b : Int) : Option Value :=
  match op with
  | .shl => if 0 ≤ b then some (.int k (k.wrap (a * 2 ^ min b.toNat k.bits))) else none
  | .shr => if 0 ≤ b then some (.int k (a.fdiv (2 ^ min b.toNat k.bits))) else none
  | op => if k = k' then
      match op with
      | .add => some (.int k (k.wrap (a + b)))
      | .sub => some (.int k (k.wrap (a - b)))
      | .mul => some (.int k (k.wrap (a * b)))
      | .quo => if b = 0 then none else some (.int k (k.wrap (a.tdiv b)))
      | .rem => if b = 0 then none else some (.int k (a.tmod b))
      | .and => some (.int k (bits .and k a b))
      | .or => some (.int k (bits .or k a b))
      | .xor => some (.int k (bits .xor k a b))
      | .andNot => some (.int k (bits .andNot k a b))
      | .eql => some (.bool (a == b))
      | .neq => some (.bool (a != b))
      | .lss => some (.bool (a < b))
      | .leq => some (.bool (a ≤ b))
      | .gtr => some (.bool (a > b))
      | .geq => some (.bool (a ≥ b))
      | _ => none
    else none
theorem intBin_run {P : Program} {w : World} {op : BinOp} {k k' : IntKind} {a b : Int} {y : Value} {T : TypeId} (h : intBin op k k' a b = some y) : (binOp op T (.int k a) (.int k' b)).run P w = .ok y w := by
  cases op <;> simp only [intBin] at h <;> (try (split at h <;> try (cases h; done)))
  case shl => cases h; rename_i h0; have h1 : ¬ b < 0 := by omega
              simp [binOp, Op.shift, h1]
  case shr => cases h; rename_i h0; have h1 : ¬ b < 0 := by omega
              simp [binOp, Op.shift, h1]
  case quo => split at h
              · cases h
              · rename_i h1 h0; cases h; subst h1; simp [binOp, Op.intDiv, h0]
  case rem => split at h
              · cases h
              · rename_i h1 h0; cases h; subst h1; simp [binOp, Op.intDiv, h0]
  all_goals (rename_i h1; subst h1; cases h; first | (simp [binOp, Op.intArith]; done) | (simp [binOp, Op.intCmp]; done) | (simp only [binOp, ne_eq, not_true_eq_false, if_false]; rfl))

def isBool (P : Program) (t : TypeId) : Bool := match P.underlying t with | some .bool => true | _ => false
theorem isBool_some {P : Program} {t : TypeId} (h : isBool P t = true) : P.underlying t = some .bool := by
  unfold isBool at h
  split at h
  · assumption
  · cases h

/-- The plain values of cells. -/
def valsOf : List AV → Option (List Value)
  | [] => some []
  | .v x :: xs => (valsOf xs).map (x :: ·)
  | _ => none
theorem valsOf_rel {c : Ctx} : ∀ {xs : List AV} {vs ys : List Value}, valsOf xs = some vs → RelL c xs ys → ys = vs := by
  intro xs
  induction xs with
  | nil => intro vs ys h r; cases h; exact r.inv_nil
  | cons x xs ih =>
    intro vs ys h r
    unfold valsOf at h
    split at h
    · rename_i e; cases e
    · rename_i x0 xs0 e
      cases e
      obtain ⟨ws, h1, rfl⟩ := Option.map_eq_some_iff.1 h
      obtain ⟨y, ys', rfl, r1, r2⟩ := r.inv_cons
      rw [ih h1 r2, r1.inv_v.1]
    · cases h
def pairOk : List LK → List Value → List Value → Bool
  | [], [], [] => true
  | l :: ls, x :: xs, y :: ys => leafOk l x y && pairOk ls xs ys
  | _, _, _ => false
theorem pairOk_iff : ∀ {l : List LK} {xs ys : List Value}, pairOk l xs ys = true → PairOk l xs ys := by
  intro l
  induction l with
  | nil => intro xs ys h; cases xs <;> cases ys <;> simp [pairOk] at h; exact ⟨rfl, rfl, fun i k x y hk => by simp at hk⟩
  | cons a l ih =>
    intro xs ys h
    cases xs <;> cases ys <;> simp [pairOk] at h
    obtain ⟨h1, h2⟩ := h
    obtain ⟨e1, e2, e3⟩ := ih h2
    refine ⟨by simp [e1], by simp [e2], fun i k x y hk hx hy => ?_⟩
    cases i with
    | zero => simp at hk hx hy; subst hk hx hy; exact h1
    | succ i => exact e3 i k x y (by simpa using hk) (by simpa using hx) (by simpa using hy)

/-- Is a value known to be nil, or not to be? -/
def nilOf : AV → Option Bool
  | .v (.slice a _ _) => some a.isNone
  | .v (.pointer a) => some a.isNone
  | .v .nilFunc => some true
  | .v (.map a) => some a.isNone
  | .mp _ _ => some false
  | .sl nn _ len _ => if nn = true ∨ 0 < len then some false else none
  | .own _ _ _ len _ _ => if 0 < len then some false else none
  | .ptr _ _ _ => some false
  | .at_ _ => some false
  | .fn _ _ _ => some false
  | _ => none
def isNilV : Value → Option Bool
  | .slice a _ _ => some a.isNone
  | .pointer a => some a.isNone
  | .nilFunc => some true
  | .func _ _ _ => some false
  | .map a => some a.isNone
  | _ => none
theorem nilOf_sound {c : Ctx} {x : AV} {v : Value} {b : Bool} (h : nilOf x = some b) (r : Rel c x v) : isNilV v = some b := by
  cases x with
  | v y => obtain ⟨rfl, _⟩ := r.inv_v; cases v <;> simp [nilOf] at h <;> simp [isNilV, h]
  | sl nn xs len cap =>
    simp only [nilOf] at h
    split at h
    · rename_i hh
      cases h
      cases r with
      | @sl _ _ _ _ a cp f hl hm hc hn ha hx hr =>
        cases a with
        | none => have := hn rfl; rcases hh with h | h <;> simp_all
        | some a => rfl
    · cases h
  | own n ver off len sz rm =>
    simp only [nilOf] at h
    split at h
    · rename_i hh
      cases h
      cases r with
      | @own _ _ _ _ _ _ k a cp hk hv hl hm hn ha =>
        cases a with
        | none => have := hn rfl; omega
        | some a => rfl
    · cases h
  | ptr => cases h; cases r; rfl
  | at_ => cases h; cases r; rfl
  | fn => cases h; obtain ⟨cs, ds, rfl, _⟩ := r.inv_fn; rfl
  | mp => cases h; cases r; rfl
  | _ => cases h
/-- The kinds that nil is compared at. -/
inductive NK where
  | slice | ptr | func | map
  deriving DecidableEq
def nkT (P : Program) (t : TypeId) : Option NK := match P.underlying t with | some (.slice _) => some .slice | some (.pointer _) => some .ptr | some (.func _ _ _) => some .func | some (.map _ _) => some .map | _ => none
def nkV : Value → Option NK
  | .slice _ _ _ => some .slice
  | .pointer _ => some .ptr
  | .nilFunc | .func _ _ _ => some .func
  | .map _ => some .map
  | _ => none
def nkA : AV → Option NK
  | .v x => nkV x
  | .sl _ _ _ _ | .own _ _ _ _ _ _ => some .slice
  | .ptr _ _ _ | .at_ _ => some .ptr
  | .fn _ _ _ => some .func
  | .mp _ _ => some .map
  | _ => none
theorem nkA_sound {c : Ctx} {x : AV} {v : Value} {k : NK} (h : nkA x = some k) (r : Rel c x v) : nkV v = some k := by
  cases x with
  | v y => obtain ⟨rfl, _⟩ := r.inv_v; exact h
  | sl => cases h; cases r; rfl
  | own => cases h; cases r; rfl
  | ptr => cases h; cases r; rfl
  | at_ => cases h; cases r; rfl
  | fn => cases h; obtain ⟨cs, ds, rfl, _⟩ := r.inv_fn; rfl
  | mp => cases h; cases r; rfl
  | _ => cases h
theorem equal_nil {P : Program} {w : World} {d : Nat} {t : TypeId} {k : NK} {x y : Value} {a b : Bool} (hk : nkT P t = some k) (hx : nkV x = some k) (hy : nkV y = some k) (nx : isNilV x = some a) (ny : isNilV y = some b) (hab : a = true ∨ b = true) :
    (Op.equalIn (d + 1) t x y).run P w = .ok (a && b) w := by
  cases hu : P.underlying t with
  | none => simp [nkT, hu] at hk
  | some u =>
    cases u <;> simp [nkT, hu] at hk
    all_goals
      subst hk
      cases x <;> simp [nkV, isNilV] at hx nx
      all_goals (cases y <;> simp [nkV, isNilV] at hy ny)
    case slice e a1 n1 c1 a2 n2 c2 =>
      subst nx ny
      cases a1 <;> cases a2 <;> simp at hab <;> simp [Op.equalIn, run_underlying hu]
    case map e a1 a2 =>
      subst nx ny
      cases a1 <;> cases a2 <;> simp at hab <;> simp [Op.equalIn, run_underlying hu]
    case pointer e a1 a2 =>
      subst nx ny
      cases a1 <;> cases a2 <;> simp at hab <;> simp [Op.equalIn, run_underlying hu]
    all_goals (subst nx ny; first | (simp at hab; done) | simp [Op.equalIn, run_underlying hu])

/-- '==' of two values. -/
def aEq (P : Program) (T : TypeId) (x y : AV) : Option Bool :=
  match x, y with
  | .agg xs, .agg ys => if P.eqGuardType P.depth T = true ∨ isAggT P T ≠ some true then none else
      (flatK P 40 T).bind fun l => (valsOf xs).bind fun vs => (valsOf ys).bind fun us => if pairOk l vs us = true then some (eqV vs us) else none
  | .v (.bool a), .v (.bool b) => if isBool P T = true then some (a == b) else none
  | .v (.string a), .v (.string b) => some (a.toList == b.toList)
  | x, y => (nkT P T).bind fun k => if nkA x = some k ∧ nkA y = some k then (nilOf x).bind fun a => (nilOf y).bind fun b => if a = true ∨ b = true then some (a && b) else none else none
def aBin (P : Program) (op : BinOp) (T : TypeId) (x y : AV) : Option AV :=
  match x, y with
  | .v (.int k a), .v (.int k' b) => (intBin op k k' a b).map .v
  | x, y => match op with
    | .eql => (aEq P T x y).map fun b => .v (.bool b)
    | .neq => (aEq P T x y).map fun b => .v (.bool !b)
    | _ => none

theorem intBin_plain {op : BinOp} {k k' : IntKind} {a b : Int} {y : Value} (h : intBin op k k' a b = some y) : ∀ cs, y ≠ .agg cs := by
  intro cs e
  subst e
  cases op <;> simp only [intBin] at h <;> (repeat' (split at h)) <;> cases h

/-- What 'binOp' says where both are no whole numbers. -/
theorem binOp_eq {P : Program} {w : World} {T : TypeId} {x y : Value} {b : Bool} (h : (Op.equal T x y).run P w = .ok b w) (hs : ∀ a c, ¬ (x = .int a c)) (hstr : ∀ s u, x = .string s → y = .string u → (s.toList == u.toList) = b) 
    (hf : (∀ k a, x ≠ .float k a) ∧ (∀ k a c, x ≠ .complex k a c)) :
    (binOp .eql T x y).run P w = .ok (.bool b) w ∧ (binOp .neq T x y).run P w = .ok (.bool !b) w := by
  constructor
  all_goals
    cases x <;> first
      | exact absurd rfl (hs _ _)
      | exact absurd rfl (hf.1 _ _)
      | exact absurd rfl (hf.2 _ _ _)
      | skip
    all_goals (cases y <;> first | (simp [binOp, h]; done) | (simp [binOp, Op.stringOp, hstr _ _ rfl rfl]; done) | skip)

theorem eqGuard_plain {P : Program} {w : World} {op : BinOp} {T : TypeId} {o1 o2 : Operand} {x y : Value} (h1 : x ≠ .nilIface) (h2 : ∀ a, x = .agg a → P.eqGuardType P.depth T = false) : (eqGuard op T o1 o2 x y).run P w = .ok () w := by
  unfold eqGuard
  cases op <;> simp <;> (cases x <;> first | exact absurd rfl h1 | skip) <;> (try (cases y)) <;> simp_all [run_program]

theorem aBin_sound {P : Program} {c : Ctx} {w0 : World} (M : MemOk c w0) {op : BinOp} {T : TypeId} {o1 o2 : Operand} {x y z : AV} {v u : Value} (h : aBin P op T x y = some z) (rx : Rel c x v) (ry : Rel c y u) :
    Good P c w0 (do eqGuard op T o1 o2 v u; binOp op T v u) (z, none) := by
  unfold aBin at h
  split at h
  · rename_i k a k' b
    obtain ⟨rfl, _⟩ := rx.inv_v
    obtain ⟨rfl, _⟩ := ry.inv_v
    obtain ⟨q, hq, rfl⟩ := Option.map_eq_some_iff.1 h
    refine Good.same (v := q) ?_ M .v
    rw [Sem.run_bind, eqGuard_plain (by intro h; cases h) (by intro a h; cases h)]
    exact intBin_run hq
  · rename_i hni
    -- the comparison's own answer
    have key : ∀ b, aEq P T x y = some b → (∀ o1 o2, ∀ op, (eqGuard op T o1 o2 v u).run P c.w = .ok () c.w) ∧ (binOp .eql T v u).run P c.w = .ok (.bool b) c.w ∧ (binOp .neq T v u).run P c.w = .ok (.bool !b) c.w := by
      intro b hb
      unfold aEq at hb
      split at hb
      · rename_i xs ys
        split at hb
        · cases hb
        rename_i hg
        obtain ⟨l, hl, hb⟩ := Option.bind_eq_some_iff.1 hb
        obtain ⟨vs, hvs, hb⟩ := Option.bind_eq_some_iff.1 hb
        obtain ⟨us, hus, hb⟩ := Option.bind_eq_some_iff.1 hb
        split at hb
        case isFalse => cases hb
        rename_i hp
        cases hb
        obtain ⟨cs, rfl, r1⟩ := rx.inv_agg
        obtain ⟨ds, rfl, r2⟩ := ry.inv_agg
        have e1 := valsOf_rel hvs r1
        have e2 := valsOf_rel hus r2
        obtain ⟨b', hb', _, hE⟩ := flatK_eq 40 T l hl 9960
        simp only [not_or, Bool.not_eq_true, Decidable.not_not] at hg
        rw [hg.2] at hb'
        obtain rfl : b' = true := by cases hb'; rfl
        have hh := hE c.w vs us (pairOk_iff hp)
        simp only [shapeV, if_true] at hh
        rw [← e1, ← e2] at hh ⊢
        rw [Array.toArray_toList, Array.toArray_toList] at hh
        refine ⟨fun o1 o2 op => eqGuard_plain (by intro h; cases h) (fun _ _ => hg.1), binOp_eq (by simpa [Op.equal, Op.maxDepth] using hh) (by intro a c h; cases h) (by intro s u h; cases h) ⟨(by intro _ _ h; cases h), (by intro _ _ _ h; cases h)⟩⟩
      · rename_i a b0
        split at hb
        · rename_i hT
          cases hb
          obtain ⟨rfl, _⟩ := rx.inv_v
          obtain ⟨rfl, _⟩ := ry.inv_v
          refine ⟨fun o1 o2 op => eqGuard_plain (by intro h; cases h) (by intro _ h; cases h), binOp_eq (run_equal_bool c.w T a b0 (isBool_some hT)) (by intro a c h; cases h) (by intro s u h; cases h) ⟨(by intro _ _ h; cases h), (by intro _ _ _ h; cases h)⟩⟩
        · cases hb
      · rename_i a b0
        cases hb
        obtain ⟨rfl, _⟩ := rx.inv_v
        obtain ⟨rfl, _⟩ := ry.inv_v
        refine ⟨fun o1 o2 op => eqGuard_plain (by intro h; cases h) (by intro _ h; cases h), ?_, ?_⟩ <;> simp [binOp, Op.stringOp]
      · obtain ⟨k, hk, hb⟩ := Option.bind_eq_some_iff.1 hb
        split at hb
        case isFalse => cases hb
        rename_i hn
        obtain ⟨a, ha, hb⟩ := Option.bind_eq_some_iff.1 hb
        obtain ⟨b0, hb0, hb⟩ := Option.bind_eq_some_iff.1 hb
        split at hb
        case isFalse => cases hb
        rename_i hab
        cases hb
        have n1 := nkA_sound hn.1 rx
        have n2 := nkA_sound hn.2 ry
        have i1 := nilOf_sound ha rx
        have i2 := nilOf_sound hb0 ry
        have hh := equal_nil (P := P) (w := c.w) (d := 9999) hk n1 n2 i1 i2 hab
        refine ⟨fun o1 o2 op => eqGuard_plain (by intro h; rw [h] at n1; cases n1) (by intro _ h; rw [h] at n1; cases n1), binOp_eq (by simpa [Op.equal, Op.maxDepth] using hh) (by intro a c h; rw [h] at n1; cases n1) (by intro s u h; rw [h] at n1; cases n1) ⟨(by intro _ _ h; rw [h] at n1; cases n1), (by intro _ _ _ h; rw [h] at n1; cases n1)⟩⟩
    split at h
    · obtain ⟨b, hb, rfl⟩ := Option.map_eq_some_iff.1 h
      obtain ⟨g, e1, e2⟩ := key b hb
      refine Good.same (v := .bool b) ?_ M .v
      rw [Sem.run_bind, g]; exact e1
    · obtain ⟨b, hb, rfl⟩ := Option.map_eq_some_iff.1 h
      obtain ⟨g, e1, e2⟩ := key b hb
      refine Good.same (v := .bool !b) ?_ M .v
      rw [Sem.run_bind, g]; exact e2
    · cases h

def aUn (op : UnOp) (x : AV) : Option AV :=
  match op, x with
  | .not, .v (.bool b) => some (.v (.bool !b))
  | .neg, .v (.int k n) => some (.v (.int k (k.wrap (0 - n))))
  | .xor, .v (.int k n) => some (.v (.int k (bits .xor k (if k.signed then -1 else k.max) n)))
  | _, _ => none
theorem aUn_sound {P : Program} {c : Ctx} {w0 : World} (M : MemOk c w0) {op : UnOp} {x y : AV} {v : Value} (h : aUn op x = some y) (r : Rel c x v) : Good P c w0 (Op.unary op v) (y, none) := by
  unfold aUn at h
  split at h
  · cases h; obtain ⟨rfl, _⟩ := r.inv_v
    exact Good.same (by simp [Op.unary]) M .v
  · cases h; obtain ⟨rfl, _⟩ := r.inv_v
    exact Good.same (by simp [Op.unary, Op.intArith]) M .v
  · cases h; obtain ⟨rfl, _⟩ := r.inv_v
    exact Good.same (v := .int _ _) (by simp only [Op.unary]; rfl) M .v
  · cases h
end Go.Pm
