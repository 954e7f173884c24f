/- A machine of values: rules that reckon it out. -/
import Derived.Test.YtfkneafghcndfaaPq
namespace Go.Pm
set_option linter.unusedVariables false
set_option linter.unusedSimpArgs false
section
variable {P : Program} {K : FuncId → Option Con} {call : CallF} {D : Nat → List Nat} {nt px L : Nat}

noncomputable def seqK (P : Program) (K : FuncId → Option Con) (call : CallF) (D : Nat → List Nat) (nt px L : Nat) (b : Code) (r : Option (Ex × St)) : Option (Ex × St) :=
  r.bind fun r => match r.1 with | .normal => evalC P K call D nt px L b r.2 | e => some (e, r.2)
@[simp] theorem evalC_seq (a b : Code) (st : St) : evalC P K call D nt px L (.seq a b) st = seqK P K call D nt px L b (evalC P K call D nt px L a st) := rfl
@[simp] theorem seqK_normal (b : Code) (st : St) : seqK P K call D nt px L b (some (.normal, st)) = evalC P K call D nt px L b st := rfl
@[simp] theorem seqK_exit (b : Code) (i : Nat) (st : St) : seqK P K call D nt px L b (some (.exit i, st)) = some (.exit i, st) := rfl
@[simp] theorem seqK_ret (b : Code) (st : St) : seqK P K call D nt px L b (some (.ret, st)) = some (.ret, st) := rfl
@[simp] theorem seqK_none (b : Code) : seqK P K call D nt px L b none = none := rfl
@[simp] theorem seqK_ite (b : Code) (c : Prop) [Decidable c] (x y : Option (Ex × St)) : seqK P K call D nt px L b (if c then x else y) = if c then seqK P K call D nt px L b x else seqK P K call D nt px L b y := by split <;> rfl

@[simp] theorem evalC_skip (st : St) : evalC P K call D nt px L .skip st = some (.normal, st) := rfl
@[simp] theorem evalC_label (l : Nat) (st : St) : evalC P K call D nt px L (.label l) st = some (.normal, st) := rfl
@[simp] theorem evalC_exit (i : Nat) (st : St) : evalC P K call D nt px L (.exit i) st = some (.exit i, st) := rfl
@[simp] theorem evalC_ret (st : St) : evalC P K call D nt px L .ret st = some (.ret, st) := rfl
@[simp] theorem evalC_scope (c : Code) (st : St) : evalC P K call D nt px L (.scope c) st = evalC P K call D nt px L c st := rfl

def regK (r : Option St) : Option (Ex × St) := r.map fun s => (.normal, s)
@[simp] theorem regK_some (st : St) : regK (some st) = some (.normal, st) := rfl
@[simp] theorem regK_none : regK none = none := rfl
@[simp] theorem regK_ite (c : Prop) [Decidable c] (x y : Option St) : regK (if c then x else y) = if c then regK x else regK y := by split <;> rfl
@[simp] theorem evalC_region (id : Nat) (ops : Array Oper) (st : St) : evalC P K call D nt px L (.region id ops false) st = regK (runOps P call nt px ops ops.toList st) := rfl
@[simp] theorem evalC_draw (id : Nat) (ops : Array Oper) (st : St) : evalC P K call D nt px L (.region id ops true) st = regK (drawGo P K nt px ops (D id) ops.toList 0 [] st) := rfl

noncomputable def condK (P : Program) (K : FuncId → Option Con) (call : CallF) (D : Nat → List Nat) (nt px L : Nat) (a b : Code) (st : St) (x : AV) : Option (Ex × St) :=
  match x with | .v (.bool t) => if t = true then evalC P K call D nt px L a st else evalC P K call D nt px L b st | _ => none
@[simp] theorem evalC_cond (c : Operand) (a b : Code) (st : St) : evalC P K call D nt px L (.cond c a b) st = condK P K call D nt px L a b st (st.ev c) := rfl
@[simp] theorem condK_bool (t : Bool) (a b : Code) (st : St) : condK P K call D nt px L a b st (.v (.bool t)) = if t = true then evalC P K call D nt px L a st else evalC P K call D nt px L b st := rfl

def blockK (id : Nat) (r : Option (Ex × St)) : Option (Ex × St) := r.map fun r => (if r.1 = .exit id then .normal else r.1, r.2)
@[simp] theorem evalC_block (id : Nat) (c : Code) (st : St) : evalC P K call D nt px L (.block id c) st = blockK id (evalC P K call D nt px L c st) := rfl
@[simp] theorem blockK_normal (id : Nat) (st : St) : blockK id (some (.normal, st)) = some (.normal, st) := rfl
@[simp] theorem blockK_ret (id : Nat) (st : St) : blockK id (some (.ret, st)) = some (.ret, st) := rfl
@[simp] theorem blockK_exit (id i : Nat) (st : St) : blockK id (some (.exit i, st)) = if i = id then some (.normal, st) else some (.exit i, st) := by
  unfold blockK
  by_cases h : i = id
  · subst h; simp
  · simp [h]
@[simp] theorem blockK_none (id : Nat) : blockK id none = none := rfl
@[simp] theorem blockK_ite (id : Nat) (c : Prop) [Decidable c] (x y : Option (Ex × St)) : blockK id (if c then x else y) = if c then blockK id x else blockK id y := by split <;> rfl

/-- A loop's rounds, and what a round leaves. -/
noncomputable def loopK (P : Program) (K : FuncId → Option Con) (call : CallF) (D : Nat → List Nat) (nt px L : Nat) (c : Code) (n : Nat) (st : St) : Option (Ex × St) := iter (evalC P K call D nt px L c) n st
noncomputable def againK (P : Program) (K : FuncId → Option Con) (call : CallF) (D : Nat → List Nat) (nt px L : Nat) (c : Code) (n : Nat) (r : Option (Ex × St)) : Option (Ex × St) :=
  r.bind fun r => match r.1 with | .normal => loopK P K call D nt px L c n r.2 | e => some (e, r.2)
@[simp] theorem evalC_loop (c : Code) (st : St) : evalC P K call D nt px L (.loop c) st = loopK P K call D nt px L c L st := rfl
theorem loopK_succ (c : Code) (n : Nat) (st : St) : loopK P K call D nt px L c (n + 1) st = againK P K call D nt px L c n (evalC P K call D nt px L c st) := rfl
theorem loopK_pos (c : Code) (n : Nat) (h : 0 < n) (st : St) : loopK P K call D nt px L c n st = againK P K call D nt px L c (n - 1) (evalC P K call D nt px L c st) := by
  obtain ⟨m, rfl⟩ : ∃ m, n = m + 1 := ⟨n - 1, by omega⟩
  rfl
@[simp] theorem againK_normal (c : Code) (n : Nat) (st : St) : againK P K call D nt px L c n (some (.normal, st)) = loopK P K call D nt px L c n st := rfl
@[simp] theorem againK_exit (c : Code) (n i : Nat) (st : St) : againK P K call D nt px L c n (some (.exit i, st)) = some (.exit i, st) := rfl
@[simp] theorem againK_ret (c : Code) (n : Nat) (st : St) : againK P K call D nt px L c n (some (.ret, st)) = some (.ret, st) := rfl
@[simp] theorem againK_none (c : Code) (n : Nat) : againK P K call D nt px L c n none = none := rfl
@[simp] theorem againK_ite (d : Code) (n : Nat) (c : Prop) [Decidable c] (x y : Option (Ex × St)) : againK P K call D nt px L d n (if c then x else y) = if c then againK P K call D nt px L d n x else againK P K call D nt px L d n y := by split <;> rfl

/-- A region's operations one by one. -/
noncomputable def nextK (P : Program) (call : CallF) (nt px : Nat) (ops : Array Oper) (os : List Oper) (r : Option St) : Option St := r.bind (runOps P call nt px ops os)
@[simp] theorem runOps_nil (ops : Array Oper) (st : St) : runOps P call nt px ops [] st = some st := rfl
@[simp] theorem runOps_cons (ops : Array Oper) (o : Oper) (os : List Oper) (st : St) : runOps P call nt px ops (o :: os) st = nextK P call nt px ops os (stepOp P call nt px ops o st) := rfl
@[simp] theorem nextK_some (ops : Array Oper) (os : List Oper) (st : St) : nextK P call nt px ops os (some st) = runOps P call nt px ops os st := rfl
@[simp] theorem nextK_none (ops : Array Oper) (os : List Oper) : nextK P call nt px ops os none = none := rfl
@[simp] theorem nextK_ite (ops : Array Oper) (os : List Oper) (c : Prop) [Decidable c] (x y : Option St) : nextK P call nt px ops os (if c then x else y) = if c then nextK P call nt px ops os x else nextK P call nt px ops os y := by split <;> rfl

def putK (nt : Nat) (t : Nat → AV) (dst : Option Tmp) (r : Option (AV × Mem)) : Option St := r.bind fun r => St.put nt ⟨t, r.2⟩ dst r.1
@[simp] theorem putK_none (t : Nat → AV) (dst : Option Tmp) : putK nt t dst none = none := rfl
@[simp] theorem putK_some (t : Nat → AV) (d : Nat) (x : AV) (m : Mem) : putK nt t (some d) (some (x, m)) = if d < nt then some ⟨upd t d x, m⟩ else none := rfl
@[simp] theorem putK_nodst (t : Nat → AV) (x : AV) (m : Mem) : putK nt t none (some (x, m)) = some ⟨t, m⟩ := rfl
@[simp] theorem putK_ite (t : Nat → AV) (dst : Option Tmp) (c : Prop) [Decidable c] (x y : Option (AV × Mem)) : putK nt t dst (if c then x else y) = if c then putK nt t dst x else putK nt t dst y := by split <;> rfl
noncomputable def guardK (P : Program) (call : CallF) (nt px : Nat) (o : Oper) (st : St) (g : Option Bool) : Option St :=
  g.bind fun g => if g = true then putK nt st.t o.dst (doOp P call px o st) else St.put nt st o.dst (.v undef)
@[simp] theorem stepOp_rule (ops : Array Oper) (o : Oper) (st : St) : stepOp P call nt px ops o st = guardK P call nt px o st (guardOk ops st o) := rfl
@[simp] theorem guardK_true (o : Oper) (st : St) : guardK P call nt px o st (some true) = putK nt st.t o.dst (doOp P call px o st) := rfl
@[simp] theorem guardK_false (o : Oper) (st : St) : guardK P call nt px o st (some false) = St.put nt st o.dst (.v undef) := rfl
theorem guardK_some (o : Oper) (st : St) (b : Bool) : guardK P call nt px o st (some b) = if b = true then putK nt st.t o.dst (doOp P call px o st) else St.put nt st o.dst (.v undef) := rfl
@[simp] theorem put_some_dst (st : St) (d : Nat) (x : AV) : St.put nt st (some d) x = if d < nt then some ⟨upd st.t d x, st.m⟩ else none := rfl
@[simp] theorem put_no_dst (st : St) (x : AV) : St.put nt st none x = some st := rfl
@[simp] theorem guardOk_none (ops : Array Oper) (st : St) (dst : Option Tmp) (op : Op) (ty : TypeId) (pos : String) (aft : Array Edge) : guardOk ops st ⟨dst, op, ty, pos, aft, none⟩ = some true := rfl
def gK (want : Bool) (x : AV) : Option Bool := match x with | .v (.bool b) => some (b == want) | .v (.tuple _) => some false | _ => none
def gdK (st : St) (want : Bool) (d : Option Tmp) : Option Bool := match d with | some d => gK want (st.t d) | none => some false
@[simp] theorem guardOk_some (ops : Array Oper) (st : St) (dst : Option Tmp) (op : Op) (ty : TypeId) (pos : String) (aft : Array Edge) (j : Nat) (want : Bool) : guardOk ops st ⟨dst, op, ty, pos, aft, some (j, want)⟩ = gdK st want ((ops[j]?).bind (·.dst)) := rfl
@[simp] theorem gdK_some (st : St) (want : Bool) (d : Nat) : gdK st want (some d) = gK want (st.t d) := rfl
@[simp] theorem gK_bool (want b : Bool) : gK want (.v (.bool b)) = some (b == want) := rfl
@[simp] theorem gK_undef (want : Bool) (vs : Array Value) : gK want (.v (.tuple vs)) = some false := rfl

def effK (m : Mem) (r : Option Eff) : Option (AV × Mem) := r.map fun e => (e.1, memOf m e.2)
@[simp] theorem effK_none (m : Mem) : effK m none = none := rfl
@[simp] theorem effK_same (m : Mem) (x : AV) : effK m (some (x, none)) = some (x, m) := rfl
@[simp] theorem effK_upd (m : Mem) (x : AV) (n : Nat) (k : Blk) : effK m (some (x, some (n, k))) = some (x, upd m n (some k)) := rfl
@[simp] theorem effK_ite (m : Mem) (c : Prop) [Decidable c] (x y : Option Eff) : effK m (if c then x else y) = if c then effK m x else effK m y := by split <;> rfl
def callGo (call : CallF) (px : Nat) (m : Mem) (fa : Option (FuncId × List AV)) : Option (AV × Mem) := fa.bind fun fa => call px fa.1 fa.2 m
@[simp] theorem callGo_some (m : Mem) (f : FuncId) (as : List AV) : callGo call px m (some (f, as)) = call px f as m := rfl
def tgK (f : AV) (as : List AV) : Option (FuncId × List AV) := match f with | .fn (.func g) first caps => some (g, first ++ as ++ caps) | _ => none
@[simp] theorem tgK_fn (g : FuncId) (xs ys as : List AV) : tgK (.fn (.func g) xs ys) as = some (g, xs ++ as ++ ys) := rfl
@[simp] theorem doOp_call (dst : Option Tmp) (f : Operand) (args : Array Operand) (ats : Array TypeId) (ty : TypeId) (pos : String) (aft : Array Edge) (gd : Option (Nat × Bool)) (st : St) :
    doOp P call px ⟨dst, .call ⟨.value f, args, ats⟩, ty, pos, aft, gd⟩ st = callGo call (px * 4096 + dst.getD 4095 + 1) st.m (tgK (st.ev f) (args.toList.map st.ev)) := by
  unfold doOp target tgK callGo
  simp only [isVal, if_true]
  generalize st.ev f = y
  cases y <;> first | rfl | (rename_i g _ _; cases g <;> rfl)
@[simp] theorem doOp_builtin (dst : Option Tmp) (b : Builtin) (args : Array Operand) (ats : Array TypeId) (ty : TypeId) (pos : String) (aft : Array Edge) (gd : Option (Nat × Bool)) (st : St) :
    doOp P call px ⟨dst, .call ⟨.builtin b, args, ats⟩, ty, pos, aft, gd⟩ st = effK st.m (aBuiltin P b ats.toList (args.toList.map st.ev) st.m (px * 4096 + dst.getD 4095)) := rfl
def sameK (r : Option AV) : Option Eff := r.map fun y => (y, none)
@[simp] theorem sameK_some (x : AV) : sameK (some x) = some (x, none) := rfl
@[simp] theorem sameK_none : sameK none = none := rfl
@[simp] theorem sameK_ite (c : Prop) [Decidable c] (x y : Option AV) : sameK (if c then x else y) = if c then sameK x else sameK y := by split <;> rfl

@[simp] theorem doOp_move (dst : Option Tmp) (x : Operand) (ty : TypeId) (pos : String) (aft : Array Edge) (gd : Option (Nat × Bool)) (st : St) : doOp P call px ⟨dst, (.move x), ty, pos, aft, gd⟩ st = effK st.m (some (st.ev x, none)) := rfl
@[simp] theorem doOp_assign (dst : Option Tmp) (x : Operand) (ty : TypeId) (pos : String) (aft : Array Edge) (gd : Option (Nat × Bool)) (st : St) : doOp P call px ⟨dst, (.assign x), ty, pos, aft, gd⟩ st = effK st.m (some (st.ev x, none)) := rfl
@[simp] theorem doOp_pick (dst : Option Tmp) (c a b : Operand) (ty : TypeId) (pos : String) (aft : Array Edge) (gd : Option (Nat × Bool)) (st : St) : doOp P call px ⟨dst, (.pick c a b), ty, pos, aft, gd⟩ st = effK st.m (sameK (aPick (st.ev c) (st.ev a) (st.ev b))) := rfl
@[simp] theorem doOp_alloc (dst : Option Tmp) (e : TypeId) (ty : TypeId) (pos : String) (aft : Array Edge) (gd : Option (Nat × Bool)) (st : St) : doOp P call px ⟨dst, (.alloc e), ty, pos, aft, gd⟩ st = effK st.m (aAlloc P e st.m (px * 4096 + dst.getD 4095)) := rfl
@[simp] theorem doOp_box (dst : Option Tmp) (e : TypeId) (x : Operand) (ty : TypeId) (pos : String) (aft : Array Edge) (gd : Option (Nat × Bool)) (st : St) : doOp P call px ⟨dst, (.box e x), ty, pos, aft, gd⟩ st = effK st.m (some (aNew st.m (px * 4096 + dst.getD 4095) (st.ev x).cells)) := rfl
@[simp] theorem doOp_build (dst : Option Tmp) (t : TypeId) (ps : Array (Nat × Operand)) (ty : TypeId) (pos : String) (aft : Array Edge) (gd : Option (Nat × Bool)) (st : St) : doOp P call px ⟨dst, (.build t ps), ty, pos, aft, gd⟩ st = effK st.m (sameK (aBuild P t (ps.toList.map fun p => (p.1, st.ev p.2)))) := rfl
@[simp] theorem doOp_buildSlice (dst : Option Tmp) (t : TypeId) (n : Nat) (ps : Array (Nat × Operand)) (ty : TypeId) (pos : String) (aft : Array Edge) (gd : Option (Nat × Bool)) (st : St) : doOp P call px ⟨dst, (.buildSlice t n ps), ty, pos, aft, gd⟩ st = effK st.m (aBuildSlice P t n (ps.toList.map fun p => (p.1, st.ev p.2)) st.m (px * 4096 + dst.getD 4095)) := rfl
@[simp] theorem doOp_load (dst : Option Tmp) (t : TypeId) (x : Operand) (ty : TypeId) (pos : String) (aft : Array Edge) (gd : Option (Nat × Bool)) (st : St) : doOp P call px ⟨dst, (.load t x), ty, pos, aft, gd⟩ st = effK st.m (sameK (aLoad P t (st.ev x) st.m)) := rfl
@[simp] theorem doOp_store (dst : Option Tmp) (t : TypeId) (x y : Operand) (ty : TypeId) (pos : String) (aft : Array Edge) (gd : Option (Nat × Bool)) (st : St) : doOp P call px ⟨dst, (.store t x y), ty, pos, aft, gd⟩ st = effK st.m (aStore P t (st.ev x) (st.ev y) st.m) := rfl
@[simp] theorem doOp_nilCheck (dst : Option Tmp) (x : Operand) (ty : TypeId) (pos : String) (aft : Array Edge) (gd : Option (Nat × Bool)) (st : St) : doOp P call px ⟨dst, (.nilCheck x), ty, pos, aft, gd⟩ st = effK st.m (sameK (aNilCheck (st.ev x))) := rfl
@[simp] theorem doOp_binOp (dst : Option Tmp) (b : BinOp) (t : TypeId) (x y : Operand) (t2 : TypeId) (ty : TypeId) (pos : String) (aft : Array Edge) (gd : Option (Nat × Bool)) (st : St) : doOp P call px ⟨dst, (.binOp b t x y t2), ty, pos, aft, gd⟩ st = effK st.m (sameK (aBin P b t (st.ev x) (st.ev y))) := rfl
@[simp] theorem doOp_unOp (dst : Option Tmp) (u : UnOp) (t : TypeId) (x : Operand) (ty : TypeId) (pos : String) (aft : Array Edge) (gd : Option (Nat × Bool)) (st : St) : doOp P call px ⟨dst, (.unOp u t x), ty, pos, aft, gd⟩ st = effK st.m (sameK (aUn u (st.ev x))) := rfl
@[simp] theorem doOp_convert (dst : Option Tmp) (s d : TypeId) (x : Operand) (ty : TypeId) (pos : String) (aft : Array Edge) (gd : Option (Nat × Bool)) (st : St) : doOp P call px ⟨dst, (.convert s d x), ty, pos, aft, gd⟩ st = effK st.m (sameK (aConvert P s d (st.ev x) st.m)) := rfl
@[simp] theorem doOp_s2a (dst : Option Tmp) (t : TypeId) (x : Operand) (ty : TypeId) (pos : String) (aft : Array Edge) (gd : Option (Nat × Bool)) (st : St) : doOp P call px ⟨dst, (.sliceToArrayPointer t x), ty, pos, aft, gd⟩ st = effK st.m (sameK (aS2A P t (st.ev x) st.m)) := rfl
@[simp] theorem doOp_makeFunc (dst : Option Tmp) (f : Fn) (xs ys : Array Operand) (ty : TypeId) (pos : String) (aft : Array Edge) (gd : Option (Nat × Bool)) (st : St) : doOp P call px ⟨dst, (.makeFunc f xs ys), ty, pos, aft, gd⟩ st = effK st.m (some (.fn f (xs.toList.map st.ev) (ys.toList.map st.ev), none)) := rfl
@[simp] theorem doOp_makeSlice (dst : Option Tmp) (t : TypeId) (x y : Operand) (ty : TypeId) (pos : String) (aft : Array Edge) (gd : Option (Nat × Bool)) (st : St) : doOp P call px ⟨dst, (.makeSlice t x y), ty, pos, aft, gd⟩ st = effK st.m (aMakeSlice P t (st.ev x) (st.ev y) st.m (px * 4096 + dst.getD 4095)) := rfl
@[simp] theorem doOp_slice (dst : Option Tmp) (t : TypeId) (x : Operand) (lo hi mx : Option Operand) (ty : TypeId) (pos : String) (aft : Array Edge) (gd : Option (Nat × Bool)) (st : St) : doOp P call px ⟨dst, (.slice t x lo hi mx), ty, pos, aft, gd⟩ st = effK st.m (sameK (aSlice P t (st.ev x) (lo.map st.ev) (hi.map st.ev) (mx.map st.ev) st.m)) := rfl
@[simp] theorem doOp_fieldAddr (dst : Option Tmp) (s : TypeId) (x : Operand) (f : Nat) (ty : TypeId) (pos : String) (aft : Array Edge) (gd : Option (Nat × Bool)) (st : St) : doOp P call px ⟨dst, (.fieldAddr s x f), ty, pos, aft, gd⟩ st = effK st.m (sameK (aFieldAddr P s f (st.ev x))) := rfl
@[simp] theorem doOp_field (dst : Option Tmp) (s : TypeId) (x : Operand) (f : Nat) (ty : TypeId) (pos : String) (aft : Array Edge) (gd : Option (Nat × Bool)) (st : St) : doOp P call px ⟨dst, (.field s x f), ty, pos, aft, gd⟩ st = effK st.m (sameK (aField P s (st.ev x) f)) := rfl
@[simp] theorem doOp_indexAddr (dst : Option Tmp) (s : TypeId) (x y : Operand) (ty : TypeId) (pos : String) (aft : Array Edge) (gd : Option (Nat × Bool)) (st : St) : doOp P call px ⟨dst, (.indexAddr s x y), ty, pos, aft, gd⟩ st = effK st.m (sameK (aIndexAddr P s (st.ev x) (st.ev y))) := rfl
@[simp] theorem doOp_index (dst : Option Tmp) (s : TypeId) (x y : Operand) (ty : TypeId) (pos : String) (aft : Array Edge) (gd : Option (Nat × Bool)) (st : St) : doOp P call px ⟨dst, (.index s x y), ty, pos, aft, gd⟩ st = effK st.m (sameK (aIndex P s (st.ev x) (st.ev y))) := rfl
@[simp] theorem doOp_extract (dst : Option Tmp) (x : Operand) (i : Nat) (ty : TypeId) (pos : String) (aft : Array Edge) (gd : Option (Nat × Bool)) (st : St) : doOp P call px ⟨dst, (.extract x i), ty, pos, aft, gd⟩ st = effK st.m (sameK (aExtract (st.ev x) i)) := rfl

@[simp] theorem doOp_makeMap (dst : Option Tmp) (t : TypeId) (ty : TypeId) (pos : String) (aft : Array Edge) (gd : Option (Nat × Bool)) (st : St) : doOp P call px ⟨dst, (.makeMap t none), ty, pos, aft, gd⟩ st = effK st.m (aMakeMap P t none st.m (px * 4096 + dst.getD 4095)) := rfl
@[simp] theorem doOp_makeMap2 (dst : Option Tmp) (t : TypeId) (r : Operand) (ty : TypeId) (pos : String) (aft : Array Edge) (gd : Option (Nat × Bool)) (st : St) : doOp P call px ⟨dst, (.makeMap t (some r)), ty, pos, aft, gd⟩ st = effK st.m (aMakeMap P t (some (st.ev r)) st.m (px * 4096 + dst.getD 4095)) := rfl
@[simp] theorem doOp_lookup (dst : Option Tmp) (t : TypeId) (x i : Operand) (ok : Bool) (ty : TypeId) (pos : String) (aft : Array Edge) (gd : Option (Nat × Bool)) (st : St) : doOp P call px ⟨dst, (.lookup t x i ok), ty, pos, aft, gd⟩ st = effK st.m (sameK (aLookup P t (st.ev x) (st.ev i) ok st.m)) := rfl
@[simp] theorem doOp_mapUpdate (dst : Option Tmp) (t : TypeId) (x i y : Operand) (ty : TypeId) (pos : String) (aft : Array Edge) (gd : Option (Nat × Bool)) (st : St) : doOp P call px ⟨dst, (.mapUpdate t x i y), ty, pos, aft, gd⟩ st = effK st.m (aMapUpdate P t (st.ev x) (st.ev i) (st.ev y) st.m) := rfl
@[simp] theorem doOp_insert (dst : Option Tmp) (t : TypeId) (x i y : Operand) (ty : TypeId) (pos : String) (aft : Array Edge) (gd : Option (Nat × Bool)) (st : St) : doOp P call px ⟨dst, (.insert t x i y), ty, pos, aft, gd⟩ st = effK st.m (aMapUpdate P t (st.ev x) (st.ev i) (st.ev y) st.m) := rfl
@[simp] theorem doOp_range (dst : Option Tmp) (t : TypeId) (x : Operand) (ty : TypeId) (pos : String) (aft : Array Edge) (gd : Option (Nat × Bool)) (st : St) : doOp P call px ⟨dst, (.range t x), ty, pos, aft, gd⟩ st = effK st.m (aRange P t (st.ev x) st.m (px * 4096 + dst.getD 4095)) := rfl
@[simp] theorem doOp_next (dst : Option Tmp) (x : Operand) (s : Bool) (ty : TypeId) (pos : String) (aft : Array Edge) (gd : Option (Nat × Bool)) (st : St) : doOp P call px ⟨dst, (.next x s), ty, pos, aft, gd⟩ st = effK st.m (aNext st.m (st.ev x) s) := rfl
@[simp] theorem doOp_entry (dst : Option Tmp) (x : Operand) (ty : TypeId) (pos : String) (aft : Array Edge) (gd : Option (Nat × Bool)) (st : St) : doOp P call px ⟨dst, (.entry x), ty, pos, aft, gd⟩ st = effK st.m (sameK (aEntry st.m (st.ev x))) := rfl

/-- The same in a drawn region. -/
def eff3K (F : List Nat) (r : Option Eff) : Option Eff3 := r.map fun e => (e.1, e.2.toList, F)
@[simp] theorem eff3K_none (F : List Nat) : eff3K F none = none := rfl
@[simp] theorem eff3K_same (F : List Nat) (x : AV) : eff3K F (some (x, none)) = some (x, [], F) := rfl
@[simp] theorem eff3K_upd (F : List Nat) (x : AV) (n : Nat) (k : Blk) : eff3K F (some (x, some (n, k))) = some (x, [(n, k)], F) := rfl
@[simp] theorem eff3K_ite (F : List Nat) (c : Prop) [Decidable c] (x y : Option Eff) : eff3K F (if c then x else y) = if c then eff3K F x else eff3K F y := by split <;> rfl
noncomputable def opD (P : Program) (K : FuncId → Option Con) (px : Nat) (o : Oper) (st : St) : Option Eff3 :=
  match o.op with
  | .call q => if isVal q = true then (target st q).bind fun fa => (K fa.1).bind fun F => conE F st.m (px * 4096 + o.dst.getD 4095 + 1) fa.2 else absE P px o st
  | _ => absE P px o st
noncomputable def guard3K (P : Program) (K : FuncId → Option Con) (px : Nat) (o : Oper) (st : St) (g : Option Bool) : Option Eff3 := g.bind fun g => if g = true then opD P K px o st else some (.v undef, [], [])
@[simp] theorem effD_rule (ops : Array Oper) (o : Oper) (st : St) : effD P K px ops o st = guard3K P K px o st (guardOk ops st o) := rfl
@[simp] theorem guard3K_true (o : Oper) (st : St) : guard3K P K px o st (some true) = opD P K px o st := rfl
@[simp] theorem guard3K_false (o : Oper) (st : St) : guard3K P K px o st (some false) = some (.v undef, [], []) := rfl
theorem guard3K_some (o : Oper) (st : St) (b : Bool) : guard3K P K px o st (some b) = if b = true then opD P K px o st else some (.v undef, [], []) := rfl
noncomputable def drawK (P : Program) (K : FuncId → Option Con) (nt px : Nat) (ops : Array Oper) (masks : List Nat) (os : List Oper) (j : Nat) (hist : Hist) (dst : Option Tmp) (st : St) (r : Option Eff3) : Option St :=
  r.bind fun e => if (hist.all (clear (masks.getD j 0) e)) = true then
        (St.put nt ⟨st.t, applyU st.m e.2.1⟩ dst e.1).bind (drawGo P K nt px ops masks os (j + 1) (if (fOf e).isEmpty = true then hist else hist ++ [(j, fOf e, wOf e)])) else none
@[simp] theorem drawGo_nil (ops : Array Oper) (masks : List Nat) (j : Nat) (hist : Hist) (st : St) : drawGo P K nt px ops masks [] j hist st = some st := rfl
@[simp] theorem drawGo_cons (ops : Array Oper) (masks : List Nat) (o : Oper) (os : List Oper) (j : Nat) (hist : Hist) (st : St) : drawGo P K nt px ops masks (o :: os) j hist st = drawK P K nt px ops masks os j hist o.dst st (effD P K px ops o st) := rfl
@[simp] theorem drawK_none (ops : Array Oper) (masks : List Nat) (os : List Oper) (j : Nat) (hist : Hist) (dst : Option Tmp) (st : St) : drawK P K nt px ops masks os j hist dst st none = none := rfl
@[simp] theorem drawK_ite (ops : Array Oper) (masks : List Nat) (os : List Oper) (j : Nat) (hist : Hist) (dst : Option Tmp) (st : St) (c : Prop) [Decidable c] (x y : Option Eff3) : drawK P K nt px ops masks os j hist dst st (if c then x else y) = if c then drawK P K nt px ops masks os j hist dst st x else drawK P K nt px ops masks os j hist dst st y := by split <;> rfl
@[simp] theorem drawK_quiet (ops : Array Oper) (masks : List Nat) (os : List Oper) (j : Nat) (hist : Hist) (d : Nat) (st : St) (x : AV) : drawK P K nt px ops masks os j hist (some d) st (some (x, [], [])) = if d < nt then drawGo P K nt px ops masks os (j + 1) hist ⟨upd st.t d x, st.m⟩ else none := by
  have h : hist.all (clear (masks.getD j 0) (x, [], [])) = true := List.all_eq_true.2 fun h _ => clear_nil rfl
  show (if hist.all (clear (masks.getD j 0) (x, [], [])) = true then _ else _) = _
  rw [if_pos h]
  by_cases hd : d < nt
  · rw [if_pos hd]; show ((if d < nt then some _ else none : Option St)).bind _ = _; rw [if_pos hd]; rfl
  · rw [if_neg hd]; show ((if d < nt then some _ else none : Option St)).bind _ = _; rw [if_neg hd]; rfl
def clearL (mask : Nat) (F W : List Nat) (h : Nat × List Nat × List Nat) : Bool := mask.testBit h.1 || (disj h.2.2 F && disj W h.2.1)
theorem drawK_some (ops : Array Oper) (masks : List Nat) (os : List Oper) (j : Nat) (hist : Hist) (dst : Option Tmp) (st : St) (x : AV) (us : List (Nat × Blk)) (f : Nat) (F : List Nat) : drawK P K nt px ops masks os j hist dst st (some (x, us, f :: F)) =
    if (hist.all (clearL (masks.getD j 0) (f :: F ++ us.map (·.1)) (us.map (·.1)))) = true then (St.put nt ⟨st.t, applyU st.m us⟩ dst x).bind (drawGo P K nt px ops masks os (j + 1) (hist ++ [(j, f :: F ++ us.map (·.1), us.map (·.1))])) else none := rfl
attribute [simp] drawK_some clearL disj
@[simp] theorem applyU_nil (m : Mem) : applyU m [] = m := rfl
@[simp] theorem applyU_cons (m : Mem) (n : Nat) (k : Blk) (us : List (Nat × Blk)) : applyU m ((n, k) :: us) = upd (applyU m us) n (some k) := rfl
theorem absE_of {o : Oper} {st : St} (h : walkOp o.op = false) : absE P px o st = eff3K (fpOf o st.ev (px * 4096 + o.dst.getD 4095)) (absOp P o st.ev st.m (px * 4096 + o.dst.getD 4095)) := by
  unfold absE
  rw [if_neg (by simp [h])]
  rfl
def topsOf : List AV → List Nat
  | [] => []
  | x :: xs => x.top ++ topsOf xs
theorem topsOf_append (xs ys : List AV) : topsOf (xs ++ ys) = topsOf xs ++ topsOf ys := by
  induction xs with
  | nil => rfl
  | cons x xs ih => simp only [List.cons_append, topsOf, ih, List.append_assoc]
theorem topsOf_flat (ρ : Operand → AV) : ∀ xs : List Operand, (xs.flatMap fun x => (ρ x).top) = topsOf (xs.map ρ) := by
  intro xs
  induction xs with
  | nil => rfl
  | cons x xs ih => simp only [List.flatMap_cons, List.map_cons, topsOf, ih]
theorem topsOf_flat2 (ρ : Operand → AV) : ∀ xs : List (Nat × Operand), (xs.flatMap fun x => (ρ x.2).top) = topsOf (xs.map fun p => ρ p.2) := by
  intro xs
  induction xs with
  | nil => rfl
  | cons x xs ih => simp only [List.flatMap_cons, List.map_cons, topsOf, ih]
@[simp] theorem opD_move (dst : Option Tmp) (x : Operand) (ty : TypeId) (pos : String) (aft : Array Edge) (gd : Option (Nat × Bool)) (st : St) : opD P K px ⟨dst, (.move x), ty, pos, aft, gd⟩ st = eff3K [] (some (st.ev x, none)) := rfl
@[simp] theorem opD_assign (dst : Option Tmp) (x : Operand) (ty : TypeId) (pos : String) (aft : Array Edge) (gd : Option (Nat × Bool)) (st : St) : opD P K px ⟨dst, (.assign x), ty, pos, aft, gd⟩ st = eff3K [] (some (st.ev x, none)) := rfl
@[simp] theorem opD_pick (dst : Option Tmp) (c a b : Operand) (ty : TypeId) (pos : String) (aft : Array Edge) (gd : Option (Nat × Bool)) (st : St) : opD P K px ⟨dst, (.pick c a b), ty, pos, aft, gd⟩ st = eff3K [] (sameK (aPick (st.ev c) (st.ev a) (st.ev b))) := rfl
@[simp] theorem opD_alloc (dst : Option Tmp) (e : TypeId) (ty : TypeId) (pos : String) (aft : Array Edge) (gd : Option (Nat × Bool)) (st : St) : opD P K px ⟨dst, (.alloc e), ty, pos, aft, gd⟩ st = eff3K (topsOf [] ++ [px * 4096 + dst.getD 4095]) (aAlloc P e st.m (px * 4096 + dst.getD 4095)) := by
  refine Eq.trans (show opD P K px ⟨dst, (.alloc e), ty, pos, aft, gd⟩ st = absE P px ⟨dst, (.alloc e), ty, pos, aft, gd⟩ st from rfl) ?_
  rw [absE_of rfl]
  show eff3K (fpOf ⟨dst, (.alloc e), ty, pos, aft, gd⟩ st.ev (px * 4096 + dst.getD 4095)) _ = _
  first | rfl | (congr 1; done) | (congr 1; simp [fpOf, isLen, memOp, siteOp, Op.operands, topsOf_flat, topsOf_flat2, topsOf, topsOf_append, List.flatMap_map, Function.comp_def])
@[simp] theorem opD_box (dst : Option Tmp) (e : TypeId) (x : Operand) (ty : TypeId) (pos : String) (aft : Array Edge) (gd : Option (Nat × Bool)) (st : St) : opD P K px ⟨dst, (.box e x), ty, pos, aft, gd⟩ st = eff3K (topsOf [st.ev x] ++ [px * 4096 + dst.getD 4095]) (some (aNew st.m (px * 4096 + dst.getD 4095) (st.ev x).cells)) := by
  refine Eq.trans (show opD P K px ⟨dst, (.box e x), ty, pos, aft, gd⟩ st = absE P px ⟨dst, (.box e x), ty, pos, aft, gd⟩ st from rfl) ?_
  rw [absE_of rfl]
  show eff3K (fpOf ⟨dst, (.box e x), ty, pos, aft, gd⟩ st.ev (px * 4096 + dst.getD 4095)) _ = _
  first | rfl | (congr 1; done) | (congr 1; simp [fpOf, isLen, memOp, siteOp, Op.operands, topsOf_flat, topsOf_flat2, topsOf, topsOf_append, List.flatMap_map, Function.comp_def])
@[simp] theorem opD_build (dst : Option Tmp) (t : TypeId) (ps : Array (Nat × Operand)) (ty : TypeId) (pos : String) (aft : Array Edge) (gd : Option (Nat × Bool)) (st : St) : opD P K px ⟨dst, (.build t ps), ty, pos, aft, gd⟩ st = eff3K [] (sameK (aBuild P t (ps.toList.map fun p => (p.1, st.ev p.2)))) := rfl
@[simp] theorem opD_buildSlice (dst : Option Tmp) (t : TypeId) (n : Nat) (ps : Array (Nat × Operand)) (ty : TypeId) (pos : String) (aft : Array Edge) (gd : Option (Nat × Bool)) (st : St) : opD P K px ⟨dst, (.buildSlice t n ps), ty, pos, aft, gd⟩ st = eff3K (topsOf (ps.toList.map fun p => st.ev p.2) ++ [px * 4096 + dst.getD 4095]) (aBuildSlice P t n (ps.toList.map fun p => (p.1, st.ev p.2)) st.m (px * 4096 + dst.getD 4095)) := by
  refine Eq.trans (show opD P K px ⟨dst, (.buildSlice t n ps), ty, pos, aft, gd⟩ st = absE P px ⟨dst, (.buildSlice t n ps), ty, pos, aft, gd⟩ st from rfl) ?_
  rw [absE_of rfl]
  show eff3K (fpOf ⟨dst, (.buildSlice t n ps), ty, pos, aft, gd⟩ st.ev (px * 4096 + dst.getD 4095)) _ = _
  first | rfl | (congr 1; done) | (congr 1; simp [fpOf, isLen, memOp, siteOp, Op.operands, topsOf_flat, topsOf_flat2, topsOf, topsOf_append, List.flatMap_map, Function.comp_def])
@[simp] theorem opD_load (dst : Option Tmp) (t : TypeId) (x : Operand) (ty : TypeId) (pos : String) (aft : Array Edge) (gd : Option (Nat × Bool)) (st : St) : opD P K px ⟨dst, (.load t x), ty, pos, aft, gd⟩ st = eff3K (topsOf [st.ev x]) (sameK (aLoad P t (st.ev x) st.m)) := by
  refine Eq.trans (show opD P K px ⟨dst, (.load t x), ty, pos, aft, gd⟩ st = absE P px ⟨dst, (.load t x), ty, pos, aft, gd⟩ st from rfl) ?_
  rw [absE_of rfl]
  show eff3K (fpOf ⟨dst, (.load t x), ty, pos, aft, gd⟩ st.ev (px * 4096 + dst.getD 4095)) _ = _
  first | rfl | (congr 1; done) | (congr 1; simp [fpOf, isLen, memOp, siteOp, Op.operands, topsOf_flat, topsOf_flat2, topsOf, topsOf_append, List.flatMap_map, Function.comp_def])
@[simp] theorem opD_store (dst : Option Tmp) (t : TypeId) (x y : Operand) (ty : TypeId) (pos : String) (aft : Array Edge) (gd : Option (Nat × Bool)) (st : St) : opD P K px ⟨dst, (.store t x y), ty, pos, aft, gd⟩ st = eff3K (topsOf [st.ev x, st.ev y]) (aStore P t (st.ev x) (st.ev y) st.m) := by
  refine Eq.trans (show opD P K px ⟨dst, (.store t x y), ty, pos, aft, gd⟩ st = absE P px ⟨dst, (.store t x y), ty, pos, aft, gd⟩ st from rfl) ?_
  rw [absE_of rfl]
  show eff3K (fpOf ⟨dst, (.store t x y), ty, pos, aft, gd⟩ st.ev (px * 4096 + dst.getD 4095)) _ = _
  first | rfl | (congr 1; done) | (congr 1; simp [fpOf, isLen, memOp, siteOp, Op.operands, topsOf_flat, topsOf_flat2, topsOf, topsOf_append, List.flatMap_map, Function.comp_def])
@[simp] theorem opD_nilCheck (dst : Option Tmp) (x : Operand) (ty : TypeId) (pos : String) (aft : Array Edge) (gd : Option (Nat × Bool)) (st : St) : opD P K px ⟨dst, (.nilCheck x), ty, pos, aft, gd⟩ st = eff3K [] (sameK (aNilCheck (st.ev x))) := rfl
@[simp] theorem opD_binOp (dst : Option Tmp) (b : BinOp) (t : TypeId) (x y : Operand) (t2 : TypeId) (ty : TypeId) (pos : String) (aft : Array Edge) (gd : Option (Nat × Bool)) (st : St) : opD P K px ⟨dst, (.binOp b t x y t2), ty, pos, aft, gd⟩ st = eff3K [] (sameK (aBin P b t (st.ev x) (st.ev y))) := rfl
@[simp] theorem opD_unOp (dst : Option Tmp) (u : UnOp) (t : TypeId) (x : Operand) (ty : TypeId) (pos : String) (aft : Array Edge) (gd : Option (Nat × Bool)) (st : St) : opD P K px ⟨dst, (.unOp u t x), ty, pos, aft, gd⟩ st = eff3K [] (sameK (aUn u (st.ev x))) := rfl
@[simp] theorem opD_convert (dst : Option Tmp) (s d : TypeId) (x : Operand) (ty : TypeId) (pos : String) (aft : Array Edge) (gd : Option (Nat × Bool)) (st : St) : opD P K px ⟨dst, (.convert s d x), ty, pos, aft, gd⟩ st = eff3K (topsOf [st.ev x]) (sameK (aConvert P s d (st.ev x) st.m)) := by
  refine Eq.trans (show opD P K px ⟨dst, (.convert s d x), ty, pos, aft, gd⟩ st = absE P px ⟨dst, (.convert s d x), ty, pos, aft, gd⟩ st from rfl) ?_
  rw [absE_of rfl]
  show eff3K (fpOf ⟨dst, (.convert s d x), ty, pos, aft, gd⟩ st.ev (px * 4096 + dst.getD 4095)) _ = _
  first | rfl | (congr 1; done) | (congr 1; simp [fpOf, isLen, memOp, siteOp, Op.operands, topsOf_flat, topsOf_flat2, topsOf, topsOf_append, List.flatMap_map, Function.comp_def])
@[simp] theorem opD_s2a (dst : Option Tmp) (t : TypeId) (x : Operand) (ty : TypeId) (pos : String) (aft : Array Edge) (gd : Option (Nat × Bool)) (st : St) : opD P K px ⟨dst, (.sliceToArrayPointer t x), ty, pos, aft, gd⟩ st = eff3K [] (sameK (aS2A P t (st.ev x) st.m)) := rfl
@[simp] theorem opD_makeFunc (dst : Option Tmp) (f : Fn) (xs ys : Array Operand) (ty : TypeId) (pos : String) (aft : Array Edge) (gd : Option (Nat × Bool)) (st : St) : opD P K px ⟨dst, (.makeFunc f xs ys), ty, pos, aft, gd⟩ st = eff3K [] (some (.fn f (xs.toList.map st.ev) (ys.toList.map st.ev), none)) := rfl
@[simp] theorem opD_makeSlice (dst : Option Tmp) (t : TypeId) (x y : Operand) (ty : TypeId) (pos : String) (aft : Array Edge) (gd : Option (Nat × Bool)) (st : St) : opD P K px ⟨dst, (.makeSlice t x y), ty, pos, aft, gd⟩ st = eff3K (topsOf [st.ev x, st.ev y] ++ [px * 4096 + dst.getD 4095]) (aMakeSlice P t (st.ev x) (st.ev y) st.m (px * 4096 + dst.getD 4095)) := by
  refine Eq.trans (show opD P K px ⟨dst, (.makeSlice t x y), ty, pos, aft, gd⟩ st = absE P px ⟨dst, (.makeSlice t x y), ty, pos, aft, gd⟩ st from rfl) ?_
  rw [absE_of rfl]
  show eff3K (fpOf ⟨dst, (.makeSlice t x y), ty, pos, aft, gd⟩ st.ev (px * 4096 + dst.getD 4095)) _ = _
  first | rfl | (congr 1; done) | (congr 1; simp [fpOf, isLen, memOp, siteOp, Op.operands, topsOf_flat, topsOf_flat2, topsOf, topsOf_append, List.flatMap_map, Function.comp_def])
@[simp] theorem opD_slice (dst : Option Tmp) (t : TypeId) (x : Operand) (lo hi mx : Option Operand) (ty : TypeId) (pos : String) (aft : Array Edge) (gd : Option (Nat × Bool)) (st : St) : opD P K px ⟨dst, (.slice t x lo hi mx), ty, pos, aft, gd⟩ st = eff3K (topsOf (((#[x] ++ lo.toArray ++ hi.toArray ++ mx.toArray).toList).map st.ev)) (sameK (aSlice P t (st.ev x) (lo.map st.ev) (hi.map st.ev) (mx.map st.ev) st.m)) := by
  refine Eq.trans (show opD P K px ⟨dst, (.slice t x lo hi mx), ty, pos, aft, gd⟩ st = absE P px ⟨dst, (.slice t x lo hi mx), ty, pos, aft, gd⟩ st from rfl) ?_
  rw [absE_of rfl]
  show eff3K (fpOf ⟨dst, (.slice t x lo hi mx), ty, pos, aft, gd⟩ st.ev (px * 4096 + dst.getD 4095)) _ = _
  first | rfl | (congr 1; done) | (congr 1; simp [fpOf, isLen, memOp, siteOp, Op.operands, topsOf_flat, topsOf_flat2, topsOf, topsOf_append, List.flatMap_map, Function.comp_def])
@[simp] theorem opD_fieldAddr (dst : Option Tmp) (s : TypeId) (x : Operand) (f : Nat) (ty : TypeId) (pos : String) (aft : Array Edge) (gd : Option (Nat × Bool)) (st : St) : opD P K px ⟨dst, (.fieldAddr s x f), ty, pos, aft, gd⟩ st = eff3K [] (sameK (aFieldAddr P s f (st.ev x))) := rfl
@[simp] theorem opD_field (dst : Option Tmp) (s : TypeId) (x : Operand) (f : Nat) (ty : TypeId) (pos : String) (aft : Array Edge) (gd : Option (Nat × Bool)) (st : St) : opD P K px ⟨dst, (.field s x f), ty, pos, aft, gd⟩ st = eff3K [] (sameK (aField P s (st.ev x) f)) := rfl
@[simp] theorem opD_indexAddr (dst : Option Tmp) (s : TypeId) (x y : Operand) (ty : TypeId) (pos : String) (aft : Array Edge) (gd : Option (Nat × Bool)) (st : St) : opD P K px ⟨dst, (.indexAddr s x y), ty, pos, aft, gd⟩ st = eff3K [] (sameK (aIndexAddr P s (st.ev x) (st.ev y))) := rfl
@[simp] theorem opD_index (dst : Option Tmp) (s : TypeId) (x y : Operand) (ty : TypeId) (pos : String) (aft : Array Edge) (gd : Option (Nat × Bool)) (st : St) : opD P K px ⟨dst, (.index s x y), ty, pos, aft, gd⟩ st = eff3K [] (sameK (aIndex P s (st.ev x) (st.ev y))) := rfl
@[simp] theorem opD_extract (dst : Option Tmp) (x : Operand) (i : Nat) (ty : TypeId) (pos : String) (aft : Array Edge) (gd : Option (Nat × Bool)) (st : St) : opD P K px ⟨dst, (.extract x i), ty, pos, aft, gd⟩ st = eff3K [] (sameK (aExtract (st.ev x) i)) := rfl
def mpTopsOf : List AV → List Nat
  | [] => []
  | x :: xs => x.mpTop ++ mpTopsOf xs
theorem mpTopsOf_flat (ρ : Operand → AV) : ∀ xs : List Operand, (xs.flatMap fun x => (ρ x).mpTop) = mpTopsOf (xs.map ρ) := by
  intro xs
  induction xs with
  | nil => rfl
  | cons x xs ih => simp only [List.flatMap_cons, List.map_cons, mpTopsOf, ih]
@[simp] theorem opD_len (dst : Option Tmp) (args : Array Operand) (ats : Array TypeId) (ty : TypeId) (pos : String) (aft : Array Edge) (gd : Option (Nat × Bool)) (st : St) :
    opD P K px ⟨dst, .call ⟨.builtin .len, args, ats⟩, ty, pos, aft, gd⟩ st = eff3K (mpTopsOf (args.toList.map st.ev)) (aBuiltin P .len ats.toList (args.toList.map st.ev) st.m (px * 4096 + dst.getD 4095)) := by
  refine Eq.trans (show opD P K px ⟨dst, .call ⟨.builtin .len, args, ats⟩, ty, pos, aft, gd⟩ st = absE P px ⟨dst, .call ⟨.builtin .len, args, ats⟩, ty, pos, aft, gd⟩ st from rfl) ?_
  rw [absE_of rfl]
  show eff3K (fpOf ⟨dst, .call ⟨.builtin .len, args, ats⟩, ty, pos, aft, gd⟩ st.ev (px * 4096 + dst.getD 4095)) _ = _
  congr 1
  simp [fpOf, isLen, Op.operands, Call.operands, mpTopsOf_flat]
@[simp] theorem opD_delete (dst : Option Tmp) (args : Array Operand) (ats : Array TypeId) (ty : TypeId) (pos : String) (aft : Array Edge) (gd : Option (Nat × Bool)) (st : St) :
    opD P K px ⟨dst, .call ⟨.builtin .delete, args, ats⟩, ty, pos, aft, gd⟩ st = eff3K (topsOf (args.toList.map st.ev)) (aBuiltin P .delete ats.toList (args.toList.map st.ev) st.m (px * 4096 + dst.getD 4095)) := by
  refine Eq.trans (show opD P K px ⟨dst, .call ⟨.builtin .delete, args, ats⟩, ty, pos, aft, gd⟩ st = absE P px ⟨dst, .call ⟨.builtin .delete, args, ats⟩, ty, pos, aft, gd⟩ st from rfl) ?_
  rw [absE_of rfl]
  show eff3K (fpOf ⟨dst, .call ⟨.builtin .delete, args, ats⟩, ty, pos, aft, gd⟩ st.ev (px * 4096 + dst.getD 4095)) _ = _
  congr 1
  simp [fpOf, isLen, memOp, siteOp, Op.operands, Call.operands, topsOf_flat]
@[simp] theorem opD_append (dst : Option Tmp) (args : Array Operand) (ats : Array TypeId) (ty : TypeId) (pos : String) (aft : Array Edge) (gd : Option (Nat × Bool)) (st : St) :
    opD P K px ⟨dst, .call ⟨.builtin .append, args, ats⟩, ty, pos, aft, gd⟩ st = eff3K (topsOf (args.toList.map st.ev) ++ [px * 4096 + dst.getD 4095]) (aBuiltin P .append ats.toList (args.toList.map st.ev) st.m (px * 4096 + dst.getD 4095)) := by
  refine Eq.trans (show opD P K px ⟨dst, .call ⟨.builtin .append, args, ats⟩, ty, pos, aft, gd⟩ st = absE P px ⟨dst, .call ⟨.builtin .append, args, ats⟩, ty, pos, aft, gd⟩ st from rfl) ?_
  rw [absE_of rfl]
  show eff3K (fpOf ⟨dst, .call ⟨.builtin .append, args, ats⟩, ty, pos, aft, gd⟩ st.ev (px * 4096 + dst.getD 4095)) _ = _
  congr 1
  simp [fpOf, isLen, memOp, siteOp, Op.operands, Call.operands, topsOf_flat]
@[simp] theorem opD_copy (dst : Option Tmp) (args : Array Operand) (ats : Array TypeId) (ty : TypeId) (pos : String) (aft : Array Edge) (gd : Option (Nat × Bool)) (st : St) :
    opD P K px ⟨dst, .call ⟨.builtin .copy, args, ats⟩, ty, pos, aft, gd⟩ st = eff3K (topsOf (args.toList.map st.ev)) (aBuiltin P .copy ats.toList (args.toList.map st.ev) st.m (px * 4096 + dst.getD 4095)) := by
  refine Eq.trans (show opD P K px ⟨dst, .call ⟨.builtin .copy, args, ats⟩, ty, pos, aft, gd⟩ st = absE P px ⟨dst, .call ⟨.builtin .copy, args, ats⟩, ty, pos, aft, gd⟩ st from rfl) ?_
  rw [absE_of rfl]
  show eff3K (fpOf ⟨dst, .call ⟨.builtin .copy, args, ats⟩, ty, pos, aft, gd⟩ st.ev (px * 4096 + dst.getD 4095)) _ = _
  congr 1
  simp [fpOf, isLen, memOp, siteOp, Op.operands, Call.operands, topsOf_flat]
@[simp] theorem opD_min (dst : Option Tmp) (args : Array Operand) (ats : Array TypeId) (ty : TypeId) (pos : String) (aft : Array Edge) (gd : Option (Nat × Bool)) (st : St) :
    opD P K px ⟨dst, .call ⟨.builtin .min, args, ats⟩, ty, pos, aft, gd⟩ st = eff3K (topsOf (args.toList.map st.ev)) (aBuiltin P .min ats.toList (args.toList.map st.ev) st.m (px * 4096 + dst.getD 4095)) := by
  refine Eq.trans (show opD P K px ⟨dst, .call ⟨.builtin .min, args, ats⟩, ty, pos, aft, gd⟩ st = absE P px ⟨dst, .call ⟨.builtin .min, args, ats⟩, ty, pos, aft, gd⟩ st from rfl) ?_
  rw [absE_of rfl]
  show eff3K (fpOf ⟨dst, .call ⟨.builtin .min, args, ats⟩, ty, pos, aft, gd⟩ st.ev (px * 4096 + dst.getD 4095)) _ = _
  congr 1
  simp [fpOf, isLen, memOp, siteOp, Op.operands, Call.operands, topsOf_flat]
@[simp] theorem opD_max (dst : Option Tmp) (args : Array Operand) (ats : Array TypeId) (ty : TypeId) (pos : String) (aft : Array Edge) (gd : Option (Nat × Bool)) (st : St) :
    opD P K px ⟨dst, .call ⟨.builtin .max, args, ats⟩, ty, pos, aft, gd⟩ st = eff3K (topsOf (args.toList.map st.ev)) (aBuiltin P .max ats.toList (args.toList.map st.ev) st.m (px * 4096 + dst.getD 4095)) := by
  refine Eq.trans (show opD P K px ⟨dst, .call ⟨.builtin .max, args, ats⟩, ty, pos, aft, gd⟩ st = absE P px ⟨dst, .call ⟨.builtin .max, args, ats⟩, ty, pos, aft, gd⟩ st from rfl) ?_
  rw [absE_of rfl]
  show eff3K (fpOf ⟨dst, .call ⟨.builtin .max, args, ats⟩, ty, pos, aft, gd⟩ st.ev (px * 4096 + dst.getD 4095)) _ = _
  congr 1
  simp [fpOf, isLen, memOp, siteOp, Op.operands, Call.operands, topsOf_flat]
@[simp] theorem opD_clear (dst : Option Tmp) (args : Array Operand) (ats : Array TypeId) (ty : TypeId) (pos : String) (aft : Array Edge) (gd : Option (Nat × Bool)) (st : St) :
    opD P K px ⟨dst, .call ⟨.builtin .clear, args, ats⟩, ty, pos, aft, gd⟩ st = eff3K (topsOf (args.toList.map st.ev)) (aBuiltin P .clear ats.toList (args.toList.map st.ev) st.m (px * 4096 + dst.getD 4095)) := by
  refine Eq.trans (show opD P K px ⟨dst, .call ⟨.builtin .clear, args, ats⟩, ty, pos, aft, gd⟩ st = absE P px ⟨dst, .call ⟨.builtin .clear, args, ats⟩, ty, pos, aft, gd⟩ st from rfl) ?_
  rw [absE_of rfl]
  show eff3K (fpOf ⟨dst, .call ⟨.builtin .clear, args, ats⟩, ty, pos, aft, gd⟩ st.ev (px * 4096 + dst.getD 4095)) _ = _
  congr 1
  simp [fpOf, isLen, memOp, siteOp, Op.operands, Call.operands, topsOf_flat]
@[simp] theorem opD_makeMap (dst : Option Tmp) (t : TypeId) (ty : TypeId) (pos : String) (aft : Array Edge) (gd : Option (Nat × Bool)) (st : St) : opD P K px ⟨dst, (.makeMap t none), ty, pos, aft, gd⟩ st = eff3K (topsOf [] ++ [px * 4096 + dst.getD 4095]) (aMakeMap P t none st.m (px * 4096 + dst.getD 4095)) := by
  refine Eq.trans (show opD P K px ⟨dst, (.makeMap t none), ty, pos, aft, gd⟩ st = absE P px ⟨dst, (.makeMap t none), ty, pos, aft, gd⟩ st from rfl) ?_
  rw [absE_of rfl]
  show eff3K (fpOf ⟨dst, (.makeMap t none), ty, pos, aft, gd⟩ st.ev (px * 4096 + dst.getD 4095)) _ = _
  first | rfl | (congr 1; done) | (congr 1; simp [fpOf, isLen, memOp, siteOp, Op.operands, topsOf_flat, topsOf_flat2, topsOf, topsOf_append, List.flatMap_map, Function.comp_def])
@[simp] theorem opD_makeMap2 (dst : Option Tmp) (t : TypeId) (r : Operand) (ty : TypeId) (pos : String) (aft : Array Edge) (gd : Option (Nat × Bool)) (st : St) : opD P K px ⟨dst, (.makeMap t (some r)), ty, pos, aft, gd⟩ st = eff3K (topsOf [st.ev r] ++ [px * 4096 + dst.getD 4095]) (aMakeMap P t (some (st.ev r)) st.m (px * 4096 + dst.getD 4095)) := by
  refine Eq.trans (show opD P K px ⟨dst, (.makeMap t (some r)), ty, pos, aft, gd⟩ st = absE P px ⟨dst, (.makeMap t (some r)), ty, pos, aft, gd⟩ st from rfl) ?_
  rw [absE_of rfl]
  show eff3K (fpOf ⟨dst, (.makeMap t (some r)), ty, pos, aft, gd⟩ st.ev (px * 4096 + dst.getD 4095)) _ = _
  first | rfl | (congr 1; done) | (congr 1; simp [fpOf, isLen, memOp, siteOp, Op.operands, topsOf_flat, topsOf_flat2, topsOf, topsOf_append, List.flatMap_map, Function.comp_def])
@[simp] theorem opD_lookup (dst : Option Tmp) (t : TypeId) (x i : Operand) (ok : Bool) (ty : TypeId) (pos : String) (aft : Array Edge) (gd : Option (Nat × Bool)) (st : St) : opD P K px ⟨dst, (.lookup t x i ok), ty, pos, aft, gd⟩ st = eff3K (topsOf [st.ev x, st.ev i]) (sameK (aLookup P t (st.ev x) (st.ev i) ok st.m)) := by
  refine Eq.trans (show opD P K px ⟨dst, (.lookup t x i ok), ty, pos, aft, gd⟩ st = absE P px ⟨dst, (.lookup t x i ok), ty, pos, aft, gd⟩ st from rfl) ?_
  rw [absE_of rfl]
  show eff3K (fpOf ⟨dst, (.lookup t x i ok), ty, pos, aft, gd⟩ st.ev (px * 4096 + dst.getD 4095)) _ = _
  first | rfl | (congr 1; done) | (congr 1; simp [fpOf, isLen, memOp, siteOp, Op.operands, topsOf_flat, topsOf_flat2, topsOf, topsOf_append, List.flatMap_map, Function.comp_def])
@[simp] theorem opD_mapUpdate (dst : Option Tmp) (t : TypeId) (x i y : Operand) (ty : TypeId) (pos : String) (aft : Array Edge) (gd : Option (Nat × Bool)) (st : St) : opD P K px ⟨dst, (.mapUpdate t x i y), ty, pos, aft, gd⟩ st = eff3K (topsOf [st.ev x, st.ev i, st.ev y]) (aMapUpdate P t (st.ev x) (st.ev i) (st.ev y) st.m) := by
  refine Eq.trans (show opD P K px ⟨dst, (.mapUpdate t x i y), ty, pos, aft, gd⟩ st = absE P px ⟨dst, (.mapUpdate t x i y), ty, pos, aft, gd⟩ st from rfl) ?_
  rw [absE_of rfl]
  show eff3K (fpOf ⟨dst, (.mapUpdate t x i y), ty, pos, aft, gd⟩ st.ev (px * 4096 + dst.getD 4095)) _ = _
  first | rfl | (congr 1; done) | (congr 1; simp [fpOf, isLen, memOp, siteOp, Op.operands, topsOf_flat, topsOf_flat2, topsOf, topsOf_append, List.flatMap_map, Function.comp_def])
@[simp] theorem opD_insert (dst : Option Tmp) (t : TypeId) (x i y : Operand) (ty : TypeId) (pos : String) (aft : Array Edge) (gd : Option (Nat × Bool)) (st : St) : opD P K px ⟨dst, (.insert t x i y), ty, pos, aft, gd⟩ st = eff3K (topsOf [st.ev x, st.ev i, st.ev y]) (aMapUpdate P t (st.ev x) (st.ev i) (st.ev y) st.m) := by
  refine Eq.trans (show opD P K px ⟨dst, (.insert t x i y), ty, pos, aft, gd⟩ st = absE P px ⟨dst, (.insert t x i y), ty, pos, aft, gd⟩ st from rfl) ?_
  rw [absE_of rfl]
  show eff3K (fpOf ⟨dst, (.insert t x i y), ty, pos, aft, gd⟩ st.ev (px * 4096 + dst.getD 4095)) _ = _
  first | rfl | (congr 1; done) | (congr 1; simp [fpOf, isLen, memOp, siteOp, Op.operands, topsOf_flat, topsOf_flat2, topsOf, topsOf_append, List.flatMap_map, Function.comp_def])
@[simp] theorem opD_range (dst : Option Tmp) (t : TypeId) (x : Operand) (ty : TypeId) (pos : String) (aft : Array Edge) (gd : Option (Nat × Bool)) (st : St) : opD P K px ⟨dst, (.range t x), ty, pos, aft, gd⟩ st = eff3K (topsOf [st.ev x] ++ [px * 4096 + dst.getD 4095]) (aRange P t (st.ev x) st.m (px * 4096 + dst.getD 4095)) := by
  refine Eq.trans (show opD P K px ⟨dst, (.range t x), ty, pos, aft, gd⟩ st = absE P px ⟨dst, (.range t x), ty, pos, aft, gd⟩ st from rfl) ?_
  rw [absE_of rfl]
  show eff3K (fpOf ⟨dst, (.range t x), ty, pos, aft, gd⟩ st.ev (px * 4096 + dst.getD 4095)) _ = _
  first | rfl | (congr 1; done) | (congr 1; simp [fpOf, isLen, memOp, siteOp, Op.operands, topsOf_flat, topsOf_flat2, topsOf, topsOf_append, List.flatMap_map, Function.comp_def])
def callDK (K : FuncId → Option Con) (m : Mem) (site : Nat) (fa : Option (FuncId × List AV)) : Option Eff3 := fa.bind fun fa => (K fa.1).bind fun F => conE F m site fa.2
@[simp] theorem callDK_some (m : Mem) (site : Nat) (f : FuncId) (as : List AV) : callDK K m site (some (f, as)) = (K f).bind fun F => conE F m site as := rfl
@[simp] theorem opD_call (dst : Option Tmp) (f : Operand) (args : Array Operand) (ats : Array TypeId) (ty : TypeId) (pos : String) (aft : Array Edge) (gd : Option (Nat × Bool)) (st : St) :
    opD P K px ⟨dst, .call ⟨.value f, args, ats⟩, ty, pos, aft, gd⟩ st = callDK K st.m (px * 4096 + dst.getD 4095 + 1) (tgK (st.ev f) (args.toList.map st.ev)) := by
  unfold opD target tgK callDK
  simp only [isVal, if_true]
  generalize st.ev f = y
  cases y <;> first | rfl | (rename_i g _ _; cases g <;> rfl)

/-- A call's result. -/
def retK (P : Program) (rs : List ResultVar) (r : Option (Ex × St)) : Option (AV × Mem) := r.bind fun r => match r.1 with
  | .normal | .ret => (resOf P r.2 rs).map fun x => (x, r.2.m)
  | _ => none
def outK (m : Mem) (x : Option AV) : Option (AV × Mem) := x.map fun x => (x, m)
@[simp] theorem outK_some (m : Mem) (x : AV) : outK m (some x) = some (x, m) := rfl
@[simp] theorem retK_normal (rs : List ResultVar) (st : St) : retK P rs (some (.normal, st)) = outK st.m (resOf P st rs) := rfl
@[simp] theorem retK_ret (rs : List ResultVar) (st : St) : retK P rs (some (.ret, st)) = outK st.m (resOf P st rs) := rfl
@[simp] theorem retK_none (rs : List ResultVar) : retK P rs none = none := rfl
@[simp] theorem retK_ite (rs : List ResultVar) (c : Prop) [Decidable c] (x y : Option (Ex × St)) : retK P rs (if c then x else y) = if c then retK P rs x else retK P rs y := by split <;> rfl
/-- A function by its own text. -/
theorem pvCall_own {D : FuncId → Nat → List Nat} {d : Nat} {f : FuncId} {fn : Func} {body : Code} {n : Nat} {rs : List ResultVar} (hK : K f = none) (hf : P.funcs[f]? = some fn) (hb : fn.body = some body) (hn : (fn.name == "runtime.NumGoroutine") = false) (ht : fn.ntmps = n) (hr : fn.results.toList = rs) {args : List AV} {m : Mem} (hl : args.length ≤ n) :
    pvCall P K D L (d + 1) px f args m = retK P rs (evalC P K (pvCall P K D L d) (D f) n px L body ⟨fun i => args.getD i (.v undef), m⟩) := by
  subst ht hr
  simp only [pvCall, hK, hf, hb, hl, hn, and_self, if_true]
  rfl
theorem pvCall_by {D : FuncId → Nat → List Nat} {d : Nat} {f : FuncId} {F : Fun} (hK : K f = some (.pure F)) {args : List AV} {m : Mem} : pvCall P K D L d px f args m = callBy F m px args := by
  cases d <;> simp [pvCall, callK, hK, conBy_pure]
def appK (m : Mem) (r : Option (AV × List (Nat × Blk) × List Nat)) : Option (AV × Mem) := r.map fun e => (e.1, applyU m e.2.1)
@[simp] theorem appK_some (m : Mem) (x : AV) (us : List (Nat × Blk)) (F : List Nat) : appK m (some (x, us, F)) = some (x, applyU m us) := rfl
@[simp] theorem appK_none (m : Mem) : appK m none = none := rfl
theorem pvCall_obj {D : FuncId → Nat → List Nat} {d : Nat} {f : FuncId} {F : ObjF} (hK : K f = some (.obj F)) {args : List AV} {m : Mem} : pvCall P K D L d px f args m = appK m (objE F m px args) := by
  cases d <;> simp only [pvCall, callK, hK, Option.bind_some] <;> rfl
theorem pvCall_app {D : FuncId → Nat → List Nat} {d : Nat} {f : FuncId} {e : TypeId} {G : App} (hK : K f = some (.app e G)) {args : List AV} {m : Mem} : pvCall P K D L d px f args m = appK m (appE e G m px args) := by
  cases d <;> simp only [pvCall, callK, hK, Option.bind_some] <;> rfl
@[simp] theorem conE_pure (F : Fun) (m : Mem) (site : Nat) (args : List AV) : conE (.pure F) m site args = callE F m site args := rfl
@[simp] theorem conE_app (e : TypeId) (G : App) (m : Mem) (site : Nat) (args : List AV) : conE (.app e G) m site args = appE e G m site args := rfl
@[simp] theorem conE_obj (F : ObjF) (m : Mem) (site : Nat) (args : List AV) : conE (.obj F) m site args = objE F m site args := rfl
theorem keyB_agg (l : List KT) (cs : Array Value) : keyB (some (true, l)) (.agg cs) = ktAll l cs.toList := rfl
theorem keyB_int (l : List KT) (k : IntKind) (x : Int) : keyB (some (false, l)) (.int k x) = ktAll l [.int k x] := rfl
theorem keyB_bool (l : List KT) (x : Bool) : keyB (some (false, l)) (.bool x) = ktAll l [.bool x] := rfl
theorem keyB_str (l : List KT) (x : ByteArray) : keyB (some (false, l)) (.string x) = ktAll l [.string x] := rfl
attribute [simp] keyB_agg keyB_int keyB_bool keyB_str ktAll ktOk
/-- What an appending function leaves. -/
def outApp (e : TypeId) (r : AV × Mem) : Option (List Int) := match r.1 with
  | .own n ver off len sz (.whole e') => if n = 0 ∧ off = 0 ∧ sz = 1 ∧ e' = e then (r.2 0).bind fun k => if k.ver = ver then (asB8 k.cells).bind fun W => if W.length = len then some W else none else none else none
  | _ => none


attribute [simp] mpTopsOf AV.mpTop mapEnts aMapLen aMakeMap aLookup aMapUpdate aDelete aRange itrOf aNext aEntry entK lkK keyV mGet mPut mClk mDel mAt stampOf
attribute [simp] topsOf AV.top upd_at ofV St.ev aPick aAlloc aNew aBuild aBuildSlice aLoad aStore aNilCheck aBin aEq aUn aConvert aS2A aMakeSlice aSlice aFieldAddr aField aIndexAddr aIndex aExtract aBuiltin aCap aLen aApp aAppZ aAppendFull aAppendAt aClear aAppend aCopy ptrCells slCells slLen ptrAdd aPart natOf lowRoom verNext appBase zeros aFill placesOf
  AV.cells AV.one intBin nilOf nkA nkV resOf resVals resVal valsOf pairOk leafOk
theorem B8_length (zs : List Int) : (B8 zs).length = zs.length := by simp [B8]
theorem B8_drop (zs : List Int) (k : Nat) : (B8 zs).drop k = B8 (zs.drop k) := by simp [B8]
theorem B8_take (zs : List Int) (k : Nat) : (B8 zs).take k = B8 (zs.take k) := by simp [B8]
theorem B8_append (xs ys : List Int) : B8 xs ++ B8 ys = B8 (xs ++ ys) := by simp [B8]
theorem B8_get (zs : List Int) (k : Nat) (h : k < zs.length) : (B8 zs)[k]? = some (.v (.int .u8 (zs.getD k 0))) := by
  simp [B8, List.getElem?_eq_getElem h]
theorem B8_get0 (zs : List Int) (k : Nat) (h : k < zs.length) : (B8 (zs.drop k))[0]? = some (.v (.int .u8 (zs.getD k 0))) := by
  rw [← B8_drop, List.getElem?_drop, Nat.add_zero, B8_get _ _ h]
theorem B8_one (zs : List Int) : allOne (B8 zs) = true := by simp [allOne, B8, AV.one]
theorem allOne_nil : allOne [] = true := rfl
theorem allOne_cons (x : AV) (xs : List AV) : allOne (x :: xs) = (x.one && allOne xs) := rfl
theorem allOne_append (xs ys : List AV) : allOne (xs ++ ys) = (allOne xs && allOne ys) := by simp [allOne]
theorem B8_shut (zs : List Int) : shutL (B8 zs) = true := by
  induction zs with
  | nil => rfl
  | cons z zs ih => show (AV.shut _ && shutL (B8 zs)) = true; rw [ih]; rfl
attribute [simp] allOne_nil allOne_cons allOne_append B8_length B8_drop B8_take B8_append B8_one B8_shut asB8_B8
end
end Go.Pm
