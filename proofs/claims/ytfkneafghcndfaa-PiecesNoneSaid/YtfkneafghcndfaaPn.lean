/- A machine of values: what an operation looks at. -/
import Derived.Test.YtfkneafghcndfaaPy
namespace Go.Pm
open Go.RowKit
set_option linter.unusedVariables false
set_option linter.unusedSimpArgs false

theorem map_congr_on {α β : Type} {f g : α → β} {l : List α} (h : ∀ x ∈ l, f x = g x) : l.map f = l.map g := List.map_congr_left h

set_option maxHeartbeats 1000000 in
theorem absOp_congr {P : Program} {o : Oper} {ρ ρ2 : Operand → AV} {m : Mem} {site : Nat} (h : ∀ x ∈ o.op.operands, ρ x = ρ2 x) : absOp P o ρ m site = absOp P o ρ2 m site := by
  obtain ⟨dst, op, ty, pos, aft, grd⟩ := o
  unfold absOp
  cases op with
  | build t ps =>
    have e : (ps.toList.map fun p => (p.1, ρ p.2)) = ps.toList.map fun p => (p.1, ρ2 p.2) := map_congr_on fun p hp => by rw [h p.2 (by simp [Op.operands]; exact ⟨p.1, by simpa using hp⟩)]
    simp only [e]
  | buildSlice t n ps =>
    have e : (ps.toList.map fun p => (p.1, ρ p.2)) = ps.toList.map fun p => (p.1, ρ2 p.2) := map_congr_on fun p hp => by rw [h p.2 (by simp [Op.operands]; exact ⟨p.1, by simpa using hp⟩)]
    simp only [e]
  | makeFunc f first caps =>
    have e1 : first.toList.map ρ = first.toList.map ρ2 := map_congr_on fun x hx => h x (by simp [Op.operands]; exact .inl (by simpa using hx))
    have e2 : caps.toList.map ρ = caps.toList.map ρ2 := map_congr_on fun x hx => h x (by simp [Op.operands]; exact .inr (by simpa using hx))
    simp only [e1, e2]
  | slice t x lo hi mx =>
    have key : ∀ q : Option Operand, (∀ y, q = some y → ρ y = ρ2 y) → q.map ρ = q.map ρ2 := fun q hq => by cases q with | none => rfl | some y => simp [hq y rfl]
    simp only [Op.operands] at h ⊢
    rw [h x (by simp), key lo (fun y e => h y (by subst e; simp)), key hi (fun y e => h y (by subst e; simp)), key mx (fun y e => h y (by subst e; simp))]
  | call q =>
    have e : q.args.toList.map ρ = q.args.toList.map ρ2 := map_congr_on fun x hx => h x (by simp only [Op.operands, Call.operands, Array.mem_append]; exact .inr (by simpa using hx))
    simp only [e]
  | move x => simp only [Op.operands] at h ⊢; rw [h x (by simp)]
  | assign x => simp only [Op.operands] at h ⊢; rw [h x (by simp)]
  | pick a b d => simp only [Op.operands] at h ⊢; rw [h a (by simp), h b (by simp), h d (by simp)]
  | box t x => simp only [Op.operands] at h ⊢; rw [h x (by simp)]
  | load t x => simp only [Op.operands] at h ⊢; rw [h x (by simp)]
  | store t x y => simp only [Op.operands] at h ⊢; rw [h x (by simp), h y (by simp)]
  | nilCheck x => simp only [Op.operands] at h ⊢; rw [h x (by simp)]
  | binOp b t x y u => simp only [Op.operands] at h ⊢; rw [h x (by simp), h y (by simp)]
  | unOp u t x => simp only [Op.operands] at h ⊢; rw [h x (by simp)]
  | convert s d x => simp only [Op.operands] at h ⊢; rw [h x (by simp)]
  | sliceToArrayPointer t x => simp only [Op.operands] at h ⊢; rw [h x (by simp)]
  | makeSlice t x y => simp only [Op.operands] at h ⊢; rw [h x (by simp), h y (by simp)]
  | fieldAddr s x f => simp only [Op.operands] at h ⊢; rw [h x (by simp)]
  | field s x f => simp only [Op.operands] at h ⊢; rw [h x (by simp)]
  | indexAddr s x y => simp only [Op.operands] at h ⊢; rw [h x (by simp), h y (by simp)]
  | index s x y => simp only [Op.operands] at h ⊢; rw [h x (by simp), h y (by simp)]
  | extract x i => simp only [Op.operands] at h ⊢; rw [h x (by simp)]
  | makeMap t r =>
    have e : r.map ρ = r.map ρ2 := by cases r with | none => rfl | some y => simp [h y (by simp [Op.operands])]
    simp only [e]
  | lookup t x i ok => simp only [Op.operands] at h ⊢; rw [h x (by simp), h i (by simp)]
  | range t x => simp only [Op.operands] at h ⊢; rw [h x (by simp)]
  | next x s => simp only [Op.operands] at h ⊢; rw [h x (by simp)]
  | entry x => simp only [Op.operands] at h ⊢; rw [h x (by simp)]
  | mapUpdate t x i y => simp only [Op.operands] at h ⊢; rw [h x (by simp), h i (by simp), h y (by simp)]
  | insert t x i y => simp only [Op.operands] at h ⊢; rw [h x (by simp), h i (by simp), h y (by simp)]
  | _ => rfl

def walkOp : Op → Bool
  | .next _ _ | .entry _ => true
  | _ => false
/-- The name that a value itself is of. -/
def AV.top : AV → List Nat
  | .own n _ _ _ _ _ => [n]
  | .ptr n _ _ => [n]
  | .mp n _ => [n]
  | .ip n _ => [n]
  | _ => []
def AV.mpTop : AV → List Nat
  | .mp n _ => [n]
  | _ => []
theorem top_names {x : AV} {n : Nat} (h : n ∈ x.top) : n ∈ x.names := by cases x <;> simp [AV.top] at h <;> simp [AV.names, h]
/-- Operations that look at memory; those that take their place's name. -/
def memOp : Op → Bool
  | .alloc _ | .box _ _ | .buildSlice _ _ _ | .makeSlice _ _ _ | .load _ _ | .store _ _ _ | .convert _ _ _ | .slice _ _ _ _ _ | .makeMap _ _ | .lookup _ _ _ _ | .mapUpdate _ _ _ _ | .insert _ _ _ _ | .range _ _ => true
  | .call q => match q.callee with | .builtin .len => false | _ => true
  | _ => false
def siteOp : Op → Bool
  | .alloc _ | .box _ _ | .buildSlice _ _ _ | .makeSlice _ _ _ | .makeMap _ _ | .range _ _ => true
  | .call q => match q.callee with | .builtin .append => true | _ => false
  | _ => false

theorem verNext_congr {m m2 : Mem} {n : Nat} (h : m n = m2 n) : verNext m n = verNext m2 n := by simp [verNext, h]
theorem ptrCells_congr {m m2 : Mem} {x : AV} (h : ∀ n ∈ x.top, m n = m2 n) : ptrCells m x = ptrCells m2 x := by
  cases x with
  | ptr n ver off => simp only [ptrCells]; rw [h n (by simp [AV.top])]
  | _ => rfl
theorem slCells_congr {m m2 : Mem} {x : AV} (h : ∀ n ∈ x.top, m n = m2 n) : slCells m x = slCells m2 x := by
  cases x with
  | own n ver off len sz r => simp only [slCells]; rw [h n (by simp [AV.top])]
  | v x => cases x <;> rfl
  | _ => rfl
theorem aLoad_congr {P : Program} {T : TypeId} {x : AV} {m m2 : Mem} (h : ∀ n ∈ x.top, m n = m2 n) : aLoad P T x m = aLoad P T x m2 := by unfold aLoad; rw [ptrCells_congr h]
theorem aStore_congr {P : Program} {T : TypeId} {x y : AV} {m m2 : Mem} (h : ∀ n ∈ x.top, m n = m2 n) : aStore P T x y m = aStore P T x y m2 := by
  cases x with
  | ptr n ver off => simp only [aStore]; rw [h n (by simp [AV.top])]
  | _ => rfl
theorem aConvert_congr {P : Program} {s d : TypeId} {x : AV} {m m2 : Mem} (h : ∀ n ∈ x.top, m n = m2 n) : aConvert P s d x m = aConvert P s d x m2 := by
  unfold aConvert
  split
  · rfl
  · split
    · split
      · rfl
      · rw [slCells_congr h]
    · rfl
theorem aSlice_congr {P : Program} {t : TypeId} {x : AV} {lo hi mx : Option AV} {m m2 : Mem} (h : ∀ n ∈ x.top, m n = m2 n) : aSlice P t x lo hi mx m = aSlice P t x lo hi mx m2 := by
  unfold aSlice
  cases x with
  | ptr n ver off => simp only; rw [h n (by simp [AV.top])]
  | v y => cases y <;> first | rfl | (rename_i a b e; cases a <;> cases b <;> cases e <;> rfl)
  | _ => rfl
theorem appBase_congr {m m2 : Mem} {site e z : Nat} {x : AV} (h : ∀ n ∈ x.top, m n = m2 n) : appBase m site e z x = appBase m2 site e z x := by
  cases x with
  | own n ver off len sz r => cases r with
    | whole e' => simp only [appBase]; rw [h n (by simp [AV.top])]
    | _ => rfl
  | v x => cases x <;> rfl
  | _ => rfl
theorem appBase_name {m : Mem} {site e z : Nat} {x : AV} {b : Nat × List AV × Nat} (h : appBase m site e z x = some b) : b.1 ∈ x.top ∨ b.1 = site := by
  cases x with
  | own n ver off len sz r => cases r with
    | whole e' =>
      simp only [appBase] at h
      split at h
      · split at h
        · cases h; exact .inl (by simp [AV.top])
        · cases h
      · cases h
    | _ => simp [appBase] at h
  | v x => cases x with
    | slice a n q =>
      simp only [appBase] at h
      split at h
      · cases h; exact .inr rfl
      · cases h
    | _ => simp [appBase] at h
  | _ => simp [appBase] at h
theorem aAppend_congr {P : Program} {t t2 : TypeId} {s x : AV} {m m2 : Mem} {site : Nat} (h : ∀ n ∈ s.top, m n = m2 n) (hx : ∀ n ∈ x.top, m n = m2 n) (hs : m site = m2 site) : aAppend P t t2 s x m site = aAppend P t t2 s x m2 site := by
  unfold aAppend
  rw [slCells_congr hx]
  congr 1; funext e
  congr 1; funext z
  congr 1; funext zl
  congr 1; funext by_
  congr 1; funext ys
  rw [appBase_congr h]
  cases hb : appBase m2 site e z s with
  | none => rfl
  | some b =>
    have : m b.1 = m2 b.1 := by
      rcases appBase_name hb with hn | hn
      · exact h _ hn
      · rw [hn]; exact hs
    simp only [Option.bind_some, verNext_congr this]
theorem aCopy_congr {P : Program} {t : TypeId} {d x : AV} {m m2 : Mem} (h : ∀ n ∈ d.top, m n = m2 n) (hx : ∀ n ∈ x.top, m n = m2 n) : aCopy P t d x m = aCopy P t d x m2 := by
  unfold aCopy
  rw [slCells_congr hx]
  cases d with
  | own n ver off len sz r => simp only; rw [h n (by simp [AV.top])]
  | _ => rfl
theorem aApp_congr {P : Program} {t t2 : TypeId} {s x : AV} {m m2 : Mem} {site : Nat} (h : ∀ n ∈ s.top, m n = m2 n) (hx : ∀ n ∈ x.top, m n = m2 n) (hs : m site = m2 site) : aApp P t t2 s x m site = aApp P t t2 s x m2 site := by
  cases s with
  | own n ver off len sz r => cases r with
    | known q =>
      simp only [aApp, aAppendFull, aAppendAt]
      rw [slCells_congr hx, h n (by simp [AV.top]), verNext_congr (h n (by simp [AV.top])), verNext_congr hs]
    | whole e => exact aAppend_congr h hx hs
    | unk => rfl
  | v y =>
    by_cases e : y = .slice none 0 0
    · subst e
      cases x with
      | v xv =>
        cases xv with
        | int k i => simp only [aApp, aAppZ]; rw [verNext_congr hs]
        | _ => exact aAppend_congr h hx hs
      | _ => exact aAppend_congr h hx hs
    · have : ∀ M, aApp P t t2 (.v y) x M site = aAppend P t t2 (.v y) x M site := fun M => by
        unfold aApp
        split <;> simp_all
      rw [this, this]
      exact aAppend_congr h hx hs
  | _ => rfl
theorem aClear_congr {P : Program} {t : TypeId} {d : AV} {m m2 : Mem} (h : ∀ n ∈ d.top, m n = m2 n) : aClear P t d m = aClear P t d m2 := by
  unfold aClear
  cases d with
  | own n ver off len sz r => simp only; rw [h n (by simp [AV.top])]
  | _ => rfl
theorem mapEnts_congr {m m2 : Mem} {x : AV} (h : ∀ n ∈ x.top, m n = m2 n) : mapEnts m x = mapEnts m2 x := by
  cases x with
  | mp n ver => simp only [mapEnts]; rw [h n (by simp [AV.top])]
  | _ => rfl
theorem aLookup_congr {P : Program} {t : TypeId} {x i : AV} {ok : Bool} {m m2 : Mem} (h : ∀ n ∈ x.top, m n = m2 n) : aLookup P t x i ok m = aLookup P t x i ok m2 := by
  unfold aLookup
  cases x with
  | mp n ver => simp only [mapEnts_congr h]
  | v y => cases y <;> first | rfl | (rename_i a; cases a <;> rfl)
  | _ => rfl
theorem aMapUpdate_congr {P : Program} {t : TypeId} {x i y : AV} {m m2 : Mem} (h : ∀ n ∈ x.top, m n = m2 n) : aMapUpdate P t x i y m = aMapUpdate P t x i y m2 := by
  unfold aMapUpdate
  rw [mapEnts_congr h]
theorem aDelete_congr {P : Program} {t : TypeId} {x i : AV} {m m2 : Mem} (h : ∀ n ∈ x.top, m n = m2 n) : aDelete P t x i m = aDelete P t x i m2 := by
  unfold aDelete
  rw [mapEnts_congr h]
theorem aMapLen_congr {P : Program} {t : TypeId} {x : AV} {m m2 : Mem} (h : ∀ n ∈ x.top, m n = m2 n) : aMapLen P t x m = aMapLen P t x m2 := by
  unfold aMapLen
  rw [mapEnts_congr h]
theorem aMakeMap_congr {P : Program} {t : TypeId} {r : Option AV} {m m2 : Mem} {n : Nat} (h : m n = m2 n) : aMakeMap P t r m n = aMakeMap P t r m2 n := by
  unfold aMakeMap
  rw [verNext_congr h]
theorem aRange_congr {P : Program} {t : TypeId} {x : AV} {m m2 : Mem} {n : Nat} (hx : ∀ n ∈ x.top, m n = m2 n) (h : m n = m2 n) : aRange P t x m n = aRange P t x m2 n := by
  unfold aRange
  rw [verNext_congr h]
  cases x with
  | mp n ver => simp only [mapEnts_congr hx]
  | v y => cases y <;> first | rfl | (rename_i a; cases a <;> rfl)
  | _ => rfl

theorem aBuiltin_congr {P : Program} {b : Builtin} {ts : List TypeId} {xs : List AV} {m m2 : Mem} {site : Nat} (h : b ≠ .len → ∀ x ∈ xs, ∀ n ∈ x.top, m n = m2 n) (hs : b = .append → m site = m2 site) (hl : b = .len → ∀ x ∈ xs, ∀ n ∈ x.mpTop, m n = m2 n) : aBuiltin P b ts xs m site = aBuiltin P b ts xs m2 site := by
  unfold aBuiltin
  split
  · rename_i t n v
    rw [aMapLen_congr (x := .mp n v) fun q hq => hl rfl (.mp n v) (by simp) q hq]
  · rfl
  · exact aDelete_congr (h (by intro e; cases e) _ (by simp))
  · rfl
  · exact aApp_congr (h (by intro e; cases e) _ (by simp)) (h (by intro e; cases e) _ (by simp)) (hs rfl)
  · exact aCopy_congr (h (by intro e; cases e) _ (by simp)) (h (by intro e; cases e) _ (by simp))
  · exact aClear_congr (h (by intro e; cases e) _ (by simp))
  · rfl
  · rfl
  · rfl

/-- The names that an operation's operands hold, and its place's. -/
def isLen : Op → Bool
  | .call q => match q.callee with | .builtin .len => true | _ => false
  | _ => false
def fpOf (o : Oper) (ρ : Operand → AV) (site : Nat) : List Nat := if isLen o.op = true then o.op.operands.toList.flatMap (fun x => (ρ x).mpTop) else if memOp o.op = true then (o.op.operands.toList.flatMap fun x => (ρ x).top) ++ (if siteOp o.op = true then [site] else []) else []

set_option maxHeartbeats 1000000 in
theorem absOp_local {P : Program} {o : Oper} {ρ : Operand → AV} {m m2 : Mem} {site : Nat} (hwk : walkOp o.op = false) (h : ∀ n ∈ fpOf o ρ site, m n = m2 n) : absOp P o ρ m site = absOp P o ρ m2 site := by
  obtain ⟨dst, op, ty, pos, aft, grd⟩ := o
  unfold absOp
  unfold fpOf at h
  simp only at h hwk
  cases op with
  | alloc t => simp only [aAlloc]; rw [show aNew m site = aNew m2 site from by funext xs; simp only [aNew]; rw [verNext_congr (h site (by simp [isLen, memOp, siteOp]))]]
  | box t x => simp only [aNew]; rw [verNext_congr (h site (by simp [isLen, memOp, siteOp]))]
  | buildSlice t n ps => simp only [aBuildSlice]; rw [verNext_congr (h site (by simp [isLen, memOp, siteOp]))]
  | makeSlice t l q =>
    simp only [aMakeSlice]
    rw [verNext_congr (h site (by simp [isLen, memOp, siteOp]))]
  | load t x => simp only; rw [aLoad_congr fun n hn => h n (by simp [isLen, memOp, siteOp, Op.operands, hn])]
  | store t x y => simp only; exact aStore_congr fun n hn => h n (by simp [isLen, memOp, siteOp, Op.operands, hn])
  | convert s d x => simp only; rw [aConvert_congr fun n hn => h n (by simp [isLen, memOp, siteOp, Op.operands, hn])]
  | slice t x lo hi mx => simp only; rw [aSlice_congr fun n hn => h n (by simp [isLen, memOp, siteOp, Op.operands, hn])]
  | makeMap t r => simp only; exact aMakeMap_congr (h site (by simp [isLen, memOp, siteOp]))
  | lookup t x i ok => simp only; rw [aLookup_congr fun n hn => h n (by simp [isLen, memOp, siteOp, Op.operands, hn])]
  | mapUpdate t x i y => simp only; exact aMapUpdate_congr fun n hn => h n (by simp [isLen, memOp, siteOp, Op.operands, hn])
  | insert t x i y => simp only; exact aMapUpdate_congr fun n hn => h n (by simp [isLen, memOp, siteOp, Op.operands, hn])
  | range t x => simp only; exact aRange_congr (fun n hn => h n (by simp [isLen, memOp, siteOp, Op.operands, hn])) (h site (by simp [isLen, memOp, siteOp]))
  | next x s => cases hwk
  | entry x => cases hwk
  | call q =>
    simp only
    cases hq : q.callee with
    | builtin b =>
      simp only
      refine aBuiltin_congr (fun hb x hx n hn => ?_) (fun hb => h site ?_) (fun hb x hx n hn => ?_)
      · obtain ⟨y, hy, rfl⟩ := List.mem_map.1 hx
        refine h n ?_
        have hm : memOp (.call q) = true := by simp only [memOp, hq]; cases b <;> first | rfl | exact absurd rfl hb
        have hl : isLen (.call q) = false := by simp only [isLen, hq]; cases b <;> first | rfl | exact absurd rfl hb
        rw [hl, if_neg (by simp), if_pos hm]
        refine List.mem_append_left _ ?_
        simp only [List.mem_flatMap]
        refine ⟨y, ?_, hn⟩
        simp only [Op.operands, Call.operands, hq, Array.toList_append, List.mem_append]
        exact .inr hy
      · subst hb
        have hm : memOp (.call q) = true := by simp only [memOp, hq]
        have hl : isLen (.call q) = false := by simp only [isLen, hq]
        have hs : siteOp (.call q) = true := by simp only [siteOp, hq]
        simp [hl, hm, hs]
      · subst hb
        obtain ⟨y, hy, rfl⟩ := List.mem_map.1 hx
        have hl : isLen (.call q) = true := by simp only [isLen, hq]
        refine h n ?_
        rw [hl, if_pos rfl]
        simp only [List.mem_flatMap]
        refine ⟨y, ?_, hn⟩
        simp only [Op.operands, Call.operands, hq, Array.toList_append, List.mem_append]
        exact .inr hy
    | _ => rfl
  | _ => rfl

/-- What an operation leaves: its value, the blocks that turn, the names it looked at. -/
def applyU (m : Mem) : List (Nat × Blk) → Mem
  | [] => m
  | (n, k) :: us => upd (applyU m us) n (some k)
theorem applyU_memOf (m : Mem) (e : Option (Nat × Blk)) : applyU m e.toList = memOf m e := by cases e <;> rfl
def upsOf (m : Mem) (site : Nat) : Nat → List (List AV) → List (Nat × Blk)
  | _, [] => []
  | j, b :: bs => (site * 16 + j, ⟨verNext m (site * 16 + j), b⟩) :: upsOf m site (j + 1) bs
theorem applyU_place (m : Mem) (site : Nat) : ∀ (bs : List (List AV)) (j : Nat), applyU m (upsOf m site j bs) = place m site j bs := by
  intro bs
  induction bs with
  | nil => intro j; rfl
  | cons b bs ih => intro j; simp only [upsOf, applyU, place, ih]
theorem applyU_at (m m2 : Mem) : ∀ (us : List (Nat × Blk)) (n : Nat), applyU m2 us n = if n ∈ us.map (·.1) then applyU m us n else m2 n := by
  intro us
  induction us with
  | nil => intro n; simp [applyU]
  | cons u us ih =>
    intro n
    obtain ⟨q, k⟩ := u
    simp only [applyU, upd_at, List.map_cons, List.mem_cons]
    by_cases h : n = q
    · simp [h]
    · simp only [h, if_false, false_or]; exact ih n

def callE (F : Fun) (m : Mem) (site : Nat) (args : List AV) : Option (AV × List (Nat × Blk) × List Nat) :=
  (closeArgs m args).bind fun as => (F as).bind fun rb =>
    (rb.1.ren (siteRen m site rb.2.length)).bind fun r => (renBlks (siteRen m site rb.2.length) rb.2).map fun bs => (r, upsOf m site 0 bs, namesL args)
theorem upsOf_names (m : Mem) (site : Nat) : ∀ (bs : List (List AV)) (j q : Nat), q < bs.length → site * 16 + (j + q) ∈ (upsOf m site j bs).map (·.1) := by
  intro bs
  induction bs with
  | nil => intro j q h; simp at h
  | cons b bs ih =>
    intro j q h
    simp only [upsOf, List.map_cons, List.mem_cons]
    cases q with
    | zero => exact .inl rfl
    | succ q => refine .inr ?_; have := ih (j + 1) q (by simpa using h); rwa [show j + 1 + q = j + (q + 1) by omega] at this
theorem upsOf_congr {m m2 : Mem} (site : Nat) : ∀ (bs : List (List AV)) (j : Nat), (∀ q, q < bs.length → m (site * 16 + (j + q)) = m2 (site * 16 + (j + q))) → upsOf m site j bs = upsOf m2 site j bs := by
  intro bs
  induction bs with
  | nil => intro j h; rfl
  | cons b bs ih =>
    intro j h
    simp only [upsOf]
    have h0 := h 0 (by simp)
    rw [Nat.add_zero] at h0
    rw [verNext_congr h0, ih (j + 1) fun q hq => by have := h (q + 1) (by simpa using hq); rwa [show j + 1 + q = j + (q + 1) by omega]]
def putU (m : Mem) : List Nat → List (List AV) → List (Nat × Blk)
  | n :: ns, b :: bs => match m n with | some k => (n, ⟨k.ver, b⟩) :: putU m ns bs | none => putU m ns bs
  | _, _ => []
theorem applyU_putU (m : Mem) (us : List (Nat × Blk)) : ∀ (ns : List Nat) (bs : List (List AV)), (∀ n ∈ ns, ∃ k, m n = some k) → applyU m (putU m ns bs ++ us) = putAll m (applyU m us) ns bs := by
  intro ns
  induction ns with
  | nil => intro bs _; cases bs <;> rfl
  | cons n ns ih =>
    intro bs h
    cases bs with
    | nil => rfl
    | cons b bs =>
      obtain ⟨k, hk⟩ := h n List.mem_cons_self
      have := ih bs fun q hq => h q (List.mem_cons_of_mem _ hq)
      simp only [putU, hk, List.cons_append, applyU, putAll, Option.map_some, this]
/-- What a call of a function that turns objects leaves, what it looks at. -/
def objE (F : ObjF) (m : Mem) (site : Nat) (args : List AV) : Option (AV × List (Nat × Blk) × List Nat) :=
  (reach m 3 (addAll [] (namesL (args.filter fun x => !x.shut)))).bind fun ns => (blksOf m ns).bind fun bs => if ns.Nodup then
    (renAs (closeF m ns) args).bind fun as => (renBlks (closeF m ns) bs).bind fun bs1 => (F as bs1).bind fun r =>
      if ns.all (fun n => decide (¬ (site * 16 ≤ n ∧ n < site * 16 + r.2.2.length))) = true then
        (r.1.ren (openF m site ns r.2.2.length)).bind fun r' => (renBlks (openF m site ns r.2.2.length) r.2.1).bind fun bs2 => (renBlks (openF m site ns r.2.2.length) r.2.2).map fun new =>
          (r', putU m ns bs2 ++ upsOf m site 0 new, ns)
      else none
    else none
theorem objE_by {F : ObjF} {m : Mem} {site : Nat} {args : List AV} {e : AV × List (Nat × Blk) × List Nat} (h : objE F m site args = some e) : objBy F m site args = some (e.1, applyU m e.2.1) := by
  unfold objE at h
  unfold objBy
  obtain ⟨ns, h1, h⟩ := Option.bind_eq_some_iff.1 h
  obtain ⟨bs, h2, h⟩ := Option.bind_eq_some_iff.1 h
  split at h
  case isFalse => cases h
  rename_i hnd
  obtain ⟨as, h3, h⟩ := Option.bind_eq_some_iff.1 h
  obtain ⟨bs1, h4, h⟩ := Option.bind_eq_some_iff.1 h
  obtain ⟨r, h5, h⟩ := Option.bind_eq_some_iff.1 h
  split at h
  case isFalse => cases h
  rename_i hc
  obtain ⟨r1, h6, h⟩ := Option.bind_eq_some_iff.1 h
  obtain ⟨bs2, h7, h⟩ := Option.bind_eq_some_iff.1 h
  obtain ⟨new, h8, rfl⟩ := Option.map_eq_some_iff.1 h
  simp only [h1, h2, h3, h4, h5, h6, h7, h8, Option.bind_some, Option.map_some]
  rw [if_pos hnd, if_pos hc, applyU_putU m _ ns bs2 (fun n hn => by
    obtain ⟨i, hi⟩ := List.mem_iff_getElem?.1 hn
    obtain ⟨k, hk, _⟩ := (blksOf_get h2).2 i n hi
    exact ⟨k, hk⟩), applyU_place]
theorem objE_local {F : ObjF} {m m2 : Mem} {site : Nat} {args : List AV} {r : AV} {us : List (Nat × Blk)} {Fp : List Nat} (h : objE F m site args = some (r, us, Fp)) (ha : ∀ n ∈ Fp, m n = m2 n) (hu : ∀ n ∈ us.map (·.1), m n = m2 n) : objE F m2 site args = some (r, us, Fp) := by
  unfold objE at h ⊢
  obtain ⟨ns, h1, h⟩ := Option.bind_eq_some_iff.1 h
  obtain ⟨bs, h2, h⟩ := Option.bind_eq_some_iff.1 h
  split at h
  case isFalse => cases h
  rename_i hnd
  obtain ⟨as, h3, h⟩ := Option.bind_eq_some_iff.1 h
  obtain ⟨bs1, h4, h⟩ := Option.bind_eq_some_iff.1 h
  obtain ⟨r0, h5, h⟩ := Option.bind_eq_some_iff.1 h
  split at h
  case isFalse => cases h
  rename_i hc
  obtain ⟨r1, h6, h⟩ := Option.bind_eq_some_iff.1 h
  obtain ⟨bs2, h7, h⟩ := Option.bind_eq_some_iff.1 h
  obtain ⟨new, h8, h⟩ := Option.map_eq_some_iff.1 h
  simp only [Prod.mk.injEq] at h
  obtain ⟨rfl, rfl, rfl⟩ := h
  have hlen := (renBlks_get h8).1
  have hnew : ∀ j, j < r0.2.2.length → m (site * 16 + j) = m2 (site * 16 + j) := fun j hj => by
    refine hu _ ?_
    rw [List.map_append]
    refine List.mem_append_right _ ?_
    have := upsOf_names m site new 0 j (by omega)
    rwa [Nat.zero_add] at this
  have c1 := closeF_local ha
  have c2 := openF_local ha hnew
  rw [reach_local 3 h1 ha]
  simp only [Option.bind_some]
  rw [← blksOf_congr ha, h2]
  simp only [Option.bind_some]
  rw [if_pos hnd, ← c1, h3]
  simp only [Option.bind_some, h4, h5]
  rw [if_pos hc, ← c2, h6]
  simp only [Option.bind_some, h7, h8, Option.map_some, Option.some.injEq, Prod.mk.injEq, true_and, and_true]
  congr 1
  · have : ∀ (qs : List Nat) (ds : List (List AV)), (∀ n ∈ qs, m n = m2 n) → putU m2 qs ds = putU m qs ds := by
      intro qs
      induction qs with
      | nil => intro ds _; cases ds <;> rfl
      | cons q qs ih =>
        intro ds hq
        cases ds with
        | nil => rfl
        | cons d ds =>
          simp only [putU]
          rw [← hq q List.mem_cons_self, ih ds fun n hn => hq n (List.mem_cons_of_mem _ hn)]
    exact this ns bs2 ha
  · exact (upsOf_congr site new 0 fun q hq => by rw [Nat.zero_add]; exact hnew q (by omega)).symm
/-- A contract: a function that makes memory alone, or one that appends to its first argument. -/
inductive Con where
  | pure (F : Fun)
  | app (e : TypeId) (G : App)
  | obj (F : ObjF)
instance : Coe Fun Con := ⟨.pure⟩
def conE : Con → Mem → Nat → List AV → Option (AV × List (Nat × Blk) × List Nat)
  | .pure F => callE F
  | .app e G => appE e G
  | .obj F => objE F
def conBy (C : Con) (m : Mem) (site : Nat) (args : List AV) : Option (AV × Mem) := (conE C m site args).map fun e => (e.1, applyU m e.2.1)
def ConOk (P : Program) (f : FuncId) : Con → Prop
  | .pure F => Pure P f F
  | .app e G => AppOk P f e G
  | .obj F => ObjOk' P f F
theorem conBy_of {C : Con} {m : Mem} {site : Nat} {args : List AV} {e : AV × List (Nat × Blk) × List Nat} (h : conE C m site args = some e) : conBy C m site args = some (e.1, applyU m e.2.1) := by
  unfold conBy; rw [h]; rfl
theorem conBy_pure (F : Fun) (m : Mem) (site : Nat) (args : List AV) : conBy (.pure F) m site args = callBy F m site args := by
  show (callE F m site args).map (fun e => (e.1, applyU m e.2.1)) = _
  unfold callE callBy
  cases closeArgs m args with
  | none => rfl
  | some as =>
    simp only [Option.bind_some]
    cases F as with
    | none => rfl
    | some rb =>
      simp only [Option.bind_some]
      cases rb.1.ren (siteRen m site rb.2.length) with
      | none => rfl
      | some r =>
        simp only [Option.bind_some]
        cases renBlks (siteRen m site rb.2.length) rb.2 with
        | none => rfl
        | some bs => simp only [Option.map_some, applyU_place]
theorem conBy_sound {P : Program} {f : FuncId} {C : Con} (hF : ConOk P f C) {c : Ctx} {w0 : World} (M : MemOk c w0) {site : Nat} {args : List AV} {vs : Array Value} {r : AV} {m' : Mem} (h : conBy C c.m site args = some (r, m')) (ra : RelL c args vs.toList) :
    Calls P f vs c.w fun e w' => ∃ v ι', e = .returned v ∧ c.le ⟨m', ι', w'⟩ ∧ MemOk ⟨m', ι', w'⟩ w0 ∧ Rel ⟨m', ι', w'⟩ r v := by
  cases C with
  | pure F => rw [conBy_pure] at h; exact callBy_sound hF M h ra
  | app e G =>
    unfold conBy at h
    obtain ⟨⟨r1, us, F⟩, h1, h2⟩ := Option.map_eq_some_iff.1 h
    simp only [Prod.mk.injEq] at h2
    obtain ⟨rfl, rfl⟩ := h2
    obtain ⟨n, k, rfl, hc⟩ := appE_sound hF M h1 ra
    exact hc
  | obj F =>
    unfold conBy at h
    obtain ⟨e, h1, h2⟩ := Option.map_eq_some_iff.1 h
    exact objBy_sound hF M ((objE_by h1).trans (congrArg some h2)) ra
theorem appE_local {e : TypeId} {G : App} {m m2 : Mem} {site : Nat} {args : List AV} {r : AV} {us : List (Nat × Blk)} {Fp : List Nat} (h : appE e G m site args = some (r, us, Fp)) (ha : ∀ n ∈ Fp, m n = m2 n) : appE e G m2 site args = some (r, us, Fp) := by
  cases args with
  | nil => cases h
  | cons s rest =>
    simp only [appE] at h ⊢
    obtain ⟨⟨n, cells, len⟩, hb, h1⟩ := Option.bind_eq_some_iff.1 h
    obtain ⟨zs, hz, h2⟩ := Option.bind_eq_some_iff.1 h1
    obtain ⟨ys, hy, h3⟩ := Option.bind_eq_some_iff.1 h2
    clear h h1 h2
    split at h3
    case isFalse => cases h3
    rename_i hh
    simp only [Option.some.injEq, Prod.mk.injEq] at h3
    obtain ⟨rfl, rfl, rfl⟩ := h3
    have hs : ∀ q ∈ s.top, m q = m2 q := fun q hq => ha q (List.mem_cons_of_mem _ (by simp only [namesL, List.mem_append]; exact .inl (top_names hq)))
    have hn : m n = m2 n := ha n List.mem_cons_self
    rw [← appBase_congr hs, hb]
    simp only [Option.bind_some] at hz ⊢
    rw [hz]
    simp only [Option.bind_some, hy]
    rw [if_pos hh, verNext_congr hn]
noncomputable def absE (P : Program) (px : Nat) (o : Oper) (st : St) : Option (AV × List (Nat × Blk) × List Nat) :=
  if walkOp o.op = true then none else (absOp P o st.ev st.m (px * 4096 + o.dst.getD 4095)).map fun e => (e.1, e.2.toList, fpOf o st.ev (px * 4096 + o.dst.getD 4095))
noncomputable def effD (P : Program) (K : FuncId → Option Con) (px : Nat) (ops : Array Oper) (o : Oper) (st : St) : Option (AV × List (Nat × Blk) × List Nat) :=
  (guardOk ops st o).bind fun g => if g = true then
      match o.op with
      | .call q => if isVal q = true then (target st q).bind fun fa => (K fa.1).bind fun F => conE F st.m (px * 4096 + o.dst.getD 4095 + 1) fa.2 else absE P px o st
      | _ => absE P px o st
    else some (.v undef, [], [])

theorem closeLeaf_congr {m m2 : Mem} {x : AV} (h : ∀ n ∈ x.names, m n = m2 n) : closeLeaf m x = closeLeaf m2 x := by
  cases x with
  | own n ver off len sz r => simp only [closeLeaf]; rw [slCells_congr fun n hn => h n (top_names hn)]
  | ptr n ver off => simp only [closeLeaf]; rw [ptrCells_congr fun n hn => h n (top_names hn)]
  | _ => rfl
theorem closeL_congr {m m2 : Mem} : ∀ {xs : List AV}, (∀ n ∈ namesL xs, m n = m2 n) → closeL m xs = closeL m2 xs := by
  intro xs
  induction xs with
  | nil => intro _; rfl
  | cons x xs ih =>
    intro h
    simp only [namesL, List.mem_append] at h
    simp only [closeL]
    rw [closeLeaf_congr fun n hn => h n (.inl hn), ih fun n hn => h n (.inr hn)]
theorem closeArg_congr {m m2 : Mem} {x : AV} (h : ∀ n ∈ x.names, m n = m2 n) : closeArg m x = closeArg m2 x := by
  cases x with
  | agg xs => simp only [closeArg]; rw [closeL_congr h]
  | v x => exact closeLeaf_congr (x := .v x) h
  | own n ver off len sz r => exact closeLeaf_congr (x := .own n ver off len sz r) h
  | ptr n ver off => exact closeLeaf_congr (x := .ptr n ver off) h
  | sl nn xs len cap => exact closeLeaf_congr (x := .sl nn xs len cap) h
  | at_ xs => exact closeLeaf_congr (x := .at_ xs) h
  | tup xs => exact closeLeaf_congr (x := .tup xs) h
  | fn f xs ys => exact closeLeaf_congr (x := .fn f xs ys) h
  | mp n ver => exact closeLeaf_congr (x := .mp n ver) h
  | ip n ver => exact closeLeaf_congr (x := .ip n ver) h
  | ents q clk xs => exact closeLeaf_congr (x := .ents q clk xs) h
  | itr x a b d => exact closeLeaf_congr (x := .itr x a b d) h
theorem closeArgs_congr {m m2 : Mem} : ∀ {xs : List AV}, (∀ n ∈ namesL xs, m n = m2 n) → closeArgs m xs = closeArgs m2 xs := by
  intro xs
  induction xs with
  | nil => intro _; rfl
  | cons x xs ih =>
    intro h
    simp only [namesL, List.mem_append] at h
    simp only [closeArgs]
    rw [closeArg_congr fun n hn => h n (.inl hn), ih fun n hn => h n (.inr hn)]
theorem callE_local {F : Fun} {m m2 : Mem} {site : Nat} {args : List AV} {r : AV} {us : List (Nat × Blk)} {Fp : List Nat} (h : callE F m site args = some (r, us, Fp)) (ha : ∀ n ∈ Fp, m n = m2 n) (hu : ∀ n ∈ us.map (·.1), m n = m2 n) : callE F m2 site args = some (r, us, Fp) := by
  unfold callE at h ⊢
  obtain ⟨as, has, h⟩ := Option.bind_eq_some_iff.1 h
  obtain ⟨⟨r0, bs⟩, hr0, h⟩ := Option.bind_eq_some_iff.1 h
  obtain ⟨r1, hr1, h⟩ := Option.bind_eq_some_iff.1 h
  obtain ⟨bs', hbs, h⟩ := Option.map_eq_some_iff.1 h
  simp only [Prod.mk.injEq] at h
  obtain ⟨rfl, rfl, rfl⟩ := h
  simp only at hr1 hbs
  obtain ⟨hlen, _⟩ := renBlks_get hbs
  have hag : ∀ q, q < bs.length → m (site * 16 + q) = m2 (site * 16 + q) := fun q hq => by
    have := upsOf_names m site bs' 0 q (by omega)
    rw [Nat.zero_add] at this
    exact hu _ this
  have hs : siteRen m site bs.length = siteRen m2 site bs.length := by
    funext n ver
    unfold siteRen
    split
    · rename_i hh; rw [verNext_congr (hag n hh.2)]
    · rfl
  rw [← closeArgs_congr ha, has]
  simp only [Option.bind_some, hr0]
  rw [← hs, hr1]
  simp only [Option.bind_some, hbs, Option.map_some, Option.some.injEq, Prod.mk.injEq, true_and, and_true]
  exact (upsOf_congr site bs' 0 fun q hq => by rw [Nat.zero_add]; exact hag q (by omega)).symm

theorem ev_congr {st st2 : St} {x : Operand} (h : ∀ k, x = .tmp k → st2.t k = st.t k) : st2.ev x = st.ev x := by
  cases x with
  | tmp k => exact h k rfl
  | _ => rfl
theorem conE_local {C : Con} {m m2 : Mem} {site : Nat} {args : List AV} {r : AV} {us : List (Nat × Blk)} {Fp : List Nat} (h : conE C m site args = some (r, us, Fp)) (ha : ∀ n ∈ Fp, m n = m2 n) (hu : ∀ n ∈ us.map (·.1), m n = m2 n) : conE C m2 site args = some (r, us, Fp) := by
  cases C with
  | pure F => exact callE_local h ha hu
  | app e G => exact appE_local h ha
  | obj F => exact objE_local h ha hu
theorem effD_local {P : Program} {K : FuncId → Option Con} {px : Nat} {ops : Array Oper} {o : Oper} {st st2 : St} {x : AV} {us : List (Nat × Blk)} {Fp : List Nat} (h : effD P K px ops o st = some (x, us, Fp))
    (ht : ∀ k ∈ o.looksAt ops, st2.t k = st.t k) (hm : ∀ n ∈ Fp, st.m n = st2.m n) (hu : ∀ n ∈ us.map (·.1), st.m n = st2.m n) : effD P K px ops o st2 = some (x, us, Fp) := by
  have hop : ∀ y ∈ o.op.operands, st2.ev y = st.ev y := fun y hy => ev_congr fun k e => ht k (by
    unfold Oper.looksAt
    simp only [List.mem_append, List.mem_filterMap]
    exact .inl ⟨y, by simpa using hy, by subst e; rfl⟩)
  have hg : guardOk ops st2 o = guardOk ops st o := by
    unfold guardOk
    cases hgd : o.guard with
    | none => rfl
    | some p =>
      obtain ⟨j, want⟩ := p
      simp only
      cases hd : (ops[j]?).bind (·.dst) with
      | none => rfl
      | some d =>
        simp only
        rw [ht d (by unfold Oper.looksAt; rw [hgd]; simp [hd])]
  unfold effD at h ⊢
  rw [hg]
  obtain ⟨g, hg1, h⟩ := Option.bind_eq_some_iff.1 h
  rw [hg1]
  simp only [Option.bind_some]
  cases g with
  | false => exact h
  | true =>
    simp only [if_true] at h ⊢
    have plain : absE P px o st = some (x, us, Fp) → absE P px o st2 = some (x, us, Fp) := by
      intro h
      unfold absE at h ⊢
      split at h
      · cases h
      rename_i hwk
      rw [if_neg hwk]
      obtain ⟨e, he, h2⟩ := Option.map_eq_some_iff.1 h
      simp only [Prod.mk.injEq] at h2
      obtain ⟨rfl, rfl, rfl⟩ := h2
      have e1 : absOp P o st2.ev st2.m (px * 4096 + o.dst.getD 4095) = absOp P o st.ev st2.m (px * 4096 + o.dst.getD 4095) := absOp_congr hop
      have e2 : absOp P o st.ev st.m (px * 4096 + o.dst.getD 4095) = absOp P o st.ev st2.m (px * 4096 + o.dst.getD 4095) := absOp_local (by simpa using hwk) hm
      have e3 : fpOf o st2.ev (px * 4096 + o.dst.getD 4095) = fpOf o st.ev (px * 4096 + o.dst.getD 4095) := by
        unfold fpOf
        split
        · have : (o.op.operands.toList.map fun x => (st2.ev x).mpTop) = o.op.operands.toList.map fun x => (st.ev x).mpTop := map_congr_on fun y hy => by rw [hop y (by simpa using hy)]
          rw [List.flatMap_def, List.flatMap_def, this]
        split
        · congr 1
          have : (o.op.operands.toList.map fun x => (st2.ev x).top) = o.op.operands.toList.map fun x => (st.ev x).top := map_congr_on fun y hy => by rw [hop y (by simpa using hy)]
          rw [List.flatMap_def, List.flatMap_def, this]
        · rfl
      rw [e1, ← e2, he, e3]
      rfl
    split at h
    · rename_i q hq
      split at h
      · rename_i hv
        rw [if_pos hv]
        have htg : target st2 q = target st q := by
          unfold target
          have ea : q.args.toList.map st2.ev = q.args.toList.map st.ev := map_congr_on fun y hy => hop y (by rw [hq]; simp only [Op.operands, Call.operands, Array.mem_append]; exact .inr (by simpa using hy))
          cases hcal : q.callee with
          | value f =>
            simp only
            rw [hop f (by rw [hq]; simp [Op.operands, Call.operands, hcal]), ea]
          | _ => rfl
        rw [htg]
        obtain ⟨fa, hfa, h⟩ := Option.bind_eq_some_iff.1 h
        obtain ⟨F, hF, h⟩ := Option.bind_eq_some_iff.1 h
        rw [hfa]
        simp only [Option.bind_some, hF]
        exact conE_local h hm hu
      · rename_i hv
        rw [if_neg hv]
        exact plain h
    · exact plain h
end Go.Pm
