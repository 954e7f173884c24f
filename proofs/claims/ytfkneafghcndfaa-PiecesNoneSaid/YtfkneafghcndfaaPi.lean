/- A machine of values: numbers, bytes, comparisons. -/
import Derived.Test.YtfkneafghcndfaaPh
import Derived.Laws.BytesString
namespace Go.Pm
open Go.RowKit
set_option linter.unusedVariables false
set_option linter.unusedSimpArgs false

/-- Bytes as values; the string of bytes. -/
def B8 (zs : List Int) : List AV := zs.map fun z => .v (.int .u8 z)
def asB8 : List AV → Option (List Int)
  | [] => some []
  | .v (.int .u8 z) :: xs => (asB8 xs).map (z :: ·)
  | _ => none
theorem asB8_eq : ∀ {xs : List AV} {zs : List Int}, asB8 xs = some zs → xs = B8 zs := by
  intro xs
  induction xs with
  | nil => intro zs h; cases h; rfl
  | cons x xs ih =>
    intro zs h
    unfold asB8 at h
    split at h
    · rename_i e; cases e
    · rename_i z ys e
      cases e
      obtain ⟨ws, h1, rfl⟩ := Option.map_eq_some_iff.1 h
      rw [ih h1]; rfl
    · cases h
theorem asB8_B8 (zs : List Int) : asB8 (B8 zs) = some zs := by
  induction zs with
  | nil => rfl
  | cons z zs ih => show (asB8 (B8 zs)).map (z :: ·) = _; rw [ih]; rfl
def bstr (zs : List Int) : ByteArray := ⟨(zs.map fun z => UInt8.ofNat z.toNat).toArray⟩
theorem fold_bstr (zs : List Int) : ∀ s : ByteArray, zs.foldl (fun r n => r.push (UInt8.ofNat n.toNat)) s = ⟨s.data ++ (zs.map fun z => UInt8.ofNat z.toNat).toArray⟩ := by
  induction zs with
  | nil => intro s; simp
  | cons z zs ih =>
    intro s
    rw [List.foldl_cons, ih]
    congr 1
    apply Array.toList_inj.1
    simp [ByteArray.push]
theorem relL_B8 {c : Ctx} {zs : List Int} {ys : List Value} (r : RelL c (B8 zs) ys) : ys = zs.map (Value.int .u8) := by
  apply List.ext_getElem?
  intro i
  by_cases hi : i < zs.length
  · obtain ⟨y, e, ry⟩ := r.2 i (.v (.int .u8 zs[i])) (by simp [B8, hi])
    obtain ⟨rfl, _⟩ := ry.inv_v
    rw [e]; simp [hi]
  · have : ys.length = zs.length := by have := r.1; simpa [B8] using this.symm
    rw [List.getElem?_eq_none (by omega), List.getElem?_eq_none (by simp; omega)]

def isU8 (P : Program) (t : TypeId) : Bool := match P.underlying t with | some (.int .u8) => true | _ => false
theorem isU8_some {P : Program} {t : TypeId} (h : isU8 P t = true) : P.underlying t = some (.int .u8) := by
  unfold isU8 at h
  split at h
  · assumption
  · cases h
def isInt (P : Program) (t : TypeId) : Option IntKind := match P.underlying t with | some (.int k) => some k | _ => none
theorem isInt_some {P : Program} {t : TypeId} {k : IntKind} (h : isInt P t = some k) : P.underlying t = some (.int k) := by
  unfold isInt at h
  split at h
  · cases h; assumption
  · cases h

/-- Conversions. -/
def aConvert (P : Program) (src dst : TypeId) (x : AV) (m : Mem) : Option AV :=
  match isInt P dst with
  | some k => match x with
    | .v (.int _ n) => if (P.underlying src).isSome = true then some (.v (.int k (k.wrap n))) else none
    | _ => none
  | none => if isStr P dst = true then
      match x with
      | .v (.string s) => if (P.underlying src).isSome = true then some (.v (.string s)) else none
      | x => (isSl P src).bind fun e => if isU8 P e = true then (slCells m x).bind fun ys => if ys.1.length = ys.2 then (asB8 ys.1).map fun zs => .v (.string (bstr zs)) else none else none
    else none
theorem aConvert_sound {P : Program} {c : Ctx} {w0 : World} (M : MemOk c w0) {src dst : TypeId} {x y : AV} {v : Value} (h : aConvert P src dst x c.m = some y) (r : Rel c x v) : Good P c w0 (convert src dst v) (y, none) := by
  unfold aConvert at h
  split at h
  · rename_i k hk
    have hu := isInt_some hk
    split at h
    · rename_i q n
      split at h
      · rename_i hs
        obtain ⟨d, hd⟩ := Option.isSome_iff_exists.1 hs
        cases h
        obtain ⟨rfl, _⟩ := r.inv_v
        refine Good.same (v := .int k (k.wrap n)) ?_ M .v
        cases d <;> simp [convert, run_underlying hd, run_underlying hu, Conv.intToInt]
      · cases h
    · cases h
  · split at h
    · rename_i hstr
      have hu := isStr_some hstr
      split at h
      · rename_i s
        split at h
        · rename_i hs
          obtain ⟨d, hd⟩ := Option.isSome_iff_exists.1 hs
          cases h
          obtain ⟨rfl, _⟩ := r.inv_v
          refine Good.same (v := .string s) ?_ M .v
          cases d <;> simp [convert, run_underlying hd, run_underlying hu]
        · cases h
      · obtain ⟨e, he, h⟩ := Option.bind_eq_some_iff.1 h
        split at h
        · rename_i h8
          obtain ⟨⟨ys, n⟩, hys, h⟩ := Option.bind_eq_some_iff.1 h
          split at h
          · rename_i hlen
            obtain ⟨zs, hz, rfl⟩ := Option.map_eq_some_iff.1 h
            obtain rfl := asB8_eq hz
            obtain ⟨a, cp, rfl, h1, h2, h3, h4⟩ := slCells_sound M hys r
            have hus := isSl_some he
            have hue := isU8_some h8
            refine Good.same (v := .string (bstr zs)) ?_ M .v
            rw [run_convert_bytes_string c.w src dst e a n cp hus hue hu]
            cases a with
            | none =>
              obtain ⟨rfl, _⟩ := h3 rfl
              have : zs = [] := List.eq_nil_of_length_eq_zero (by simpa [B8] using hlen)
              subst this
              rfl
            | some ad =>
              obtain ⟨vs, rv, hv⟩ := pick_list (Q := fun i z => ∃ b o, some ad = some (⟨b, o, none⟩ : Addr) ∧ c.w.cell? ⟨b, o + i, none⟩ = some z) (fun i y hy => by obtain ⟨b, o, z, e1, e2, e3⟩ := h4 i y hy; exact ⟨z, ⟨b, o, e1, e2⟩, e3⟩)
              obtain rfl := relL_B8 rv
              have hl := run_loadCells_list (P := P) c.w ad (zs.map (Value.int .u8)) (fun j v hj => by
                obtain ⟨b, o, e1, e2⟩ := hv j v hj
                cases e1
                rw [addr_add]; exact e2)
              have hn : n = zs.length := by simpa [B8] using hlen.symm
              rw [List.length_map, ← hn] at hl
              rw [run_bytesToString c.w ad n cp zs hl, fold_bstr]
              simp [bstr]
          · cases h
        · cases h
    · cases h

/-- How long something is. -/
def aLen (P : Program) (t : TypeId) (x : AV) : Option AV :=
  match isSl P t with
  | some _ => (slLen x).map fun n : Nat => .v (.int .i64 (n : Int))
  | none => if isStr P t = true then (match x with | .v (.string s) => some (.v (.int .i64 s.size)) | _ => none)
    else (isArr P t).map fun ne => .v (.int .i64 (ne.1 : Int))
theorem aLen_sound {P : Program} {c : Ctx} {w0 : World} (M : MemOk c w0) {t ty : TypeId} {x y : AV} {v : Value} (h : aLen P t x = some y) (r : Rel c x v) : Good P c w0 (Builtin.len_ #[t] ty #[v]) (y, none) := by
  unfold aLen at h
  split at h
  · rename_i e he
    have hu := isSl_some he
    obtain ⟨n, hn, rfl⟩ := Option.map_eq_some_iff.1 h
    obtain ⟨a, cp, rfl⟩ := slLen_sound hn r
    exact Good.same (v := goInt n) (by simp [Builtin.len_, run_underlying hu]) M .v
  · split at h
    · rename_i hs
      have hu := isStr_some hs
      split at h
      · cases h
        obtain ⟨rfl, _⟩ := r.inv_v
        exact Good.same (v := goInt _) (by simp [Builtin.len_, run_underlying hu]) M .v
      · cases h
    · obtain ⟨⟨n, e⟩, hn, rfl⟩ := Option.map_eq_some_iff.1 h
      have hu := isArr_some hn
      exact Good.same (v := goInt n) (by simp [Builtin.len_, run_underlying hu]) M .v

/-- A slice's capacity, where it is known. -/
def aCap (P : Program) (t : TypeId) (x : AV) : Option AV :=
  (isSl P t).bind fun _ => match x with
    | .v (.slice _ _ n) => some (.v (.int .i64 (n : Nat)))
    | .sl _ _ _ (some q) => some (.v (.int .i64 (q : Nat)))
    | _ => none
theorem aCap_sound {P : Program} {c : Ctx} {w0 : World} (M : MemOk c w0) {t ty : TypeId} {x y : AV} {v : Value} (h : aCap P t x = some y) (r : Rel c x v) : Good P c w0 (Builtin.cap_ #[t] ty #[v]) (y, none) := by
  unfold aCap at h
  obtain ⟨e, he, h⟩ := Option.bind_eq_some_iff.1 h
  have hu := isSl_some he
  split at h
  · cases h
    obtain ⟨rfl, _⟩ := r.inv_v
    exact Good.same (v := goInt _) (by simp [Builtin.cap_, run_underlying hu]) M .v
  · cases h
    cases r with
    | @sl _ _ _ _ a cp f hl hm hc hn ha hx hr =>
      obtain rfl := hc _ rfl
      exact Good.same (v := goInt cp) (by simp [Builtin.cap_, run_underlying hu]) M .v
  · cases h

/-- A slice as an array's place. -/
def aS2A (P : Program) (t : TypeId) (x : AV) (m : Mem) : Option AV :=
  (isArr P t).bind fun ne => (szOf P ne.2).bind fun z => match x with
    | .own n ver off len sz r => if 0 < ne.1 ∧ ne.1 ≤ len then some (.ptr n ver off) else none
    | .sl nn xs len cap => if 0 < ne.1 ∧ ne.1 ≤ len then some (.at_ xs) else none
    | _ => none
theorem aS2A_sound {P : Program} {c : Ctx} {w0 : World} (M : MemOk c w0) {t : TypeId} {x y : AV} {v : Value} (h : aS2A P t x c.m = some y) (r : Rel c x v) : Good P c w0 (Instr.arrayAt t v) (y, none) := by
  unfold aS2A at h
  obtain ⟨⟨N, e⟩, hn, h⟩ := Option.bind_eq_some_iff.1 h
  obtain ⟨z, hz, h⟩ := Option.bind_eq_some_iff.1 h
  have hu := isArr_some hn
  cases x with
  | own n ver off len sz rm =>
    simp only at h
    split at h
    · rename_i hl
      cases h
      cases r with
      | @own _ _ _ _ _ _ k a cp hk hv hl2 hm hn2 ha =>
        have hlt : ¬ len < N := by omega
        cases a with
        | none => have := hn2 rfl; omega
        | some a =>
          refine Good.same (v := .pointer (some a)) (by simp [Instr.arrayAt, run_underlying hu, hlt]) M (.ptr hk hv fun e => ?_)
          rcases ha e with ⟨h1, _⟩ | ⟨g, o, cs, t, h1, h2, h3, _, h5, _⟩
          · cases h1
          · cases h2
            obtain rfl := h3 (by omega)
            exact ⟨g, cs, t, h1, rfl, h5⟩
    · cases h
  | sl nn xs len cap =>
    simp only at h
    split at h
    · rename_i hl
      cases h
      cases r with
      | @sl _ _ _ _ a cp f hl2 hm hc hn2 ha hx hr =>
        have hlt : ¬ len < N := by omega
        cases a with
        | none => have := (hn2 rfl).2.2; omega
        | some a =>
          obtain ⟨b, o, sp⟩ := a
          have hsp := ha _ rfl (by omega)
          simp at hsp
          subst hsp
          refine Good.same (v := .pointer (some ⟨b, o, none⟩)) (by simp [Instr.arrayAt, run_underlying hu, hlt]) M (.at_ f (fun i x hi => ?_) hr)
          obtain ⟨b', o', e1, e2, e3⟩ := hx i x hi
          cases e1
          exact ⟨e2, e3⟩
    · cases h
  | _ => cases h

/-- Copy. -/
def aCopy (P : Program) (t : TypeId) (d x : AV) (m : Mem) : Option Eff :=
  (isSl P t).bind fun e => (szOf P e).bind fun z => (slCells m x).bind fun ys =>
    match d with
    | .own n ver off len sz r => match m n with
      | some k => if ver = k.ver ∧ sz = z ∧ ys.1.length = ys.2 * z ∧ allOne ys.1 = true ∧ off + len * sz ≤ k.cells.length then
          if 0 < len then some (.v (.int .i64 (min ys.2 len : Nat)), some (n, ⟨ver, splice k.cells off (ys.1.take (min ys.2 len * z))⟩)) else some (.v (.int .i64 0), none) else none
      | none => none
    | _ => none
theorem aCopy_sound {P : Program} {c : Ctx} {w0 : World} (M : MemOk c w0) {t t2 ty : TypeId} {d x : AV} {v u : Value} {e : Eff} (h : aCopy P t d x c.m = some e) (rd : Rel c d v) (rx : Rel c x u) : Good P c w0 (Builtin.copy_ #[t, t2] ty #[v, u]) e := by
  unfold aCopy at h
  obtain ⟨el, he, h1⟩ := Option.bind_eq_some_iff.1 h
  obtain ⟨z, hz, h2⟩ := Option.bind_eq_some_iff.1 h1
  obtain ⟨⟨ys, m⟩, hys, h3⟩ := Option.bind_eq_some_iff.1 h2
  clear h h1 h2
  have hu := isSl_some he
  cases d with
  | own n ver off len sz rm =>
    cases rd with
    | @own _ _ _ _ _ _ k sa scp hk hv hl hm hn ha =>
      simp only [hk] at h3
      split at h3
      case isFalse => cases h3
      rename_i hh
      obtain ⟨rfl, rfl, hyl, hone, hfit⟩ := hh
      split at h3
      case isFalse =>
        rename_i hpos
        obtain rfl : len = 0 := by omega
        obtain rfl := Option.some.inj h3
        obtain ⟨a, cp, rfl, hk1, hk2, hk3, hk4⟩ := slCells_sound M hys rx
        have hz0 : Nat.min m 0 = 0 := Nat.min_zero _
        refine Good.same (v := goInt 0) ?_ M .v
        cases a with
        | none =>
          cases sa <;> simp [Builtin.copy_, run_underlying hu, Builtin.lenOf, Builtin.firstCells, run_sizeOf hz, storeCells, hz0]
        | some ad =>
          have hld := run_loadCells_list (P := P) c.w ad [] (fun j v hj => by simp at hj)
          simp only [List.length_nil] at hld
          cases sa <;> simp [Builtin.copy_, run_underlying hu, Builtin.lenOf, Builtin.firstCells, run_sizeOf hz, storeCells, hz0, hld]
      rename_i hpos
      obtain rfl := Option.some.inj h3
      rcases ha rfl with ⟨_, h2, _⟩ | ⟨g, o, cs, tt, g1, rfl, g3, g4, g5, g6⟩
      · omega
      obtain rfl := g3 (by omega)
      obtain ⟨a, cp, rfl, hk1, hk2, hk3, hk4⟩ := slCells_sound M hys rx
      have hcl : ∀ (i : Nat) x, k.cells[i]? = some x → ∃ y, cs[i]? = some y ∧ Rel c x y := by
        exact (M.row hk g1 g5).2
      obtain ⟨news, rnews, hnews⟩ := pick_list (Q := fun i z => ∃ b o, a = some (⟨b, o, none⟩ : Addr) ∧ c.w.cell? ⟨b, o + i, none⟩ = some z) (fun i y hy => by obtain ⟨b, o, z, e1, e2, e3⟩ := hk4 i y hy; exact ⟨z, ⟨b, o, e1, e2⟩, e3⟩)
      have rt := rnews.take (min m len * sz)
      have hmul : min m len * sz ≤ len * sz := Nat.mul_le_mul_right _ (by omega)
      have hmul2 : min m len * sz ≤ m * sz := Nat.mul_le_mul_right _ (by omega)
      have htl : (ys.take (min m len * sz)).length = min m len * sz := by simp; omega
      have hnl : (news.take (min m len * sz)).length = min m len * sz := by rw [← rt.1, htl]
      obtain ⟨hle, hM⟩ := step_row (o := o) M hk g1 g5 hcl rt (by rw [htl]; omega)
      have hcc := cells_le (cs := cs.toList) (fun i x hx => by simpa using hcl i x hx)
      have hst := run_storeCells_at P g o tt (news.take (min m len * sz)) 0 cs c.w g5 (by rw [hnl]; simp at hcc ⊢; omega) (fun z hz => ones_of rnews hone z (List.mem_of_mem_take hz))
      simp only [Nat.add_zero] at hst
      refine ⟨goInt (min m len : Nat), _, c.ι, ?_, hle, hM, .v⟩
      have hmin : Nat.min m len = min m len := rfl
      cases a with
      | none =>
        obtain ⟨rfl, rfl⟩ := hk3 rfl
        have hn0 : news.take (min 0 len * sz) = [] := by simp
        rw [hn0] at hst ⊢
        have hw : c.w.setRow g (splice cs.toList o []).toArray = c.w := by
          simp only [storeCells, Sem.run_pure, Result.ok.injEq, true_and] at hst
          exact hst.symm
        rw [hw]
        have hz0 : Nat.min 0 len = 0 := Nat.zero_min _
        simp [Builtin.copy_, run_underlying hu, Builtin.lenOf, Builtin.firstCells, run_sizeOf hz, storeCells, hz0]
      | some ad =>
        have hld := run_loadCells_list (P := P) c.w ad (news.take (min m len * sz)) (fun j v hj => by
          rw [List.getElem?_take] at hj
          split at hj
          · obtain ⟨b, o, e1, e2⟩ := hnews j v hj
            cases e1
            rw [addr_add]; exact e2
          · cases hj)
        rw [hnl] at hld
        have hst' : (storeCells ⟨g, o, none⟩ (news.take (min m len * sz))).run P c.w = .ok () (c.w.setRow g (splice cs.toList o (news.take (min m len * sz))).toArray) := hst
        simp [Builtin.copy_, run_underlying hu, Builtin.lenOf, Builtin.firstCells, run_sizeOf hz, hmin, hld, hst']
  | _ => cases h3
end Go.Pm
