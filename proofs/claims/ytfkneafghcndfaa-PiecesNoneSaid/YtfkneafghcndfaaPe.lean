/- A machine of values: parts, slices' parts, what is built. -/
import Derived.Test.YtfkneafghcndfaaPd
namespace Go.Pm
open Go.RowKit
set_option linter.unusedVariables false
set_option linter.unusedSimpArgs false

/-- A part of cells, as a value. -/
def aPart (P : Program) (t : TypeId) (xs : List AV) (off : Nat) : Option AV :=
  (isAggT P t).bind fun b => if b then (szOf P t).bind fun z => if off + z ≤ xs.length then some (.agg ((xs.drop off).take z)) else none else xs[off]?
theorem aPart_sound {P : Program} {c : Ctx} {t : TypeId} {xs : List AV} {cs : Array Value} {off : Nat} {y : AV} (h : aPart P t xs off = some y) (r : RelL c xs cs.toList) :
    ∃ u, (part t cs off).run P c.w = .ok u c.w ∧ Rel c y u := by
  unfold aPart at h
  obtain ⟨b, hb, h⟩ := Option.bind_eq_some_iff.1 h
  cases b with
  | true =>
    simp only [if_true] at h
    obtain ⟨z, hz, h⟩ := Option.bind_eq_some_iff.1 h
    split at h
    · cases h
      refine ⟨.agg (cs.extract off (off + z)), by simp [part, run_isAgg hb, run_sizeOf hz], .mkAgg ?_⟩
      have := (r.drop off).take z
      have e : (cs.extract off (off + z)).toList = (cs.toList.drop off).take z := by simp [List.drop_take]
      rw [e]; exact this
    · cases h
  | false =>
    simp only [Bool.false_eq_true, if_false] at h
    obtain ⟨u, e, ru⟩ := r.2 off y h
    have e' : cs[off]? = some u := by simpa using e
    exact ⟨u, by simp [part, run_isAgg hb, e'], ru⟩

def aField (P : Program) (t : TypeId) (x : AV) (f : Nat) : Option AV :=
  match x with
  | .agg xs => (fieldOf P t f).bind fun ot => aPart P ot.2 xs ot.1
  | _ => none
theorem aField_sound {P : Program} {c : Ctx} {w0 : World} (M : MemOk c w0) {t : TypeId} {f : Nat} {x y : AV} {v : Value} (h : aField P t x f = some y) (r : Rel c x v) : Good P c w0 (Instr.field t v f) (y, none) := by
  cases x with
  | agg xs =>
    obtain ⟨⟨o, ty⟩, ho, h⟩ := Option.bind_eq_some_iff.1 h
    obtain ⟨fs, fd, hu, hf, rfl, rfl⟩ := fieldOf_some ho
    obtain ⟨cs, rfl, rl⟩ := r.inv_agg
    obtain ⟨u, hr, ru⟩ := aPart_sound h rl
    refine Good.same ?_ M ru
    simp [Instr.field, run_underlying hu, hf, asAgg, hr]
  | _ => cases h

def isStr (P : Program) (t : TypeId) : Bool := match P.underlying t with | some .string => true | _ => false
theorem isStr_some {P : Program} {t : TypeId} (h : isStr P t = true) : P.underlying t = some .string := by
  unfold isStr at h
  cases hu : P.underlying t with
  | none => rw [hu] at h; cases h
  | some d => rw [hu] at h; cases d <;> simp at h; rfl

def aIndex (P : Program) (t : TypeId) (x i : AV) : Option AV :=
  match x, i with
  | .agg xs, .v (.int k i) => (isArr P t).bind fun ne => (szOf P ne.2).bind fun z => if 0 ≤ i ∧ i < (ne.1 : Int) then aPart P ne.2 xs (i.toNat * z) else none
  | .v (.string s), .v (.int k i) => if isStr P t = true ∧ 0 ≤ i then (s[i.toNat]?).map fun b => .v (.int .u8 b.toNat) else none
  | _, _ => none
theorem aIndex_sound {P : Program} {c : Ctx} {w0 : World} (M : MemOk c w0) {t : TypeId} {x i y : AV} {v u : Value} (h : aIndex P t x i = some y) (r : Rel c x v) (ri : Rel c i u) : Good P c w0 (Instr.index t v u) (y, none) := by
  unfold aIndex at h
  split at h
  · rename_i xs k i
    obtain ⟨rfl, _⟩ := ri.inv_v
    obtain ⟨⟨n, e⟩, hn, h⟩ := Option.bind_eq_some_iff.1 h
    obtain ⟨z, hz, h⟩ := Option.bind_eq_some_iff.1 h
    have hu := isArr_some hn
    split at h
    · rename_i hi
      obtain ⟨cs, rfl, rl⟩ := r.inv_agg
      obtain ⟨u, hr, ru⟩ := aPart_sound h rl
      refine Good.same ?_ M ru
      have hi1 : i < (n : Int) := hi.2
      simp [Instr.index, asIntOf, run_underlying hu, hi.1, hi1, run_sizeOf hz, hr]
    · cases h
  · rename_i s k i
    obtain ⟨rfl, _⟩ := ri.inv_v
    obtain ⟨rfl, _⟩ := r.inv_v
    split at h
    · rename_i hi
      have hu := isStr_some hi.1
      cases e : s[i.toNat]? with
      | none => rw [e] at h; cases h
      | some b =>
        rw [e] at h; cases h
        refine Good.same (v := .int .u8 b.toNat) ?_ M .v
        simp [Instr.index, asIntOf, run_underlying hu, hi.2, e]
    · cases h
  · cases h

def aExtract (x : AV) (i : Nat) : Option AV := match x with | .tup xs => xs[i]? | _ => none
theorem aExtract_sound {P : Program} {c : Ctx} {w0 : World} (M : MemOk c w0) {i : Nat} {x y : AV} {v : Value} (h : aExtract x i = some y) (r : Rel c x v) : Good P c w0 (Instr.extract v i) (y, none) := by
  cases x with
  | tup xs =>
    obtain ⟨cs, rfl, rl⟩ := r.inv_tup
    obtain ⟨u, e, ru⟩ := rl.2 i y h
    have e' : cs[i]? = some u := by simpa using e
    exact Good.same (by simp [Instr.extract, e']) M ru
  | _ => cases h

/-- Bounds of a slice expression, the high one at most the length. -/
def natOf : Option AV → Option (Option Nat)
  | none => some none
  | some (.v (.int _ i)) => if 0 ≤ i then some (some i.toNat) else none
  | _ => none
theorem natOf_sound {c : Ctx} {x : Option AV} {v : Option Value} {n : Option Nat} (h : natOf x = some n) (r : ∀ y, x = some y → ∃ u, v = some u ∧ Rel c y u) (rn : x = none → v = none) :
    (n = none ∧ v = none) ∨ ∃ k i, v = some (.int k i) ∧ 0 ≤ i ∧ n = some i.toNat := by
  cases x with
  | none => cases h; exact .inl ⟨rfl, rn rfl⟩
  | some y =>
    obtain ⟨u, rfl, ru⟩ := r y rfl
    unfold natOf at h
    split at h
    · rename_i e; cases e
    · rename_i k i e
      cases e
      obtain ⟨rfl, _⟩ := ru.inv_v
      split at h
      · cases h; rename_i hi; exact .inr ⟨k, i, rfl, hi, rfl⟩
      · cases h
    · cases h
theorem run_sliceBound {P : Program} {w : World} {k : IntKind} {i : Int} {y : Nat} {code : BoundsCode} (h0 : 0 ≤ i) (h1 : i.toNat ≤ y) : (Instr.sliceBound (.int k i) y code).run P w = .ok i.toNat w := by
  have : i ≤ (y : Int) := by omega
  simp [Instr.sliceBound, asIntOf, h0, this]

/-- Low, high, most, under a length and a room of which 'most' at least is there. -/
theorem run_sliceBounds {P : Program} {w : World} {isSlice : Bool} {len cap l h m : Nat} {lo hi mx : Option Value} {nl nh nm : Option Nat}
    (el : (nl = none ∧ lo = none) ∨ ∃ k i, lo = some (.int k i) ∧ 0 ≤ i ∧ nl = some i.toNat)
    (eh : (nh = none ∧ hi = none) ∨ ∃ k i, hi = some (.int k i) ∧ 0 ≤ i ∧ nh = some i.toNat)
    (em : (nm = none ∧ mx = none) ∨ ∃ k i, mx = some (.int k i) ∧ 0 ≤ i ∧ nm = some i.toNat)
    (hm : nm.getD cap = m) (hh : nh.getD len = h) (hl : nl.getD 0 = l) (h1 : m ≤ cap) (h2 : h ≤ m) (h3 : l ≤ h) (h4 : nm ≠ none → nh ≠ none) :
    (Instr.sliceBounds isSlice len cap lo hi mx).run P w = .ok (l, h, m) w := by
  subst hm hh hl
  rcases el with ⟨rfl, rfl⟩ | ⟨k1, i1, rfl, a1, rfl⟩ <;> rcases eh with ⟨rfl, rfl⟩ | ⟨k2, i2, rfl, a2, rfl⟩ <;> rcases em with ⟨rfl, rfl⟩ | ⟨k3, i3, rfl, a3, rfl⟩ <;>
    simp only [Option.getD_some, Option.getD_none] at h1 h2 h3 ⊢ <;>
    first
      | simp [Instr.sliceBounds, run_sliceBound, *]; done
      | exact absurd rfl (h4 (by simp))

def lowRoom (r : Room) (l : Nat) (m : Option Nat) : Room :=
  match m with
  | some m => .known (m - l)
  | none => if l = 0 then r else match r with | .known q => .known (q - l) | _ => .unk

/-- A part of a slice, of an array that lies in memory, of a string. -/
def aSlice (P : Program) (t : TypeId) (x : AV) (lo hi mx : Option AV) (m : Mem) : Option AV :=
  (natOf lo).bind fun nl => (natOf hi).bind fun nh => (natOf mx).bind fun nm =>
  if nm ≠ none ∧ nh = none then none else
  match isSl P t with
  | some e => (szOf P e).bind fun z => match x with
    | .own n ver off len sz r =>
      if nl.getD 0 ≤ nh.getD len ∧ nh.getD len ≤ nm.getD len ∧ nm.getD len ≤ len ∧ sz = z then some (.own n ver (off + nl.getD 0 * sz) (nh.getD len - nl.getD 0) sz (lowRoom r (nl.getD 0) nm)) else none
    | .sl nn xs len cap =>
      if nl.getD 0 ≤ nh.getD len ∧ nh.getD len ≤ nm.getD len ∧ nm.getD len ≤ len then
        some (.sl (nn || decide (0 < len)) ((xs.drop (nl.getD 0 * z)).take ((nh.getD len - nl.getD 0) * z)) (nh.getD len - nl.getD 0) (match nm with | some q => some (q - nl.getD 0) | none => cap.map (· - nl.getD 0))) else none
    | .v (.slice none 0 0) => if nl.getD 0 = 0 ∧ nh.getD 0 = 0 ∧ nm.getD 0 = 0 then some (.v (.slice none 0 0)) else none
    | _ => none
  | none => match isArr P t with
    | some (N, e) => (szOf P e).bind fun z =>
      if nl.getD 0 ≤ nh.getD N ∧ nh.getD N ≤ nm.getD N ∧ nm.getD N ≤ N then
        match x with
        | .ptr n ver off => match m n with
          | some k => if ver = k.ver ∧ off + N * z ≤ k.cells.length ∧ N < 1000000 then some (.own n ver (off + nl.getD 0 * z) (nh.getD N - nl.getD 0) z (.known (nm.getD N - nl.getD 0))) else none
          | none => none
        | .at_ xs => if N < 1000000 then some (.sl true ((xs.drop (nl.getD 0 * z)).take ((nh.getD N - nl.getD 0) * z)) (nh.getD N - nl.getD 0) (some (nm.getD N - nl.getD 0))) else none
        | _ => none
      else none
    | none => none

theorem relSl {c : Ctx} {nn : Bool} {xs : List AV} {len : Nat} {cap : Option Nat} {a : Option Addr} {cp : Nat} (r : Rel c (.sl nn xs len cap) (.slice a len cp)) {l h m z : Nat} {cap' : Option Nat} (h1 : l ≤ h) (h2 : h ≤ m) (h3 : m ≤ cp)
    (hlen : h ≤ len) (hc' : ∀ q, cap' = some q → m - l = q) : Rel c (.sl (nn || decide (0 < len)) ((xs.drop (l * z)).take ((h - l) * z)) (h - l) cap') (.slice (if m = l then a else a.map (·.add (l * z))) (h - l) (m - l)) := by
  cases r with
  | sl f hl hm hc hn ha hx hr =>
    have hlm : m - l ≤ maxLen := by omega
    have g : ∀ i x, ((xs.drop (l * z)).take ((h - l) * z))[i]? = some x → xs[l * z + i]? = some x ∧ i < (h - l) * z := fun i x hi => by
      rw [List.getElem?_take] at hi
      split at hi
      · rename_i hlt; rw [List.getElem?_drop] at hi; exact ⟨hi, hlt⟩
      · cases hi
    refine .sl (fun i => f (l * z + i)) (by omega) hlm hc' (fun e => ?_) (fun p e hp => ?_) (fun i x hi => ?_) (fun i x hi => hr _ x (g i x hi).1)
    · have hnone : a = none := by
        split at e
        · exact e
        · cases a with
          | none => rfl
          | some a => cases e
      obtain ⟨e1, e2, e3⟩ := hn hnone
      subst e1 e3
      simp
      omega
    · split at e
      · exact ha p e (by omega)
      · cases a with
        | none => cases e
        | some q =>
          cases e
          have := ha q rfl (by omega)
          simp only [Addr.add]
          split
          · exact this
          · rfl
    · obtain ⟨g1, g2⟩ := g i x hi
      obtain ⟨b, o, e1, e2, e3⟩ := hx _ x g1
      subst e1
      have hne : m ≠ l := by
        intro e
        have : h - l = 0 := by omega
        rw [this] at g2
        omega
      exact ⟨b, o + l * z, by rw [if_neg hne]; simp [addr_add], e2, by rw [Nat.add_assoc]; exact e3⟩

theorem relOwn {c : Ctx} {n ver off len sz : Nat} {rm : Room} {a : Option Addr} {cp : Nat} (r : Rel c (.own n ver off len sz rm) (.slice a len cp)) {l h m : Nat} {nm : Option Nat} (h1 : l ≤ h) (h2 : h ≤ m) (h3 : m ≤ cp) (hlen : h ≤ len)
    (hnm : (nm = none ∧ m = cp) ∨ nm = some m) : Rel c (.own n ver (off + l * sz) (h - l) sz (lowRoom rm l nm)) (.slice (if m = l then a else a.map (·.add (l * sz))) (h - l) (m - l)) := by
  cases r with
  | own hk hv hl hm hn ha =>
    refine .own hk hv (by omega) (by omega) (fun e => ?_) fun e => ?_
    · have hnone : a = none := by
        split at e
        · exact e
        · cases a with
          | none => rfl
          | some a => cases e
      have := hn hnone
      omega
    · rcases ha e with ⟨rfl, rfl, rfl, h4, h5⟩ | ⟨g, o, cs, t, g1, rfl, g3, g4, g5, g6⟩
      · have : l = 0 := by omega
        subst this
        exact .inl ⟨by simp, by omega, by omega, h4, by simp [h5]⟩
      · refine .inr ⟨g, if m = l then o else o + l * sz, cs, t, g1, ?_, ?_, ?_, g5, ?_⟩
        · split
          · rfl
          · simp [addr_add]
        · intro hpos
          rw [if_neg (by omega), g3 (by omega)]
        · have : l * sz + (h - l) * sz = h * sz := by rw [← Nat.add_mul]; congr 1; omega
          have : h * sz ≤ len * sz := Nat.mul_le_mul_right _ hlen
          omega
        · rcases hnm with ⟨rfl, rfl⟩ | rfl
          · simp only [lowRoom]
            by_cases hl0 : l = 0
            · subst hl0
              simp only [if_true, Nat.zero_mul, Nat.add_zero, Nat.sub_zero]
              cases rm with
              | whole e => simp only [ite_self]; exact g6
              | known q => exact g6
              | unk => trivial
            · rw [if_neg hl0]
              cases rm with
              | whole e => trivial
              | known q => simp only at g6 ⊢; omega
              | unk => trivial
          · rfl

theorem aSlice_sound {P : Program} {c : Ctx} {w0 : World} (M : MemOk c w0) {t : TypeId} {x y : AV} {lo hi mx : Option AV} {v : Value} {vl vh vm : Option Value} (h : aSlice P t x lo hi mx c.m = some y) (r : Rel c x v)
    (rl : ∀ y, lo = some y → ∃ u, vl = some u ∧ Rel c y u) (rl' : lo = none → vl = none) (rh : ∀ y, hi = some y → ∃ u, vh = some u ∧ Rel c y u) (rh' : hi = none → vh = none) (rm : ∀ y, mx = some y → ∃ u, vm = some u ∧ Rel c y u) (rm' : mx = none → vm = none) :
    Good P c w0 (Instr.sliceAt t v vl vh vm) (y, none) := by
  unfold aSlice at h
  obtain ⟨nl, hnl, h⟩ := Option.bind_eq_some_iff.1 h
  obtain ⟨nh, hnh, h⟩ := Option.bind_eq_some_iff.1 h
  obtain ⟨nm, hnm, h⟩ := Option.bind_eq_some_iff.1 h
  have el := natOf_sound hnl rl rl'
  have eh := natOf_sound hnh rh rh'
  have em := natOf_sound hnm rm rm'
  split at h
  · cases h
  rename_i hguard
  have h4 : nm ≠ none → nh ≠ none := fun a b => hguard ⟨a, b⟩
  split at h
  · rename_i e he
    have hu := isSl_some he
    obtain ⟨z, hz, h⟩ := Option.bind_eq_some_iff.1 h
    cases x with
    | own n ver off len sz rm0 =>
      simp only at h
      split at h
      · rename_i hb
        obtain ⟨b1, b2, b3, rfl⟩ := hb
        cases h
        obtain ⟨a, cp, rfl⟩ := slLen_sound (n := len) rfl r
        have hl : len ≤ cp := by cases r; assumption
        have hbd := run_sliceBounds (P := P) (w := c.w) (isSlice := true) (len := len) (cap := cp) (m := nm.getD cp) el eh em rfl rfl rfl (by cases nm <;> simp at b3 ⊢; omega) (by cases nm <;> simp at b2 b3 ⊢ <;> omega) b1 h4
        refine Good.same ?_ M (relOwn r (m := nm.getD cp) b1 (by cases nm <;> simp at b2 b3 ⊢ <;> omega) (by cases nm <;> simp at b3 ⊢; omega) (by cases nm <;> simp at b2 b3 <;> omega) (by cases nm <;> simp))
        simp [Instr.sliceAt, Instr.slice, run_underlying hu, hbd, run_sizeOf hz]
      · cases h
    | sl nn xs len cap =>
      simp only at h
      split at h
      · rename_i hb
        obtain ⟨b1, b2, b3⟩ := hb
        cases h
        obtain ⟨a, cp, rfl⟩ := slLen_sound (n := len) rfl r
        have hl : len ≤ cp := by cases r; assumption
        have hcap : ∀ q, cap = some q → cp = q := by cases r; assumption
        have hbd := run_sliceBounds (P := P) (w := c.w) (isSlice := true) (len := len) (cap := cp) (m := nm.getD cp) el eh em rfl rfl rfl (by cases nm <;> simp at b3 ⊢; omega) (by cases nm <;> simp at b2 b3 ⊢ <;> omega) b1 h4
        refine Good.same ?_ M (relSl r (m := nm.getD cp) (z := z) b1 (by cases nm <;> simp at b2 b3 ⊢ <;> omega) (by cases nm <;> simp at b3 ⊢; omega) (by cases nm <;> simp at b2 b3 <;> omega) (fun q hq => ?_))
        · simp [Instr.sliceAt, Instr.slice, run_underlying hu, hbd, run_sizeOf hz]
        · cases nm with
          | none =>
            simp only [Option.map_eq_some_iff] at hq
            obtain ⟨q', e1, rfl⟩ := hq
            simp [hcap q' e1]
          | some q' => simpa using hq
      · cases h
    | v x0 =>
      have hx0 : x0 = .slice none 0 0 := by
        cases x0 with
        | slice a b e =>
          cases a with
          | some => cases h
          | none => cases b with
            | succ => cases h
            | zero => cases e with
              | succ => cases h
              | zero => rfl
        | _ => cases h
      subst hx0
      simp only at h
      split at h
      case isFalse => cases h
      rename_i hb
      obtain ⟨b1, b2, b3⟩ := hb
      cases h
      obtain ⟨rfl, _⟩ := r.inv_v
      have hbd := run_sliceBounds (P := P) (w := c.w) (isSlice := true) (len := 0) (cap := 0) (m := nm.getD 0) el eh em rfl rfl rfl (by omega) (by omega) (by omega) h4
      refine Good.same (v := .slice none 0 0) ?_ M .v
      simp [Instr.sliceAt, Instr.slice, run_underlying hu, hbd, run_sizeOf hz, b1, b2, b3]
    | _ => cases h
  · split at h
    · rename_i N e he
      have hu := isArr_some he
      obtain ⟨z, hz, h⟩ := Option.bind_eq_some_iff.1 h
      split at h
      · rename_i hb
        obtain ⟨b1, b2, b3⟩ := hb
        have hbd := run_sliceBounds (P := P) (w := c.w) (isSlice := false) (len := N) (cap := N) (m := nm.getD N) el eh em rfl rfl rfl b3 b2 b1 h4
        cases x with
        | ptr n ver off =>
          simp only at h
          split at h
          · rename_i k hk
            split at h
            · rename_i hh
              obtain ⟨rfl, hfit, hN⟩ := hh
              cases h
              cases r with
              | @ptr _ _ _ k' a hk' hv ha =>
                rw [hk] at hk'; cases hk'
                obtain ⟨g, cs, tt, hg, rfl, hh⟩ := ha rfl
                · have hc := (M.row hk hg hh).2
                  refine Good.same (v := .slice (some (if nm.getD N = nl.getD 0 then ⟨g, off, none⟩ else (⟨g, off, none⟩ : Addr).add (nl.getD 0 * z))) (nh.getD N - nl.getD 0) (nm.getD N - nl.getD 0)) ?_ M (.own hk (Nat.le_refl _) (by omega) (by simp only [maxLen]; omega) (fun e => by cases e) fun _ => .inr ⟨g, if nm.getD N = nl.getD 0 then off else off + nl.getD 0 * z, cs, tt, hg, ?_, ?_, ?_, hh, rfl⟩)
                  · simp [Instr.sliceAt, run_underlying hu, hbd, run_sizeOf hz, Instr.sureAddr]
                  · split <;> simp [addr_add]
                  · intro hpos; rw [if_neg (by omega)]
                  · have e1 : nl.getD 0 * z + (nh.getD N - nl.getD 0) * z = nh.getD N * z := by rw [← Nat.add_mul]; congr 1; omega
                    have e2 : nh.getD N * z ≤ N * z := Nat.mul_le_mul_right _ (by omega)
                    omega
            · cases h
          · cases h
        | at_ xs =>
          simp only at h
          split at h
          · rename_i hN
            cases h
            cases r with
            | @at_ _ b o f hx hr =>
              have r0 : Rel c (.sl true xs N (some N)) (.slice (some ⟨b, o, none⟩) N N) :=
                .sl f (Nat.le_refl _) (by simp only [maxLen]; omega) (fun q e => by cases e; rfl) (fun e => by cases e) (fun p e _ => by cases e; rfl) (fun i x hi => ⟨b, o, rfl, hx i x hi⟩) hr
              have := relSl r0 (m := nm.getD N) (z := z) (cap' := some (nm.getD N - nl.getD 0)) b1 b2 b3 (by omega) (fun q e => by cases e; rfl)
              simp only [Bool.true_or] at this
              refine Good.same ?_ M this
              simp [Instr.sliceAt, run_underlying hu, hbd, run_sizeOf hz, Instr.sureAddr]
              split <;> rfl
          · cases h
        | _ => cases h
      · cases h
    · cases h
end Go.Pm
