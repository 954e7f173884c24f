/- The seat's arguments as values; contracts that were walked: the checksums of segments. -/
import Derived.Test.YtmdafjegddnecaaQb
import Derived.Test.YtmdafjegddnecaaTb
import Derived.Test.YtmdafjegddnecaaSr
namespace Go.Proofs.Ytmdafjegddnecaa
open Go.RowKit Go.Wb Go.Pm
set_option linter.unusedVariables false
set_option linter.unusedSimpArgs false

theorem rel_row {w : World} {a : Option Addr} {len cap : Nat} {zs : List Int} (h : Row8 w a len cap zs) : Rel (noneAt w) (.sl false (B8 zs) len none) (.slice a len cap) := by
  have g : ∀ (i : Nat) x, (B8 zs)[i]? = some x → i < len ∧ x = .v (.int .u8 (zs.getD i 0)) := fun i x hi => by
    have hlt : i < zs.length := by have := (List.getElem?_eq_some_iff.1 hi).1; simpa [B8] using this
    rw [B8_get _ _ hlt] at hi
    cases hi
    exact ⟨by have := h.length; omega, rfl⟩
  refine .sl (fun i => .int .u8 (zs.getD i 0)) h.le (by have := h.cap_le; simp only [maxLen]; omega) (fun q e => by cases e) (fun e => ⟨rfl, h.bare e, by have := h.bare e; have := h.le; omega⟩) (fun p e hp => ?_) (fun i x hi => ?_) (fun i x hi => ?_)
  · obtain ⟨b, o, e2, _⟩ := h.cells 0 hp
    rw [e2] at e; cases e; rfl
  · obtain ⟨b, o, e2, _, e3⟩ := h.cells i (g i x hi).1
    exact ⟨b, o, e2, (fun ⟨n, k, h, _⟩ => by cases h), e3⟩
  · rw [(g i x hi).2]; exact .v
theorem relL_ints (c : Ctx) (ss : List Int) : RelL c (B8 ss) (ss.map (Value.int .u8)) := by
  induction ss with
  | nil => exact .nil c
  | cons s ss ih => exact .cons .v ih
theorem rel_ar (c : Ctx) (ss : List Int) : Rel c (.agg (B8 ss)) (.agg (ar ss)) := .mkAgg (relL_ints c ss)
theorem ar_of {c : Ctx} {ss : List Int} {v : Value} (r : Rel c (.agg (B8 ss)) v) : v = .agg (ar ss) := by
  obtain ⟨cs, rfl, rl⟩ := r.inv_agg
  have := relL_B8 rl
  rw [ar, ← this]
theorem row_of {w : World} {nn : Bool} {zs : List Int} {len : Nat} {cap : Option Nat} {v : Value} (r : Rel (noneAt w) (.sl nn (B8 zs) len cap) v) (hl : zs.length = len) (hb : ∀ x ∈ zs, 0 ≤ x ∧ x ≤ 255) : ∃ a cp, v = .slice a len cp ∧ Row8 w a len cp zs := by
  cases r with
  | @sl _ _ _ _ a cp f h1 h2 h3 h4 h5 h6 h7 =>
    refine ⟨a, cp, rfl, hl, h1, by simp only [maxLen] at h2; omega, fun i hi => ?_, hb, fun e => (h4 e).2.1⟩
    have hx := B8_get zs i (by omega)
    obtain ⟨b, o, e1, _, e3⟩ := h6 i _ hx
    have := (h7 i _ hx).inv_v.1
    rw [this] at e3
    exact ⟨b, o, e1, World.block_lt_of_cell? w _ e3, e3⟩

/-- All are bytes. -/
def bytesB (zs : List Int) : Bool := zs.all fun z => decide (0 ≤ z) && decide (z ≤ 255)
theorem bytesB_iff {zs : List Int} : bytesB zs = true ↔ ∀ x ∈ zs, 0 ≤ x ∧ x ≤ 255 := by simp [bytesB, List.all_eq_true]
theorem bytesB_drop {zs : List Int} (h : bytesB zs = true) (k : Nat) : bytesB (zs.drop k) = true := by
  rw [bytesB_iff] at h ⊢; exact fun x hx => h x (List.mem_of_mem_drop hx)
theorem bytesB_take {zs : List Int} (h : bytesB zs = true) (k : Nat) : bytesB (zs.take k) = true := by
  rw [bytesB_iff] at h ⊢; exact fun x hx => h x (List.mem_of_mem_take hx)
theorem bytesB_append (a b : List Int) : bytesB (a ++ b) = (bytesB a && bytesB b) := by simp [bytesB]
theorem bytesB_cons (x : Int) (b : List Int) : bytesB (x :: b) = (decide (0 ≤ x) && decide (x ≤ 255) && bytesB b) := rfl
/-- A byte by its place. -/
def gb (zs : List Int) (i : Nat) : Int := zs.getD i 0
theorem gb_range {zs : List Int} (h : bytesB zs = true) (i : Nat) : 0 ≤ gb zs i ∧ gb zs i ≤ 255 := by
  unfold gb
  rw [List.getD_eq_getElem?_getD]
  cases hx : zs[i]? with
  | none => simp
  | some x => exact bytesB_iff.1 h x (List.mem_of_getElem? hx)
theorem B8_at0 (zs : List Int) (k : Nat) (h : k < zs.length) : (B8 (zs.drop k))[0]? = some (.v (.int .u8 (gb zs k))) := B8_get0 zs k h
theorem B8_at00 (zs : List Int) (h : 0 < zs.length) : (B8 zs)[0]? = some (.v (.int .u8 (gb zs 0))) := B8_get zs 0 h

def fCk (v6 s d p b : AV) : Option (AV × List (List AV)) :=
  match v6, s, d, p, b with
  | .v (.bool v6), .agg s, .agg d, .v (.int .u8 p), .sl nn b len cap => (asB8 s).bind fun ss => (asB8 d).bind fun ds => (asB8 b).bind fun zs =>
    if ss.length = 16 ∧ ds.length = 16 ∧ zs.length = len ∧ len ≤ 1099511627776 ∧ bytesB ss = true ∧ bytesB ds = true ∧ bytesB zs = true ∧ 0 ≤ p ∧ p ≤ 255 then some (.v (.int .u16 (ck v6 ss ds p zs)), []) else none
  | _, _, _, _, _ => none
/-- The checksum of a segment behind its pseudo header, as a function of values. -/
def fSealed : Fun
  | [v6, s, d, p, b] => fCk v6 s d p b
  | _ => none
theorem ck_pure {f : FuncId} (h : ∀ (w : World) (a : Option Addr) (len cap : Nat) (zs : List Int) (v6 : Bool) (ss ds : List Int) (pr : Int), Row8 w a len cap zs → len ≤ 1099511627776 → ss.length = 16 → ds.length = 16 → (∀ x ∈ ss, 0 ≤ x ∧ x ≤ 255) → (∀ x ∈ ds, 0 ≤ x ∧ x ≤ 255) → 0 ≤ pr → pr ≤ 255 →
    Calls Try.prog f #[.bool v6, .agg (ar ss), .agg (ar ds), .int .u8 pr, .slice a len cap] w fun e w' => e = .returned (.int .u16 (ck v6 ss ds pr zs)) ∧ Below w.heap.size w w') : Pure Try.prog f fSealed := by
  refine pure_plain fun w args vs r bs ra hr => ?_
  unfold fSealed at hr
  split at hr
  · rename_i v6 s d p b
    unfold fCk at hr
    split at hr
    · rename_i v6 s d p nn b len cap
      obtain ⟨ss, h1, hr⟩ := Option.bind_eq_some_iff.1 hr
      obtain ⟨ds, h2, hr⟩ := Option.bind_eq_some_iff.1 hr
      obtain ⟨zs, h3, hr⟩ := Option.bind_eq_some_iff.1 hr
      split at hr
      case isFalse => cases hr
      rename_i hh
      obtain ⟨hs, hd, hz, hl, bs', bd, bz, p0, p1⟩ := hh
      cases hr
      obtain rfl := asB8_eq h1
      obtain rfl := asB8_eq h2
      obtain rfl := asB8_eq h3
      obtain ⟨x0, l0, e0, r0, ra⟩ := ra.inv_cons
      obtain ⟨x1, l1, rfl, r1, ra⟩ := ra.inv_cons
      obtain ⟨x2, l2, rfl, r2, ra⟩ := ra.inv_cons
      obtain ⟨x3, l3, rfl, r3, ra⟩ := ra.inv_cons
      obtain ⟨x4, l4, rfl, r4, ra⟩ := ra.inv_cons
      obtain rfl := ra.inv_nil
      obtain ⟨a, cp, rfl, hrow⟩ := row_of r4 hz (bytesB_iff.1 bz)
      obtain rfl := ar_of r1
      obtain rfl := ar_of r2
      obtain rfl := r0.inv_v.1
      obtain rfl := r3.inv_v.1
      obtain rfl : vs = #[.bool v6, .agg (ar ss), .agg (ar ds), .int .u8 p, .slice a len cp] := by
        cases vs; simp at e0; rw [e0]
      refine ⟨rfl, (h w a len cp zs v6 ss ds p hrow hl hs hd (bytesB_iff.1 bs') (bytesB_iff.1 bd) p0 p1).mono ?_⟩
      rintro e w' ⟨rfl, hb⟩
      exact ⟨_, rfl, hb, .v⟩
    · cases hr
  · cases hr
theorem sealed_pure : Pure Try.prog 136 fSealed := ck_pure fun w a len cap zs v6 ss ds pr h hl hs hd bs bd p0 p1 => sealed_any v6 ss ds pr h hl hs hd bs bd p0 p1
theorem right_pure : Pure Try.prog 59 fSealed := ck_pure fun w a len cap zs v6 ss ds pr h hl hs hd bs bd p0 p1 => right_any v6 ss ds pr h hl hs hd bs bd p0 p1
end Go.Proofs.Ytmdafjegddnecaa
