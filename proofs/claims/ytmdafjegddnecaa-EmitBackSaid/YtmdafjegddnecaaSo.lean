/- Walks of sum.Of, sum.Update, of their references, and of the page's examples. -/
import Derived.Test.YtmdafjegddnecaaSa
namespace Go.Proofs.Ytmdafjegddnecaa
open Go.RowKit Go.Wb
set_option linter.unusedVariables false

/-- Bytes that lie in memory. -/
structure Row8 (w : World) (a : Option Addr) (len cap : Nat) (zs : List Int) : Prop where
  length : zs.length = len
  le : len ≤ cap
  cap_le : cap ≤ 9223372036854775807
  cells : ∀ i, i < len → ∃ b off, a = some ⟨b, off, none⟩ ∧ b < w.heap.size ∧ w.cell? ⟨b, off + i, none⟩ = some (.int .u8 (zs.getD i 0))
  bytes : ∀ x ∈ zs, 0 ≤ x ∧ x ≤ 255
  bare : a = none → cap = 0

theorem Row8.below {w w' : World} {a : Option Addr} {len cap : Nat} {zs : List Int} (h : Row8 w a len cap zs) (hb : Below w.heap.size w w') : Row8 w' a len cap zs :=
  ⟨h.length, h.le, h.cap_le, fun i hi => let ⟨b, off, e, hlt, hc⟩ := h.cells i hi; ⟨b, off, e, Nat.lt_of_lt_of_le hlt hb.size, (hb.cell (p := ⟨b, off + i, none⟩) hlt).trans hc⟩, h.bytes, h.bare⟩
theorem Row8.nil (w : World) : Row8 w none 0 0 [] := ⟨rfl, Nat.le_refl _, by omega, fun i hi => absurd hi (Nat.not_lt_zero _), by simp, fun _ => rfl⟩
theorem Row8.getD {w : World} {a : Option Addr} {len cap : Nat} {zs : List Int} (h : Row8 w a len cap zs) (i : Nat) : 0 ≤ zs.getD i 0 ∧ zs.getD i 0 ≤ 255 := by
  rw [List.getD_eq_getElem?_getD]
  cases hx : zs[i]? with
  | none => simp
  | some x => exact h.bytes x (List.mem_of_getElem? hx)

theorem Row8.block {w : World} {b len cap : Nat} {zs : List Int} {cs : Array Value} {t : TypeId} (h : w.heap[b]? = some (.cells cs t (0, 0))) (hz : ∀ i, i < len → cs[i]? = some (.int .u8 (zs.getD i 0))) (hl : zs.length = len) (hc : len ≤ cap) (hcap : cap ≤ 9223372036854775807) (hb : ∀ x ∈ zs, 0 ≤ x ∧ x ≤ 255) : Row8 w (some ⟨b, 0, none⟩) len cap zs :=
  ⟨hl, hc, hcap, fun i hi => ⟨b, 0, rfl, lt_of_heap h, by rw [Nat.zero_add]; exact cell_of i h (hz i hi)⟩, hb, fun h => by cases h⟩

theorem add_row {w : World} {a : Option Addr} {len cap : Nat} {zs : List Int} (h : Row8 w a len cap zs) (hl : len ≤ 1099511627776) (s : Int) (o : Bool) (s0 : 0 ≤ s) (s1 : s ≤ 65535) :
    Calls Try.prog 118 #[.agg #[.int .u16 s, .bool o], .slice a len cap] w fun e w' => e = .returned (.agg #[.int .u16 (sumTo s o zs), .bool (par o len)]) ∧ Below w.heap.size w w' :=
  add_any s o a len cap zs w s0 s1 h.length h.le h.cap_le hl h.cells h.bytes
theorem radd_row {w : World} {a : Option Addr} {len cap : Nat} {zs : List Int} (h : Row8 w a len cap zs) (hl : len ≤ 1099511627776) (s : Int) (o : Bool) (s0 : 0 ≤ s) (s1 : s ≤ 65535) :
    Calls Try.prog 122 #[.agg #[.int .u16 s, .bool o], .slice a len cap] w fun e w' => e = .returned (.agg #[.int .u16 (sumTo s o zs), .bool (par o len)]) ∧ Below w.heap.size w w' :=
  radd_any s o a len cap zs w s0 s1 h.length hl h.cells h.bytes

theorem sumTo_range {s : Int} {o : Bool} {zs : List Int} (s0 : 0 ≤ s) (hb : ∀ x ∈ zs, 0 ≤ x ∧ x ≤ 255) : 0 ≤ sumTo s o zs ∧ sumTo s o zs ≤ 65535 := by
  have := ws_nonneg o zs hb
  exact cn_range (by omega)

theorem of_row {w : World} {a : Option Addr} {len cap : Nat} {zs : List Int} (h : Row8 w a len cap zs) (hl : len ≤ 1099511627776) :
    Calls Try.prog 101 #[.slice a len cap] w fun e w' => e = .returned (.int .u16 (65535 - sumTo 0 false zs)) ∧ Below w.heap.size w w' := by
  have hr := sumTo_range (s := 0) (o := false) (Int.le_refl 0) h.bytes
  have H := Lib.hid (add_row h hl 0 false (by omega) (by omega))
  clear h
  obtain ⟨t, ht⟩ : ∃ t, sumTo 0 false zs = t := ⟨_, rfl⟩
  rw [ht] at hr H ⊢
  clear ht
  obtain ⟨t0, t1⟩ := hr
  go_enter Try.func101, Try.ntmps101
  go_wp2_with fail
  refine (H.out).mono ?_
  rintro e w1 ⟨rfl, hb⟩
  have HB := Lib.hid hb
  clear hb
  go_wp2_with fail
  refine (end_any t _ _ t0 t1).mono ?_
  rintro e w2 ⟨rfl, hb⟩
  have HB2 := Lib.hid hb
  clear hb
  go_wp2_with fail
  go_ret
  exact ⟨rfl, HB.out.trans (HB2.out.mono HB.out.size)⟩

theorem rof_row {w : World} {a : Option Addr} {len cap : Nat} {zs : List Int} (h : Row8 w a len cap zs) (hl : len ≤ 1099511627776) :
    Calls Try.prog 142 #[.slice a len cap] w fun e w' => e = .returned (.int .u16 (65535 - sumTo 0 false zs)) ∧ Below w.heap.size w w' := by
  have hr := sumTo_range (s := 0) (o := false) (Int.le_refl 0) h.bytes
  have H := Lib.hid (radd_row h hl 0 false (by omega) (by omega))
  clear h
  obtain ⟨t, ht⟩ : ∃ t, sumTo 0 false zs = t := ⟨_, rfl⟩
  rw [ht] at hr H ⊢
  clear ht
  obtain ⟨t0, t1⟩ := hr
  go_enter Try.func142, Try.ntmps142
  go_wp2_with fail
  refine (H.out).mono ?_
  rintro e w1 ⟨rfl, hb⟩
  have HB := Lib.hid hb
  clear hb
  go_wp2_with fail
  refine (rend_any t _ _ t0 t1).mono ?_
  rintro e w2 ⟨rfl, hb⟩
  have HB2 := Lib.hid hb
  clear hb
  go_wp2_with fail
  go_ret
  exact ⟨rfl, HB.out.trans (HB2.out.mono HB.out.size)⟩

end Go.Proofs.Ytmdafjegddnecaa
