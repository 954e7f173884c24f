/- Walks of sum.Of, sum.Update, of their references, and of the page's examples. -/
import Derived.Test.YtamjhaomdfeemaaSa
namespace Go.Proofs.Ytamjhaomdfeemaa
open Go.RowKit Go.Wb
set_option linter.unusedVariables false

/-- Bytes that lie in memory. -/
structure Row8 (w : World) (a : Option Addr) (len cap : Nat) (zs : List Int) : Prop where
  length : zs.length = len
  le : len ≤ cap
  cap_le : cap ≤ 9223372036854775807
  cells : ∀ i, i < len → ∃ b off, a = some ⟨b, off, none⟩ ∧ b < w.heap.size ∧ w.cell? ⟨b, off + i, none⟩ = some (.int .u8 (zs.getD i 0))
  bytes : ∀ x ∈ zs, 0 ≤ x ∧ x ≤ 255
  bare : a = none → cap = 0

theorem Row8.below {w w' : World} {a : Option Addr} {len cap : Nat} {zs : List Int} (h : Row8 w a len cap zs) (hb : Below w.heap.size w w') : Row8 w' a len cap zs :=
  ⟨h.length, h.le, h.cap_le, fun i hi => let ⟨b, off, e, hlt, hc⟩ := h.cells i hi; ⟨b, off, e, Nat.lt_of_lt_of_le hlt hb.size, (hb.cell (p := ⟨b, off + i, none⟩) hlt).trans hc⟩, h.bytes, h.bare⟩
theorem Row8.nil (w : World) : Row8 w none 0 0 [] := ⟨rfl, Nat.le_refl _, by omega, fun i hi => absurd hi (Nat.not_lt_zero _), by simp, fun _ => rfl⟩
theorem Row8.getD {w : World} {a : Option Addr} {len cap : Nat} {zs : List Int} (h : Row8 w a len cap zs) (i : Nat) : 0 ≤ zs.getD i 0 ∧ zs.getD i 0 ≤ 255 := by
  rw [List.getD_eq_getElem?_getD]
  cases hx : zs[i]? with
  | none => simp
  | some x => exact h.bytes x (List.mem_of_getElem? hx)

theorem Row8.block {w : World} {b len cap : Nat} {zs : List Int} {cs : Array Value} {t : TypeId} (h : w.heap[b]? = some (.cells cs t (0, 0))) (hz : ∀ i, i < len → cs[i]? = some (.int .u8 (zs.getD i 0))) (hl : zs.length = len) (hc : len ≤ cap) (hcap : cap ≤ 9223372036854775807) (hb : ∀ x ∈ zs, 0 ≤ x ∧ x ≤ 255) : Row8 w (some ⟨b, 0, none⟩) len cap zs :=
  ⟨hl, hc, hcap, fun i hi => ⟨b, 0, rfl, lt_of_heap h, by rw [Nat.zero_add]; exact cell_of i h (hz i hi)⟩, hb, fun h => by cases h⟩

theorem add_row {w : World} {a : Option Addr} {len cap : Nat} {zs : List Int} (h : Row8 w a len cap zs) (hl : len ≤ 1099511627776) (s : Int) (o : Bool) (s0 : 0 ≤ s) (s1 : s ≤ 65535) :
    Calls Try.prog 18 #[.agg #[.int .u16 s, .bool o], .slice a len cap] w fun e w' => e = .returned (.agg #[.int .u16 (sumTo s o zs), .bool (par o len)]) ∧ Below w.heap.size w w' :=
  add_any s o a len cap zs w s0 s1 h.length h.le h.cap_le hl h.cells h.bytes
theorem radd_row {w : World} {a : Option Addr} {len cap : Nat} {zs : List Int} (h : Row8 w a len cap zs) (hl : len ≤ 1099511627776) (s : Int) (o : Bool) (s0 : 0 ≤ s) (s1 : s ≤ 65535) :
    Calls Try.prog 19 #[.agg #[.int .u16 s, .bool o], .slice a len cap] w fun e w' => e = .returned (.agg #[.int .u16 (sumTo s o zs), .bool (par o len)]) ∧ Below w.heap.size w w' :=
  radd_any s o a len cap zs w s0 s1 h.length hl h.cells h.bytes

theorem sumTo_range {s : Int} {o : Bool} {zs : List Int} (s0 : 0 ≤ s) (hb : ∀ x ∈ zs, 0 ≤ x ∧ x ≤ 255) : 0 ≤ sumTo s o zs ∧ sumTo s o zs ≤ 65535 := by
  have := ws_nonneg o zs hb
  exact cn_range (by omega)

theorem of_row {w : World} {a : Option Addr} {len cap : Nat} {zs : List Int} (h : Row8 w a len cap zs) (hl : len ≤ 1099511627776) :
    Calls Try.prog 16 #[.slice a len cap] w fun e w' => e = .returned (.int .u16 (65535 - sumTo 0 false zs)) ∧ Below w.heap.size w w' := by
  have hr := sumTo_range (s := 0) (o := false) (Int.le_refl 0) h.bytes
  have H := Lib.hid (add_row h hl 0 false (by omega) (by omega))
  clear h
  obtain ⟨t, ht⟩ : ∃ t, sumTo 0 false zs = t := ⟨_, rfl⟩
  rw [ht] at hr H ⊢
  clear ht
  obtain ⟨t0, t1⟩ := hr
  go_enter Try.func16, Try.ntmps16
  go_wp2_with fail
  refine (H.out).mono ?_
  rintro e w1 ⟨rfl, hb⟩
  have HB := Lib.hid hb
  clear hb
  go_wp2_with fail
  refine (end_any t _ _ t0 t1).mono ?_
  rintro e w2 ⟨rfl, hb⟩
  have HB2 := Lib.hid hb
  clear hb
  go_wp2_with fail
  go_ret
  exact ⟨rfl, HB.out.trans (HB2.out.mono HB.out.size)⟩

theorem rof_row {w : World} {a : Option Addr} {len cap : Nat} {zs : List Int} (h : Row8 w a len cap zs) (hl : len ≤ 1099511627776) :
    Calls Try.prog 17 #[.slice a len cap] w fun e w' => e = .returned (.int .u16 (65535 - sumTo 0 false zs)) ∧ Below w.heap.size w w' := by
  have hr := sumTo_range (s := 0) (o := false) (Int.le_refl 0) h.bytes
  have H := Lib.hid (radd_row h hl 0 false (by omega) (by omega))
  clear h
  obtain ⟨t, ht⟩ : ∃ t, sumTo 0 false zs = t := ⟨_, rfl⟩
  rw [ht] at hr H ⊢
  clear ht
  obtain ⟨t0, t1⟩ := hr
  go_enter Try.func17, Try.ntmps17
  go_wp2_with fail
  refine (H.out).mono ?_
  rintro e w1 ⟨rfl, hb⟩
  have HB := Lib.hid hb
  clear hb
  go_wp2_with fail
  refine (rend_any t _ _ t0 t1).mono ?_
  rintro e w2 ⟨rfl, hb⟩
  have HB2 := Lib.hid hb
  clear hb
  go_wp2_with fail
  go_ret
  exact ⟨rfl, HB.out.trans (HB2.out.mono HB.out.size)⟩

theorem update_any (s f t : Int) (w : World) (s0 : 0 ≤ s) (s1 : s ≤ 65535) (f0 : 0 ≤ f) (f1 : f ≤ 65535) (t0 : 0 ≤ t) (t1 : t ≤ 65535) :
    Calls Try.prog 22 #[.int .u16 s, .int .u16 f, .int .u16 t] w fun e w' => e = .returned (.int .u16 (65535 - cn (65535 - s + (65535 - f) + t))) ∧ w = w' := by
  have n1 := not_u16 s s0 s1
  have n2 := not_u16 f f0 f1
  have hr := cn_range (n := 65535 - s + (65535 - f) + t) (by omega)
  have n3 := Lib.hid (not_u16 _ hr.1 hr.2)
  go_enter Try.func22, Try.ntmps22
  go_wp2_with fail
  rw [IntWalk.u64_in (65535 - s) (by omega), IntWalk.u64_in (65535 - f) (by omega), IntWalk.u64_in (65535 - s + (65535 - f)) (by omega), IntWalk.u64_in (65535 - s + (65535 - f) + t) (by omega)]
  refine (fold_any (65535 - s + (65535 - f) + t) _ (by omega) (by omega)).mono ?_
  rintro e w2 ⟨rfl, rfl⟩
  go_wp2_with fail
  go_ret
  exact ⟨ret_int n3.out, rfl⟩

theorem rupdate_any (s f t : Int) (w : World) (s0 : 0 ≤ s) (s1 : s ≤ 65535) (f0 : 0 ≤ f) (f1 : f ≤ 65535) (t0 : 0 ≤ t) (t1 : t ≤ 65535) :
    Calls Try.prog 35 #[.int .u16 s, .int .u16 f, .int .u16 t] w fun e w' => e = .returned (.int .u16 (65535 - cn (65535 - s + (65535 - f) + t))) ∧ w = w' := by
  have hr := cn_range (n := 65535 - s + (65535 - f)) (by omega)
  have hr2 := cn_range (n := 65535 - s + (65535 - f) + t) (by omega)
  have ha := Lib.hid (cn_add (a := 65535 - s + (65535 - f)) (b := t) (by omega) t0)
  obtain ⟨q, hq⟩ : ∃ q, cn (65535 - s + (65535 - f)) = q := ⟨_, rfl⟩
  obtain ⟨q2, hq2⟩ : ∃ q, cn (65535 - s + (65535 - f) + t) = q := ⟨_, rfl⟩
  rw [hq] at hr ha
  rw [hq2] at hr2 ha ⊢
  have HQ := Lib.hid hq
  clear hq hq2
  obtain ⟨q0, q1⟩ := hr
  go_enter Try.func35, Try.ntmps35
  go_wp2_with fail
  refine (plus_any (65535 - s) (65535 - f) _ (by omega) (by omega) (by omega) (by omega)).mono ?_
  rintro e w2 ⟨rfl, rfl⟩
  rw [HQ.out]
  go_wp2_with fail
  refine (plus_any q t _ q0 q1 t0 t1).mono ?_
  rintro e w2 ⟨rfl, rfl⟩
  rw [ha.out]
  go_wp2_with fail
  go_ret
  exact ⟨rfl, rfl⟩
set_option maxRecDepth 100000 in
theorem known1_any (w : World) : Calls Try.prog 15 #[] w fun e w' => e = .returned (.bool true) ∧ Below w.heap.size w w' := by
  go_enter Try.func15, Try.ntmps15
  go_wp2_with fail
  refine (of_row (Row8.nil w) (by omega)).mono ?_
  rintro e w1 ⟨rfl, hb⟩
  have HB := Lib.hid hb
  clear hb
  rw [show sumTo 0 false [] = 0 from by decide]
  go_wp2_with fail
  have R := Row8.block (len := 8) (cap := 8) (zs := [0, 1, 242, 3, 244, 245, 246, 247]) (heap_alloc_new w1 (Obj.cells #[.int .u8 0, .int .u8 1, .int .u8 242, .int .u8 3, .int .u8 244, .int .u8 245, .int .u8 246, .int .u8 247] 5))
    (fun i hi => by match i, hi with | 0, _ => rfl | 1, _ => rfl | 2, _ => rfl | 3, _ => rfl | 4, _ => rfl | 5, _ => rfl | 6, _ => rfl | 7, _ => rfl) rfl (by omega) (by omega) (by decide)
  have HB1 := Lib.hid (HB.out.alloc HB.out.size (Obj.cells #[.int .u8 0, .int .u8 1, .int .u8 242, .int .u8 3, .int .u8 244, .int .u8 245, .int .u8 246, .int .u8 247] 5))
  refine (of_row R (by omega)).mono ?_
  rintro e w2 ⟨rfl, hb⟩
  have HB2 := Lib.hid (HB1.out.trans (hb.mono HB1.out.size))
  clear hb HB1 HB R
  rw [show sumTo 0 false [0, 1, 242, 3, 244, 245, 246, 247] = 56818 from by decide]
  go_wp2_with fail
  refine (end_any 1 _ _ (by omega) (by omega)).mono ?_
  rintro e w3 ⟨rfl, hb⟩
  have HB3 := Lib.hid (HB2.out.trans (hb.mono HB2.out.size))
  clear hb HB2
  go_wp2_with fail
  go_ret
  exact ⟨rfl, HB3.out⟩
end Go.Proofs.Ytamjhaomdfeemaa
