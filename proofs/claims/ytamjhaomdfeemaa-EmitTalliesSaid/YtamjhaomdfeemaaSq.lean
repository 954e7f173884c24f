/- The walk of the law SumParts. -/
import Derived.Test.YtamjhaomdfeemaaLw
import Derived.Deep.RegionHeld3
namespace Go.Proofs.Ytamjhaomdfeemaa
open Go.RowKit Go.Wb
set_option linter.unusedVariables false

theorem below_next {w0 w w' : World} (h : Hid (Below w0.heap.size w0 w)) (k : Below w.heap.size w w') : Hid (Below w0.heap.size w0 w') := h.out.trans (k.mono h.out.size)
theorem below_drew {w0 w : World} (h : Hid (Below w0.heap.size w0 w)) : Hid (Below w0.heap.size w0 w.drew) := Below.drew h.out
theorem below_drewN {w0 w : World} (h : Hid (Below w0.heap.size w0 w)) (n : Nat) : Hid (Below w0.heap.size w0 (w.drewN n)) := ⟨h.out.os, h.out.tape, h.out.output, h.out.size, h.out.block⟩

set_option maxRecDepth 100000 in
set_option maxHeartbeats 1000000 in
theorem sumParts_main (s : Int) (o : Bool) (a : Option Addr) (len cap : Nat) (zs : List Int) (w : World) (s0 : 0 ≤ s) (s1 : s ≤ 65535) (h : Row8 w a len cap zs) :
    Calls Try.prog 3 #[.agg #[.int .u16 s, .bool o], .slice a len cap] w fun e w' => e = .returned (.bool true) ∧ Below w.heap.size w w' := by
  have H := Lib.hid h
  clear h
  have hcap := H.out.cap_le
  have hle := H.out.le
  by_cases hl : len ≤ 4000
  · go_enter Try.func3, Try.ntmps3
    have BB : Hid (Below w.heap.size w ((w.alloc (Obj.cells #[Value.int IntKind.u16 s, Value.bool o] 24)).alloc (Obj.cells #[] 5))) := ((Below.refl w.heap.size w).alloc (Nat.le_refl _) _).alloc (by simp) _
    have HG : Hid (((w.alloc (Obj.cells #[Value.int IntKind.u16 s, Value.bool o] 24)).alloc (Obj.cells #[] 5)).heap[w.heap.size + 1]? = some (.cells #[] 5 (0, 0))) := by
      have := heap_alloc_new (w.alloc (Obj.cells #[Value.int IntKind.u16 s, Value.bool o] 24)) (Obj.cells #[] 5); rwa [World.size_alloc] at this
    have HP : Hid (((w.alloc (Obj.cells #[Value.int IntKind.u16 s, Value.bool o] 24)).alloc (Obj.cells #[] 5)).heap[w.heap.size]? = some (.cells #[.int .u16 s, .bool o] 24 (0, 0))) := hold_alloc (heap_alloc_new w _)
    go_wp2_with (at_builtin; refine wpList_copy8 rfl _ _ rfl (w.heap.size + 1) rfl HG.out a len cap zs rfl (H.out.below BB.out) (by omega) ?_; intro a' cap' w1 hr1 hg1 hb1)
    have B1 : Hid (Below w.heap.size w w1) := BB.out.grown hg1 BB.out.size (by intro k hk; cases hk; omega)
    have P0 : w1.heap[w.heap.size]? = some (.cells #[.int .u16 s, .bool o] 24 (0, 0)) := (hg1.block _ (lt_of_heap HP.out) (by simp)).trans HP.out
    have R1 : Hid (∀ W, Hid (Below w1.heap.size w1 W) → Row8 W a' len cap' zs) := fun W h => hr1.below h.out
    have R0 : Hid (∀ W, Hid (Below w1.heap.size w1 W) → Row8 W a len cap zs) := fun W h => (H.out.below B1.out).below h.out
    have P1 : Hid (∀ W, Hid (Below w1.heap.size w1 W) → W.heap[w.heap.size]? = some (.cells #[.int .u16 s, .bool o] 24 (0, 0))) := fun W h => Below.at h.out P0 (lt_of_heap P0)
    have KEEP : Hid (∀ W, Hid (Below w1.heap.size w1 W) → Hid (Below w1.heap.size w1 W) ∧ W.cell? ⟨w.heap.size, 0, none⟩ = some (.int .u16 s) ∧ W.cell? ⟨w.heap.size, 1, none⟩ = some (.bool o) ∧
        (convert 25 9 (.slice a' len cap')).run Try.prog W = .ok (.string (bstr zs)) W ∧ (convert 25 9 (.slice a len cap)).run Try.prog W = .ok (.string (bstr zs)) W) :=
      fun W h => ⟨h, cell_of 0 (P1.out W h) rfl, cell_of 1 (P1.out W h) rfl, run_str (R1.out W h), run_str (R0.out W h)⟩
    have start : Hid (Below w1.heap.size w1 w1) := Below.refl _ _
    have OF := Lib.hid (fun W h => of_row (R1.out W h) (by omega))
    have ROF := Lib.hid (fun W h => rof_row (R0.out W h) (by omega))
    have ADD := Lib.hid (fun W h => add_row (R1.out W h) (by omega) s o s0 s1)
    have RADD := Lib.hid (fun W h => radd_row (R0.out W h) (by omega) s o s0 s1)
    clear BB HG HP hr1 hg1 hb1 P0
    go_region_held3 (fun W => Hid (Below w1.heap.size w1 W) ∧ W.cell? ⟨w.heap.size, 0, none⟩ = some (.int .u16 s) ∧ W.cell? ⟨w.heap.size, 1, none⟩ = some (.bool o) ∧
        (convert 25 9 (.slice a' len cap')).run Try.prog W = .ok (.string (bstr zs)) W ∧ (convert 25 9 (.slice a len cap)).run Try.prog W = .ok (.string (bstr zs)) W)
      (first | exact KEEP.out _ (by assumption) | exact KEEP.out _ (below_drew (by assumption)))
      (first
        | (go_at_call 16; have hh := (‹Hid (Below w1.heap.size w1 _) ∧ _›).1; refine (OF.out _ hh).mono ?_; rintro e W' ⟨rfl, hb'⟩; have hb2 := below_next hh hb'; clear hb' hh)
        | (go_at_call 17; have hh := (‹Hid (Below w1.heap.size w1 _) ∧ _›).1; refine (ROF.out _ hh).mono ?_; rintro e W' ⟨rfl, hb'⟩; have hb2 := below_next hh hb'; clear hb' hh)
        | (go_at_call 18; have hh := (‹Hid (Below w1.heap.size w1 _) ∧ _›).1; refine (ADD.out _ hh).mono ?_; rintro e W' ⟨rfl, hb'⟩; have hb2 := below_next hh hb'; clear hb' hh)
        | (go_at_call 19; have hh := (‹Hid (Below w1.heap.size w1 _) ∧ _›).1; refine (RADD.out _ hh).mono ?_; rintro e W' ⟨rfl, hb'⟩; have hb2 := below_next hh hb'; clear hb' hh)
        | (go_at_call 20; have hh := (‹Hid (Below w1.heap.size w1 _) ∧ _›).1; refine (end_any s o _ s0 s1).mono ?_; rintro e W' ⟨rfl, hb'⟩; have hb2 := below_next hh hb'; clear hb' hh)
        | (go_at_call 21; have hh := (‹Hid (Below w1.heap.size w1 _) ∧ _›).1; refine (rend_any s o _ s0 s1).mono ?_; rintro e W' ⟨rfl, hb'⟩; have hb2 := below_next hh hb'; clear hb' hh)
        | (go_at_call 15; have hh := (‹Hid (Below w1.heap.size w1 _) ∧ _›).1; refine (known1_any _).mono ?_; rintro e W' ⟨rfl, hb'⟩; have hb2 := below_next hh hb'; clear hb' hh))
    go_wp2_with fail
    go_ret
    exact ⟨by simp, B1.out.trans ((‹Hid (Below w1.heap.size w1 _) ∧ _›).1.out.mono B1.out.size)⟩
  · go_enter Try.func3, Try.ntmps3
    go_wp2_with fail
    refine (known1_any _).mono ?_
    rintro e w1 ⟨rfl, hb⟩
    go_wp2_with fail
    go_ret
    exact ⟨rfl, ((Below.refl _ _).alloc (Nat.le_refl _) _).trans (hb.mono (by simp))⟩

/-- A slice of bytes that came in. -/
def In8 (w : World) (v : Value) : Prop := ∃ a len cap zs, v = .slice a len cap ∧ Row8 w a len cap zs
/-- A sum so far that came in. -/
def InPart (v : Value) : Prop := ∃ s o, v = .agg #[.int .u16 s, .bool o] ∧ 0 ≤ s ∧ s ≤ 65535

theorem sumParts_walk (w : World) (p : Value) (hp : InPart p) (b : Value) (hb : In8 w b) :
    Calls Try.prog 3 #[p, b] w fun e w' => e = .returned (.bool true) ∧ Below w.heap.size w w' := by
  obtain ⟨s, o, rfl, s0, s1⟩ := hp
  obtain ⟨a, len, cap, zs, rfl, h⟩ := hb
  exact sumParts_main s o a len cap zs w s0 s1 h
end Go.Proofs.Ytamjhaomdfeemaa
