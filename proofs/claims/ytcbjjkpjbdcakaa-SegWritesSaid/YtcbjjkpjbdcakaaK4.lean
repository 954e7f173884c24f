/- The page's own example of chains. -/
import Derived.Test.YtcbjjkpjbdcakaaCh
import Derived.Test.YtcbjjkpjbdcakaaPs
namespace Go.Proofs.Ytcbjjkpjbdcakaa
open Go.RowKit Go.Wb
set_option linter.unusedVariables false
set_option linter.unusedSimpArgs false

theorem lit_b {l : List Int} (h : l.all (fun x => decide (0 ≤ x) && decide (x ≤ 255)) = true) : ∀ x ∈ l, 0 ≤ x ∧ x ≤ 255 := by
  intro x hx
  have := List.all_eq_true.1 h x hx
  simpa using this

set_option maxRecDepth 100000 in
set_option maxHeartbeats 2000000 in
theorem known4_any (w : World) : Calls Try.prog 35 #[] w fun e w' => e = .returned (.bool true) ∧ Below w.heap.size w w' := by
  go_enter Try.func35, Try.ntmps35
  go_wp2_with fail
  refine (chain_any 17 none 0 0 [] _ 17 0 0 (by omega) (by omega) (Row8.nil _) (by omega) (by decide +kernel)).mono ?_
  rintro e w1 ⟨rfl, hb1⟩
  have B1 := Lib.hid hb1
  clear hb1
  go_wp2_with fail
  refine (chain_any 60 _ 8 8 [17, 0, 0, 0, 0, 0, 0, 0] _ 17 8 0 (by omega) (by omega) (row_full (t := 5) (heap_alloc_new w1 _) rfl (by omega) (lit_b rfl)) (by omega) (by decide +kernel)).mono ?_
  rintro e w2 ⟨rfl, hb2⟩
  have B2 := Lib.hid ((B1.out.alloc B1.out.size (Obj.cells (ar [17, 0, 0, 0, 0, 0, 0, 0]) 5)).trans (hb2.mono (by have := B1.out.size; simp; omega)))
  clear hb2
  go_wp2_with fail
  refine (chain_any 44 _ 8 8 [6, 0, 0, 1, 0, 0, 0, 0] _ 0 0 11 (by omega) (by omega) (row_full (t := 5) (heap_alloc_new w2 _) rfl (by omega) (lit_b rfl)) (by omega) (by decide +kernel)).mono ?_
  rintro e w3 ⟨rfl, hb3⟩
  have B3 := Lib.hid ((B2.out.alloc B2.out.size (Obj.cells (ar [6, 0, 0, 1, 0, 0, 0, 0]) 5)).trans (hb3.mono (by have := B2.out.size; simp; omega)))
  clear hb3
  go_wp2_with fail
  go_ret
  exact ⟨rfl, B3.out⟩
end Go.Proofs.Ytcbjjkpjbdcakaa
