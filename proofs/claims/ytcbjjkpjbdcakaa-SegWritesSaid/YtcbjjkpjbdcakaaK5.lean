/- The page's own example of segments. -/
import Derived.Deep.OwnRows
import Derived.Test.YtcbjjkpjbdcakaaSm
import Derived.Test.YtcbjjkpjbdcakaaK4
namespace Go.Proofs.Ytcbjjkpjbdcakaa
open Go.RowKit Go.Wb
set_option linter.unusedVariables false
set_option linter.unusedSimpArgs false

set_option maxRecDepth 1000000 in
set_option maxHeartbeats 4000000 in
theorem known5_any (w : World) : Calls Try.prog 14 #[] w fun e w' => e = .returned (.bool true) ∧ Below w.heap.size w w' := by
  have HZ : Hid ((([0, 0, 0, 0, 0, 0, 0, 0, 0, 0, 0, 0, 0, 0, 0, 0] : List Int)).length = 16) := Lib.hid rfl
  have X0 : Hid (((w.alloc (Obj.cells (ar [0, 0, 0, 0, 0, 0, 0, 0, 0, 0, 0, 0, 0, 0, 0, 0]) 22)).alloc (Obj.cells (ar [0, 1, 0, 2, 0, 8, 0, 0]) 5)).heap[w.heap.size]? = some (.cells (ar [0, 0, 0, 0, 0, 0, 0, 0, 0, 0, 0, 0, 0, 0, 0, 0]) 22 (0, 0))) := Lib.hid (hold_alloc (heap_alloc_new _ _))
  have E0 : Hid (((w.alloc (Obj.cells (ar [0, 0, 0, 0, 0, 0, 0, 0, 0, 0, 0, 0, 0, 0, 0, 0]) 22)).alloc (Obj.cells (ar [0, 1, 0, 2, 0, 8, 0, 0]) 5)).heap[w.heap.size + 1]? = some (.cells (ar [0, 1, 0, 2, 0, 8, 0, 0]) 5 (0, 0))) := Lib.hid (by have := heap_alloc_new (w.alloc (Obj.cells (ar [0, 0, 0, 0, 0, 0, 0, 0, 0, 0, 0, 0, 0, 0, 0, 0]) 22)) (Obj.cells (ar [0, 1, 0, 2, 0, 8, 0, 0]) 5); rwa [World.size_alloc] at this)
  have B0 : Hid (Below w.heap.size w ((w.alloc (Obj.cells (ar [0, 0, 0, 0, 0, 0, 0, 0, 0, 0, 0, 0, 0, 0, 0, 0]) 22)).alloc (Obj.cells (ar [0, 1, 0, 2, 0, 8, 0, 0]) 5))) := Lib.hid (((Below.refl _ _).alloc (Nat.le_refl _) _).alloc (by simp) _)
  go_enter Try.func14, Try.ntmps14
  go_upto_region 3 with (fail)
  obtain ⟨w1, hw1, X, E, B⟩ : ∃ w1, w1 = ((w.alloc (Obj.cells (ar [0, 0, 0, 0, 0, 0, 0, 0, 0, 0, 0, 0, 0, 0, 0, 0]) 22)).alloc (Obj.cells (ar [0, 1, 0, 2, 0, 8, 0, 0]) 5)) ∧ Hid (w1.heap[w.heap.size]? = some (.cells (ar [0, 0, 0, 0, 0, 0, 0, 0, 0, 0, 0, 0, 0, 0, 0, 0]) 22 (0, 0))) ∧ Hid (w1.heap[w.heap.size + 1]? = some (.cells (ar [0, 1, 0, 2, 0, 8, 0, 0]) 5 (0, 0))) ∧ Hid (Below w.heap.size w w1) := ⟨_, rfl, X0, E0, B0⟩
  change Code.wp _ _ _ _ ((w.alloc (Obj.cells (ar [0, 0, 0, 0, 0, 0, 0, 0, 0, 0, 0, 0, 0, 0, 0, 0]) 22)).alloc (Obj.cells (ar [0, 1, 0, 2, 0, 8, 0, 0]) 5))
  rw [← hw1]
  clear hw1 X0 E0 B0
  go_wp2_with (first | (refine arms_load rfl _ rfl rfl X.out HZ.out ?_))
  refine (udp_ok_none [0, 0, 0, 0, 0, 0, 0, 0, 0, 0, 0, 0, 0, 0, 0, 0] [0, 0, 0, 0, 0, 0, 0, 0, 0, 0, 0, 0, 0, 0, 0, 0] (row_full (n := 8) E.out rfl (by omega) (lit_b rfl)) (by omega) (by omega) rfl rfl (lit_b rfl) (lit_b rfl) (by rfl) (by rfl)).mono ?_
  rintro e w2 ⟨a', c', rfl, _, hb⟩
  rw [show w16 [0, 1, 0, 2, 0, 8, 0, 0] 0 = 1 from rfl, show w16 [0, 1, 0, 2, 0, 8, 0, 0] 2 = 2 from rfl]
  have X2 := Lib.hid (kept hb X.out)
  have E2 := Lib.hid (kept hb E.out)
  have B2 := Lib.hid (B.out.trans (hb.mono B.out.size))
  clear hb X E B
  have X := Lib.hid (hold_alloc (o' := (Obj.cells #[.int .u16 1, .int .u16 2, .bool true] 34)) X2.out)
  have E := Lib.hid (hold_alloc (o' := (Obj.cells #[.int .u16 1, .int .u16 2, .bool true] 34)) E2.out)
  have B := Lib.hid (B2.out.alloc B2.out.size (Obj.cells #[.int .u16 1, .int .u16 2, .bool true] 34))
  go_wp2_with (first | (refine arms_load rfl _ rfl rfl X.out HZ.out ?_))
  have Y := Lib.hid (heap_alloc_new w2 (Obj.cells #[.int .u16 1, .int .u16 2, .bool true] 34))
  refine (udp_none_v6 [0, 0, 0, 0, 0, 0, 0, 0, 0, 0, 0, 0, 0, 0, 0, 0] [0, 0, 0, 0, 0, 0, 0, 0, 0, 0, 0, 0, 0, 0, 0, 0] (row_full (n := 8) E.out rfl (by omega) (lit_b rfl)) (by omega) (by omega) rfl rfl (lit_b rfl) (lit_b rfl) (by rfl) (by rfl)).mono ?_
  rintro e w3 ⟨rfl, hb⟩
  have X3 := Lib.hid (kept hb X.out)
  have Y3 := Lib.hid (kept hb Y.out)
  have B3 := Lib.hid (B.out.trans (hb.mono B.out.size))
  clear hb X E B Y X2 E2 B2
  have X := Lib.hid (hold_alloc (o' := (Obj.cells #[.int .u16 0, .int .u16 0, .bool false] 34)) X3.out)
  have B := Lib.hid (B3.out.alloc B3.out.size (Obj.cells #[.int .u16 0, .int .u16 0, .bool false] 34))
  have hmk : ∀ W : World, (Instr.makeSlice 23 (.int .i64 20) (.int .i64 20)).run Try.prog W = .ok (.slice (some ⟨W.heap.size, 0, none⟩) 20 20) (W.alloc (.cells #[.int .u8 0, .int .u8 0, .int .u8 0, .int .u8 0, .int .u8 0, .int .u8 0, .int .u8 0, .int .u8 0, .int .u8 0, .int .u8 0, .int .u8 0, .int .u8 0, .int .u8 0, .int .u8 0, .int .u8 0, .int .u8 0, .int .u8 0, .int .u8 0, .int .u8 0, .int .u8 0] 5)) := fun W => by
    have h := run_make_row' (P := Try.prog) 23 5 (.int .u8 0) 1 Try.underlying23 info5 rfl .i64 .i64 20 (by omega) (by omega) W
    have e : madeCells #[Value.int .u8 0] 20 = #[.int .u8 0, .int .u8 0, .int .u8 0, .int .u8 0, .int .u8 0, .int .u8 0, .int .u8 0, .int .u8 0, .int .u8 0, .int .u8 0, .int .u8 0, .int .u8 0, .int .u8 0, .int .u8 0, .int .u8 0, .int .u8 0, .int .u8 0, .int .u8 0, .int .u8 0, .int .u8 0] := by apply Array.ext'; simp only [madeCells, Array.toList_map, Array.toList_range]; rfl
    rw [e] at h
    exact h
  clear X
  have X := Lib.hid (hold_alloc (o' := (Obj.cells (ar [0, 0, 0, 0, 0, 0, 0, 0, 0, 0, 0, 0, 64, 0, 0, 0, 0, 0, 0, 0]) 5)) (hold_alloc (o' := (Obj.cells #[.int .u16 0, .int .u16 0, .bool false] 34)) X3.out))
  have Y := Lib.hid (hold_alloc (o' := (Obj.cells (ar [0, 0, 0, 0, 0, 0, 0, 0, 0, 0, 0, 0, 64, 0, 0, 0, 0, 0, 0, 0]) 5)) (hold_alloc (o' := (Obj.cells #[.int .u16 0, .int .u16 0, .bool false] 34)) Y3.out))
  have BB := Lib.hid (B.out.alloc B.out.size (Obj.cells (ar [0, 0, 0, 0, 0, 0, 0, 0, 0, 0, 0, 0, 64, 0, 0, 0, 0, 0, 0, 0]) 5))
  go_wp2_with (first | (refine arms_load rfl _ rfl rfl X.out HZ.out ?_))
  have TT : Hid (((w3.alloc (Obj.cells #[.int .u16 0, .int .u16 0, .bool false] 34)).alloc (Obj.cells #[.int .u8 0, .int .u8 0, .int .u8 0, .int .u8 0, .int .u8 0, .int .u8 0, .int .u8 0, .int .u8 0, .int .u8 0, .int .u8 0, .int .u8 0, .int .u8 0, .int .u8 64, .int .u8 0, .int .u8 0, .int .u8 0, .int .u8 0, .int .u8 0, .int .u8 0, .int .u8 0] 5)).heap[w3.heap.size + 1]? = some (.cells (ar [0, 0, 0, 0, 0, 0, 0, 0, 0, 0, 0, 0, 64, 0, 0, 0, 0, 0, 0, 0]) 5 (0, 0))) := Lib.hid (by have := heap_alloc_new (w3.alloc (Obj.cells #[.int .u16 0, .int .u16 0, .bool false] 34)) (Obj.cells (ar [0, 0, 0, 0, 0, 0, 0, 0, 0, 0, 0, 0, 64, 0, 0, 0, 0, 0, 0, 0]) 5); rw [World.size_alloc] at this; exact this)
  refine (tcp_form false [0, 0, 0, 0, 0, 0, 0, 0, 0, 0, 0, 0, 0, 0, 0, 0] [0, 0, 0, 0, 0, 0, 0, 0, 0, 0, 0, 0, 0, 0, 0, 0] (row_full (n := 20) TT.out rfl (by omega) (lit_b rfl)) (by omega) (by omega) rfl rfl (lit_b rfl) (lit_b rfl) (by decide)).mono ?_
  rintro e w4 ⟨rfl, hb⟩
  have Y4 := Lib.hid (hold_alloc (o' := (Obj.cells #[.int .u16 0, .int .u16 0, .int .u32 0, .int .u32 0, .int .u8 0, .int .u8 0, .int .u16 0, .int .u16 0, .slice none 0 0] 28)) (kept hb Y.out))
  have B4 := Lib.hid (BB.out.trans (hb.mono BB.out.size))
  have B5 := Lib.hid (B4.out.alloc B4.out.size (Obj.cells #[.int .u16 0, .int .u16 0, .int .u32 0, .int .u32 0, .int .u8 0, .int .u8 0, .int .u16 0, .int .u16 0, .slice none 0 0] 28))
  clear hb X Y B BB TT X3 Y3 B3 hmk
  have y0 := cell_of (v := .int .u16 1) 0 Y4.out rfl
  have y1 := cell_of (v := .int .u16 2) 1 Y4.out rfl
  have y2 := cell_of (v := .bool true) 2 Y4.out rfl
  go_wp2_with fail
  go_ret
  exact ⟨rfl, B5.out⟩
end Go.Proofs.Ytcbjjkpjbdcakaa
