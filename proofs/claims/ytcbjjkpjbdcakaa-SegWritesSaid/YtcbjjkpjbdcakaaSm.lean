/- The walk of the reference's SameTCP: of two headers alike. -/
import Derived.RegionTactic
import Derived.Test.YtcbjjkpjbdcakaaUt
namespace Go.Proofs.Ytcbjjkpjbdcakaa
open Go.RowKit Go.Wb
set_option linter.unusedVariables false
set_option linter.unusedSimpArgs false

set_option maxRecDepth 1000000 in
set_option maxHeartbeats 4000000 in
theorem same_any {w : World} {a1 a2 : Option Addr} {n c1 c2 : Nat} {zs : List Int} (p0 p2 p4 p8 r f p14 p18 : Int) (h1 : Row8 w a1 n c1 zs) (h2 : Row8 w a2 n c2 zs) :
    Calls Try.prog 17 #[.agg #[.int .u16 p0, .int .u16 p2, .int .u32 p4, .int .u32 p8, .int .u8 r, .int .u8 f, .int .u16 p14, .int .u16 p18, .slice a1 n c1], .agg #[.int .u16 p0, .int .u16 p2, .int .u32 p4, .int .u32 p8, .int .u8 r, .int .u8 f, .int .u16 p14, .int .u16 p18, .slice a2 n c2]] w
      (fun e w' => e = .returned (.bool true) ∧ Below w.heap.size w w') := by
  have H1 := Lib.hid h1
  have H2 := Lib.hid h2
  clear h1 h2
  have X : Hid (((w.alloc (Obj.cells #[.int .u16 p0, .int .u16 p2, .int .u32 p4, .int .u32 p8, .int .u8 r, .int .u8 f, .int .u16 p14, .int .u16 p18, .slice a1 n c1] 28)).alloc (Obj.cells #[.int .u16 p0, .int .u16 p2, .int .u32 p4, .int .u32 p8, .int .u8 r, .int .u8 f, .int .u16 p14, .int .u16 p18, .slice a2 n c2] 28)).heap[w.heap.size]? = some (.cells #[.int .u16 p0, .int .u16 p2, .int .u32 p4, .int .u32 p8, .int .u8 r, .int .u8 f, .int .u16 p14, .int .u16 p18, .slice a1 n c1] 28 (0, 0))) := Lib.hid (hold_alloc (heap_alloc_new _ _))
  have Y : Hid (((w.alloc (Obj.cells #[.int .u16 p0, .int .u16 p2, .int .u32 p4, .int .u32 p8, .int .u8 r, .int .u8 f, .int .u16 p14, .int .u16 p18, .slice a1 n c1] 28)).alloc (Obj.cells #[.int .u16 p0, .int .u16 p2, .int .u32 p4, .int .u32 p8, .int .u8 r, .int .u8 f, .int .u16 p14, .int .u16 p18, .slice a2 n c2] 28)).heap[w.heap.size + 1]? = some (.cells #[.int .u16 p0, .int .u16 p2, .int .u32 p4, .int .u32 p8, .int .u8 r, .int .u8 f, .int .u16 p14, .int .u16 p18, .slice a2 n c2] 28 (0, 0))) := Lib.hid (by have := heap_alloc_new (w.alloc (Obj.cells #[.int .u16 p0, .int .u16 p2, .int .u32 p4, .int .u32 p8, .int .u8 r, .int .u8 f, .int .u16 p14, .int .u16 p18, .slice a1 n c1] 28)) (Obj.cells #[.int .u16 p0, .int .u16 p2, .int .u32 p4, .int .u32 p8, .int .u8 r, .int .u8 f, .int .u16 p14, .int .u16 p18, .slice a2 n c2] 28); rwa [World.size_alloc] at this)
  have B : Hid (Below w.heap.size w ((w.alloc (Obj.cells #[.int .u16 p0, .int .u16 p2, .int .u32 p4, .int .u32 p8, .int .u8 r, .int .u8 f, .int .u16 p14, .int .u16 p18, .slice a1 n c1] 28)).alloc (Obj.cells #[.int .u16 p0, .int .u16 p2, .int .u32 p4, .int .u32 p8, .int .u8 r, .int .u8 f, .int .u16 p14, .int .u16 p18, .slice a2 n c2] 28))) := Lib.hid (((Below.refl _ _).alloc (Nat.le_refl _) _).alloc (by simp) _)
  go_enter Try.func17, Try.ntmps17
  go_wp2_with fail
  obtain ⟨w1, hw1⟩ : ∃ w1, ((w.alloc (Obj.cells #[.int .u16 p0, .int .u16 p2, .int .u32 p4, .int .u32 p8, .int .u8 r, .int .u8 f, .int .u16 p14, .int .u16 p18, .slice a1 n c1] 28)).alloc (Obj.cells #[.int .u16 p0, .int .u16 p2, .int .u32 p4, .int .u32 p8, .int .u8 r, .int .u8 f, .int .u16 p14, .int .u16 p18, .slice a2 n c2] 28)) = w1 := ⟨_, rfl⟩
  rw [hw1] at X Y B ⊢
  clear hw1
  have xl := lt_of_heap X.out
  have yl := lt_of_heap Y.out
  have x0 := cell_of (v := .int .u16 p0) 0 X.out rfl
  have y0 := cell_of (v := .int .u16 p0) 0 Y.out rfl
  have x1 := cell_of (v := .int .u16 p2) 1 X.out rfl
  have y1 := cell_of (v := .int .u16 p2) 1 Y.out rfl
  have x2 := cell_of (v := .int .u32 p4) 2 X.out rfl
  have y2 := cell_of (v := .int .u32 p4) 2 Y.out rfl
  have x3 := cell_of (v := .int .u32 p8) 3 X.out rfl
  have y3 := cell_of (v := .int .u32 p8) 3 Y.out rfl
  have x4 := cell_of (v := .int .u8 r) 4 X.out rfl
  have y4 := cell_of (v := .int .u8 r) 4 Y.out rfl
  have x5 := cell_of (v := .int .u8 f) 5 X.out rfl
  have y5 := cell_of (v := .int .u8 f) 5 Y.out rfl
  have x6 := cell_of (v := .int .u16 p14) 6 X.out rfl
  have y6 := cell_of (v := .int .u16 p14) 6 Y.out rfl
  have x7 := cell_of (v := .int .u16 p18) 7 X.out rfl
  have y7 := cell_of (v := .int .u16 p18) 7 Y.out rfl
  have x8 := cell_of (v := .slice a1 n c1) 8 X.out rfl
  have y8 := cell_of (v := .slice a2 n c2) 8 Y.out rfl
  have BD1 : Below w1.heap.size w1 (((w1.alloc (Obj.cells #[.int .u16 p0, .int .u16 p2, .int .u32 p4, .int .u32 p8, .int .u8 r, .int .u8 f, .int .u16 p14, .int .u16 p18, .slice none 0 0] 28)).alloc (Obj.cells #[.int .u16 p0, .int .u16 p2, .int .u32 p4, .int .u32 p8, .int .u8 r, .int .u8 f, .int .u16 p14, .int .u16 p18, .slice none 0 0] 28)).drew) := (((Below.refl _ _).alloc (Nat.le_refl _) _).alloc (by simp) _).drew
  have BD := Lib.hid (B.out.trans (BD1.mono B.out.size))
  have s1 := run_str ((H1.out.below B.out).below BD1)
  have s2 := run_str ((H2.out.below B.out).below BD1)
  clear BD1
  go_region
  all_goals go_wp2_with fail
  all_goals go_ret
  all_goals exact ⟨rfl, BD.out⟩
end Go.Proofs.Ytcbjjkpjbdcakaa
