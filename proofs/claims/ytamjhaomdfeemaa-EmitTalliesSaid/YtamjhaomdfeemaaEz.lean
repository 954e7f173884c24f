/- The walk of the law EmitTallies. -/
import Derived.Test.YtamjhaomdfeemaaEl
namespace Go.Proofs.Ytamjhaomdfeemaa
open Go.RowKit Go.Wb
set_option linter.unusedVariables false

theorem idx81_1 (a1 e1 b1 x1 y1 z1 v1 a2 e2 b2 x2 y2 z2 v2 a3 e3 b3 x3 y3 z3 v3 : Int) (w : World) : (Instr.index 81 (.agg #[.int .u64 a1, .int .u64 e1, .int .u64 b1, .int .u64 x1, .int .u64 y1, .int .u64 z1, .int .u64 v1, .int .u64 a2, .int .u64 e2, .int .u64 b2, .int .u64 x2, .int .u64 y2, .int .u64 z2, .int .u64 v2, .int .u64 a3, .int .u64 e3, .int .u64 b3, .int .u64 x3, .int .u64 y3, .int .u64 z3, .int .u64 v3]) (.int .i64 0)).run Try.prog w = .ok (.agg #[.int .u64 a1, .int .u64 e1, .int .u64 b1, .int .u64 x1, .int .u64 y1, .int .u64 z1, .int .u64 v1]) w := by kernel_rfl
theorem idx81_2 (a1 e1 b1 x1 y1 z1 v1 a2 e2 b2 x2 y2 z2 v2 a3 e3 b3 x3 y3 z3 v3 : Int) (w : World) : (Instr.index 81 (.agg #[.int .u64 a1, .int .u64 e1, .int .u64 b1, .int .u64 x1, .int .u64 y1, .int .u64 z1, .int .u64 v1, .int .u64 a2, .int .u64 e2, .int .u64 b2, .int .u64 x2, .int .u64 y2, .int .u64 z2, .int .u64 v2, .int .u64 a3, .int .u64 e3, .int .u64 b3, .int .u64 x3, .int .u64 y3, .int .u64 z3, .int .u64 v3]) (.int .i64 1)).run Try.prog w = .ok (.agg #[.int .u64 a2, .int .u64 e2, .int .u64 b2, .int .u64 x2, .int .u64 y2, .int .u64 z2, .int .u64 v2]) w := by kernel_rfl
theorem idx81_3 (a1 e1 b1 x1 y1 z1 v1 a2 e2 b2 x2 y2 z2 v2 a3 e3 b3 x3 y3 z3 v3 : Int) (w : World) : (Instr.index 81 (.agg #[.int .u64 a1, .int .u64 e1, .int .u64 b1, .int .u64 x1, .int .u64 y1, .int .u64 z1, .int .u64 v1, .int .u64 a2, .int .u64 e2, .int .u64 b2, .int .u64 x2, .int .u64 y2, .int .u64 z2, .int .u64 v2, .int .u64 a3, .int .u64 e3, .int .u64 b3, .int .u64 x3, .int .u64 y3, .int .u64 z3, .int .u64 v3]) (.int .i64 2)).run Try.prog w = .ok (.agg #[.int .u64 a3, .int .u64 e3, .int .u64 b3, .int .u64 x3, .int .u64 y3, .int .u64 z3, .int .u64 v3]) w := by kernel_rfl

set_option maxRecDepth 100000 in
set_option maxHeartbeats 8000000 in
theorem emitTallies_main (a e b d0 d1 d2 d3 n r : Int) (w : World) (n1 : n ≤ 9223372036854775807) (r0 : 0 ≤ r) (a0 : 0 ≤ a) (e0 : 0 ≤ e) (b0 : 0 ≤ b) (p0 : 0 ≤ d0) (p1 : 0 ≤ d1) (p2 : 0 ≤ d2) (p3 : 0 ≤ d3) :
    Calls Try.prog 12 #[.agg (tl a e b d0 d1 d2 d3), .int .i64 n, .int .u8 r] w fun en w' => en = .returned (.bool true) ∧ Below w.heap.size w w' := by
  obtain ⟨a1, e1, b1, x1, y1, z1, v1, r1', tm1, nn1, CP1, CR1⟩ := accept_both a e b d0 d1 d2 d3 a0 e0 b0 p0 p1 p2 p3
  have HP1 := Lib.hid CP1
  have HR1 := Lib.hid CR1
  have QU1 := Lib.hid (fun W => queuedP_yes a1 e1 b1 x1 y1 z1 v1 W nn1.1 nn1.2.1 nn1.2.2.1 nn1.2.2.2.1 nn1.2.2.2.2.1 nn1.2.2.2.2.2.1 nn1.2.2.2.2.2.2 tm1)
  obtain ⟨la1, lb1, ls1⟩ := tm_yes tm1
  obtain ⟨ga1, ge1, gb1, gx1, gy1, gz1, gv1⟩ := nn1
  clear CP1 CR1 tm1
  obtain ⟨a2, e2, b2, x2, y2, z2, v2, r2', tm2, nn2, CP2, CR2⟩ := emit_both a e b d0 d1 d2 d3 n n1 a0 e0 b0 p0 p1 p2 p3
  have HP2 := Lib.hid CP2
  have HR2 := Lib.hid CR2
  have QU2 := Lib.hid (fun W => queuedP_yes a2 e2 b2 x2 y2 z2 v2 W nn2.1 nn2.2.1 nn2.2.2.1 nn2.2.2.2.1 nn2.2.2.2.2.1 nn2.2.2.2.2.2.1 nn2.2.2.2.2.2.2 tm2)
  obtain ⟨la2, lb2, ls2⟩ := tm_yes tm2
  obtain ⟨ga2, ge2, gb2, gx2, gy2, gz2, gv2⟩ := nn2
  clear CP2 CR2 tm2
  obtain ⟨a3, e3, b3, x3, y3, z3, v3, r3', tm3, nn3, CP3, CR3⟩ := drop_both a e b d0 d1 d2 d3 r r0 a0 e0 b0 p0 p1 p2 p3
  have HP3 := Lib.hid CP3
  have HR3 := Lib.hid CR3
  have QU3 := Lib.hid (fun W => queuedP_yes a3 e3 b3 x3 y3 z3 v3 W nn3.1 nn3.2.1 nn3.2.2.1 nn3.2.2.2.1 nn3.2.2.2.2.1 nn3.2.2.2.2.2.1 nn3.2.2.2.2.2.2 tm3)
  obtain ⟨la3, lb3, ls3⟩ := tm_yes tm3
  obtain ⟨ga3, ge3, gb3, gx3, gy3, gz3, gv3⟩ := nn3
  clear CP3 CR3 tm3
  obtain ⟨q, QP, QR⟩ := queued_both a e b d0 d1 d2 d3 a0 e0 b0 p0 p1 p2 p3
  have HQP := Lib.hid QP
  have HQR := Lib.hid QR
  have MP := Lib.hid (fun W => mayP_any a e b d0 d1 d2 d3 W a0 e0 b0 p0 p1 p2 p3)
  have MR := Lib.hid (fun W => mayR_any a e b d0 d1 d2 d3 W a0 e0 b0 p0 p1 p2 p3)
  clear QP QR
  obtain ⟨m, hm⟩ : ∃ m, tm a e b d0 d1 d2 d3 = m := ⟨_, rfl⟩
  rw [hm] at MP MR
  clear hm a0 e0 b0 p0 p1 p2 p3 r0 n1
  unfold tl at *
  have T0 := Lib.hid (heap_alloc_new w (Obj.cells #[.int .u64 a, .int .u64 e, .int .u64 b, .int .u64 d0, .int .u64 d1, .int .u64 d2, .int .u64 d3] 74))
  have B0 := Lib.hid ((Below.refl w.heap.size w).alloc (Nat.le_refl _) (Obj.cells #[.int .u64 a, .int .u64 e, .int .u64 b, .int .u64 d0, .int .u64 d1, .int .u64 d2, .int .u64 d3] 74))
  go_enter Try.func12, Try.ntmps12
  go_wp2_with fail
  generalize w.alloc (Obj.cells #[.int .u64 a, .int .u64 e, .int .u64 b, .int .u64 d0, .int .u64 d1, .int .u64 d2, .int .u64 d3] 74) = w0 at *
  have KEEP : Hid (∀ W, Hid (Below w0.heap.size w0 W) → (fun W => Hid (Below w0.heap.size w0 W) ∧ W.cell? ⟨w.heap.size, 0, none⟩ = some (.int .u64 a) ∧ W.cell? ⟨w.heap.size, 1, none⟩ = some (.int .u64 e) ∧ W.cell? ⟨w.heap.size, 2, none⟩ = some (.int .u64 b) ∧ W.cell? ⟨w.heap.size, 3, none⟩ = some (.int .u64 d0) ∧ W.cell? ⟨w.heap.size, 4, none⟩ = some (.int .u64 d1) ∧ W.cell? ⟨w.heap.size, 5, none⟩ = some (.int .u64 d2) ∧ W.cell? ⟨w.heap.size, 6, none⟩ = some (.int .u64 d3)) W) := fun W h =>
    ⟨h, cell_of 0 (kept h.out T0.out) rfl, cell_of 1 (kept h.out T0.out) rfl, cell_of 2 (kept h.out T0.out) rfl, cell_of 3 (kept h.out T0.out) rfl, cell_of 4 (kept h.out T0.out) rfl, cell_of 5 (kept h.out T0.out) rfl, cell_of 6 (kept h.out T0.out) rfl⟩
  have start : Hid (Below w0.heap.size w0 w0) := grow_start w0
  go_region_held3 (fun W => Hid (Below w0.heap.size w0 W) ∧ W.cell? ⟨w.heap.size, 0, none⟩ = some (.int .u64 a) ∧ W.cell? ⟨w.heap.size, 1, none⟩ = some (.int .u64 e) ∧ W.cell? ⟨w.heap.size, 2, none⟩ = some (.int .u64 b) ∧ W.cell? ⟨w.heap.size, 3, none⟩ = some (.int .u64 d0) ∧ W.cell? ⟨w.heap.size, 4, none⟩ = some (.int .u64 d1) ∧ W.cell? ⟨w.heap.size, 5, none⟩ = some (.int .u64 d2) ∧ W.cell? ⟨w.heap.size, 6, none⟩ = some (.int .u64 d3))
      (first | exact KEEP.out _ (by assumption) | exact KEEP.out _ (grow_drew (by assumption)))
      (first
        | (go_at_call 45; have hh := (‹Hid (Below w0.heap.size w0 _) ∧ _›).1; refine (MP.out _).mono ?_; rintro e W' ⟨rfl, hb'⟩; have hb2 := grow_next hh hb'; clear hb' hh)
        | (go_at_call 46; have hh := (‹Hid (Below w0.heap.size w0 _) ∧ _›).1; refine (MR.out _).mono ?_; rintro e W' ⟨rfl, hb'⟩; have hb2 := grow_next hh hb'; clear hb' hh)
        | (go_at_call 47; have hh := (‹Hid (Below w0.heap.size w0 _) ∧ _›).1; refine (HQP.out _).mono ?_; rintro e W' ⟨rfl, hb'⟩; have hb2 := grow_next hh hb'; clear hb' hh)
        | (go_at_call 48; have hh := (‹Hid (Below w0.heap.size w0 _) ∧ _›).1; refine (HQR.out _).mono ?_; rintro e W' ⟨rfl, hb'⟩; have hb2 := grow_next hh hb'; clear hb' hh))
  obtain ⟨hh, _⟩ := ‹Hid (Below w0.heap.size w0 _) ∧ _›
  clear KEEP start
  have T := Lib.hid (kept hh.out T0.out)
  have B := Lib.hid (B0.out.trans (hh.out.mono B0.out.size))
  clear hh T0 B0 MP MR HQP HQR
  clear ‹_ ∧ _›
  have B_0 := B
  have c0 := cell_of (v := .int .u64 a) 0 T.out rfl
  have c1 := cell_of (v := .int .u64 e) 1 T.out rfl
  have c2 := cell_of (v := .int .u64 b) 2 T.out rfl
  have c3 := cell_of (v := .int .u64 d0) 3 T.out rfl
  have c4 := cell_of (v := .int .u64 d1) 4 T.out rfl
  have c5 := cell_of (v := .int .u64 d2) 5 T.out rfl
  have c6 := cell_of (v := .int .u64 d3) 6 T.out rfl
  go_wp2_with fail
  refine (HP1.out _).mono ?_
  rintro en w1 ⟨rfl, hb⟩
  have T' := Lib.hid (kept hb T.out)
  have B_1 := Lib.hid (B_0.out.trans (hb.mono B_0.out.size))
  clear hb c0 c1 c2 c3 c4 c5 c6 T B_0 B
  have T := T'
  clear T'
  have c0 := cell_of (v := .int .u64 a) 0 T.out rfl
  have c1 := cell_of (v := .int .u64 e) 1 T.out rfl
  have c2 := cell_of (v := .int .u64 b) 2 T.out rfl
  have c3 := cell_of (v := .int .u64 d0) 3 T.out rfl
  have c4 := cell_of (v := .int .u64 d1) 4 T.out rfl
  have c5 := cell_of (v := .int .u64 d2) 5 T.out rfl
  have c6 := cell_of (v := .int .u64 d3) 6 T.out rfl
  have hz := lt_of_heap T.out
  go_wp2_with fail
  refine (HR1.out _).mono ?_
  rintro en w2 ⟨rfl, hb⟩
  have T' := Lib.hid (kept hb (hold_alloc T.out))
  have B_2 := Lib.hid ((B_1.out.alloc B_1.out.size (Obj.cells #[.int .u64 a1, .int .u64 e1, .int .u64 b1, .int .u64 x1, .int .u64 y1, .int .u64 z1, .int .u64 v1] 74)).trans (hb.mono (by have := B_1.out.size; simp; omega)))
  have S1 := Lib.hid (kept hb (heap_alloc_new w1 (Obj.cells #[.int .u64 a1, .int .u64 e1, .int .u64 b1, .int .u64 x1, .int .u64 y1, .int .u64 z1, .int .u64 v1] 74)))
  clear hb hz c0 c1 c2 c3 c4 c5 c6 T B_1 
  have R1 := S1
  clear S1
  have T := T'
  clear T'
  have c0 := cell_of (v := .int .u64 a) 0 T.out rfl
  have c1 := cell_of (v := .int .u64 e) 1 T.out rfl
  have c2 := cell_of (v := .int .u64 b) 2 T.out rfl
  have c3 := cell_of (v := .int .u64 d0) 3 T.out rfl
  have c4 := cell_of (v := .int .u64 d1) 4 T.out rfl
  have c5 := cell_of (v := .int .u64 d2) 5 T.out rfl
  have c6 := cell_of (v := .int .u64 d3) 6 T.out rfl
  have hz := lt_of_heap T.out
  go_wp2_with fail
  refine (HP2.out _).mono ?_
  rintro en w3 ⟨rfl, hb⟩
  have T' := Lib.hid (kept hb (hold_alloc T.out))
  have B_3 := Lib.hid ((B_2.out.alloc B_2.out.size (Obj.cells #[.int .u64 a1, .int .u64 e1, .int .u64 b1, .int .u64 x1, .int .u64 y1, .int .u64 z1, .int .u64 v1] 74)).trans (hb.mono (by have := B_2.out.size; simp; omega)))
  have S1 := Lib.hid (kept hb (hold_alloc R1.out))
  have S2 := Lib.hid (kept hb (heap_alloc_new w2 (Obj.cells #[.int .u64 a1, .int .u64 e1, .int .u64 b1, .int .u64 x1, .int .u64 y1, .int .u64 z1, .int .u64 v1] 74)))
  clear hb hz c0 c1 c2 c3 c4 c5 c6 T B_2 R1
  have R1 := S1
  clear S1
  have R2 := S2
  clear S2
  have T := T'
  clear T'
  have c0 := cell_of (v := .int .u64 a) 0 T.out rfl
  have c1 := cell_of (v := .int .u64 e) 1 T.out rfl
  have c2 := cell_of (v := .int .u64 b) 2 T.out rfl
  have c3 := cell_of (v := .int .u64 d0) 3 T.out rfl
  have c4 := cell_of (v := .int .u64 d1) 4 T.out rfl
  have c5 := cell_of (v := .int .u64 d2) 5 T.out rfl
  have c6 := cell_of (v := .int .u64 d3) 6 T.out rfl
  have hz := lt_of_heap T.out
  go_wp2_with fail
  refine (HR2.out _).mono ?_
  rintro en w4 ⟨rfl, hb⟩
  have T' := Lib.hid (kept hb (hold_alloc T.out))
  have B_4 := Lib.hid ((B_3.out.alloc B_3.out.size (Obj.cells #[.int .u64 a2, .int .u64 e2, .int .u64 b2, .int .u64 x2, .int .u64 y2, .int .u64 z2, .int .u64 v2] 74)).trans (hb.mono (by have := B_3.out.size; simp; omega)))
  have S1 := Lib.hid (kept hb (hold_alloc R1.out))
  have S2 := Lib.hid (kept hb (hold_alloc R2.out))
  have S3 := Lib.hid (kept hb (heap_alloc_new w3 (Obj.cells #[.int .u64 a2, .int .u64 e2, .int .u64 b2, .int .u64 x2, .int .u64 y2, .int .u64 z2, .int .u64 v2] 74)))
  clear hb hz c0 c1 c2 c3 c4 c5 c6 T B_3 R1 R2
  have R1 := S1
  clear S1
  have R2 := S2
  clear S2
  have R3 := S3
  clear S3
  have T := T'
  clear T'
  have c0 := cell_of (v := .int .u64 a) 0 T.out rfl
  have c1 := cell_of (v := .int .u64 e) 1 T.out rfl
  have c2 := cell_of (v := .int .u64 b) 2 T.out rfl
  have c3 := cell_of (v := .int .u64 d0) 3 T.out rfl
  have c4 := cell_of (v := .int .u64 d1) 4 T.out rfl
  have c5 := cell_of (v := .int .u64 d2) 5 T.out rfl
  have c6 := cell_of (v := .int .u64 d3) 6 T.out rfl
  have hz := lt_of_heap T.out
  go_wp2_with fail
  refine (HP3.out _).mono ?_
  rintro en w5 ⟨rfl, hb⟩
  have T' := Lib.hid (kept hb (hold_alloc T.out))
  have B_5 := Lib.hid ((B_4.out.alloc B_4.out.size (Obj.cells #[.int .u64 a2, .int .u64 e2, .int .u64 b2, .int .u64 x2, .int .u64 y2, .int .u64 z2, .int .u64 v2] 74)).trans (hb.mono (by have := B_4.out.size; simp; omega)))
  have S1 := Lib.hid (kept hb (hold_alloc R1.out))
  have S2 := Lib.hid (kept hb (hold_alloc R2.out))
  have S3 := Lib.hid (kept hb (hold_alloc R3.out))
  have S4 := Lib.hid (kept hb (heap_alloc_new w4 (Obj.cells #[.int .u64 a2, .int .u64 e2, .int .u64 b2, .int .u64 x2, .int .u64 y2, .int .u64 z2, .int .u64 v2] 74)))
  clear hb hz c0 c1 c2 c3 c4 c5 c6 T B_4 R1 R2 R3
  have R1 := S1
  clear S1
  have R2 := S2
  clear S2
  have R3 := S3
  clear S3
  have R4 := S4
  clear S4
  have T := T'
  clear T'
  have c0 := cell_of (v := .int .u64 a) 0 T.out rfl
  have c1 := cell_of (v := .int .u64 e) 1 T.out rfl
  have c2 := cell_of (v := .int .u64 b) 2 T.out rfl
  have c3 := cell_of (v := .int .u64 d0) 3 T.out rfl
  have c4 := cell_of (v := .int .u64 d1) 4 T.out rfl
  have c5 := cell_of (v := .int .u64 d2) 5 T.out rfl
  have c6 := cell_of (v := .int .u64 d3) 6 T.out rfl
  have hz := lt_of_heap T.out
  go_wp2_with fail
  refine (HR3.out _).mono ?_
  rintro en w6 ⟨rfl, hb⟩
  have T' := Lib.hid (kept hb (hold_alloc T.out))
  have B_6 := Lib.hid ((B_5.out.alloc B_5.out.size (Obj.cells #[.int .u64 a3, .int .u64 e3, .int .u64 b3, .int .u64 x3, .int .u64 y3, .int .u64 z3, .int .u64 v3] 74)).trans (hb.mono (by have := B_5.out.size; simp; omega)))
  have S1 := Lib.hid (kept hb (hold_alloc R1.out))
  have S2 := Lib.hid (kept hb (hold_alloc R2.out))
  have S3 := Lib.hid (kept hb (hold_alloc R3.out))
  have S4 := Lib.hid (kept hb (hold_alloc R4.out))
  have S5 := Lib.hid (kept hb (heap_alloc_new w5 (Obj.cells #[.int .u64 a3, .int .u64 e3, .int .u64 b3, .int .u64 x3, .int .u64 y3, .int .u64 z3, .int .u64 v3] 74)))
  clear hb hz c0 c1 c2 c3 c4 c5 c6 T B_5 R1 R2 R3 R4
  have R1 := S1
  clear S1
  have R2 := S2
  clear S2
  have R3 := S3
  clear S3
  have R4 := S4
  clear S4
  have R5 := S5
  clear S5
  have T := T'
  clear T'
  have r1_0 := cell_of (v := .int .u64 a1) 0 R1.out rfl
  have r1_1 := cell_of (v := .int .u64 e1) 1 R1.out rfl
  have r1_2 := cell_of (v := .int .u64 b1) 2 R1.out rfl
  have r1_3 := cell_of (v := .int .u64 x1) 3 R1.out rfl
  have r1_4 := cell_of (v := .int .u64 y1) 4 R1.out rfl
  have r1_5 := cell_of (v := .int .u64 z1) 5 R1.out rfl
  have r1_6 := cell_of (v := .int .u64 v1) 6 R1.out rfl
  have hz1 := lt_of_heap R1.out
  have r2_0 := cell_of (v := .int .u64 a1) 0 R2.out rfl
  have r2_1 := cell_of (v := .int .u64 e1) 1 R2.out rfl
  have r2_2 := cell_of (v := .int .u64 b1) 2 R2.out rfl
  have r2_3 := cell_of (v := .int .u64 x1) 3 R2.out rfl
  have r2_4 := cell_of (v := .int .u64 y1) 4 R2.out rfl
  have r2_5 := cell_of (v := .int .u64 z1) 5 R2.out rfl
  have r2_6 := cell_of (v := .int .u64 v1) 6 R2.out rfl
  have hz2 := lt_of_heap R2.out
  have r3_0 := cell_of (v := .int .u64 a2) 0 R3.out rfl
  have r3_1 := cell_of (v := .int .u64 e2) 1 R3.out rfl
  have r3_2 := cell_of (v := .int .u64 b2) 2 R3.out rfl
  have r3_3 := cell_of (v := .int .u64 x2) 3 R3.out rfl
  have r3_4 := cell_of (v := .int .u64 y2) 4 R3.out rfl
  have r3_5 := cell_of (v := .int .u64 z2) 5 R3.out rfl
  have r3_6 := cell_of (v := .int .u64 v2) 6 R3.out rfl
  have hz3 := lt_of_heap R3.out
  have r4_0 := cell_of (v := .int .u64 a2) 0 R4.out rfl
  have r4_1 := cell_of (v := .int .u64 e2) 1 R4.out rfl
  have r4_2 := cell_of (v := .int .u64 b2) 2 R4.out rfl
  have r4_3 := cell_of (v := .int .u64 x2) 3 R4.out rfl
  have r4_4 := cell_of (v := .int .u64 y2) 4 R4.out rfl
  have r4_5 := cell_of (v := .int .u64 z2) 5 R4.out rfl
  have r4_6 := cell_of (v := .int .u64 v2) 6 R4.out rfl
  have hz4 := lt_of_heap R4.out
  have r5_0 := cell_of (v := .int .u64 a3) 0 R5.out rfl
  have r5_1 := cell_of (v := .int .u64 e3) 1 R5.out rfl
  have r5_2 := cell_of (v := .int .u64 b3) 2 R5.out rfl
  have r5_3 := cell_of (v := .int .u64 x3) 3 R5.out rfl
  have r5_4 := cell_of (v := .int .u64 y3) 4 R5.out rfl
  have r5_5 := cell_of (v := .int .u64 z3) 5 R5.out rfl
  have r5_6 := cell_of (v := .int .u64 v3) 6 R5.out rfl
  have hz5 := lt_of_heap R5.out
  have EQ1 := eq4_same x1 y1 z1 v1
  have EQ2 := eq4_same x2 y2 z2 v2
  have EQ3 := eq4_same x3 y3 z3 v3
  clear T
  go_wp2_with fail
  have B := Lib.hid (B_6.out.alloc B_6.out.size (Obj.cells #[.int .u64 a3, .int .u64 e3, .int .u64 b3, .int .u64 x3, .int .u64 y3, .int .u64 z3, .int .u64 v3] 74))
  clear B_6 R1 hz1 r1_0 r1_1 r1_2 r1_3 r1_4 r1_5 r1_6 R2 hz2 r2_0 r2_1 r2_2 r2_3 r2_4 r2_5 r2_6 R3 hz3 r3_0 r3_1 r3_2 r3_3 r3_4 r3_5 r3_6 R4 hz4 r4_0 r4_1 r4_2 r4_3 r4_4 r4_5 r4_6 R5 hz5 r5_0 r5_1 r5_2 r5_3 r5_4 r5_5 r5_6 EQ1 EQ2 EQ3 HP1 HP2 HP3 HR1 HR2 HR3
  generalize w6.alloc (Obj.cells #[.int .u64 a3, .int .u64 e3, .int .u64 b3, .int .u64 x3, .int .u64 y3, .int .u64 z3, .int .u64 v3] 74) = v0 at *
  refine wp_loop_rounds 4 ?_
  rw [rounds_succ]
  have i81 := idx81_1 a1 e1 b1 x1 y1 z1 v1 a2 e2 b2 x2 y2 z2 v2 a3 e3 b3 x3 y3 z3 v3
  go_wp2_with fail
  clear i81
  have T0 := Lib.hid (heap_alloc_new v0 (Obj.cells #[.int .u64 a1, .int .u64 e1, .int .u64 b1, .int .u64 x1, .int .u64 y1, .int .u64 z1, .int .u64 v1] 74))
  have B' := Lib.hid (B.out.alloc B.out.size (Obj.cells #[.int .u64 a1, .int .u64 e1, .int .u64 b1, .int .u64 x1, .int .u64 y1, .int .u64 z1, .int .u64 v1] 74))
  generalize v0.alloc (Obj.cells #[.int .u64 a1, .int .u64 e1, .int .u64 b1, .int .u64 x1, .int .u64 y1, .int .u64 z1, .int .u64 v1] 74) = y0 at *
  obtain ⟨q1, hq1⟩ : ∃ q, a1 - e1 - x1 - y1 - z1 - v1 = q := ⟨_, rfl⟩
  rw [hq1] at QU1
  have hs1 : (e1 + q1 + x1 + y1 + z1 + v1 != a1) = false := by simp; omega
  have hqa : 0 ≤ q1 := by omega
  have hqb : e1 + q1 + x1 + y1 + z1 + v1 ≤ a1 := by omega
  clear hq1
  have KEEP : Hid (∀ W, Hid (Below y0.heap.size y0 W) → (fun W => Hid (Below y0.heap.size y0 W) ∧ W.cell? ⟨v0.heap.size, 0, none⟩ = some (.int .u64 a1) ∧ W.cell? ⟨v0.heap.size, 1, none⟩ = some (.int .u64 e1) ∧ W.cell? ⟨v0.heap.size, 2, none⟩ = some (.int .u64 b1) ∧ W.cell? ⟨v0.heap.size, 3, none⟩ = some (.int .u64 x1) ∧ W.cell? ⟨v0.heap.size, 4, none⟩ = some (.int .u64 y1) ∧ W.cell? ⟨v0.heap.size, 5, none⟩ = some (.int .u64 z1) ∧ W.cell? ⟨v0.heap.size, 6, none⟩ = some (.int .u64 v1)) W) := fun W h =>
    ⟨h, cell_of 0 (kept h.out T0.out) rfl, cell_of 1 (kept h.out T0.out) rfl, cell_of 2 (kept h.out T0.out) rfl, cell_of 3 (kept h.out T0.out) rfl, cell_of 4 (kept h.out T0.out) rfl, cell_of 5 (kept h.out T0.out) rfl, cell_of 6 (kept h.out T0.out) rfl⟩
  have start : Hid (Below y0.heap.size y0 y0) := grow_start y0
  go_region_held3 (fun W => Hid (Below y0.heap.size y0 W) ∧ W.cell? ⟨v0.heap.size, 0, none⟩ = some (.int .u64 a1) ∧ W.cell? ⟨v0.heap.size, 1, none⟩ = some (.int .u64 e1) ∧ W.cell? ⟨v0.heap.size, 2, none⟩ = some (.int .u64 b1) ∧ W.cell? ⟨v0.heap.size, 3, none⟩ = some (.int .u64 x1) ∧ W.cell? ⟨v0.heap.size, 4, none⟩ = some (.int .u64 y1) ∧ W.cell? ⟨v0.heap.size, 5, none⟩ = some (.int .u64 z1) ∧ W.cell? ⟨v0.heap.size, 6, none⟩ = some (.int .u64 v1))
    (first | exact KEEP.out _ (by assumption) | exact KEEP.out _ (grow_drew (by assumption)))
    (first | (go_at_call 47; have hh := (‹Hid (Below y0.heap.size y0 _) ∧ _›).1; refine (QU1.out _).mono ?_; rintro e W' ⟨rfl, hb'⟩; have hb2 := grow_next hh hb'; clear hb' hh))
  obtain ⟨hh, _⟩ := ‹Hid (Below y0.heap.size y0 _) ∧ _›
  clear KEEP start B
  have T := Lib.hid (kept hh.out T0.out)
  have B := Lib.hid (B'.out.trans (hh.out.mono B'.out.size))
  clear hh T0 B' QU1
  clear ‹_ ∧ _›
  have c0 := cell_of (v := .int .u64 a1) 0 T.out rfl
  have c1 := cell_of (v := .int .u64 e1) 1 T.out rfl
  have c2 := cell_of (v := .int .u64 b1) 2 T.out rfl
  have c3 := cell_of (v := .int .u64 x1) 3 T.out rfl
  have c4 := cell_of (v := .int .u64 y1) 4 T.out rfl
  have c5 := cell_of (v := .int .u64 z1) 5 T.out rfl
  have c6 := cell_of (v := .int .u64 v1) 6 T.out rfl
  have j0 := idx0 x1 y1 z1 v1
  have j1 := idx1 x1 y1 z1 v1
  have j2 := idx2 x1 y1 z1 v1
  have j3 := idx3 x1 y1 z1 v1
  go_wp2_with fail
  refine wp_loop_rounds 5 ?_
  rw [rounds_succ]
  go_wp2_with fail
  rw [rounds_succ]
  go_wp2_with fail
  rw [rounds_succ]
  go_wp2_with fail
  rw [rounds_succ]
  go_wp2_with fail
  rw [rounds_succ]
  go_wp2_with fail
  clear hs1 hqa hqb j0 j1 j2 j3 c0 c1 c2 c3 c4 c5 c6 T

  rw [rounds_succ]
  have i81 := idx81_2 a1 e1 b1 x1 y1 z1 v1 a2 e2 b2 x2 y2 z2 v2 a3 e3 b3 x3 y3 z3 v3
  go_wp2_with fail
  clear i81
  have T0 := Lib.hid (heap_alloc_new W' (Obj.cells #[.int .u64 a2, .int .u64 e2, .int .u64 b2, .int .u64 x2, .int .u64 y2, .int .u64 z2, .int .u64 v2] 74))
  have B' := Lib.hid (B.out.alloc B.out.size (Obj.cells #[.int .u64 a2, .int .u64 e2, .int .u64 b2, .int .u64 x2, .int .u64 y2, .int .u64 z2, .int .u64 v2] 74))
  generalize W'.alloc (Obj.cells #[.int .u64 a2, .int .u64 e2, .int .u64 b2, .int .u64 x2, .int .u64 y2, .int .u64 z2, .int .u64 v2] 74) = y0 at *
  obtain ⟨q2, hq2⟩ : ∃ q, a2 - e2 - x2 - y2 - z2 - v2 = q := ⟨_, rfl⟩
  rw [hq2] at QU2
  have hs2 : (e2 + q2 + x2 + y2 + z2 + v2 != a2) = false := by simp; omega
  have hqa : 0 ≤ q2 := by omega
  have hqb : e2 + q2 + x2 + y2 + z2 + v2 ≤ a2 := by omega
  clear hq2
  have KEEP : Hid (∀ W, Hid (Below y0.heap.size y0 W) → (fun W => Hid (Below y0.heap.size y0 W) ∧ W.cell? ⟨W'.heap.size, 0, none⟩ = some (.int .u64 a2) ∧ W.cell? ⟨W'.heap.size, 1, none⟩ = some (.int .u64 e2) ∧ W.cell? ⟨W'.heap.size, 2, none⟩ = some (.int .u64 b2) ∧ W.cell? ⟨W'.heap.size, 3, none⟩ = some (.int .u64 x2) ∧ W.cell? ⟨W'.heap.size, 4, none⟩ = some (.int .u64 y2) ∧ W.cell? ⟨W'.heap.size, 5, none⟩ = some (.int .u64 z2) ∧ W.cell? ⟨W'.heap.size, 6, none⟩ = some (.int .u64 v2)) W) := fun W h =>
    ⟨h, cell_of 0 (kept h.out T0.out) rfl, cell_of 1 (kept h.out T0.out) rfl, cell_of 2 (kept h.out T0.out) rfl, cell_of 3 (kept h.out T0.out) rfl, cell_of 4 (kept h.out T0.out) rfl, cell_of 5 (kept h.out T0.out) rfl, cell_of 6 (kept h.out T0.out) rfl⟩
  have start : Hid (Below y0.heap.size y0 y0) := grow_start y0
  go_region_held3 (fun W => Hid (Below y0.heap.size y0 W) ∧ W.cell? ⟨W'.heap.size, 0, none⟩ = some (.int .u64 a2) ∧ W.cell? ⟨W'.heap.size, 1, none⟩ = some (.int .u64 e2) ∧ W.cell? ⟨W'.heap.size, 2, none⟩ = some (.int .u64 b2) ∧ W.cell? ⟨W'.heap.size, 3, none⟩ = some (.int .u64 x2) ∧ W.cell? ⟨W'.heap.size, 4, none⟩ = some (.int .u64 y2) ∧ W.cell? ⟨W'.heap.size, 5, none⟩ = some (.int .u64 z2) ∧ W.cell? ⟨W'.heap.size, 6, none⟩ = some (.int .u64 v2))
    (first | exact KEEP.out _ (by assumption) | exact KEEP.out _ (grow_drew (by assumption)))
    (first | (go_at_call 47; have hh := (‹Hid (Below y0.heap.size y0 _) ∧ _›).1; refine (QU2.out _).mono ?_; rintro e W' ⟨rfl, hb'⟩; have hb2 := grow_next hh hb'; clear hb' hh))
  obtain ⟨hh, _⟩ := ‹Hid (Below y0.heap.size y0 _) ∧ _›
  clear KEEP start B
  have T := Lib.hid (kept hh.out T0.out)
  have B := Lib.hid (B'.out.trans (hh.out.mono B'.out.size))
  clear hh T0 B' QU2
  clear ‹_ ∧ _›
  have c0 := cell_of (v := .int .u64 a2) 0 T.out rfl
  have c1 := cell_of (v := .int .u64 e2) 1 T.out rfl
  have c2 := cell_of (v := .int .u64 b2) 2 T.out rfl
  have c3 := cell_of (v := .int .u64 x2) 3 T.out rfl
  have c4 := cell_of (v := .int .u64 y2) 4 T.out rfl
  have c5 := cell_of (v := .int .u64 z2) 5 T.out rfl
  have c6 := cell_of (v := .int .u64 v2) 6 T.out rfl
  have j0 := idx0 x2 y2 z2 v2
  have j1 := idx1 x2 y2 z2 v2
  have j2 := idx2 x2 y2 z2 v2
  have j3 := idx3 x2 y2 z2 v2
  go_wp2_with fail
  refine wp_loop_rounds 5 ?_
  rw [rounds_succ]
  go_wp2_with fail
  rw [rounds_succ]
  go_wp2_with fail
  rw [rounds_succ]
  go_wp2_with fail
  rw [rounds_succ]
  go_wp2_with fail
  rw [rounds_succ]
  go_wp2_with fail
  clear hs2 hqa hqb j0 j1 j2 j3 c0 c1 c2 c3 c4 c5 c6 T

  rw [rounds_succ]
  have i81 := idx81_3 a1 e1 b1 x1 y1 z1 v1 a2 e2 b2 x2 y2 z2 v2 a3 e3 b3 x3 y3 z3 v3
  go_wp2_with fail
  clear i81
  have T0 := Lib.hid (heap_alloc_new W' (Obj.cells #[.int .u64 a3, .int .u64 e3, .int .u64 b3, .int .u64 x3, .int .u64 y3, .int .u64 z3, .int .u64 v3] 74))
  have B' := Lib.hid (B.out.alloc B.out.size (Obj.cells #[.int .u64 a3, .int .u64 e3, .int .u64 b3, .int .u64 x3, .int .u64 y3, .int .u64 z3, .int .u64 v3] 74))
  generalize W'.alloc (Obj.cells #[.int .u64 a3, .int .u64 e3, .int .u64 b3, .int .u64 x3, .int .u64 y3, .int .u64 z3, .int .u64 v3] 74) = y0 at *
  obtain ⟨q3, hq3⟩ : ∃ q, a3 - e3 - x3 - y3 - z3 - v3 = q := ⟨_, rfl⟩
  rw [hq3] at QU3
  have hs3 : (e3 + q3 + x3 + y3 + z3 + v3 != a3) = false := by simp; omega
  have hqa : 0 ≤ q3 := by omega
  have hqb : e3 + q3 + x3 + y3 + z3 + v3 ≤ a3 := by omega
  clear hq3
  have KEEP : Hid (∀ W, Hid (Below y0.heap.size y0 W) → (fun W => Hid (Below y0.heap.size y0 W) ∧ W.cell? ⟨W'.heap.size, 0, none⟩ = some (.int .u64 a3) ∧ W.cell? ⟨W'.heap.size, 1, none⟩ = some (.int .u64 e3) ∧ W.cell? ⟨W'.heap.size, 2, none⟩ = some (.int .u64 b3) ∧ W.cell? ⟨W'.heap.size, 3, none⟩ = some (.int .u64 x3) ∧ W.cell? ⟨W'.heap.size, 4, none⟩ = some (.int .u64 y3) ∧ W.cell? ⟨W'.heap.size, 5, none⟩ = some (.int .u64 z3) ∧ W.cell? ⟨W'.heap.size, 6, none⟩ = some (.int .u64 v3)) W) := fun W h =>
    ⟨h, cell_of 0 (kept h.out T0.out) rfl, cell_of 1 (kept h.out T0.out) rfl, cell_of 2 (kept h.out T0.out) rfl, cell_of 3 (kept h.out T0.out) rfl, cell_of 4 (kept h.out T0.out) rfl, cell_of 5 (kept h.out T0.out) rfl, cell_of 6 (kept h.out T0.out) rfl⟩
  have start : Hid (Below y0.heap.size y0 y0) := grow_start y0
  go_region_held3 (fun W => Hid (Below y0.heap.size y0 W) ∧ W.cell? ⟨W'.heap.size, 0, none⟩ = some (.int .u64 a3) ∧ W.cell? ⟨W'.heap.size, 1, none⟩ = some (.int .u64 e3) ∧ W.cell? ⟨W'.heap.size, 2, none⟩ = some (.int .u64 b3) ∧ W.cell? ⟨W'.heap.size, 3, none⟩ = some (.int .u64 x3) ∧ W.cell? ⟨W'.heap.size, 4, none⟩ = some (.int .u64 y3) ∧ W.cell? ⟨W'.heap.size, 5, none⟩ = some (.int .u64 z3) ∧ W.cell? ⟨W'.heap.size, 6, none⟩ = some (.int .u64 v3))
    (first | exact KEEP.out _ (by assumption) | exact KEEP.out _ (grow_drew (by assumption)))
    (first | (go_at_call 47; have hh := (‹Hid (Below y0.heap.size y0 _) ∧ _›).1; refine (QU3.out _).mono ?_; rintro e W' ⟨rfl, hb'⟩; have hb2 := grow_next hh hb'; clear hb' hh))
  obtain ⟨hh, _⟩ := ‹Hid (Below y0.heap.size y0 _) ∧ _›
  clear KEEP start B
  have T := Lib.hid (kept hh.out T0.out)
  have B := Lib.hid (B'.out.trans (hh.out.mono B'.out.size))
  clear hh T0 B' QU3
  clear ‹_ ∧ _›
  have c0 := cell_of (v := .int .u64 a3) 0 T.out rfl
  have c1 := cell_of (v := .int .u64 e3) 1 T.out rfl
  have c2 := cell_of (v := .int .u64 b3) 2 T.out rfl
  have c3 := cell_of (v := .int .u64 x3) 3 T.out rfl
  have c4 := cell_of (v := .int .u64 y3) 4 T.out rfl
  have c5 := cell_of (v := .int .u64 z3) 5 T.out rfl
  have c6 := cell_of (v := .int .u64 v3) 6 T.out rfl
  have j0 := idx0 x3 y3 z3 v3
  have j1 := idx1 x3 y3 z3 v3
  have j2 := idx2 x3 y3 z3 v3
  have j3 := idx3 x3 y3 z3 v3
  go_wp2_with fail
  refine wp_loop_rounds 5 ?_
  rw [rounds_succ]
  go_wp2_with fail
  rw [rounds_succ]
  go_wp2_with fail
  rw [rounds_succ]
  go_wp2_with fail
  rw [rounds_succ]
  go_wp2_with fail
  rw [rounds_succ]
  go_wp2_with fail
  clear hs3 hqa hqb j0 j1 j2 j3 c0 c1 c2 c3 c4 c5 c6 T

  rw [rounds_succ]
  go_wp2_with fail
  refine (known30_any _).mono ?_
  rintro en w9 ⟨rfl, hb⟩
  have B9 := Lib.hid (B.out.trans (hb.mono B.out.size))
  clear hb
  go_wp2_with fail
  go_ret
  exact ⟨rfl, B9.out⟩
end Go.Proofs.Ytamjhaomdfeemaa
