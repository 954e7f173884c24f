/- The walk of seg.ReadUDP. -/
import Derived.Test.YtcbjjkpjbdcakaaFr
namespace Go.Proofs.Ytcbjjkpjbdcakaa
open Go.RowKit Go.Wb
set_option linter.unusedVariables false
set_option linter.unusedSimpArgs false

theorem heap_four (w : World) (o1 o2 o3 o4 : Obj) : ((((w.alloc o1).alloc o2).alloc o3).alloc o4).heap[w.heap.size]? = some o1 ∧ ((((w.alloc o1).alloc o2).alloc o3).alloc o4).heap[w.heap.size + 1]? = some o2 ∧ ((((w.alloc o1).alloc o2).alloc o3).alloc o4).heap[w.heap.size + 1 + 1]? = some o3 ∧ ((((w.alloc o1).alloc o2).alloc o3).alloc o4).heap[w.heap.size + 1 + 1 + 1]? = some o4 :=
  ⟨hold_alloc (heap_three w o1 o2 o3).1, hold_alloc (heap_three w o1 o2 o3).2.1, hold_alloc (heap_three w o1 o2 o3).2.2, by have := heap_alloc_new (((w.alloc o1).alloc o2).alloc o3) o4; rwa [World.size_alloc, World.size_alloc, World.size_alloc] at this⟩
theorem below_four (w : World) (o1 o2 o3 o4 : Obj) : Below w.heap.size w ((((w.alloc o1).alloc o2).alloc o3).alloc o4) := (below_three w o1 o2 o3).alloc (by simp; omega) o4

theorem arms_load2 {W : World} {b : Nat} {ss : List Int} {ops : Array Oper} {rest : List Oper} {op : Oper} {ac : Act} {Q : Exit → Act → World → Prop} (hg : Region.wanted op (yielded ops ac.tmps) = true) (x : Operand) (ho : op.op = .load 22 x) (hx : ac.eval x = .pointer (some ⟨b, 0, none⟩)) (h : W.heap[b]? = some (.cells (ar ss) 22 (0, 0))) (hs : ss.length = 16)
    (K : wpList Try.prog ops Q rest (ac.put op.dst (.agg (ar ss))) W) : wpList Try.prog ops Q (op :: rest) ac W := by
  refine wpList_wanted hg fun K' hK => ?_
  unfold Oper.wp
  simp [execOp, ho, hx, load_ar h hs, Result.andThen]
  exact hK _ _ K

/-- What a function that may tell 'no' with nothing tells. -/
def noUDP (err : Int) (w : World) (e : Ending) (w' : World) : Prop := e = .returned (.tuple #[.agg #[.int .u16 0, .int .u16 0, .bool false], .slice none 0 0, .int .i64 err]) ∧ Below w.heap.size w w'
def okUDP (ns : Bool) (len : Nat) (zs : List Int) (w : World) (e : Ending) (w' : World) : Prop := ∃ a' c', e = .returned (.tuple #[.agg #[.int .u16 (w16 zs 0), .int .u16 (w16 zs 2), .bool ns], .slice a' (len - 8) c', .int .i64 0]) ∧ Own8 w.heap.size w' a' (len - 8) c' (zs.drop 8) ∧ Below w.heap.size w w'

set_option maxRecDepth 100000 in
set_option maxHeartbeats 1000000 in
theorem udp_short {w : World} {a : Option Addr} {len cap : Nat} {zs : List Int} (v6 : Bool) (ss ds : List Int) (h : Row8 w a len cap zs) (h8 : len < 8) : Calls Try.prog 18 #[.bool v6, .agg (ar ss), .agg (ar ds), .slice a len cap] w (noUDP 4 w) := by
  have B0 := Lib.hid (below_four w (Obj.cells (ar ss) 22) (Obj.cells (ar ds) 22) (Obj.cells #[.int .u16 0, .int .u16 0, .bool false] 34) (Obj.cells #[.int .u16 0, .int .u16 0, .bool false] 34))
  clear h
  go_enter Try.func18, Try.ntmps18
  go_wp2_with fail
  refine bodyPost_ret (v := .tuple #[.agg #[.int .u16 0, .int .u16 0, .bool false], .slice none 0 0, .int .i64 4]) (by simp [results, Try.results18, go_sem]) rfl ⟨rfl, ?_⟩
  exact B0.out

set_option maxRecDepth 1000000 in
set_option maxHeartbeats 4000000 in
theorem udp_form_y {w : World} {b off len cap : Nat} {zs : List Int} (v6 : Bool) (ss ds : List Int) (h : Row8 w (some ⟨b, off, none⟩) len cap zs) (h8 : 8 ≤ len) (hl : len ≤ 1099511627776) (hs : ss.length = 16) (hd : ds.length = 16) (bs : ∀ x ∈ ss, 0 ≤ x ∧ x ≤ 255) (bd : ∀ x ∈ ds, 0 ≤ x ∧ x ≤ 255) (c6 : w16 zs 6 = 0) (c4 : w16 zs 4 ≠ len) :
    Calls Try.prog 18 #[.bool v6, .agg (ar ss), .agg (ar ds), .slice (some ⟨b, off, none⟩) len cap] w (noUDP 5 w) := by
  have HT := heap_four w (Obj.cells (ar ss) 22) (Obj.cells (ar ds) 22) (Obj.cells #[.int .u16 0, .int .u16 0, .bool false] 34) (Obj.cells #[.int .u16 0, .int .u16 0, .bool false] 34)
  have X := Lib.hid HT.1
  have Y := Lib.hid HT.2.1
  have Z := Lib.hid HT.2.2.1
  have N := Lib.hid HT.2.2.2
  have B0 := Lib.hid (below_four w (Obj.cells (ar ss) 22) (Obj.cells (ar ds) 22) (Obj.cells #[.int .u16 0, .int .u16 0, .bool false] 34) (Obj.cells #[.int .u16 0, .int .u16 0, .bool false] 34))
  have H := Lib.hid h
  have HS := Lib.hid hs
  have HD := Lib.hid hd
  have SEAL := Lib.hid (fun W (hb : Below w.heap.size w W) => sealed_any v6 ss ds 17 (h.below hb) hl hs hd bs bd (by omega) (by omega))
  have hcap := h.cap_le
  have hle := h.le
  have A0 := Lib.hid (fun W (hb : Below w.heap.size w W) => at_any (h.below hb) 0 (by omega))
  have A2 := Lib.hid (fun W (hb : Below w.heap.size w W) => at_any (h.below hb) 2 (by omega))
  have A4 := Lib.hid (fun W (hb : Below w.heap.size w W) => at_any (h.below hb) 4 (by omega))
  have A6 := Lib.hid (fun W (hb : Below w.heap.size w W) => at_any (h.below hb) 6 (by omega))
  have r4 := w16_range h.bytes 4
  have r6 := w16_range h.bytes 6
  obtain ⟨sp, hsp⟩ : ∃ x, w16 zs 0 = x := ⟨_, rfl⟩
  obtain ⟨dp, hdp⟩ : ∃ x, w16 zs 2 = x := ⟨_, rfl⟩
  obtain ⟨q4, hq4⟩ : ∃ x, w16 zs 4 = x := ⟨_, rfl⟩
  obtain ⟨q6, hq6⟩ : ∃ x, w16 zs 6 = x := ⟨_, rfl⟩
  rw [hsp] at A0
  rw [hdp] at A2
  rw [hq4] at A4 r4 c4
  rw [hq6] at A6 r6 c6
  have HSP := Lib.hid hsp
  have HDP := Lib.hid hdp
  obtain ⟨r40, r41⟩ := r4
  obtain ⟨r60, r61⟩ := r6
  clear HT h hs hd bs bd hsp hdp hq4 hq6
  have q6b : (q6 == 0) = true := by simp; omega
  have q4b : (q4 != (len : Int)) = true := by simp; omega
  clear c4 c6
  go_enter Try.func18, Try.ntmps18
  go_wp2_with fail
  refine (A0.out _ B0.out).mono ?_
  rintro e w1 ⟨rfl, hb⟩
  have B1 := Lib.hid (B0.out.trans (hb.mono B0.out.size))
  have X' := Lib.hid (kept hb X.out)
  have Y' := Lib.hid (kept hb Y.out)
  have Z' := Lib.hid (kept hb Z.out)
  have N' := Lib.hid (kept hb N.out)
  clear X Y Z N
  have X := X'
  clear X'
  have Y := Y'
  clear Y'
  have Z := Z'
  clear Z'
  have N := N'
  clear N'
  clear hb B0
  go_wp2_with fail
  refine (A2.out _ B1.out).mono ?_
  rintro e w2 ⟨rfl, hb⟩
  have B2 := Lib.hid (B1.out.trans (hb.mono B1.out.size))
  have X' := Lib.hid (kept hb X.out)
  have Y' := Lib.hid (kept hb Y.out)
  have Z' := Lib.hid (kept hb Z.out)
  have N' := Lib.hid (kept hb N.out)
  clear X Y Z N
  have X := X'
  clear X'
  have Y := Y'
  clear Y'
  have Z := Z'
  clear Z'
  have N := N'
  clear N'
  clear hb B1
  go_wp2_with fail
  refine (A6.out _ B2.out).mono ?_
  rintro e w3 ⟨rfl, hb⟩
  have B3 := Lib.hid (B2.out.trans (hb.mono B2.out.size))
  have X' := Lib.hid (kept hb X.out)
  have Y' := Lib.hid (kept hb Y.out)
  have Z' := Lib.hid (kept hb Z.out)
  have N' := Lib.hid (kept hb N.out)
  clear X Y Z N
  have X := X'
  clear X'
  have Y := Y'
  clear Y'
  have Z := Z'
  clear Z'
  have N := N'
  clear N'
  clear hb B2
  go_wp2_with fail
  refine (A4.out _ (B3.out.alloc B3.out.size _)).mono ?_
  rintro e w4 ⟨rfl, hb⟩
  have U := Lib.hid (kept hb (heap_alloc_new w3 (Obj.cells #[.int .u16 sp, .int .u16 dp, .bool true] 34)))
  have B4 := Lib.hid ((B3.out.alloc B3.out.size (Obj.cells #[.int .u16 sp, .int .u16 dp, .bool true] 34)).trans (hb.mono (by have := B3.out.size; simp; omega)))
  have X' := Lib.hid (kept hb (hold_alloc X.out))
  have Y' := Lib.hid (kept hb (hold_alloc Y.out))
  have Z' := Lib.hid (kept hb (hold_alloc Z.out))
  have N' := Lib.hid (kept hb (hold_alloc N.out))
  clear X Y Z N
  have X := X'
  clear X'
  have Y := Y'
  clear Y'
  have Z := Z'
  clear Z'
  have N := N'
  clear N'
  clear hb
  have hw3 : w.heap.size ≤ w3.heap.size := B3.out.size
  clear B3
  have n0 := cell_of (v := .int .u16 0) 0 N.out rfl
  have n1 := cell_of (v := .int .u16 0) 1 N.out rfl
  have n2 := cell_of (v := .bool false) 2 N.out rfl
  have z0 := cell_of (v := .int .u16 0) 0 Z.out rfl
  have z1 := cell_of (v := .int .u16 0) 1 Z.out rfl
  have z2 := cell_of (v := .bool false) 2 Z.out rfl
  have zf0 := free_of 0 Z.out
  have zf1 := free_of 1 Z.out
  have zf2 := free_of 2 Z.out
  have u0 := cell_of (v := .int .u16 sp) 0 U.out rfl
  have u1 := cell_of (v := .int .u16 dp) 1 U.out rfl
  have u2 := cell_of (v := .bool true) 2 U.out rfl
  go_wp2_with fail
  refine bodyPost_ret (v := .tuple #[.agg #[.int .u16 0, .int .u16 0, .bool false], .slice none 0 0, .int .i64 5]) (by simp [results, Try.results18, go_sem, z0, z1, z2]) rfl ⟨rfl, ?_⟩
  repeat' (first | with_reducible exact B4.out | with_reducible refine Below.setCell ?_ ?_ _ | with_reducible refine Below.alloc ?_ ?_ _)
  all_goals (first | (simp; done) | (simp; omega) | omega)

set_option maxRecDepth 1000000 in
set_option maxHeartbeats 4000000 in
theorem udp_form_n {w : World} {b off len cap : Nat} {zs : List Int} (v6 : Bool) (ss ds : List Int) (h : Row8 w (some ⟨b, off, none⟩) len cap zs) (h8 : 8 ≤ len) (hl : len ≤ 1099511627776) (hs : ss.length = 16) (hd : ds.length = 16) (bs : ∀ x ∈ ss, 0 ≤ x ∧ x ≤ 255) (bd : ∀ x ∈ ds, 0 ≤ x ∧ x ≤ 255) (c6 : w16 zs 6 ≠ 0) (c4 : w16 zs 4 ≠ len) :
    Calls Try.prog 18 #[.bool v6, .agg (ar ss), .agg (ar ds), .slice (some ⟨b, off, none⟩) len cap] w (noUDP 5 w) := by
  have HT := heap_four w (Obj.cells (ar ss) 22) (Obj.cells (ar ds) 22) (Obj.cells #[.int .u16 0, .int .u16 0, .bool false] 34) (Obj.cells #[.int .u16 0, .int .u16 0, .bool false] 34)
  have X := Lib.hid HT.1
  have Y := Lib.hid HT.2.1
  have Z := Lib.hid HT.2.2.1
  have N := Lib.hid HT.2.2.2
  have B0 := Lib.hid (below_four w (Obj.cells (ar ss) 22) (Obj.cells (ar ds) 22) (Obj.cells #[.int .u16 0, .int .u16 0, .bool false] 34) (Obj.cells #[.int .u16 0, .int .u16 0, .bool false] 34))
  have H := Lib.hid h
  have HS := Lib.hid hs
  have HD := Lib.hid hd
  have SEAL := Lib.hid (fun W (hb : Below w.heap.size w W) => sealed_any v6 ss ds 17 (h.below hb) hl hs hd bs bd (by omega) (by omega))
  have hcap := h.cap_le
  have hle := h.le
  have A0 := Lib.hid (fun W (hb : Below w.heap.size w W) => at_any (h.below hb) 0 (by omega))
  have A2 := Lib.hid (fun W (hb : Below w.heap.size w W) => at_any (h.below hb) 2 (by omega))
  have A4 := Lib.hid (fun W (hb : Below w.heap.size w W) => at_any (h.below hb) 4 (by omega))
  have A6 := Lib.hid (fun W (hb : Below w.heap.size w W) => at_any (h.below hb) 6 (by omega))
  have r4 := w16_range h.bytes 4
  have r6 := w16_range h.bytes 6
  obtain ⟨sp, hsp⟩ : ∃ x, w16 zs 0 = x := ⟨_, rfl⟩
  obtain ⟨dp, hdp⟩ : ∃ x, w16 zs 2 = x := ⟨_, rfl⟩
  obtain ⟨q4, hq4⟩ : ∃ x, w16 zs 4 = x := ⟨_, rfl⟩
  obtain ⟨q6, hq6⟩ : ∃ x, w16 zs 6 = x := ⟨_, rfl⟩
  rw [hsp] at A0
  rw [hdp] at A2
  rw [hq4] at A4 r4 c4
  rw [hq6] at A6 r6 c6
  have HSP := Lib.hid hsp
  have HDP := Lib.hid hdp
  obtain ⟨r40, r41⟩ := r4
  obtain ⟨r60, r61⟩ := r6
  clear HT h hs hd bs bd hsp hdp hq4 hq6
  have q6b : (q6 == 0) = false := by simp; omega
  have q4b : (q4 != (len : Int)) = true := by simp; omega
  clear c4 c6
  go_enter Try.func18, Try.ntmps18
  go_wp2_with fail
  refine (A0.out _ B0.out).mono ?_
  rintro e w1 ⟨rfl, hb⟩
  have B1 := Lib.hid (B0.out.trans (hb.mono B0.out.size))
  have X' := Lib.hid (kept hb X.out)
  have Y' := Lib.hid (kept hb Y.out)
  have Z' := Lib.hid (kept hb Z.out)
  have N' := Lib.hid (kept hb N.out)
  clear X Y Z N
  have X := X'
  clear X'
  have Y := Y'
  clear Y'
  have Z := Z'
  clear Z'
  have N := N'
  clear N'
  clear hb B0
  go_wp2_with fail
  refine (A2.out _ B1.out).mono ?_
  rintro e w2 ⟨rfl, hb⟩
  have B2 := Lib.hid (B1.out.trans (hb.mono B1.out.size))
  have X' := Lib.hid (kept hb X.out)
  have Y' := Lib.hid (kept hb Y.out)
  have Z' := Lib.hid (kept hb Z.out)
  have N' := Lib.hid (kept hb N.out)
  clear X Y Z N
  have X := X'
  clear X'
  have Y := Y'
  clear Y'
  have Z := Z'
  clear Z'
  have N := N'
  clear N'
  clear hb B1
  go_wp2_with fail
  refine (A6.out _ B2.out).mono ?_
  rintro e w3 ⟨rfl, hb⟩
  have B3 := Lib.hid (B2.out.trans (hb.mono B2.out.size))
  have X' := Lib.hid (kept hb X.out)
  have Y' := Lib.hid (kept hb Y.out)
  have Z' := Lib.hid (kept hb Z.out)
  have N' := Lib.hid (kept hb N.out)
  clear X Y Z N
  have X := X'
  clear X'
  have Y := Y'
  clear Y'
  have Z := Z'
  clear Z'
  have N := N'
  clear N'
  clear hb B2
  go_wp2_with fail
  refine (A4.out _ (B3.out.alloc B3.out.size _)).mono ?_
  rintro e w4 ⟨rfl, hb⟩
  have U := Lib.hid (kept hb (heap_alloc_new w3 (Obj.cells #[.int .u16 sp, .int .u16 dp, .bool false] 34)))
  have B4 := Lib.hid ((B3.out.alloc B3.out.size (Obj.cells #[.int .u16 sp, .int .u16 dp, .bool false] 34)).trans (hb.mono (by have := B3.out.size; simp; omega)))
  have X' := Lib.hid (kept hb (hold_alloc X.out))
  have Y' := Lib.hid (kept hb (hold_alloc Y.out))
  have Z' := Lib.hid (kept hb (hold_alloc Z.out))
  have N' := Lib.hid (kept hb (hold_alloc N.out))
  clear X Y Z N
  have X := X'
  clear X'
  have Y := Y'
  clear Y'
  have Z := Z'
  clear Z'
  have N := N'
  clear N'
  clear hb
  have hw3 : w.heap.size ≤ w3.heap.size := B3.out.size
  clear B3
  have n0 := cell_of (v := .int .u16 0) 0 N.out rfl
  have n1 := cell_of (v := .int .u16 0) 1 N.out rfl
  have n2 := cell_of (v := .bool false) 2 N.out rfl
  have z0 := cell_of (v := .int .u16 0) 0 Z.out rfl
  have z1 := cell_of (v := .int .u16 0) 1 Z.out rfl
  have z2 := cell_of (v := .bool false) 2 Z.out rfl
  have zf0 := free_of 0 Z.out
  have zf1 := free_of 1 Z.out
  have zf2 := free_of 2 Z.out
  have u0 := cell_of (v := .int .u16 sp) 0 U.out rfl
  have u1 := cell_of (v := .int .u16 dp) 1 U.out rfl
  have u2 := cell_of (v := .bool false) 2 U.out rfl
  go_wp2_with fail
  refine bodyPost_ret (v := .tuple #[.agg #[.int .u16 0, .int .u16 0, .bool false], .slice none 0 0, .int .i64 5]) (by simp [results, Try.results18, go_sem, z0, z1, z2]) rfl ⟨rfl, ?_⟩
  repeat' (first | with_reducible exact B4.out | with_reducible refine Below.setCell ?_ ?_ _ | with_reducible refine Below.alloc ?_ ?_ _)
  all_goals (first | (simp; done) | (simp; omega) | omega)

set_option maxRecDepth 1000000 in
set_option maxHeartbeats 4000000 in
theorem udp_none_v6 {w : World} {b off len cap : Nat} {zs : List Int} (ss ds : List Int) (h : Row8 w (some ⟨b, off, none⟩) len cap zs) (h8 : 8 ≤ len) (hl : len ≤ 1099511627776) (hs : ss.length = 16) (hd : ds.length = 16) (bs : ∀ x ∈ ss, 0 ≤ x ∧ x ≤ 255) (bd : ∀ x ∈ ds, 0 ≤ x ∧ x ≤ 255) (c6 : w16 zs 6 = 0) (c4 : w16 zs 4 = len) :
    Calls Try.prog 18 #[.bool true, .agg (ar ss), .agg (ar ds), .slice (some ⟨b, off, none⟩) len cap] w (noUDP 6 w) := by
  have HT := heap_four w (Obj.cells (ar ss) 22) (Obj.cells (ar ds) 22) (Obj.cells #[.int .u16 0, .int .u16 0, .bool false] 34) (Obj.cells #[.int .u16 0, .int .u16 0, .bool false] 34)
  have X := Lib.hid HT.1
  have Y := Lib.hid HT.2.1
  have Z := Lib.hid HT.2.2.1
  have N := Lib.hid HT.2.2.2
  have B0 := Lib.hid (below_four w (Obj.cells (ar ss) 22) (Obj.cells (ar ds) 22) (Obj.cells #[.int .u16 0, .int .u16 0, .bool false] 34) (Obj.cells #[.int .u16 0, .int .u16 0, .bool false] 34))
  have H := Lib.hid h
  have HS := Lib.hid hs
  have HD := Lib.hid hd
  have SEAL := Lib.hid (fun W (hb : Below w.heap.size w W) => sealed_any true ss ds 17 (h.below hb) hl hs hd bs bd (by omega) (by omega))
  have hcap := h.cap_le
  have hle := h.le
  have A0 := Lib.hid (fun W (hb : Below w.heap.size w W) => at_any (h.below hb) 0 (by omega))
  have A2 := Lib.hid (fun W (hb : Below w.heap.size w W) => at_any (h.below hb) 2 (by omega))
  have A4 := Lib.hid (fun W (hb : Below w.heap.size w W) => at_any (h.below hb) 4 (by omega))
  have A6 := Lib.hid (fun W (hb : Below w.heap.size w W) => at_any (h.below hb) 6 (by omega))
  have r4 := w16_range h.bytes 4
  have r6 := w16_range h.bytes 6
  obtain ⟨sp, hsp⟩ : ∃ x, w16 zs 0 = x := ⟨_, rfl⟩
  obtain ⟨dp, hdp⟩ : ∃ x, w16 zs 2 = x := ⟨_, rfl⟩
  obtain ⟨q4, hq4⟩ : ∃ x, w16 zs 4 = x := ⟨_, rfl⟩
  obtain ⟨q6, hq6⟩ : ∃ x, w16 zs 6 = x := ⟨_, rfl⟩
  rw [hsp] at A0
  rw [hdp] at A2
  rw [hq4] at A4 r4 c4
  rw [hq6] at A6 r6 c6
  have HSP := Lib.hid hsp
  have HDP := Lib.hid hdp
  obtain ⟨r40, r41⟩ := r4
  obtain ⟨r60, r61⟩ := r6
  clear HT h hs hd bs bd hsp hdp hq4 hq6
  have q6b : (q6 == 0) = true := by simp; omega
  have q4b : (q4 != (len : Int)) = false := by simp; omega
  clear c4 c6
  go_enter Try.func18, Try.ntmps18
  go_wp2_with fail
  refine (A0.out _ B0.out).mono ?_
  rintro e w1 ⟨rfl, hb⟩
  have B1 := Lib.hid (B0.out.trans (hb.mono B0.out.size))
  have X' := Lib.hid (kept hb X.out)
  have Y' := Lib.hid (kept hb Y.out)
  have Z' := Lib.hid (kept hb Z.out)
  have N' := Lib.hid (kept hb N.out)
  clear X Y Z N
  have X := X'
  clear X'
  have Y := Y'
  clear Y'
  have Z := Z'
  clear Z'
  have N := N'
  clear N'
  clear hb B0
  go_wp2_with fail
  refine (A2.out _ B1.out).mono ?_
  rintro e w2 ⟨rfl, hb⟩
  have B2 := Lib.hid (B1.out.trans (hb.mono B1.out.size))
  have X' := Lib.hid (kept hb X.out)
  have Y' := Lib.hid (kept hb Y.out)
  have Z' := Lib.hid (kept hb Z.out)
  have N' := Lib.hid (kept hb N.out)
  clear X Y Z N
  have X := X'
  clear X'
  have Y := Y'
  clear Y'
  have Z := Z'
  clear Z'
  have N := N'
  clear N'
  clear hb B1
  go_wp2_with fail
  refine (A6.out _ B2.out).mono ?_
  rintro e w3 ⟨rfl, hb⟩
  have B3 := Lib.hid (B2.out.trans (hb.mono B2.out.size))
  have X' := Lib.hid (kept hb X.out)
  have Y' := Lib.hid (kept hb Y.out)
  have Z' := Lib.hid (kept hb Z.out)
  have N' := Lib.hid (kept hb N.out)
  clear X Y Z N
  have X := X'
  clear X'
  have Y := Y'
  clear Y'
  have Z := Z'
  clear Z'
  have N := N'
  clear N'
  clear hb B2
  go_wp2_with fail
  refine (A4.out _ (B3.out.alloc B3.out.size _)).mono ?_
  rintro e w4 ⟨rfl, hb⟩
  have U := Lib.hid (kept hb (heap_alloc_new w3 (Obj.cells #[.int .u16 sp, .int .u16 dp, .bool true] 34)))
  have B4 := Lib.hid ((B3.out.alloc B3.out.size (Obj.cells #[.int .u16 sp, .int .u16 dp, .bool true] 34)).trans (hb.mono (by have := B3.out.size; simp; omega)))
  have X' := Lib.hid (kept hb (hold_alloc X.out))
  have Y' := Lib.hid (kept hb (hold_alloc Y.out))
  have Z' := Lib.hid (kept hb (hold_alloc Z.out))
  have N' := Lib.hid (kept hb (hold_alloc N.out))
  clear X Y Z N
  have X := X'
  clear X'
  have Y := Y'
  clear Y'
  have Z := Z'
  clear Z'
  have N := N'
  clear N'
  clear hb
  have hw3 : w.heap.size ≤ w3.heap.size := B3.out.size
  clear B3
  have n0 := cell_of (v := .int .u16 0) 0 N.out rfl
  have n1 := cell_of (v := .int .u16 0) 1 N.out rfl
  have n2 := cell_of (v := .bool false) 2 N.out rfl
  have z0 := cell_of (v := .int .u16 0) 0 Z.out rfl
  have z1 := cell_of (v := .int .u16 0) 1 Z.out rfl
  have z2 := cell_of (v := .bool false) 2 Z.out rfl
  have zf0 := free_of 0 Z.out
  have zf1 := free_of 1 Z.out
  have zf2 := free_of 2 Z.out
  have u0 := cell_of (v := .int .u16 sp) 0 U.out rfl
  have u1 := cell_of (v := .int .u16 dp) 1 U.out rfl
  have u2 := cell_of (v := .bool true) 2 U.out rfl
  go_wp2_with fail
  refine bodyPost_ret (v := .tuple #[.agg #[.int .u16 0, .int .u16 0, .bool false], .slice none 0 0, .int .i64 6]) (by simp [results, Try.results18, go_sem, z0, z1, z2]) rfl ⟨rfl, ?_⟩
  repeat' (first | with_reducible exact B4.out | with_reducible refine Below.setCell ?_ ?_ _ | with_reducible refine Below.alloc ?_ ?_ _)
  all_goals (first | (simp; done) | (simp; omega) | omega)

set_option maxRecDepth 1000000 in
set_option maxHeartbeats 4000000 in
theorem udp_sum {w : World} {b off len cap : Nat} {zs : List Int} (v6 : Bool) (ss ds : List Int) (h : Row8 w (some ⟨b, off, none⟩) len cap zs) (h8 : 8 ≤ len) (hl : len ≤ 1099511627776) (hs : ss.length = 16) (hd : ds.length = 16) (bs : ∀ x ∈ ss, 0 ≤ x ∧ x ≤ 255) (bd : ∀ x ∈ ds, 0 ≤ x ∧ x ≤ 255) (c6 : w16 zs 6 ≠ 0) (c4 : w16 zs 4 = len) (cs : ck v6 ss ds 17 zs ≠ 0) :
    Calls Try.prog 18 #[.bool v6, .agg (ar ss), .agg (ar ds), .slice (some ⟨b, off, none⟩) len cap] w (noUDP 6 w) := by
  have HT := heap_four w (Obj.cells (ar ss) 22) (Obj.cells (ar ds) 22) (Obj.cells #[.int .u16 0, .int .u16 0, .bool false] 34) (Obj.cells #[.int .u16 0, .int .u16 0, .bool false] 34)
  have X := Lib.hid HT.1
  have Y := Lib.hid HT.2.1
  have Z := Lib.hid HT.2.2.1
  have N := Lib.hid HT.2.2.2
  have B0 := Lib.hid (below_four w (Obj.cells (ar ss) 22) (Obj.cells (ar ds) 22) (Obj.cells #[.int .u16 0, .int .u16 0, .bool false] 34) (Obj.cells #[.int .u16 0, .int .u16 0, .bool false] 34))
  have H := Lib.hid h
  have HS := Lib.hid hs
  have HD := Lib.hid hd
  have SEAL := Lib.hid (fun W (hb : Below w.heap.size w W) => sealed_any v6 ss ds 17 (h.below hb) hl hs hd bs bd (by omega) (by omega))
  have hcap := h.cap_le
  have hle := h.le
  have A0 := Lib.hid (fun W (hb : Below w.heap.size w W) => at_any (h.below hb) 0 (by omega))
  have A2 := Lib.hid (fun W (hb : Below w.heap.size w W) => at_any (h.below hb) 2 (by omega))
  have A4 := Lib.hid (fun W (hb : Below w.heap.size w W) => at_any (h.below hb) 4 (by omega))
  have A6 := Lib.hid (fun W (hb : Below w.heap.size w W) => at_any (h.below hb) 6 (by omega))
  have r4 := w16_range h.bytes 4
  have r6 := w16_range h.bytes 6
  obtain ⟨sp, hsp⟩ : ∃ x, w16 zs 0 = x := ⟨_, rfl⟩
  obtain ⟨dp, hdp⟩ : ∃ x, w16 zs 2 = x := ⟨_, rfl⟩
  obtain ⟨q4, hq4⟩ : ∃ x, w16 zs 4 = x := ⟨_, rfl⟩
  obtain ⟨q6, hq6⟩ : ∃ x, w16 zs 6 = x := ⟨_, rfl⟩
  rw [hsp] at A0
  rw [hdp] at A2
  rw [hq4] at A4 r4 c4
  rw [hq6] at A6 r6 c6
  have HSP := Lib.hid hsp
  have HDP := Lib.hid hdp
  obtain ⟨r40, r41⟩ := r4
  obtain ⟨r60, r61⟩ := r6
  clear HT h hs hd bs bd hsp hdp hq4 hq6
  have q6b : (q6 == 0) = false := by simp; omega
  have q4b : (q4 != (len : Int)) = false := by simp; omega
  obtain ⟨ck0, hck⟩ : ∃ x, ck v6 ss ds 17 zs = x := ⟨_, rfl⟩
  rw [hck] at SEAL cs
  have csb : (ck0 != 0) = true := by simp; omega
  clear c4 c6 cs hck
  go_enter Try.func18, Try.ntmps18
  go_wp2_with fail
  refine (A0.out _ B0.out).mono ?_
  rintro e w1 ⟨rfl, hb⟩
  have B1 := Lib.hid (B0.out.trans (hb.mono B0.out.size))
  have X' := Lib.hid (kept hb X.out)
  have Y' := Lib.hid (kept hb Y.out)
  have Z' := Lib.hid (kept hb Z.out)
  have N' := Lib.hid (kept hb N.out)
  clear X Y Z N
  have X := X'
  clear X'
  have Y := Y'
  clear Y'
  have Z := Z'
  clear Z'
  have N := N'
  clear N'
  clear hb B0
  go_wp2_with fail
  refine (A2.out _ B1.out).mono ?_
  rintro e w2 ⟨rfl, hb⟩
  have B2 := Lib.hid (B1.out.trans (hb.mono B1.out.size))
  have X' := Lib.hid (kept hb X.out)
  have Y' := Lib.hid (kept hb Y.out)
  have Z' := Lib.hid (kept hb Z.out)
  have N' := Lib.hid (kept hb N.out)
  clear X Y Z N
  have X := X'
  clear X'
  have Y := Y'
  clear Y'
  have Z := Z'
  clear Z'
  have N := N'
  clear N'
  clear hb B1
  go_wp2_with fail
  refine (A6.out _ B2.out).mono ?_
  rintro e w3 ⟨rfl, hb⟩
  have B3 := Lib.hid (B2.out.trans (hb.mono B2.out.size))
  have X' := Lib.hid (kept hb X.out)
  have Y' := Lib.hid (kept hb Y.out)
  have Z' := Lib.hid (kept hb Z.out)
  have N' := Lib.hid (kept hb N.out)
  clear X Y Z N
  have X := X'
  clear X'
  have Y := Y'
  clear Y'
  have Z := Z'
  clear Z'
  have N := N'
  clear N'
  clear hb B2
  go_wp2_with fail
  refine (A4.out _ (B3.out.alloc B3.out.size _)).mono ?_
  rintro e w4 ⟨rfl, hb⟩
  have U := Lib.hid (kept hb (heap_alloc_new w3 (Obj.cells #[.int .u16 sp, .int .u16 dp, .bool false] 34)))
  have B4 := Lib.hid ((B3.out.alloc B3.out.size (Obj.cells #[.int .u16 sp, .int .u16 dp, .bool false] 34)).trans (hb.mono (by have := B3.out.size; simp; omega)))
  have X' := Lib.hid (kept hb (hold_alloc X.out))
  have Y' := Lib.hid (kept hb (hold_alloc Y.out))
  have Z' := Lib.hid (kept hb (hold_alloc Z.out))
  have N' := Lib.hid (kept hb (hold_alloc N.out))
  clear X Y Z N
  have X := X'
  clear X'
  have Y := Y'
  clear Y'
  have Z := Z'
  clear Z'
  have N := N'
  clear N'
  clear hb
  have hw3 : w.heap.size ≤ w3.heap.size := B3.out.size
  clear B3
  have n0 := cell_of (v := .int .u16 0) 0 N.out rfl
  have n1 := cell_of (v := .int .u16 0) 1 N.out rfl
  have n2 := cell_of (v := .bool false) 2 N.out rfl
  have z0 := cell_of (v := .int .u16 0) 0 Z.out rfl
  have z1 := cell_of (v := .int .u16 0) 1 Z.out rfl
  have z2 := cell_of (v := .bool false) 2 Z.out rfl
  have zf0 := free_of 0 Z.out
  have zf1 := free_of 1 Z.out
  have zf2 := free_of 2 Z.out
  have u0 := cell_of (v := .int .u16 sp) 0 U.out rfl
  have u1 := cell_of (v := .int .u16 dp) 1 U.out rfl
  have u2 := cell_of (v := .bool false) 2 U.out rfl
  go_wp2_with (first | (refine arms_load2 (by rfl) _ rfl rfl X.out HS.out ?_) | (refine arms_load2 (by rfl) _ rfl rfl Y.out HD.out ?_))
  refine (SEAL.out _ B4.out).mono ?_
  rintro e w5 ⟨rfl, hb⟩
  have B5 := Lib.hid (B4.out.trans (hb.mono B4.out.size))
  have Z' := Lib.hid (kept hb Z.out)
  have N' := Lib.hid (kept hb N.out)
  have U' := Lib.hid (kept hb U.out)
  clear Z N U
  have Z := Z'
  clear Z'
  have N := N'
  clear N'
  have U := U'
  clear U'
  clear hb B4 X Y n0 n1 n2 z0 z1 z2 zf0 zf1 zf2 u0 u1 u2
  have n0 := cell_of (v := .int .u16 0) 0 N.out rfl
  have n1 := cell_of (v := .int .u16 0) 1 N.out rfl
  have n2 := cell_of (v := .bool false) 2 N.out rfl
  have z0 := cell_of (v := .int .u16 0) 0 Z.out rfl
  have z1 := cell_of (v := .int .u16 0) 1 Z.out rfl
  have z2 := cell_of (v := .bool false) 2 Z.out rfl
  have zf0 := free_of 0 Z.out
  have zf1 := free_of 1 Z.out
  have zf2 := free_of 2 Z.out
  go_wp2_with fail
  refine bodyPost_ret (v := .tuple #[.agg #[.int .u16 0, .int .u16 0, .bool false], .slice none 0 0, .int .i64 6]) (by simp [results, Try.results18, go_sem, z0, z1, z2]) rfl ⟨rfl, ?_⟩
  repeat' (first | with_reducible exact B5.out | with_reducible refine Below.setCell ?_ ?_ _ | with_reducible refine Below.alloc ?_ ?_ _)
  all_goals (first | (simp; done) | (simp; omega) | omega)

set_option maxRecDepth 1000000 in
set_option maxHeartbeats 4000000 in
theorem udp_ok_none {w : World} {b off len cap : Nat} {zs : List Int} (ss ds : List Int) (h : Row8 w (some ⟨b, off, none⟩) len cap zs) (h8 : 8 ≤ len) (hl : len ≤ 1099511627776) (hs : ss.length = 16) (hd : ds.length = 16) (bs : ∀ x ∈ ss, 0 ≤ x ∧ x ≤ 255) (bd : ∀ x ∈ ds, 0 ≤ x ∧ x ≤ 255) (c6 : w16 zs 6 = 0) (c4 : w16 zs 4 = len) :
    Calls Try.prog 18 #[.bool false, .agg (ar ss), .agg (ar ds), .slice (some ⟨b, off, none⟩) len cap] w (okUDP true len zs w) := by
  have HT := heap_four w (Obj.cells (ar ss) 22) (Obj.cells (ar ds) 22) (Obj.cells #[.int .u16 0, .int .u16 0, .bool false] 34) (Obj.cells #[.int .u16 0, .int .u16 0, .bool false] 34)
  have X := Lib.hid HT.1
  have Y := Lib.hid HT.2.1
  have Z := Lib.hid HT.2.2.1
  have N := Lib.hid HT.2.2.2
  have B0 := Lib.hid (below_four w (Obj.cells (ar ss) 22) (Obj.cells (ar ds) 22) (Obj.cells #[.int .u16 0, .int .u16 0, .bool false] 34) (Obj.cells #[.int .u16 0, .int .u16 0, .bool false] 34))
  have H := Lib.hid h
  have HS := Lib.hid hs
  have HD := Lib.hid hd
  have SEAL := Lib.hid (fun W (hb : Below w.heap.size w W) => sealed_any false ss ds 17 (h.below hb) hl hs hd bs bd (by omega) (by omega))
  have hcap := h.cap_le
  have hle := h.le
  have A0 := Lib.hid (fun W (hb : Below w.heap.size w W) => at_any (h.below hb) 0 (by omega))
  have A2 := Lib.hid (fun W (hb : Below w.heap.size w W) => at_any (h.below hb) 2 (by omega))
  have A4 := Lib.hid (fun W (hb : Below w.heap.size w W) => at_any (h.below hb) 4 (by omega))
  have A6 := Lib.hid (fun W (hb : Below w.heap.size w W) => at_any (h.below hb) 6 (by omega))
  have r4 := w16_range h.bytes 4
  have r6 := w16_range h.bytes 6
  obtain ⟨sp, hsp⟩ : ∃ x, w16 zs 0 = x := ⟨_, rfl⟩
  obtain ⟨dp, hdp⟩ : ∃ x, w16 zs 2 = x := ⟨_, rfl⟩
  obtain ⟨q4, hq4⟩ : ∃ x, w16 zs 4 = x := ⟨_, rfl⟩
  obtain ⟨q6, hq6⟩ : ∃ x, w16 zs 6 = x := ⟨_, rfl⟩
  rw [hsp] at A0
  rw [hdp] at A2
  rw [hq4] at A4 r4 c4
  rw [hq6] at A6 r6 c6
  have HSP := Lib.hid hsp
  have HDP := Lib.hid hdp
  obtain ⟨r40, r41⟩ := r4
  obtain ⟨r60, r61⟩ := r6
  clear HT h hs hd bs bd hsp hdp hq4 hq6
  have q6b : (q6 == 0) = true := by simp; omega
  have q4b : (q4 != (len : Int)) = false := by simp; omega
  clear c4 c6
  go_enter Try.func18, Try.ntmps18
  go_wp2_with fail
  refine (A0.out _ B0.out).mono ?_
  rintro e w1 ⟨rfl, hb⟩
  have B1 := Lib.hid (B0.out.trans (hb.mono B0.out.size))
  have X' := Lib.hid (kept hb X.out)
  have Y' := Lib.hid (kept hb Y.out)
  have Z' := Lib.hid (kept hb Z.out)
  have N' := Lib.hid (kept hb N.out)
  clear X Y Z N
  have X := X'
  clear X'
  have Y := Y'
  clear Y'
  have Z := Z'
  clear Z'
  have N := N'
  clear N'
  clear hb B0
  go_wp2_with fail
  refine (A2.out _ B1.out).mono ?_
  rintro e w2 ⟨rfl, hb⟩
  have B2 := Lib.hid (B1.out.trans (hb.mono B1.out.size))
  have X' := Lib.hid (kept hb X.out)
  have Y' := Lib.hid (kept hb Y.out)
  have Z' := Lib.hid (kept hb Z.out)
  have N' := Lib.hid (kept hb N.out)
  clear X Y Z N
  have X := X'
  clear X'
  have Y := Y'
  clear Y'
  have Z := Z'
  clear Z'
  have N := N'
  clear N'
  clear hb B1
  go_wp2_with fail
  refine (A6.out _ B2.out).mono ?_
  rintro e w3 ⟨rfl, hb⟩
  have B3 := Lib.hid (B2.out.trans (hb.mono B2.out.size))
  have X' := Lib.hid (kept hb X.out)
  have Y' := Lib.hid (kept hb Y.out)
  have Z' := Lib.hid (kept hb Z.out)
  have N' := Lib.hid (kept hb N.out)
  clear X Y Z N
  have X := X'
  clear X'
  have Y := Y'
  clear Y'
  have Z := Z'
  clear Z'
  have N := N'
  clear N'
  clear hb B2
  go_wp2_with fail
  refine (A4.out _ (B3.out.alloc B3.out.size _)).mono ?_
  rintro e w4 ⟨rfl, hb⟩
  have U := Lib.hid (kept hb (heap_alloc_new w3 (Obj.cells #[.int .u16 sp, .int .u16 dp, .bool true] 34)))
  have B4 := Lib.hid ((B3.out.alloc B3.out.size (Obj.cells #[.int .u16 sp, .int .u16 dp, .bool true] 34)).trans (hb.mono (by have := B3.out.size; simp; omega)))
  have X' := Lib.hid (kept hb (hold_alloc X.out))
  have Y' := Lib.hid (kept hb (hold_alloc Y.out))
  have Z' := Lib.hid (kept hb (hold_alloc Z.out))
  have N' := Lib.hid (kept hb (hold_alloc N.out))
  clear X Y Z N
  have X := X'
  clear X'
  have Y := Y'
  clear Y'
  have Z := Z'
  clear Z'
  have N := N'
  clear N'
  clear hb
  have hw3 : w.heap.size ≤ w3.heap.size := B3.out.size
  clear B3
  have n0 := cell_of (v := .int .u16 0) 0 N.out rfl
  have n1 := cell_of (v := .int .u16 0) 1 N.out rfl
  have n2 := cell_of (v := .bool false) 2 N.out rfl
  have z0 := cell_of (v := .int .u16 0) 0 Z.out rfl
  have z1 := cell_of (v := .int .u16 0) 1 Z.out rfl
  have z2 := cell_of (v := .bool false) 2 Z.out rfl
  have zf0 := free_of 0 Z.out
  have zf1 := free_of 1 Z.out
  have zf2 := free_of 2 Z.out
  have u0 := cell_of (v := .int .u16 sp) 0 U.out rfl
  have u1 := cell_of (v := .int .u16 dp) 1 U.out rfl
  have u2 := cell_of (v := .bool true) 2 U.out rfl
  go_wp2_with fail
  clear n0 n1 n2 z0 z1 z2 zf0 zf1 zf2 u0 u1 u2
  obtain ⟨ad8, had⟩ : ∃ ad, (if cap = 8 then some ⟨b, off, none⟩ else some ⟨b, off + 8, none⟩ : Option Addr) = ad := ⟨_, rfl⟩
  have HAD := Lib.hid had
  clear had
  have SL : Hid (∀ W, Below w4.heap.size w4 W → Row8 W ad8 (len - 8) (cap - 8) (zs.drop 8)) := fun W hW => by rw [← HAD.out]; exact ((H.out.below B4.out).below hW).tail h8
  have i8 : (8 : Int) ≤ (len : Int) := by omega
  refine region_tails_lit 4 [[(12, none)], [(3, none)], [(52, some 1)], [(53, some 2)]]
    [Is (.agg #[.int .u16 sp, .int .u16 dp, .bool true]), Is (.slice (some ⟨b, off, none⟩) len cap), Is (.slice ad8 (len - 8) (cap - 8)), Fresh8 w4.heap.size (len - 8) (zs.drop 8)]
    (by kernel_rfl) (List.cons_ne_nil _ _) (by kernel_rfl) (by kernel_rfl) rfl ⟨stab_is _, stab_is _, stab_is _, stab_fresh _ _ _, trivial⟩ ?_ ?_
  · refine ⟨step_plain rfl ?_, step_plain rfl ?_, step_plain rfl ?_, step_plain rfl ?_, trivial⟩
    · rintro a W hW ⟨h12, _⟩
      replace h12 : a.tmps[12]? = some (.pointer (some ⟨w3.heap.size, 0, none⟩)) := h12
      have u0 := cell_of (v := .int .u16 sp) 0 (kept hW U.out) rfl
      have u1 := cell_of (v := .int .u16 dp) 1 (kept hW U.out) rfl
      have u2 := cell_of (v := .bool true) 2 (kept hW U.out) rfl
      simp only [execOp]
      go_simp
      exact step_val
    · rintro a W hW ⟨h3, _⟩
      replace h3 : a.tmps[3]? = some (.slice (some ⟨b, off, none⟩) len cap) := h3
      simp only [execOp]
      go_simp
      exact step_val
    · rintro a W hW ⟨⟨v52, h52, rfl⟩, _⟩
      simp only [execOp]
      go_simp
      rw [HAD.out]
      exact step_val
    · rintro a W hW ⟨⟨v53, h53, rfl⟩, _⟩
      go_simp
      exact step_fresh (clone_any (SL.out W hW) (by omega)) hW.size
  · intro W hW
    simp only [List.take_succ_cons, List.take_zero, List.drop_succ_cons, List.drop_zero]
    with_reducible refine grow_is ?_
    with_reducible refine grow_is ?_
    with_reducible refine grow_is ?_
    with_reducible refine grow_any ?_
    intro v54 k54
    with_reducible refine grow_end ?_
    obtain ⟨a', c', rfl, ho⟩ := k54
    have BW := Lib.hid (B4.out.trans (hW.mono B4.out.size))
    have ZW := Lib.hid (kept hW Z.out)
    have ZB := lt_of_heap Z.out
    have OW := Lib.hid ho
    have z0 := cell_of (v := .int .u16 0) 0 ZW.out rfl
    have z1 := cell_of (v := .int .u16 0) 1 ZW.out rfl
    have z2 := cell_of (v := .bool false) 2 ZW.out rfl
    have zf0 := free_of 0 ZW.out
    have zf1 := free_of 1 ZW.out
    have zf2 := free_of 2 ZW.out
    clear hW ho Z
    go_wp2_with fail
    refine bodyPost_ret (v := .tuple #[.agg #[.int .u16 sp, .int .u16 dp, .bool true], .slice a' (len - 8) c', .int .i64 0]) (by simp [results, Try.results18, go_sem, z0, z1, z2]) rfl ⟨a', c', by rw [HSP.out, HDP.out], ?_, ?_⟩
    · exact (((OW.out.other ZB).other ZB).other ZB).mono B4.out.size
    · repeat' (first | with_reducible exact BW.out | with_reducible refine Below.setCell ?_ ?_ _ | with_reducible refine Below.alloc ?_ ?_ _)
      all_goals (first | (simp; done) | (simp; omega) | omega)

set_option maxRecDepth 1000000 in
set_option maxHeartbeats 4000000 in
theorem udp_ok_sum {w : World} {b off len cap : Nat} {zs : List Int} (v6 : Bool) (ss ds : List Int) (h : Row8 w (some ⟨b, off, none⟩) len cap zs) (h8 : 8 ≤ len) (hl : len ≤ 1099511627776) (hs : ss.length = 16) (hd : ds.length = 16) (bs : ∀ x ∈ ss, 0 ≤ x ∧ x ≤ 255) (bd : ∀ x ∈ ds, 0 ≤ x ∧ x ≤ 255) (c6 : w16 zs 6 ≠ 0) (c4 : w16 zs 4 = len) (cs : ck v6 ss ds 17 zs = 0) :
    Calls Try.prog 18 #[.bool v6, .agg (ar ss), .agg (ar ds), .slice (some ⟨b, off, none⟩) len cap] w (okUDP false len zs w) := by
  have HT := heap_four w (Obj.cells (ar ss) 22) (Obj.cells (ar ds) 22) (Obj.cells #[.int .u16 0, .int .u16 0, .bool false] 34) (Obj.cells #[.int .u16 0, .int .u16 0, .bool false] 34)
  have X := Lib.hid HT.1
  have Y := Lib.hid HT.2.1
  have Z := Lib.hid HT.2.2.1
  have N := Lib.hid HT.2.2.2
  have B0 := Lib.hid (below_four w (Obj.cells (ar ss) 22) (Obj.cells (ar ds) 22) (Obj.cells #[.int .u16 0, .int .u16 0, .bool false] 34) (Obj.cells #[.int .u16 0, .int .u16 0, .bool false] 34))
  have H := Lib.hid h
  have HS := Lib.hid hs
  have HD := Lib.hid hd
  have SEAL := Lib.hid (fun W (hb : Below w.heap.size w W) => sealed_any v6 ss ds 17 (h.below hb) hl hs hd bs bd (by omega) (by omega))
  have hcap := h.cap_le
  have hle := h.le
  have A0 := Lib.hid (fun W (hb : Below w.heap.size w W) => at_any (h.below hb) 0 (by omega))
  have A2 := Lib.hid (fun W (hb : Below w.heap.size w W) => at_any (h.below hb) 2 (by omega))
  have A4 := Lib.hid (fun W (hb : Below w.heap.size w W) => at_any (h.below hb) 4 (by omega))
  have A6 := Lib.hid (fun W (hb : Below w.heap.size w W) => at_any (h.below hb) 6 (by omega))
  have r4 := w16_range h.bytes 4
  have r6 := w16_range h.bytes 6
  obtain ⟨sp, hsp⟩ : ∃ x, w16 zs 0 = x := ⟨_, rfl⟩
  obtain ⟨dp, hdp⟩ : ∃ x, w16 zs 2 = x := ⟨_, rfl⟩
  obtain ⟨q4, hq4⟩ : ∃ x, w16 zs 4 = x := ⟨_, rfl⟩
  obtain ⟨q6, hq6⟩ : ∃ x, w16 zs 6 = x := ⟨_, rfl⟩
  rw [hsp] at A0
  rw [hdp] at A2
  rw [hq4] at A4 r4 c4
  rw [hq6] at A6 r6 c6
  have HSP := Lib.hid hsp
  have HDP := Lib.hid hdp
  obtain ⟨r40, r41⟩ := r4
  obtain ⟨r60, r61⟩ := r6
  clear HT h hs hd bs bd hsp hdp hq4 hq6
  have q6b : (q6 == 0) = false := by simp; omega
  have q4b : (q4 != (len : Int)) = false := by simp; omega
  obtain ⟨ck0, hck⟩ : ∃ x, ck v6 ss ds 17 zs = x := ⟨_, rfl⟩
  rw [hck] at SEAL cs
  have csb : (ck0 != 0) = false := by simp; omega
  clear c4 c6 cs hck
  go_enter Try.func18, Try.ntmps18
  go_wp2_with fail
  refine (A0.out _ B0.out).mono ?_
  rintro e w1 ⟨rfl, hb⟩
  have B1 := Lib.hid (B0.out.trans (hb.mono B0.out.size))
  have X' := Lib.hid (kept hb X.out)
  have Y' := Lib.hid (kept hb Y.out)
  have Z' := Lib.hid (kept hb Z.out)
  have N' := Lib.hid (kept hb N.out)
  clear X Y Z N
  have X := X'
  clear X'
  have Y := Y'
  clear Y'
  have Z := Z'
  clear Z'
  have N := N'
  clear N'
  clear hb B0
  go_wp2_with fail
  refine (A2.out _ B1.out).mono ?_
  rintro e w2 ⟨rfl, hb⟩
  have B2 := Lib.hid (B1.out.trans (hb.mono B1.out.size))
  have X' := Lib.hid (kept hb X.out)
  have Y' := Lib.hid (kept hb Y.out)
  have Z' := Lib.hid (kept hb Z.out)
  have N' := Lib.hid (kept hb N.out)
  clear X Y Z N
  have X := X'
  clear X'
  have Y := Y'
  clear Y'
  have Z := Z'
  clear Z'
  have N := N'
  clear N'
  clear hb B1
  go_wp2_with fail
  refine (A6.out _ B2.out).mono ?_
  rintro e w3 ⟨rfl, hb⟩
  have B3 := Lib.hid (B2.out.trans (hb.mono B2.out.size))
  have X' := Lib.hid (kept hb X.out)
  have Y' := Lib.hid (kept hb Y.out)
  have Z' := Lib.hid (kept hb Z.out)
  have N' := Lib.hid (kept hb N.out)
  clear X Y Z N
  have X := X'
  clear X'
  have Y := Y'
  clear Y'
  have Z := Z'
  clear Z'
  have N := N'
  clear N'
  clear hb B2
  go_wp2_with fail
  refine (A4.out _ (B3.out.alloc B3.out.size _)).mono ?_
  rintro e w4 ⟨rfl, hb⟩
  have U := Lib.hid (kept hb (heap_alloc_new w3 (Obj.cells #[.int .u16 sp, .int .u16 dp, .bool false] 34)))
  have B4 := Lib.hid ((B3.out.alloc B3.out.size (Obj.cells #[.int .u16 sp, .int .u16 dp, .bool false] 34)).trans (hb.mono (by have := B3.out.size; simp; omega)))
  have X' := Lib.hid (kept hb (hold_alloc X.out))
  have Y' := Lib.hid (kept hb (hold_alloc Y.out))
  have Z' := Lib.hid (kept hb (hold_alloc Z.out))
  have N' := Lib.hid (kept hb (hold_alloc N.out))
  clear X Y Z N
  have X := X'
  clear X'
  have Y := Y'
  clear Y'
  have Z := Z'
  clear Z'
  have N := N'
  clear N'
  clear hb
  have hw3 : w.heap.size ≤ w3.heap.size := B3.out.size
  clear B3
  have n0 := cell_of (v := .int .u16 0) 0 N.out rfl
  have n1 := cell_of (v := .int .u16 0) 1 N.out rfl
  have n2 := cell_of (v := .bool false) 2 N.out rfl
  have z0 := cell_of (v := .int .u16 0) 0 Z.out rfl
  have z1 := cell_of (v := .int .u16 0) 1 Z.out rfl
  have z2 := cell_of (v := .bool false) 2 Z.out rfl
  have zf0 := free_of 0 Z.out
  have zf1 := free_of 1 Z.out
  have zf2 := free_of 2 Z.out
  have u0 := cell_of (v := .int .u16 sp) 0 U.out rfl
  have u1 := cell_of (v := .int .u16 dp) 1 U.out rfl
  have u2 := cell_of (v := .bool false) 2 U.out rfl
  go_wp2_with (first | (refine arms_load2 (by rfl) _ rfl rfl X.out HS.out ?_) | (refine arms_load2 (by rfl) _ rfl rfl Y.out HD.out ?_))
  refine (SEAL.out _ B4.out).mono ?_
  rintro e w5 ⟨rfl, hb⟩
  have B5 := Lib.hid (B4.out.trans (hb.mono B4.out.size))
  have Z' := Lib.hid (kept hb Z.out)
  have N' := Lib.hid (kept hb N.out)
  have U' := Lib.hid (kept hb U.out)
  clear Z N U
  have Z := Z'
  clear Z'
  have N := N'
  clear N'
  have U := U'
  clear U'
  clear hb B4 X Y n0 n1 n2 z0 z1 z2 zf0 zf1 zf2 u0 u1 u2
  have n0 := cell_of (v := .int .u16 0) 0 N.out rfl
  have n1 := cell_of (v := .int .u16 0) 1 N.out rfl
  have n2 := cell_of (v := .bool false) 2 N.out rfl
  have z0 := cell_of (v := .int .u16 0) 0 Z.out rfl
  have z1 := cell_of (v := .int .u16 0) 1 Z.out rfl
  have z2 := cell_of (v := .bool false) 2 Z.out rfl
  have zf0 := free_of 0 Z.out
  have zf1 := free_of 1 Z.out
  have zf2 := free_of 2 Z.out
  go_wp2_with fail
  clear n0 n1 n2 z0 z1 z2 zf0 zf1 zf2
  obtain ⟨ad8, had⟩ : ∃ ad, (if cap = 8 then some ⟨b, off, none⟩ else some ⟨b, off + 8, none⟩ : Option Addr) = ad := ⟨_, rfl⟩
  have HAD := Lib.hid had
  clear had
  have SL : Hid (∀ W, Below w5.heap.size w5 W → Row8 W ad8 (len - 8) (cap - 8) (zs.drop 8)) := fun W hW => by rw [← HAD.out]; exact ((H.out.below B5.out).below hW).tail h8
  have i8 : (8 : Int) ≤ (len : Int) := by omega
  refine region_tails_lit 4 [[(12, none)], [(3, none)], [(52, some 1)], [(53, some 2)]]
    [Is (.agg #[.int .u16 sp, .int .u16 dp, .bool false]), Is (.slice (some ⟨b, off, none⟩) len cap), Is (.slice ad8 (len - 8) (cap - 8)), Fresh8 w5.heap.size (len - 8) (zs.drop 8)]
    (by kernel_rfl) (List.cons_ne_nil _ _) (by kernel_rfl) (by kernel_rfl) rfl ⟨stab_is _, stab_is _, stab_is _, stab_fresh _ _ _, trivial⟩ ?_ ?_
  · refine ⟨step_plain rfl ?_, step_plain rfl ?_, step_plain rfl ?_, step_plain rfl ?_, trivial⟩
    · rintro a W hW ⟨h12, _⟩
      replace h12 : a.tmps[12]? = some (.pointer (some ⟨w3.heap.size, 0, none⟩)) := h12
      have u0 := cell_of (v := .int .u16 sp) 0 (kept hW U.out) rfl
      have u1 := cell_of (v := .int .u16 dp) 1 (kept hW U.out) rfl
      have u2 := cell_of (v := .bool false) 2 (kept hW U.out) rfl
      simp only [execOp]
      go_simp
      exact step_val
    · rintro a W hW ⟨h3, _⟩
      replace h3 : a.tmps[3]? = some (.slice (some ⟨b, off, none⟩) len cap) := h3
      simp only [execOp]
      go_simp
      exact step_val
    · rintro a W hW ⟨⟨v52, h52, rfl⟩, _⟩
      simp only [execOp]
      go_simp
      rw [HAD.out]
      exact step_val
    · rintro a W hW ⟨⟨v53, h53, rfl⟩, _⟩
      go_simp
      exact step_fresh (clone_any (SL.out W hW) (by omega)) hW.size
  · intro W hW
    simp only [List.take_succ_cons, List.take_zero, List.drop_succ_cons, List.drop_zero]
    with_reducible refine grow_is ?_
    with_reducible refine grow_is ?_
    with_reducible refine grow_is ?_
    with_reducible refine grow_any ?_
    intro v54 k54
    with_reducible refine grow_end ?_
    obtain ⟨a', c', rfl, ho⟩ := k54
    have BW := Lib.hid (B5.out.trans (hW.mono B5.out.size))
    have ZW := Lib.hid (kept hW Z.out)
    have ZB := lt_of_heap Z.out
    have OW := Lib.hid ho
    have z0 := cell_of (v := .int .u16 0) 0 ZW.out rfl
    have z1 := cell_of (v := .int .u16 0) 1 ZW.out rfl
    have z2 := cell_of (v := .bool false) 2 ZW.out rfl
    have zf0 := free_of 0 ZW.out
    have zf1 := free_of 1 ZW.out
    have zf2 := free_of 2 ZW.out
    clear hW ho Z
    go_wp2_with fail
    refine bodyPost_ret (v := .tuple #[.agg #[.int .u16 sp, .int .u16 dp, .bool false], .slice a' (len - 8) c', .int .i64 0]) (by simp [results, Try.results18, go_sem, z0, z1, z2]) rfl ⟨a', c', by rw [HSP.out, HDP.out], ?_, ?_⟩
    · exact (((OW.out.other ZB).other ZB).other ZB).mono B5.out.size
    · repeat' (first | with_reducible exact BW.out | with_reducible refine Below.setCell ?_ ?_ _ | with_reducible refine Below.alloc ?_ ?_ _)
      all_goals (first | (simp; done) | (simp; omega) | omega)

end Go.Proofs.Ytcbjjkpjbdcakaa
