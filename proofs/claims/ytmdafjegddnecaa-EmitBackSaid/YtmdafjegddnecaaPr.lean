/- The walk of the reference's Pseudo. -/
import Derived.Test.YtmdafjegddnecaaPs
import Derived.LoopN
import Derived.Deep.RegionLaw
namespace Go.Proofs.Ytmdafjegddnecaa
open Go.RowKit Go.Wb
set_option linter.unusedVariables false
set_option linter.unusedSimpArgs false

theorem step_app8 {w : World} {ops : Array Oper} {op : Oper} {ac : Act} {Q : Exit → Act → World → Prop} {K : Act → World → Prop} {E : Prop} (hg : op.guard = none) (s x : Operand)
    (ho : op.op = .call { callee := .builtin .append, args := #[s, x], argTypes := #[24, 24] }) (base : Nat) (a0 : Option Addr) (len0 cap0 : Nat) (ys : List Int) (hs : ac.eval s = .slice a0 len0 cap0) (hown : Own8 base w a0 len0 cap0 ys)
    (ao : Option Addr) (len cap : Nat) (zs : List Int) (hx : ac.eval x = .slice ao len cap) (h : Row8 w ao len cap zs) (hl47 : len0 + len ≤ 140737488355328)
    (HK : ∀ a' cap' w', Own8 base w' a' (len0 + len) cap' (ys ++ zs) → w.grownBy w' (Value.slice a0 len0 cap0).ownBlock → K (ac.put op.dst (.slice a' (len0 + len) cap')) w') :
    if Region.wanted op (yielded ops ac.tmps) = true then Oper.wp Try.prog op ac w K Q else E := by
  rw [if_pos (by simp [Region.wanted, hg])]
  exact wp_app8 s x ho base a0 len0 cap0 ys hs hown ao len cap zs hx h hl47 HK

theorem Own8.nil {base : Nat} {w : World} (h : base ≤ w.heap.size) : Own8 base w none 0 0 [] := ⟨World.ownsRow_nil w base 5 1, by simp, h⟩

set_option maxRecDepth 100000 in
set_option maxHeartbeats 1000000 in
theorem number4 (n : Int) (w : World) (n0 : 0 ≤ n) (n1 : n ≤ 9223372036854775807) : Calls Try.prog 150 #[.int .i64 n, .int .i64 4] w fun e w' => ∃ g, e = .returned (.slice (some ⟨g, 0, none⟩) 4 4) ∧ w.heap.size ≤ g ∧ w'.heap[g]? = some (.cells (ar [n / 16777216 % 256, n / 65536 % 256, n / 256 % 256, n % 256]) 5 (0, 0)) ∧ Below w.heap.size w w' := by
  have hmk : ∀ w, (Instr.makeSlice 24 (.int .i64 4) (.int .i64 4)).run Try.prog w = .ok (.slice (some ⟨w.heap.size, 0, none⟩) 4 4) (w.alloc (.cells #[.int .u8 0, .int .u8 0, .int .u8 0, .int .u8 0] 5 (0, 0))) := fun _ => by kernel_rfl
  go_enter Try.func150, Try.ntmps150
  go_wp2_with fail
  refine wp_loop_rounds 5 ?_
  rw [rounds_succ]
  go_wp2_with fail
  rw [rounds_succ]
  go_wp2_with fail
  rw [rounds_succ]
  go_wp2_with fail
  rw [rounds_succ]
  go_wp2_with fail
  rw [rounds_succ]
  go_wp2_with fail
  go_ret
  refine ⟨w.heap.size, rfl, Nat.le_refl _, ?_, (Below.refl _ _).alloc (Nat.le_refl _) _⟩
  have e2 : n / 65536 = n / 256 / 256 := by omega
  have e3 : n / 16777216 = n / 256 / 256 / 256 := by omega
  rw [e3, e2]
  exact heap_alloc_new w _

set_option maxRecDepth 100000 in
set_option maxHeartbeats 1000000 in
theorem number2 (n : Int) (w : World) (n0 : 0 ≤ n) (n1 : n ≤ 9223372036854775807) : Calls Try.prog 150 #[.int .i64 n, .int .i64 2] w fun e w' => ∃ g, e = .returned (.slice (some ⟨g, 0, none⟩) 2 2) ∧ w.heap.size ≤ g ∧ w'.heap[g]? = some (.cells (ar [n / 256 % 256, n % 256]) 5 (0, 0)) ∧ Below w.heap.size w w' := by
  have hmk : ∀ w, (Instr.makeSlice 24 (.int .i64 2) (.int .i64 2)).run Try.prog w = .ok (.slice (some ⟨w.heap.size, 0, none⟩) 2 2) (w.alloc (.cells #[.int .u8 0, .int .u8 0] 5 (0, 0))) := fun _ => by kernel_rfl
  go_enter Try.func150, Try.ntmps150
  go_wp2_with fail
  refine wp_loop_rounds 3 ?_
  rw [rounds_succ]
  go_wp2_with fail
  rw [rounds_succ]
  go_wp2_with fail
  rw [rounds_succ]
  go_wp2_with fail
  go_ret
  exact ⟨w.heap.size, rfl, Nat.le_refl _, heap_alloc_new w _, (Below.refl _ _).alloc (Nat.le_refl _) _⟩

set_option maxRecDepth 100000 in
set_option maxHeartbeats 4000000 in
theorem rpseudo4 (ss ds : List Int) (pr n : Int) (w : World) (hs : ss.length = 16) (hd : ds.length = 16) (bs : ∀ x ∈ ss, 0 ≤ x ∧ x ≤ 255) (bd : ∀ x ∈ ds, 0 ≤ x ∧ x ≤ 255) (p0 : 0 ≤ pr) (p1 : pr ≤ 255) (n0 : 0 ≤ n) (n1 : n ≤ 9223372036854775807) :
    Calls Try.prog 123 #[.bool false, .agg (ar ss), .agg (ar ds), .int .u8 pr, .int .i64 n] w fun e w' => e = .returned (.agg #[.int .u16 (sumTo 0 false (phead false ss ds pr n)), .bool false]) ∧ Below w.heap.size w w' := by
  have HX := heap_three w (Obj.cells (ar ss) 23) (Obj.cells (ar ds) 23) (Obj.cells #[.int .u16 0, .bool false] 194)
  have B0 := Lib.hid (below_three w (Obj.cells (ar ss) 23) (Obj.cells (ar ds) 23) (Obj.cells #[.int .u16 0, .bool false] 194))
  have RX : Hid (Row8 (((w.alloc (Obj.cells (ar ss) 23)).alloc (Obj.cells (ar ds) 23)).alloc (Obj.cells #[.int .u16 0, .bool false] 194)).drew (some ⟨w.heap.size, 0, none⟩) 4 16 (ss.take 4)) := row_of_block HX.1 hs (by omega) (by omega) bs
  have RY : Hid (Row8 (((w.alloc (Obj.cells (ar ss) 23)).alloc (Obj.cells (ar ds) 23)).alloc (Obj.cells #[.int .u16 0, .bool false] 194)) (some ⟨w.heap.size + 1, 0, none⟩) 4 16 (ds.take 4)) := row_of_block HX.2.1 hd (by omega) (by omega) bd
  have Z := Lib.hid HX.2.2
  have HS := Lib.hid hs
  have HD := Lib.hid hd
  have BS := Lib.hid bs
  have BD := Lib.hid bd
  clear HX hs hd bs bd
  have hn0 : ¬ n < 0 := by omega
  go_enter Try.func123, Try.ntmps123
  go_wp2_with fail
  generalize ((w.alloc (Obj.cells (ar ss) 23)).alloc (Obj.cells (ar ds) 23)).alloc (Obj.cells #[.int .u16 0, .bool false] 194) = w0 at *
  go_region_law (first
    | ((refine step_app8 rfl _ _ rfl w0.heap.size none 0 0 [] (by rfl) (Own8.nil (Nat.le_refl _)) (some ⟨w.heap.size, 0, none⟩) 4 16 (ss.take 4) (by rfl) RX.out (by omega) ?_; intro a1 c1 w1 ho1 hg1; simp only [Nat.zero_add, List.nil_append] at ho1 ⊢; have O1 := Lib.hid ho1; have B1 : Hid (Below w0.heap.size w0 w1) := (Below.grown (Below.drew (Below.refl _ _)) hg1 (Nat.le_refl _) (by intro q hq; cases hq)); clear ho1 hg1))
    | ((refine step_app8 rfl _ _ rfl w0.heap.size a1 4 c1 (ss.take 4) (by rfl) O1.out (some ⟨w.heap.size + 1, 0, none⟩) 4 16 (ds.take 4) (by rfl) (RY.out.below B1.out) (by omega) ?_; intro a2 c2 w2 ho2 hg2; have O2 := Lib.hid ho2; have B2 : Hid (Below w0.heap.size w0 w2) := (Below.grown B1.out hg2 B1.out.size (fun q hq => O1.out.blk hq)); clear ho2 hg2)))
  have BW := Lib.hid (B0.out.trans (B2.out.mono B0.out.size))
  have hz2 : w0.heap.size ≤ w2.heap.size := B2.out.size
  have ZL : Hid (w.heap.size + 1 + 1 < w0.heap.size) := lt_of_heap Z.out
  have WL : Hid (w.heap.size ≤ w0.heap.size) := B0.out.size
  clear O1 B1 RX RY
  have pb : ∀ x ∈ [0, pr], 0 ≤ x ∧ x ≤ 255 := by intro x hx; simp only [List.mem_cons, List.not_mem_nil, or_false] at hx; omega
  have nb : ∀ x ∈ [n / 256 % 256, n % 256], 0 ≤ x ∧ x ≤ 255 := by intro x hx; simp only [List.mem_cons, List.not_mem_nil, or_false] at hx; omega
  have PB := Lib.hid pb
  have NB := Lib.hid nb
  clear pb nb
  go_wp2_with (at_builtin; refine wpList_app8 rfl _ _ rfl w0.heap.size a2 8 c2 (ss.take 4 ++ ds.take 4) rfl (O2.out.keep ((Below.refl _ _).alloc (Nat.le_refl _) _)) (some ⟨w2.heap.size, 0, none⟩) 2 2 [0, pr] rfl (row_full (heap_alloc_new w2 _) rfl (by omega) PB.out) (by omega) ?_; intro a3 c3 w3 ho3 hg3; have O3 := Lib.hid ho3; have B3 : Hid (Below w0.heap.size w0 w3) := (Below.grown (B2.out.alloc hz2 _) hg3 (by simp; omega) (fun q hq => O2.out.blk hq)); clear ho3 hg3)
  refine (number2 n _ n0 n1).mono ?_
  rintro e w4 ⟨g, rfl, hg, hh, hb⟩
  have O4 := Lib.hid (O3.out.keep hb)
  have B4 := Lib.hid (B3.out.trans (hb.mono B3.out.size))
  have R4 := Lib.hid (row_full (n := 2) hh rfl (by omega) NB.out)
  clear hb hh O3 B3 O2 B2 BW hg hz2
  go_wp2_with (at_builtin; refine wpList_app8 rfl _ _ rfl w0.heap.size a3 10 c3 (ss.take 4 ++ ds.take 4 ++ [0, pr]) rfl O4.out (some ⟨g, 0, none⟩) 2 2 [n / 256 % 256, n % 256] rfl R4.out (by omega) ?_; intro a5 c5 w5 ho5 hg5; have O5 := Lib.hid ho5; have B5 : Hid (Below w0.heap.size w0 w5) := (Below.grown B4.out hg5 B4.out.size (fun q hq => O4.out.blk hq)); clear ho5 hg5)
  refine (radd_row O5.out.row (by omega) 0 false (by omega) (by omega)).mono ?_
  rintro e w6 ⟨rfl, hb⟩
  have B6 := Lib.hid (B5.out.trans (hb.mono B5.out.size))
  have ZY := Lib.hid (Below.at B6.out Z.out ZL.out)
  have BY := Lib.hid (B0.out.trans (B6.out.mono WL.out))
  have z0 := cell_of (v := .int .u16 0) 0 ZY.out rfl
  have z1 := cell_of (v := .bool false) 1 ZY.out rfl
  have zf0 := free_of 0 ZY.out
  have zf1 := free_of 1 ZY.out
  have F3 : Hid (List.take 4 ss ++ List.take 4 ds ++ [0, pr] ++ [n / 256 % 256, n % 256] = phead false ss ds pr n) := by show _ = _; simp [phead, tail4, tail6]
  have kq : par false (10 + 2) = false := rfl
  rw [F3.out, kq]
  clear hb O5 B5 B6 Z F3 PB NB
  go_wp2_with fail
  refine bodyPost_ret (v := .agg #[.int .u16 (sumTo 0 false (phead false ss ds pr n)), .bool false]) (by simp [results, Try.results123, go_sem, z0, z1]) rfl ⟨rfl, ?_⟩
  repeat' (first | with_reducible exact BY.out | with_reducible refine Below.setCell ?_ ?_ _ | with_reducible refine Below.alloc ?_ ?_ _)
  all_goals (first | (simp; done) | (simp; omega) | omega)

set_option maxRecDepth 100000 in
set_option maxHeartbeats 4000000 in
theorem rpseudo6 (ss ds : List Int) (pr n : Int) (w : World) (hs : ss.length = 16) (hd : ds.length = 16) (bs : ∀ x ∈ ss, 0 ≤ x ∧ x ≤ 255) (bd : ∀ x ∈ ds, 0 ≤ x ∧ x ≤ 255) (p0 : 0 ≤ pr) (p1 : pr ≤ 255) (n0 : 0 ≤ n) (n1 : n ≤ 9223372036854775807) :
    Calls Try.prog 123 #[.bool true, .agg (ar ss), .agg (ar ds), .int .u8 pr, .int .i64 n] w fun e w' => e = .returned (.agg #[.int .u16 (sumTo 0 false (phead true ss ds pr n)), .bool false]) ∧ Below w.heap.size w w' := by
  have HX := heap_three w (Obj.cells (ar ss) 23) (Obj.cells (ar ds) 23) (Obj.cells #[.int .u16 0, .bool false] 194)
  have B0 := Lib.hid (below_three w (Obj.cells (ar ss) 23) (Obj.cells (ar ds) 23) (Obj.cells #[.int .u16 0, .bool false] 194))
  have RX : Hid (Row8 (((w.alloc (Obj.cells (ar ss) 23)).alloc (Obj.cells (ar ds) 23)).alloc (Obj.cells #[.int .u16 0, .bool false] 194)).drew (some ⟨w.heap.size, 0, none⟩) 16 16 ss) := row_full HX.1 hs (by omega) bs
  have RY : Hid (Row8 (((w.alloc (Obj.cells (ar ss) 23)).alloc (Obj.cells (ar ds) 23)).alloc (Obj.cells #[.int .u16 0, .bool false] 194)) (some ⟨w.heap.size + 1, 0, none⟩) 16 16 ds) := row_full HX.2.1 hd (by omega) bd
  have Z := Lib.hid HX.2.2
  have HS := Lib.hid hs
  have HD := Lib.hid hd
  have BS := Lib.hid bs
  have BD := Lib.hid bd
  clear HX hs hd bs bd
  have hn0 : ¬ n < 0 := by omega
  go_enter Try.func123, Try.ntmps123
  go_wp2_with fail
  generalize ((w.alloc (Obj.cells (ar ss) 23)).alloc (Obj.cells (ar ds) 23)).alloc (Obj.cells #[.int .u16 0, .bool false] 194) = w0 at *
  go_region_law (first
    | ((refine step_app8 rfl _ _ rfl w0.heap.size none 0 0 [] (by rfl) (Own8.nil (Nat.le_refl _)) (some ⟨w.heap.size, 0, none⟩) 16 16 ss (by rfl) RX.out (by omega) ?_; intro a1 c1 w1 ho1 hg1; simp only [Nat.zero_add, List.nil_append] at ho1 ⊢; have O1 := Lib.hid ho1; have B1 : Hid (Below w0.heap.size w0 w1) := (Below.grown (Below.drew (Below.refl _ _)) hg1 (Nat.le_refl _) (by intro q hq; cases hq)); clear ho1 hg1))
    | ((refine step_app8 rfl _ _ rfl w0.heap.size a1 16 c1 ss (by rfl) O1.out (some ⟨w.heap.size + 1, 0, none⟩) 16 16 ds (by rfl) (RY.out.below B1.out) (by omega) ?_; intro a2 c2 w2 ho2 hg2; have O2 := Lib.hid ho2; have B2 : Hid (Below w0.heap.size w0 w2) := (Below.grown B1.out hg2 B1.out.size (fun q hq => O1.out.blk hq)); clear ho2 hg2)))
  have BW := Lib.hid (B0.out.trans (B2.out.mono B0.out.size))
  have hz2 : w0.heap.size ≤ w2.heap.size := B2.out.size
  have ZL : Hid (w.heap.size + 1 + 1 < w0.heap.size) := lt_of_heap Z.out
  have WL : Hid (w.heap.size ≤ w0.heap.size) := B0.out.size
  clear O1 B1 RX RY
  have pb : ∀ x ∈ [0, 0, 0, pr], 0 ≤ x ∧ x ≤ 255 := by intro x hx; simp only [List.mem_cons, List.not_mem_nil, or_false] at hx; omega
  have nb : ∀ x ∈ [n / 16777216 % 256, n / 65536 % 256, n / 256 % 256, n % 256], 0 ≤ x ∧ x ≤ 255 := by intro x hx; simp only [List.mem_cons, List.not_mem_nil, or_false] at hx; omega
  have PB := Lib.hid pb
  have NB := Lib.hid nb
  clear pb nb
  go_wp2_with fail
  refine (number4 n _ n0 n1).mono ?_
  rintro e w3 ⟨g, rfl, hg, hh, hb⟩
  have O3 := Lib.hid (O2.out.keep hb)
  have B3 := Lib.hid (B2.out.trans (hb.mono hz2))
  have R3 := Lib.hid (row_full (n := 4) hh rfl (by omega) NB.out)
  clear hb hh O2 B2 BW hg hz2
  go_wp2_with (first
    | (at_builtin; refine wpList_app8 rfl _ _ rfl w0.heap.size a2 32 c2 (ss ++ ds) rfl O3.out (some ⟨g, 0, none⟩) 4 4 [n / 16777216 % 256, n / 65536 % 256, n / 256 % 256, n % 256] rfl R3.out (by omega) ?_; intro a4 c4 w4 ho4 hg4; have O4 := Lib.hid ho4; have B4 : Hid (Below w0.heap.size w0 w4) := (Below.grown B3.out hg4 B3.out.size (fun q hq => O3.out.blk hq)); have hz4 : w0.heap.size ≤ w4.heap.size := B4.out.size; clear ho4 hg4)
    | (at_builtin; refine wpList_app8 rfl _ _ rfl w0.heap.size a4 36 c4 (ss ++ ds ++ [n / 16777216 % 256, n / 65536 % 256, n / 256 % 256, n % 256]) rfl (O4.out.keep ((Below.refl _ _).alloc (Nat.le_refl _) _)) (some ⟨w4.heap.size, 0, none⟩) 4 4 [0, 0, 0, pr] rfl (row_full (heap_alloc_new w4 _) rfl (by omega) PB.out) (by omega) ?_; intro a5 c5 w5 ho5 hg5; have O5 := Lib.hid ho5; have B5 : Hid (Below w0.heap.size w0 w5) := (Below.grown (B4.out.alloc hz4 _) hg5 (by simp; omega) (fun q hq => O4.out.blk hq)); clear ho5 hg5))
  refine (radd_row O5.out.row (by omega) 0 false (by omega) (by omega)).mono ?_
  rintro e w6 ⟨rfl, hb⟩
  have B6 := Lib.hid (B5.out.trans (hb.mono B5.out.size))
  have ZY := Lib.hid (Below.at B6.out Z.out ZL.out)
  have BY := Lib.hid (B0.out.trans (B6.out.mono WL.out))
  have z0 := cell_of (v := .int .u16 0) 0 ZY.out rfl
  have z1 := cell_of (v := .bool false) 1 ZY.out rfl
  have zf0 := free_of 0 ZY.out
  have zf1 := free_of 1 ZY.out
  have F3 : Hid (ss ++ ds ++ [n / 16777216 % 256, n / 65536 % 256, n / 256 % 256, n % 256] ++ [0, 0, 0, pr] = phead true ss ds pr n) := by show _ = _; simp [phead, tail4, tail6]
  have kq : par false (36 + 4) = false := rfl
  rw [F3.out, kq]
  clear hb O5 B5 B6 Z F3 PB NB
  go_wp2_with fail
  refine bodyPost_ret (v := .agg #[.int .u16 (sumTo 0 false (phead true ss ds pr n)), .bool false]) (by simp [results, Try.results123, go_sem, z0, z1]) rfl ⟨rfl, ?_⟩
  repeat' (first | with_reducible exact BY.out | with_reducible refine Below.setCell ?_ ?_ _ | with_reducible refine Below.alloc ?_ ?_ _)
  all_goals (first | (simp; done) | (simp; omega) | omega)

theorem rpseudo_any (v6 : Bool) (ss ds : List Int) (pr n : Int) (w : World) (hs : ss.length = 16) (hd : ds.length = 16) (bs : ∀ x ∈ ss, 0 ≤ x ∧ x ≤ 255) (bd : ∀ x ∈ ds, 0 ≤ x ∧ x ≤ 255) (p0 : 0 ≤ pr) (p1 : pr ≤ 255) (n0 : 0 ≤ n) (n1 : n ≤ 9223372036854775807) :
    Calls Try.prog 123 #[.bool v6, .agg (ar ss), .agg (ar ds), .int .u8 pr, .int .i64 n] w fun e w' => e = .returned (.agg #[.int .u16 (sumTo 0 false (phead v6 ss ds pr n)), .bool false]) ∧ Below w.heap.size w w' := by
  cases v6
  · exact rpseudo4 ss ds pr n w hs hd bs bd p0 p1 n0 n1
  · exact rpseudo6 ss ds pr n w hs hd bs bd p0 p1 n0 n1

set_option maxRecDepth 100000 in
set_option maxHeartbeats 4000000 in
theorem rpneg4 (ss ds : List Int) (pr n : Int) (w : World) (hs : ss.length = 16) (hd : ds.length = 16) (bs : ∀ x ∈ ss, 0 ≤ x ∧ x ≤ 255) (bd : ∀ x ∈ ds, 0 ≤ x ∧ x ≤ 255) (p0 : 0 ≤ pr) (p1 : pr ≤ 255) (n0 : n < 0) (n1 : n ≤ 9223372036854775807) :
    Calls Try.prog 123 #[.bool false, .agg (ar ss), .agg (ar ds), .int .u8 pr, .int .i64 n] w fun e w' => e = .returned (.agg #[.int .u16 (sumTo 0 false (phead false ss ds pr 0)), .bool false]) ∧ Below w.heap.size w w' := by
  have HX := heap_three w (Obj.cells (ar ss) 23) (Obj.cells (ar ds) 23) (Obj.cells #[.int .u16 0, .bool false] 194)
  have B0 := Lib.hid (below_three w (Obj.cells (ar ss) 23) (Obj.cells (ar ds) 23) (Obj.cells #[.int .u16 0, .bool false] 194))
  have RX : Hid (Row8 (((w.alloc (Obj.cells (ar ss) 23)).alloc (Obj.cells (ar ds) 23)).alloc (Obj.cells #[.int .u16 0, .bool false] 194)).drew (some ⟨w.heap.size, 0, none⟩) 4 16 (ss.take 4)) := row_of_block HX.1 hs (by omega) (by omega) bs
  have RY : Hid (Row8 (((w.alloc (Obj.cells (ar ss) 23)).alloc (Obj.cells (ar ds) 23)).alloc (Obj.cells #[.int .u16 0, .bool false] 194)) (some ⟨w.heap.size + 1, 0, none⟩) 4 16 (ds.take 4)) := row_of_block HX.2.1 hd (by omega) (by omega) bd
  have Z := Lib.hid HX.2.2
  have HS := Lib.hid hs
  have HD := Lib.hid hd
  have BS := Lib.hid bs
  have BD := Lib.hid bd
  clear HX hs hd bs bd
  have hn0 : n < 0 := n0
  go_enter Try.func123, Try.ntmps123
  go_wp2_with fail
  generalize ((w.alloc (Obj.cells (ar ss) 23)).alloc (Obj.cells (ar ds) 23)).alloc (Obj.cells #[.int .u16 0, .bool false] 194) = w0 at *
  go_region_law (first
    | ((refine step_app8 rfl _ _ rfl w0.heap.size none 0 0 [] (by rfl) (Own8.nil (Nat.le_refl _)) (some ⟨w.heap.size, 0, none⟩) 4 16 (ss.take 4) (by rfl) RX.out (by omega) ?_; intro a1 c1 w1 ho1 hg1; simp only [Nat.zero_add, List.nil_append] at ho1 ⊢; have O1 := Lib.hid ho1; have B1 : Hid (Below w0.heap.size w0 w1) := (Below.grown (Below.drew (Below.refl _ _)) hg1 (Nat.le_refl _) (by intro q hq; cases hq)); clear ho1 hg1))
    | ((refine step_app8 rfl _ _ rfl w0.heap.size a1 4 c1 (ss.take 4) (by rfl) O1.out (some ⟨w.heap.size + 1, 0, none⟩) 4 16 (ds.take 4) (by rfl) (RY.out.below B1.out) (by omega) ?_; intro a2 c2 w2 ho2 hg2; have O2 := Lib.hid ho2; have B2 : Hid (Below w0.heap.size w0 w2) := (Below.grown B1.out hg2 B1.out.size (fun q hq => O1.out.blk hq)); clear ho2 hg2)))
  have BW := Lib.hid (B0.out.trans (B2.out.mono B0.out.size))
  have hz2 : w0.heap.size ≤ w2.heap.size := B2.out.size
  have ZL : Hid (w.heap.size + 1 + 1 < w0.heap.size) := lt_of_heap Z.out
  have WL : Hid (w.heap.size ≤ w0.heap.size) := B0.out.size
  clear O1 B1 RX RY
  have pb : ∀ x ∈ [0, pr], 0 ≤ x ∧ x ≤ 255 := by intro x hx; simp only [List.mem_cons, List.not_mem_nil, or_false] at hx; omega
  have nb : ∀ (x : Int), x ∈ [0 / 256 % 256, 0 % 256] → 0 ≤ x ∧ x ≤ 255 := by intro x hx; simp only [List.mem_cons, List.not_mem_nil, or_false] at hx; omega
  have PB := Lib.hid pb
  have NB := Lib.hid nb
  clear pb nb
  go_wp2_with (at_builtin; refine wpList_app8 rfl _ _ rfl w0.heap.size a2 8 c2 (ss.take 4 ++ ds.take 4) rfl (O2.out.keep ((Below.refl _ _).alloc (Nat.le_refl _) _)) (some ⟨w2.heap.size, 0, none⟩) 2 2 [0, pr] rfl (row_full (heap_alloc_new w2 _) rfl (by omega) PB.out) (by omega) ?_; intro a3 c3 w3 ho3 hg3; have O3 := Lib.hid ho3; have B3 : Hid (Below w0.heap.size w0 w3) := (Below.grown (B2.out.alloc hz2 _) hg3 (by simp; omega) (fun q hq => O2.out.blk hq)); clear ho3 hg3)
  refine (number2 0 _ (by omega) (by omega)).mono ?_
  rintro e w4 ⟨g, rfl, hg, hh, hb⟩
  have O4 := Lib.hid (O3.out.keep hb)
  have B4 := Lib.hid (B3.out.trans (hb.mono B3.out.size))
  have R4 := Lib.hid (row_full (n := 2) hh rfl (by omega) NB.out)
  clear hb hh O3 B3 O2 B2 BW hg hz2
  go_wp2_with (at_builtin; refine wpList_app8 rfl _ _ rfl w0.heap.size a3 10 c3 (ss.take 4 ++ ds.take 4 ++ [0, pr]) rfl O4.out (some ⟨g, 0, none⟩) 2 2 [0 / 256 % 256, 0 % 256] rfl R4.out (by omega) ?_; intro a5 c5 w5 ho5 hg5; have O5 := Lib.hid ho5; have B5 : Hid (Below w0.heap.size w0 w5) := (Below.grown B4.out hg5 B4.out.size (fun q hq => O4.out.blk hq)); clear ho5 hg5)
  refine (radd_row O5.out.row (by omega) 0 false (by omega) (by omega)).mono ?_
  rintro e w6 ⟨rfl, hb⟩
  have B6 := Lib.hid (B5.out.trans (hb.mono B5.out.size))
  have ZY := Lib.hid (Below.at B6.out Z.out ZL.out)
  have BY := Lib.hid (B0.out.trans (B6.out.mono WL.out))
  have z0 := cell_of (v := .int .u16 0) 0 ZY.out rfl
  have z1 := cell_of (v := .bool false) 1 ZY.out rfl
  have zf0 := free_of 0 ZY.out
  have zf1 := free_of 1 ZY.out
  have F3 : Hid (List.take 4 ss ++ List.take 4 ds ++ [0, pr] ++ [0 / 256 % 256, 0 % 256] = phead false ss ds pr 0) := by show _ = _; simp [phead, tail4, tail6]
  have kq : par false (10 + 2) = false := rfl
  rw [F3.out, kq]
  clear hb O5 B5 B6 Z F3 PB NB
  go_wp2_with fail
  refine bodyPost_ret (v := .agg #[.int .u16 (sumTo 0 false (phead false ss ds pr 0)), .bool false]) (by simp [results, Try.results123, go_sem, z0, z1]) rfl ⟨rfl, ?_⟩
  repeat' (first | with_reducible exact BY.out | with_reducible refine Below.setCell ?_ ?_ _ | with_reducible refine Below.alloc ?_ ?_ _)
  all_goals (first | (simp; done) | (simp; omega) | omega)

set_option maxRecDepth 100000 in
set_option maxHeartbeats 4000000 in
theorem rpneg6 (ss ds : List Int) (pr n : Int) (w : World) (hs : ss.length = 16) (hd : ds.length = 16) (bs : ∀ x ∈ ss, 0 ≤ x ∧ x ≤ 255) (bd : ∀ x ∈ ds, 0 ≤ x ∧ x ≤ 255) (p0 : 0 ≤ pr) (p1 : pr ≤ 255) (n0 : n < 0) (n1 : n ≤ 9223372036854775807) :
    Calls Try.prog 123 #[.bool true, .agg (ar ss), .agg (ar ds), .int .u8 pr, .int .i64 n] w fun e w' => e = .returned (.agg #[.int .u16 (sumTo 0 false (phead true ss ds pr 0)), .bool false]) ∧ Below w.heap.size w w' := by
  have HX := heap_three w (Obj.cells (ar ss) 23) (Obj.cells (ar ds) 23) (Obj.cells #[.int .u16 0, .bool false] 194)
  have B0 := Lib.hid (below_three w (Obj.cells (ar ss) 23) (Obj.cells (ar ds) 23) (Obj.cells #[.int .u16 0, .bool false] 194))
  have RX : Hid (Row8 (((w.alloc (Obj.cells (ar ss) 23)).alloc (Obj.cells (ar ds) 23)).alloc (Obj.cells #[.int .u16 0, .bool false] 194)).drew (some ⟨w.heap.size, 0, none⟩) 16 16 ss) := row_full HX.1 hs (by omega) bs
  have RY : Hid (Row8 (((w.alloc (Obj.cells (ar ss) 23)).alloc (Obj.cells (ar ds) 23)).alloc (Obj.cells #[.int .u16 0, .bool false] 194)) (some ⟨w.heap.size + 1, 0, none⟩) 16 16 ds) := row_full HX.2.1 hd (by omega) bd
  have Z := Lib.hid HX.2.2
  have HS := Lib.hid hs
  have HD := Lib.hid hd
  have BS := Lib.hid bs
  have BD := Lib.hid bd
  clear HX hs hd bs bd
  have hn0 : n < 0 := n0
  go_enter Try.func123, Try.ntmps123
  go_wp2_with fail
  generalize ((w.alloc (Obj.cells (ar ss) 23)).alloc (Obj.cells (ar ds) 23)).alloc (Obj.cells #[.int .u16 0, .bool false] 194) = w0 at *
  go_region_law (first
    | ((refine step_app8 rfl _ _ rfl w0.heap.size none 0 0 [] (by rfl) (Own8.nil (Nat.le_refl _)) (some ⟨w.heap.size, 0, none⟩) 16 16 ss (by rfl) RX.out (by omega) ?_; intro a1 c1 w1 ho1 hg1; simp only [Nat.zero_add, List.nil_append] at ho1 ⊢; have O1 := Lib.hid ho1; have B1 : Hid (Below w0.heap.size w0 w1) := (Below.grown (Below.drew (Below.refl _ _)) hg1 (Nat.le_refl _) (by intro q hq; cases hq)); clear ho1 hg1))
    | ((refine step_app8 rfl _ _ rfl w0.heap.size a1 16 c1 ss (by rfl) O1.out (some ⟨w.heap.size + 1, 0, none⟩) 16 16 ds (by rfl) (RY.out.below B1.out) (by omega) ?_; intro a2 c2 w2 ho2 hg2; have O2 := Lib.hid ho2; have B2 : Hid (Below w0.heap.size w0 w2) := (Below.grown B1.out hg2 B1.out.size (fun q hq => O1.out.blk hq)); clear ho2 hg2)))
  have BW := Lib.hid (B0.out.trans (B2.out.mono B0.out.size))
  have hz2 : w0.heap.size ≤ w2.heap.size := B2.out.size
  have ZL : Hid (w.heap.size + 1 + 1 < w0.heap.size) := lt_of_heap Z.out
  have WL : Hid (w.heap.size ≤ w0.heap.size) := B0.out.size
  clear O1 B1 RX RY
  have pb : ∀ x ∈ [0, 0, 0, pr], 0 ≤ x ∧ x ≤ 255 := by intro x hx; simp only [List.mem_cons, List.not_mem_nil, or_false] at hx; omega
  have nb : ∀ (x : Int), x ∈ [0 / 16777216 % 256, 0 / 65536 % 256, 0 / 256 % 256, 0 % 256] → 0 ≤ x ∧ x ≤ 255 := by intro x hx; simp only [List.mem_cons, List.not_mem_nil, or_false] at hx; omega
  have PB := Lib.hid pb
  have NB := Lib.hid nb
  clear pb nb
  go_wp2_with fail
  refine (number4 0 _ (by omega) (by omega)).mono ?_
  rintro e w3 ⟨g, rfl, hg, hh, hb⟩
  have O3 := Lib.hid (O2.out.keep hb)
  have B3 := Lib.hid (B2.out.trans (hb.mono hz2))
  have R3 := Lib.hid (row_full (n := 4) hh rfl (by omega) NB.out)
  clear hb hh O2 B2 BW hg hz2
  go_wp2_with (first
    | (at_builtin; refine wpList_app8 rfl _ _ rfl w0.heap.size a2 32 c2 (ss ++ ds) rfl O3.out (some ⟨g, 0, none⟩) 4 4 [0 / 16777216 % 256, 0 / 65536 % 256, 0 / 256 % 256, 0 % 256] rfl R3.out (by omega) ?_; intro a4 c4 w4 ho4 hg4; have O4 := Lib.hid ho4; have B4 : Hid (Below w0.heap.size w0 w4) := (Below.grown B3.out hg4 B3.out.size (fun q hq => O3.out.blk hq)); have hz4 : w0.heap.size ≤ w4.heap.size := B4.out.size; clear ho4 hg4)
    | (at_builtin; refine wpList_app8 rfl _ _ rfl w0.heap.size a4 36 c4 (ss ++ ds ++ [0 / 16777216 % 256, 0 / 65536 % 256, 0 / 256 % 256, 0 % 256]) rfl (O4.out.keep ((Below.refl _ _).alloc (Nat.le_refl _) _)) (some ⟨w4.heap.size, 0, none⟩) 4 4 [0, 0, 0, pr] rfl (row_full (heap_alloc_new w4 _) rfl (by omega) PB.out) (by omega) ?_; intro a5 c5 w5 ho5 hg5; have O5 := Lib.hid ho5; have B5 : Hid (Below w0.heap.size w0 w5) := (Below.grown (B4.out.alloc hz4 _) hg5 (by simp; omega) (fun q hq => O4.out.blk hq)); clear ho5 hg5))
  refine (radd_row O5.out.row (by omega) 0 false (by omega) (by omega)).mono ?_
  rintro e w6 ⟨rfl, hb⟩
  have B6 := Lib.hid (B5.out.trans (hb.mono B5.out.size))
  have ZY := Lib.hid (Below.at B6.out Z.out ZL.out)
  have BY := Lib.hid (B0.out.trans (B6.out.mono WL.out))
  have z0 := cell_of (v := .int .u16 0) 0 ZY.out rfl
  have z1 := cell_of (v := .bool false) 1 ZY.out rfl
  have zf0 := free_of 0 ZY.out
  have zf1 := free_of 1 ZY.out
  have F3 : Hid (ss ++ ds ++ [0 / 16777216 % 256, 0 / 65536 % 256, 0 / 256 % 256, 0 % 256] ++ [0, 0, 0, pr] = phead true ss ds pr 0) := by show _ = _; simp [phead, tail4, tail6]
  have kq : par false (36 + 4) = false := rfl
  rw [F3.out, kq]
  clear hb O5 B5 B6 Z F3 PB NB
  go_wp2_with fail
  refine bodyPost_ret (v := .agg #[.int .u16 (sumTo 0 false (phead true ss ds pr 0)), .bool false]) (by simp [results, Try.results123, go_sem, z0, z1]) rfl ⟨rfl, ?_⟩
  repeat' (first | with_reducible exact BY.out | with_reducible refine Below.setCell ?_ ?_ _ | with_reducible refine Below.alloc ?_ ?_ _)
  all_goals (first | (simp; done) | (simp; omega) | omega)

theorem rpseudo_neg (v6 : Bool) (ss ds : List Int) (pr n : Int) (w : World) (hs : ss.length = 16) (hd : ds.length = 16) (bs : ∀ x ∈ ss, 0 ≤ x ∧ x ≤ 255) (bd : ∀ x ∈ ds, 0 ≤ x ∧ x ≤ 255) (p0 : 0 ≤ pr) (p1 : pr ≤ 255) (n0 : n < 0) (n1 : n ≤ 9223372036854775807) :
    Calls Try.prog 123 #[.bool v6, .agg (ar ss), .agg (ar ds), .int .u8 pr, .int .i64 n] w fun e w' => e = .returned (.agg #[.int .u16 (sumTo 0 false (phead v6 ss ds pr 0)), .bool false]) ∧ Below w.heap.size w w' := by
  cases v6
  · exact rpneg4 ss ds pr n w hs hd bs bd p0 p1 n0 n1
  · exact rpneg6 ss ds pr n w hs hd bs bd p0 p1 n0 n1

theorem rpseudo_clip (v6 : Bool) (ss ds : List Int) (pr n : Int) (w : World) (hs : ss.length = 16) (hd : ds.length = 16) (bs : ∀ x ∈ ss, 0 ≤ x ∧ x ≤ 255) (bd : ∀ x ∈ ds, 0 ≤ x ∧ x ≤ 255) (p0 : 0 ≤ pr) (p1 : pr ≤ 255) (n1 : n ≤ 9223372036854775807) :
    Calls Try.prog 123 #[.bool v6, .agg (ar ss), .agg (ar ds), .int .u8 pr, .int .i64 n] w fun e w' => e = .returned (.agg #[.int .u16 (sumTo 0 false (phead v6 ss ds pr (if n < 0 then 0 else n))), .bool false]) ∧ Below w.heap.size w w' := by
  by_cases h : n < 0
  · rw [if_pos h]; exact rpseudo_neg v6 ss ds pr n w hs hd bs bd p0 p1 h n1
  · rw [if_neg h]; exact rpseudo_any v6 ss ds pr n w hs hd bs bd p0 p1 (by omega) n1
end Go.Proofs.Ytmdafjegddnecaa
