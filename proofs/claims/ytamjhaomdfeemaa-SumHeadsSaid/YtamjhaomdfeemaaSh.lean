/- The walk of the law SumHeads. -/
import Derived.Test.YtamjhaomdfeemaaPr
import Derived.Deep.MidRow
namespace Go.Proofs.Ytamjhaomdfeemaa
open Go.RowKit Go.Wb
set_option linter.unusedVariables false
set_option linter.unusedSimpArgs false

theorem load_ar {W : World} {b n : Nat} {ss : List Int} (h : W.heap[b]? = some (.cells (ar ss) 52 (0, 0))) (hs : ss.length = 16) : (Instr.loadAt 52 (.pointer (some ⟨b, 0, none⟩))).run Try.prog W = .ok (.agg (ar ss)) W := by
  have := run_loadAt_mid (P := Try.prog) W b 0 52 (ss.map (Value.int .u8)) (.array 16 5) (by
    have h1 := World.rangeAt_of_block h 0 (ar ss).size
    have e : (ar ss).extract 0 (0 + (ar ss).size) = ar ss := by simp
    rw [e] at h1; simpa [ar] using h1) Try.underlying52 rfl (by rw [List.length_map, hs]; kernel_rfl)
  exact this
theorem below_of_same {f : FuncId} {args : Array Value} {w : World} {v : Value} (h : Calls Try.prog f args w fun e w' => e = .returned v ∧ w = w') : Calls Try.prog f args w fun e w' => e = .returned v ∧ Below w.heap.size w w' :=
  h.mono fun _ _ ⟨h1, h2⟩ => ⟨h1, h2 ▸ Below.refl _ _⟩

set_option maxRecDepth 100000 in
set_option maxHeartbeats 4000000 in
theorem sumHeads_main (v6 : Bool) (ss ds : List Int) (pr n s f t : Int) (w : World) (hs : ss.length = 16) (hd : ds.length = 16) (bs : ∀ x ∈ ss, 0 ≤ x ∧ x ≤ 255) (bd : ∀ x ∈ ds, 0 ≤ x ∧ x ≤ 255) (p0 : 0 ≤ pr) (p1 : pr ≤ 255) (n1 : n ≤ 9223372036854775807)
    (s0 : 0 ≤ s) (s1 : s ≤ 65535) (f0 : 0 ≤ f) (f1 : f ≤ 65535) (t0 : 0 ≤ t) (t1 : t ≤ 65535) :
    Calls Try.prog 8 #[.bool v6, .agg (ar ss), .agg (ar ds), .int .u8 pr, .int .i64 n, .int .u16 s, .int .u16 f, .int .u16 t] w fun e w' => e = .returned (.bool true) ∧ Below w.heap.size w w' := by
  obtain ⟨x, hx⟩ : ∃ x, sumTo 0 false (phead v6 ss ds pr (if n < 0 then 0 else n)) = x := ⟨_, rfl⟩
  obtain ⟨y, hy⟩ : ∃ y, 65535 - cn (65535 - s + (65535 - f) + t) = y := ⟨_, rfl⟩
  have CP := Lib.hid (fun W => pseudo_clip v6 ss ds pr n W hs hd bs bd p0 p1 n1)
  have CR := Lib.hid (fun W => rpseudo_clip v6 ss ds pr n W hs hd bs bd p0 p1 n1)
  have UPD := Lib.hid (fun W => below_of_same (update_any s f t W s0 s1 f0 f1 t0 t1))
  have RUP := Lib.hid (fun W => below_of_same (rupdate_any s f t W s0 s1 f0 f1 t0 t1))
  rw [hx] at CP CR
  rw [hy] at UPD RUP
  have HX := heap_two w (Obj.cells (ar ss) 52) (Obj.cells (ar ds) 52)
  have B0 : Hid (Below w.heap.size w ((w.alloc (Obj.cells (ar ss) 52)).alloc (Obj.cells (ar ds) 52))) := ((Below.refl _ _).alloc (Nat.le_refl _) _).alloc (by simp) _
  have LS : Hid (∀ W, Below ((w.alloc (Obj.cells (ar ss) 52)).alloc (Obj.cells (ar ds) 52)).heap.size ((w.alloc (Obj.cells (ar ss) 52)).alloc (Obj.cells (ar ds) 52)) W → (Instr.loadAt 52 (.pointer (some ⟨w.heap.size, 0, none⟩))).run Try.prog W = .ok (.agg (ar ss)) W) := fun W h => load_ar (n := 16) (kept h HX.1) hs
  have LD : Hid (∀ W, Below ((w.alloc (Obj.cells (ar ss) 52)).alloc (Obj.cells (ar ds) 52)).heap.size ((w.alloc (Obj.cells (ar ss) 52)).alloc (Obj.cells (ar ds) 52)) W → (Instr.loadAt 52 (.pointer (some ⟨w.heap.size + 1, 0, none⟩))).run Try.prog W = .ok (.agg (ar ds)) W) := fun W h => load_ar (n := 16) (kept h HX.2) hd
  clear HX hx hy hs hd bs bd p0 p1 n1 s0 s1 f0 f1 t0 t1
  go_enter Try.func8, Try.ntmps8
  go_wp2_with fail
  generalize (w.alloc (Obj.cells (ar ss) 52)).alloc (Obj.cells (ar ds) 52) = w0 at *
  refine region_grow_lit [[(0, none)], [(9, none)], [(10, none)], [(3, none)], [(4, none)], [(17, some 0), (18, some 1), (19, some 2), (20, some 3), (21, some 4)], [(0, none)], [(9, none)], [(10, none)], [(3, none)], [(4, none)], [(23, some 6), (24, some 7), (25, some 8), (26, some 9), (27, some 10)], [(22, some 5), (28, some 11)], [(29, some 12)], [(30, some 13), (5, none)], [(30, some 13), (6, none)], [(30, some 13), (7, none)], [(30, some 13), (31, some 14), (32, some 15), (33, some 16)], [(30, some 13), (5, none)], [(30, some 13), (6, none)], [(30, some 13), (7, none)], [(30, some 13), (35, some 18), (36, some 19), (37, some 20)], [(30, some 13), (34, some 17), (38, some 21)], [(30, some 13), (39, some 22)], [(40, some 23)], [(41, some 24)], [(41, some 24), (42, some 25)]]
    [Is (.bool v6), Is (.agg (ar ss)), Is (.agg (ar ds)), Is (.int .u8 pr), Is (.int .i64 n), Is (.agg #[.int .u16 x, .bool false]), Is (.bool v6), Is (.agg (ar ss)), Is (.agg (ar ds)), Is (.int .u8 pr), Is (.int .i64 n), Is (.agg #[.int .u16 x, .bool false]), Is (.bool true), Is (.bool true), Is (.int .u16 s), Is (.int .u16 f), Is (.int .u16 t), Is (.int .u16 y), Is (.int .u16 s), Is (.int .u16 f), Is (.int .u16 t), Is (.int .u16 y), Is (.bool true), Is (.bool true), Is (.bool true), Is (.bool true), Is (.bool true)]
    (by kernel_rfl) (by simp) (by kernel_rfl) rfl ⟨stab_is _, stab_is _, stab_is _, stab_is _, stab_is _, stab_is _, stab_is _, stab_is _, stab_is _, stab_is _, stab_is _, stab_is _, stab_is _, stab_is _, stab_is _, stab_is _, stab_is _, stab_is _, stab_is _, stab_is _, stab_is _, stab_is _, stab_is _, stab_is _, stab_is _, stab_is _, stab_is _, trivial⟩ ?_ rfl ?_
  · refine ⟨step_plain rfl ?_, step_plain rfl ?_, step_plain rfl ?_, step_plain rfl ?_, step_plain rfl ?_, step_plain rfl ?_, step_plain rfl ?_, step_plain rfl ?_, step_plain rfl ?_, step_plain rfl ?_, step_plain rfl ?_, step_plain rfl ?_, step_plain rfl ?_, step_plain rfl ?_, step_guard rfl rfl rfl ?_, step_guard rfl rfl rfl ?_, step_guard rfl rfl rfl ?_, step_guard rfl rfl rfl ?_, step_guard rfl rfl rfl ?_, step_guard rfl rfl rfl ?_, step_guard rfl rfl rfl ?_, step_guard rfl rfl rfl ?_, step_guard rfl rfl rfl ?_, step_plain rfl ?_, step_plain rfl ?_, step_guard rfl rfl rfl ?_, step_plain rfl ?_, trivial⟩
    · rintro a W hW ⟨h0, _⟩
      replace h0 : a.tmps[0]? = some (.bool v6) := h0
      simp only [execOp]
      go_simp
      exact step_val
    · rintro a W hW ⟨h9, _⟩
      replace h9 : a.tmps[9]? = some (.pointer (some ⟨w.heap.size, 0, none⟩)) := h9
      have l := LS.out W hW
      have e := getD_of_get h9
      simp only [execOp, e, Sem.run_bind, l, Result.andThen_ok, Sem.run_pure]
      exact step_val
    · rintro a W hW ⟨h10, _⟩
      replace h10 : a.tmps[10]? = some (.pointer (some ⟨w.heap.size + 1, 0, none⟩)) := h10
      have l := LD.out W hW
      have e := getD_of_get h10
      simp only [execOp, e, Sem.run_bind, l, Result.andThen_ok, Sem.run_pure]
      exact step_val
    · rintro a W hW ⟨h3, _⟩
      replace h3 : a.tmps[3]? = some (.int .u8 pr) := h3
      simp only [execOp]
      go_simp
      exact step_val
    · rintro a W hW ⟨h4, _⟩
      replace h4 : a.tmps[4]? = some (.int .i64 n) := h4
      simp only [execOp]
      go_simp
      exact step_val
    · rintro a W hW ⟨⟨v17, h17, rfl⟩, ⟨v18, h18, rfl⟩, ⟨v19, h19, rfl⟩, ⟨v20, h20, rfl⟩, ⟨v21, h21, rfl⟩, _⟩
      go_simp
      exact step_call (CP.out W)
    · rintro a W hW ⟨h0, _⟩
      replace h0 : a.tmps[0]? = some (.bool v6) := h0
      simp only [execOp]
      go_simp
      exact step_val
    · rintro a W hW ⟨h9, _⟩
      replace h9 : a.tmps[9]? = some (.pointer (some ⟨w.heap.size, 0, none⟩)) := h9
      have l := LS.out W hW
      have e := getD_of_get h9
      simp only [execOp, e, Sem.run_bind, l, Result.andThen_ok, Sem.run_pure]
      exact step_val
    · rintro a W hW ⟨h10, _⟩
      replace h10 : a.tmps[10]? = some (.pointer (some ⟨w.heap.size + 1, 0, none⟩)) := h10
      have l := LD.out W hW
      have e := getD_of_get h10
      simp only [execOp, e, Sem.run_bind, l, Result.andThen_ok, Sem.run_pure]
      exact step_val
    · rintro a W hW ⟨h3, _⟩
      replace h3 : a.tmps[3]? = some (.int .u8 pr) := h3
      simp only [execOp]
      go_simp
      exact step_val
    · rintro a W hW ⟨h4, _⟩
      replace h4 : a.tmps[4]? = some (.int .i64 n) := h4
      simp only [execOp]
      go_simp
      exact step_val
    · rintro a W hW ⟨⟨v23, h23, rfl⟩, ⟨v24, h24, rfl⟩, ⟨v25, h25, rfl⟩, ⟨v26, h26, rfl⟩, ⟨v27, h27, rfl⟩, _⟩
      go_simp
      exact step_call (CR.out W)
    · rintro a W hW ⟨⟨v22, h22, rfl⟩, ⟨v28, h28, rfl⟩, _⟩
      simp only [execOp]
      go_simp
      exact step_val
    · rintro a W hW ⟨⟨v29, h29, rfl⟩, _⟩
      simp only [execOp]
      go_simp
      exact step_val
    · rintro a W hW ⟨h5, _⟩
      replace h5 : a.tmps[5]? = some (.int .u16 s) := h5
      simp only [execOp]
      go_simp
      exact step_val
    · rintro a W hW ⟨h6, _⟩
      replace h6 : a.tmps[6]? = some (.int .u16 f) := h6
      simp only [execOp]
      go_simp
      exact step_val
    · rintro a W hW ⟨h7, _⟩
      replace h7 : a.tmps[7]? = some (.int .u16 t) := h7
      simp only [execOp]
      go_simp
      exact step_val
    · rintro a W hW ⟨⟨v31, h31, rfl⟩, ⟨v32, h32, rfl⟩, ⟨v33, h33, rfl⟩, _⟩
      go_simp
      exact step_call (UPD.out W)
    · rintro a W hW ⟨h5, _⟩
      replace h5 : a.tmps[5]? = some (.int .u16 s) := h5
      simp only [execOp]
      go_simp
      exact step_val
    · rintro a W hW ⟨h6, _⟩
      replace h6 : a.tmps[6]? = some (.int .u16 f) := h6
      simp only [execOp]
      go_simp
      exact step_val
    · rintro a W hW ⟨h7, _⟩
      replace h7 : a.tmps[7]? = some (.int .u16 t) := h7
      simp only [execOp]
      go_simp
      exact step_val
    · rintro a W hW ⟨⟨v35, h35, rfl⟩, ⟨v36, h36, rfl⟩, ⟨v37, h37, rfl⟩, _⟩
      go_simp
      exact step_call (RUP.out W)
    · rintro a W hW ⟨⟨v34, h34, rfl⟩, ⟨v38, h38, rfl⟩, _⟩
      simp only [execOp]
      go_simp
      exact step_val
    · rintro a W hW ⟨⟨v30, h30, rfl⟩, ⟨v39, h39, rfl⟩, _⟩
      simp only [execOp]
      go_simp
      exact step_val
    · rintro a W hW ⟨⟨v40, h40, rfl⟩, _⟩
      simp only [execOp]
      go_simp
      exact step_val
    · rintro a W hW _
      go_simp
      exact step_call (known1_any W)
    · rintro a W hW ⟨⟨v41, h41, rfl⟩, ⟨v42, h42, rfl⟩, _⟩
      simp only [execOp]
      go_simp
      exact step_val
  · intro W hW
    simp only [initOf, lastOf]
    with_reducible refine grow_is ?_
    with_reducible refine grow_is ?_
    with_reducible refine grow_is ?_
    with_reducible refine grow_is ?_
    with_reducible refine grow_is ?_
    with_reducible refine grow_is ?_
    with_reducible refine grow_is ?_
    with_reducible refine grow_is ?_
    with_reducible refine grow_is ?_
    with_reducible refine grow_is ?_
    with_reducible refine grow_is ?_
    with_reducible refine grow_is ?_
    with_reducible refine grow_is ?_
    with_reducible refine grow_is ?_
    with_reducible refine grow_is ?_
    with_reducible refine grow_is ?_
    with_reducible refine grow_is ?_
    with_reducible refine grow_is ?_
    with_reducible refine grow_is ?_
    with_reducible refine grow_is ?_
    with_reducible refine grow_is ?_
    with_reducible refine grow_is ?_
    with_reducible refine grow_is ?_
    with_reducible refine grow_is ?_
    with_reducible refine grow_is ?_
    with_reducible refine grow_is ?_
    with_reducible refine grow_is ?_
    with_reducible refine grow_end ?_
    have BW := Lib.hid (B0.out.trans (hW.mono B0.out.size))
    clear hW B0 LS LD CP CR UPD RUP
    go_simp
    go_wp2_with fail
    go_ret
    exact ⟨rfl, BW.out⟩
end Go.Proofs.Ytamjhaomdfeemaa
