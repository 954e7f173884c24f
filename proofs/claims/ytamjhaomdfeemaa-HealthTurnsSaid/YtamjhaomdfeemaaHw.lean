/- The walk of the law HealthTurns: its loop. -/
import Derived.Test.YtamjhaomdfeemaaHv
import Derived.LoopN
namespace Go.Proofs.Ytamjhaomdfeemaa
open Go.RowKit Go.Wb
set_option linter.unusedVariables false

set_option maxRecDepth 100000 in
set_option maxHeartbeats 8000000 in
theorem turns_loop (up : Bool) (run r f : Int) (a : Option Addr) (len cap : Nat) (zs : List Bool) (w : World) (hm : hmay up run r f = true) (hl : len ≤ 100) (h : RowB w a len zs) :
    Calls Try.prog 7 #[.agg #[.bool up, .int .i64 run], .agg #[.int .i64 r, .int .i64 f], .slice a len cap] w fun e w' => e = .returned (.bool true) ∧ Below w.heap.size w w' := by
  have H := Lib.hid h
  clear h
  have MAY := Lib.hid (fun W => hmay_any up run r f W)
  rw [hm] at MAY
  have HM := Lib.hid hm
  clear hm
  have HT := heap_two w (Obj.cells #[.bool up, .int .i64 run] 37) (Obj.cells #[.int .i64 r, .int .i64 f] 39)
  have X := Lib.hid HT.1
  have Y := Lib.hid HT.2
  have B1 := Lib.hid (b2 w (Obj.cells #[.bool up, .int .i64 run] 37) (Obj.cells #[.int .i64 r, .int .i64 f] 39))
  clear HT
  go_enter Try.func7, Try.ntmps7
  go_wp2_with fail
  generalize (w.alloc (Obj.cells #[.bool up, .int .i64 run] 37)).alloc (Obj.cells #[.int .i64 r, .int .i64 f] 39) = w1 at *
  refine (MAY.out _).mono ?_
  rintro e w2 ⟨rfl, hb⟩
  have X2 := Lib.hid (Below.at hb X.out (lt_of_heap X.out))
  have Y2 := Lib.hid (Below.at hb Y.out (lt_of_heap Y.out))
  have B2 := Lib.hid (B1.out.trans (hb.mono B1.out.size))
  clear hb X Y B1 MAY
  have x0 := cell_of (v := .bool up) 0 X2.out rfl
  go_wp2_with fail
  clear x0
  go_loopw [7, 8, 9, 31] (fun u c kd i wr => ∃ (k : Nat) (hu : Bool) (hr C : Int) (kind : Bool), k ≤ len ∧ i = .int .i64 k ∧ u = .bool hu ∧ c = .int .i64 C ∧ kd = .bool kind ∧ Hid (Below w.heap.size w wr) ∧ Hid (wr.heap[w.heap.size]? = some (.cells #[.bool hu, .int .i64 hr] 37 (0, 0))) ∧ Hid (wr.heap[w.heap.size + 1]? = some (.cells #[.int .i64 r, .int .i64 f] 39 (0, 0))) ∧
      Hid (hmay hu hr r f = true) ∧ 0 ≤ C ∧ C ≤ k ∧ Hid (C = 0 ∨ hu = kind ∨ C ≤ hr)) (fun _ _ _ i _ => len - (intOf i).toNat)
  case atStart => exact ⟨0, up, run, 0, false, by omega, rfl, rfl, rfl, rfl, B2, X2, Y2, HM, by omega, by omega, .inl rfl⟩
  case round =>
    obtain ⟨k, hu, hr, C, kind, hk, rfl, rfl, rfl, rfl, hB, hX, hY, hMM, C0, C1, hI⟩ := hrel
    clear X2 Y2 B2
    by_cases hlt : k < len
    · obtain ⟨b, off, rfl, hbl, hcell⟩ := H.out.cells k hlt
      have hcw : wr.cell? ⟨b, off + k, none⟩ = some (.bool (zs.getD k false)) := (hB.out.cell (p := ⟨b, off + k, none⟩) hbl).trans hcell
      clear hcell
      obtain ⟨good, hg⟩ : ∃ good, zs.getD k false = good := ⟨_, rfl⟩
      rw [hg] at hcw
      clear hg
      obtain ⟨xu, xr, xd, RY, hxm, hxd, hxu, hxf⟩ := reply_facts hu hr r f good hMM.out
      have HRY := Lib.hid RY
      have HXM := Lib.hid hxm
      have HXF := Lib.hid hxf
      have HXU := Lib.hid hxu
      have XMAY := Lib.hid (fun W => hmay_any xu xr r f W)
      rw [hxm] at XMAY
      subst hxd
      clear RY hxm hxf hxu
      have x0 := cell_of (v := .bool hu) 0 hX.out rfl
      have x1 := cell_of (v := .int .i64 hr) 1 hX.out rfl
      have y0 := cell_of (v := .int .i64 r) 0 hY.out rfl
      have y1 := cell_of (v := .int .i64 f) 1 hY.out rfl
      go_wp2_with fail
      refine (HRY.out _).mono ?_
      rintro e w3 ⟨rfl, hb⟩
      have X3 := Lib.hid (Below.at hb hX.out (lt_of_heap hX.out))
      have Y3 := Lib.hid (Below.at hb hY.out (lt_of_heap hY.out))
      have B3 := Lib.hid (hB.out.trans (hb.mono hB.out.size))
      clear hb hX hY hB x0 x1 y0 y1 HRY hcw
      have x0 := cell_of (v := .bool hu) 0 X3.out rfl
      have x1 := cell_of (v := .int .i64 hr) 1 X3.out rfl
      have y0 := cell_of (v := .int .i64 r) 0 Y3.out rfl
      have y1 := cell_of (v := .int .i64 f) 1 Y3.out rfl
      have hlt3 : w.heap.size < w3.heap.size := lt_of_heap X3.out
      have hlt4 : w.heap.size + 1 < w3.heap.size := lt_of_heap Y3.out
      go_wp2_with fail
      refine (XMAY.out _).mono ?_
      rintro e w5 ⟨rfl, hb⟩
      have X5 := Lib.hid (Below.at hb (hold_alloc (o' := Obj.cells #[.bool xu, .int .i64 xr] 37) X3.out) (by rw [World.size_alloc]; omega))
      have Y5 := Lib.hid (Below.at hb (hold_alloc (o' := Obj.cells #[.bool xu, .int .i64 xr] 37) Y3.out) (by rw [World.size_alloc]; omega))
      have Z5 := Lib.hid (Below.at hb (heap_alloc_new w3 (Obj.cells #[.bool xu, .int .i64 xr] 37)) (by rw [World.size_alloc]; omega))
      have B5 := Lib.hid ((B3.out.alloc B3.out.size (Obj.cells #[.bool xu, .int .i64 xr] 37)).trans (hb.mono (by rw [World.size_alloc]; have := B3.out.size; omega)))
      clear hb X3 Y3 B3 x0 x1 y0 y1 XMAY
      have x0 := cell_of (v := .bool hu) 0 X5.out rfl
      have x1 := cell_of (v := .int .i64 hr) 1 X5.out rfl
      have xf0 := free_of 0 X5.out
      have xf1 := free_of 1 X5.out
      have y0 := cell_of (v := .int .i64 r) 0 Y5.out rfl
      have y1 := cell_of (v := .int .i64 f) 1 Y5.out rfl
      have z0 := cell_of (v := .bool xu) 0 Z5.out rfl
      have z1 := cell_of (v := .int .i64 xr) 1 Z5.out rfl
      -- the runs
      obtain ⟨C', hC'⟩ : ∃ C', (if C = 0 ∨ good ≠ kind then 1 else C + 1) = C' := ⟨_, rfl⟩
      have HC := Lib.hid hC'
      have HINV : Hid (0 ≤ C' ∧ C' ≤ k + 1 ∧ (xu = good ∨ C' ≤ xr)) := by
        have hI' := hI.out
        have hF := HXF.out
        have hU := HXU.out
        have hMx := (hmay_iff.1 HXM.out).2
        refine ⟨by rw [← hC']; split <;> omega, by rw [← hC']; split <;> omega, ?_⟩
        by_cases hxg : xu = good
        · exact .inl hxg
        · right
          have hh := hF hxg
          have hm2 := (hmay_iff.1 hMM.out).2
          rw [← hC']
          split
          · omega
          · rename_i hn
            have hgk : good = kind := by cases good <;> cases kind <;> simp_all
            have hxh : xu = hu := by rcases hU with h | h; exact h; exact absurd h hxg
            rcases hI' with h | h | h
            · omega
            · exfalso; apply hxg; rw [hxh, h, hgk]
            · omega
      clear hC'
      have KU := HXU.out
      have KF : xu ≠ good → xr < (if good = true then r else f) := fun h => (HXF.out h).2
      have hINV := HINV.out
      have LAST : Hid (∀ q : Int, q = C' → ∀ W, Hid (Below w.heap.size w W) → Hid (W.heap[w.heap.size]? = some (.cells #[.bool xu, .int .i64 xr] 37 (0, 0))) → Hid (W.heap[w.heap.size + 1]? = some (.cells #[.int .i64 r, .int .i64 f] 39 (0, 0))) →
          ∃ (k2 : Nat) (hu2 : Bool) (hr2 C2 : Int) (kind2 : Bool), k2 ≤ len ∧ Value.int .i64 ((k : Int) + 1) = .int .i64 k2 ∧ Value.bool xu = .bool hu2 ∧ Value.int .i64 q = .int .i64 C2 ∧ Value.bool good = .bool kind2 ∧ Hid (Below w.heap.size w W) ∧ Hid (W.heap[w.heap.size]? = some (.cells #[.bool hu2, .int .i64 hr2] 37 (0, 0))) ∧ Hid (W.heap[w.heap.size + 1]? = some (.cells #[.int .i64 r, .int .i64 f] 39 (0, 0))) ∧
          Hid (hmay hu2 hr2 r f = true) ∧ 0 ≤ C2 ∧ C2 ≤ k2 ∧ Hid (C2 = 0 ∨ hu2 = kind2 ∨ C2 ≤ hr2)) := by
        intro q hq W hb hx hy
        exact ⟨k + 1, xu, xr, q, good, by omega, by go_num, rfl, rfl, rfl, hb, hx, hy, HXM, by omega, by omega, .inr (by rw [hq]; exact hINV.2.2)⟩
      clear HXU HXF HXM hMM hI HINV
      by_cases hc0 : C = 0
      all_goals (cases hu <;> cases good <;> cases xu <;> first | (exfalso; revert KU; simp; done) | skip)
      all_goals
        simp only [ne_eq, not_true_eq_false, false_implies, true_implies, Bool.false_eq_true, Bool.true_eq_false, not_false_eq_true, if_true, if_false, reduceCtorEq, false_or, true_or, or_true, or_false, forall_const] at KF hINV
        clear KU
      all_goals (first | (obtain rfl : C = 0 := hc0) | (have hcz : (C == 0) = false := beq_eq_false_iff_ne.2 hc0; cases kind))
      all_goals
        have hq := HC.out
        first
          | rw [if_pos (Or.inl rfl)] at hq
          | rw [if_neg (not_or.2 ⟨hc0, fun h => h rfl⟩)] at hq
          | rw [if_pos (Or.inr nofun)] at hq
        subst hq
        clear HC
      all_goals
        have F1 := fun v => heap_setCell (i := 1) (u := .int .i64 xr) (heap_setCell (i := 0) (u := v) X5.out)
        have F2 := fun v => (But.set1 (w5.setCell ⟨w.heap.size, 0, none⟩ v) w.heap.size 1 (.int .i64 xr)).at ((But.set1 w5 w.heap.size 0 v).at Y5.out (by omega)) (by omega)
        have F3 := fun v => (B5.out.setCell (p := ⟨w.heap.size, 0, none⟩) (Nat.le_refl _) v).setCell (p := ⟨w.heap.size, 1, none⟩) (Nat.le_refl _) (.int .i64 xr)
        have G1 := Lib.hid F1
        have G2 := Lib.hid F2
        have G3 := Lib.hid F3
        clear F1 F2 F3
        try clear hc0
      all_goals go_wp2_with fail
      all_goals
        go_roundw
        case rel => exact LAST.out _ rfl _ (G3.out _) (G1.out _) (G2.out _)
        case measure => simp [intOf]; omega
    · have FIT := Lib.hid (fun W => fit_any hu hr r f W)
      rw [fit_same hMM.out] at FIT
      have x0 := cell_of (v := .bool hu) 0 hX.out rfl
      have x1 := cell_of (v := .int .i64 hr) 1 hX.out rfl
      have y0 := cell_of (v := .int .i64 r) 0 hY.out rfl
      have y1 := cell_of (v := .int .i64 f) 1 hY.out rfl
      go_wp2_with fail
      refine (FIT.out _).mono ?_
      rintro e w3 ⟨rfl, hb⟩
      have X3 := Lib.hid (Below.at hb hX.out (lt_of_heap hX.out))
      have B3 := Lib.hid (hB.out.trans (hb.mono hB.out.size))
      clear hb hX hY hB x0 x1 y0 y1
      have x0 := cell_of (v := .bool hu) 0 X3.out rfl
      have x1 := cell_of (v := .int .i64 hr) 1 X3.out rfl
      have hlt3 : w.heap.size < w3.heap.size := lt_of_heap X3.out
      go_wp2_with fail
      refine (known21_any _).mono ?_
      rintro e w8 ⟨rfl, hb⟩
      have B8 := Lib.hid ((B3.out.alloc B3.out.size (Obj.cells #[.bool hu, .int .i64 hr] 37)).trans (hb.mono (by rw [World.size_alloc]; have := B3.out.size; omega)))
      clear hb
      go_wp2_with fail
      go_ret
      exact ⟨by simp, B8.out⟩
end Go.Proofs.Ytamjhaomdfeemaa
