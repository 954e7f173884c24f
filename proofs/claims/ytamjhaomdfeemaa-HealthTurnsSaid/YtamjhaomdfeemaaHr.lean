/- The walk of the law HealthReplies. -/
import Derived.Test.YtamjhaomdfeemaaHt
import Derived.Test.YtamjhaomdfeemaaHu
import Derived.Test.YtamjhaomdfeemaaHk
import Derived.Test.YtamjhaomdfeemaaRd
namespace Go.Proofs.Ytamjhaomdfeemaa
open Go.RowKit Go.Wb
set_option linter.unusedVariables false

set_option maxRecDepth 100000 in
set_option maxHeartbeats 8000000 in
theorem healthReplies_no (up : Bool) (run r f : Int) (good : Bool) (w : World) (h1 : -9223372036854775808 ≤ run) (h2 : run ≤ 9223372036854775807) (hm : hmay up run r f = false) :
    Calls Try.prog 6 #[.agg #[.bool up, .int .i64 run], .agg #[.int .i64 r, .int .i64 f], .bool good] w fun e w' => e = .returned (.bool true) ∧ Below w.heap.size w w' := by
  have RY := Lib.hid (fun W => reply_no up run r f good W hm)
  have HM := Lib.hid hm
  clear hm
  have SET := Lib.hid (fun W => maySet_any r f W)
  have RSET := Lib.hid (fun W => rmaySet_any r f W)
  have MAY := Lib.hid (fun W => hmay_any up run r f W)
  have RMAY := Lib.hid (fun W => rhmay_any up run r f W)
  rw [HM.out] at MAY RMAY
  obtain ⟨fx, FIT, RFIT⟩ : ∃ fx, Hid (∀ W, Calls Try.prog 28 #[.agg #[.bool up, .int .i64 run], .agg #[.int .i64 r, .int .i64 f]] W fun e w' => e = .returned (.agg #[.bool up, .int .i64 fx]) ∧ Below W.heap.size W w') ∧ Hid (∀ W, Calls Try.prog 29 #[.agg #[.bool up, .int .i64 run], .agg #[.int .i64 r, .int .i64 f]] W fun e w' => e = .returned (.agg #[.bool up, .int .i64 fx]) ∧ Below W.heap.size W w') :=
    ⟨_, fun W => fit_any up run r f W, fun W => rfit_any up run r f W h1 h2⟩
  obtain ⟨ms, hms⟩ : ∃ ms, maySet r f = ms := ⟨_, rfl⟩
  rw [hms] at SET RSET
  clear hms HM
  have HT := heap_two w (Obj.cells #[.bool up, .int .i64 run] 37) (Obj.cells #[.int .i64 r, .int .i64 f] 39)
  have X := Lib.hid HT.1
  have Y := Lib.hid HT.2
  have B1 := Lib.hid (b2 w (Obj.cells #[.bool up, .int .i64 run] 37) (Obj.cells #[.int .i64 r, .int .i64 f] 39))
  clear HT
  go_enter Try.func6, Try.ntmps6
  go_wp2_with fail
  generalize (w.alloc (Obj.cells #[.bool up, .int .i64 run] 37)).alloc (Obj.cells #[.int .i64 r, .int .i64 f] 39) = w1 at *
  refine (RY.out _).mono ?_
  rintro e w2 ⟨rfl, hb⟩
  have X2 := Lib.hid (Below.at hb X.out (lt_of_heap X.out))
  have Y2 := Lib.hid (Below.at hb Y.out (lt_of_heap Y.out))
  have B2 := Lib.hid (B1.out.trans (hb.mono B1.out.size))
  clear hb X Y B1 RY
  go_upto_region 2 with fail
  have X3 := Lib.hid (hold_alloc (o' := Obj.cells #[.bool false, .int .i64 0] 37) X2.out)
  have Y3 := Lib.hid (hold_alloc (o' := Obj.cells #[.bool false, .int .i64 0] 37) Y2.out)
  have Z3 := Lib.hid (heap_alloc_new w2 (Obj.cells #[.bool false, .int .i64 0] 37))
  have B3 := Lib.hid (B2.out.alloc B2.out.size (Obj.cells #[.bool false, .int .i64 0] 37))
  generalize w2.alloc (Obj.cells #[.bool false, .int .i64 0] 37) = w3 at *
  clear X2 Y2 B2
  have KEEP : Hid (∀ W, Hid (Below w3.heap.size w3 W) → (fun W => Hid (Below w3.heap.size w3 W) ∧ W.cell? ⟨w.heap.size, 0, none⟩ = some (.bool up) ∧ W.cell? ⟨w.heap.size, 1, none⟩ = some (.int .i64 run) ∧ W.cell? ⟨w.heap.size + 1, 0, none⟩ = some (.int .i64 r) ∧ W.cell? ⟨w.heap.size + 1, 1, none⟩ = some (.int .i64 f)) W) := fun W h =>
    ⟨h, cell_of 0 (Below.at h.out X3.out (lt_of_heap X3.out)) rfl, cell_of 1 (Below.at h.out X3.out (lt_of_heap X3.out)) rfl, cell_of 0 (Below.at h.out Y3.out (lt_of_heap Y3.out)) rfl, cell_of 1 (Below.at h.out Y3.out (lt_of_heap Y3.out)) rfl⟩
  have start : Hid (Below w3.heap.size w3 w3) := Below.refl _ _
  go_region_held3 (fun W => Hid (Below w3.heap.size w3 W) ∧ W.cell? ⟨w.heap.size, 0, none⟩ = some (.bool up) ∧ W.cell? ⟨w.heap.size, 1, none⟩ = some (.int .i64 run) ∧ W.cell? ⟨w.heap.size + 1, 0, none⟩ = some (.int .i64 r) ∧ W.cell? ⟨w.heap.size + 1, 1, none⟩ = some (.int .i64 f))
    (first | exact KEEP.out _ (by assumption) | exact KEEP.out _ (below_drew (by assumption)))
    (first
      | (go_at_call 24; have hh := (‹Hid (Below w3.heap.size w3 _) ∧ _›).1; refine (SET.out _).mono ?_; rintro e W' ⟨rfl, hb'⟩; have hb2 := below_next hh hb'; clear hb' hh)
      | (go_at_call 25; have hh := (‹Hid (Below w3.heap.size w3 _) ∧ _›).1; refine (RSET.out _).mono ?_; rintro e W' ⟨rfl, hb'⟩; have hb2 := below_next hh hb'; clear hb' hh)
      | (go_at_call 26; have hh := (‹Hid (Below w3.heap.size w3 _) ∧ _›).1; refine (MAY.out _).mono ?_; rintro e W' ⟨rfl, hb'⟩; have hb2 := below_next hh hb'; clear hb' hh)
      | (go_at_call 27; have hh := (‹Hid (Below w3.heap.size w3 _) ∧ _›).1; refine (RMAY.out _).mono ?_; rintro e W' ⟨rfl, hb'⟩; have hb2 := below_next hh hb'; clear hb' hh)
      | (go_at_call 28; have hh := (‹Hid (Below w3.heap.size w3 _) ∧ _›).1; refine (FIT.out _).mono ?_; rintro e W' ⟨rfl, hb'⟩; have hb2 := below_next hh hb'; clear hb' hh)
      | (go_at_call 29; have hh := (‹Hid (Below w3.heap.size w3 _) ∧ _›).1; refine (RFIT.out _).mono ?_; rintro e W' ⟨rfl, hb'⟩; have hb2 := below_next hh hb'; clear hb' hh)
      | (go_at_call 30; have hh := (‹Hid (Below w3.heap.size w3 _) ∧ _›).1; refine (first_any _).mono ?_; rintro e W' ⟨rfl, hb'⟩; have hb2 := below_next hh hb'; clear hb' hh))
  have hh := (‹Hid (Below w3.heap.size w3 _) ∧ _›).1
  have X4 := Lib.hid (Below.at hh.out X3.out (lt_of_heap X3.out))
  have Y4 := Lib.hid (Below.at hh.out Y3.out (lt_of_heap Y3.out))
  have Z4 := Lib.hid (Below.at hh.out Z3.out (lt_of_heap Z3.out))
  have B4 := Lib.hid (B3.out.trans (hh.out.mono B3.out.size))
  clear X3 Y3 Z3 hh KEEP start SET RSET MAY FIT RFIT B3
  have x0 := cell_of (v := .bool up) 0 X4.out rfl
  have x1 := cell_of (v := .int .i64 run) 1 X4.out rfl
  have y0 := cell_of (v := .int .i64 r) 0 Y4.out rfl
  have y1 := cell_of (v := .int .i64 f) 1 Y4.out rfl
  go_wp2_with fail
  refine (RMAY.out _).mono ?_
  rintro e w5 ⟨rfl, hb⟩
  have X5 := Lib.hid (Below.at hb X4.out (lt_of_heap X4.out))
  have Y5 := Lib.hid (Below.at hb Y4.out (lt_of_heap Y4.out))
  have Z5 := Lib.hid (Below.at hb Z4.out (lt_of_heap Z4.out))
  have B5 := Lib.hid (B4.out.trans (hb.mono B4.out.size))
  clear hb X4 Y4 Z4 B4 RMAY x0 x1 y0 y1
  have x0 := cell_of (v := .bool up) 0 X5.out rfl
  have x1 := cell_of (v := .int .i64 run) 1 X5.out rfl
  have y0 := cell_of (v := .int .i64 r) 0 Y5.out rfl
  have y1 := cell_of (v := .int .i64 f) 1 Y5.out rfl
  have z0 := cell_of (v := .bool false) 0 Z5.out rfl
  have z1 := cell_of (v := .int .i64 0) 1 Z5.out rfl
  go_wp2_with fail
  have B7 := B5
  refine (known21_any _).mono ?_
  rintro e w8 ⟨rfl, hb⟩
  have B8 := Lib.hid (B7.out.trans (hb.mono B7.out.size))
  clear hb
  go_wp2_with fail
  go_ret
  exact ⟨by simp, B8.out⟩

set_option maxRecDepth 100000 in
set_option maxHeartbeats 8000000 in
theorem healthReplies_yes (up : Bool) (run r f : Int) (good : Bool) (w : World) (h1 : -9223372036854775808 ≤ run) (h2 : run ≤ 9223372036854775807) (hm : hmay up run r f = true) :
    Calls Try.prog 6 #[.agg #[.bool up, .int .i64 run], .agg #[.int .i64 r, .int .i64 f], .bool good] w fun e w' => e = .returned (.bool true) ∧ Below w.heap.size w w' := by
  obtain ⟨xu, xr, xd, RY, RR⟩ : ∃ xu xr xd, Hid (∀ W, Calls Try.prog 23 #[.agg #[.bool up, .int .i64 run], .agg #[.int .i64 r, .int .i64 f], .bool good] W fun e w' => e = .returned (.tuple #[.agg #[.bool xu, .int .i64 xr], .bool xd, .int .i64 0]) ∧ Below W.heap.size W w') ∧
      Hid (∀ W, Calls Try.prog 32 #[.agg #[.bool up, .int .i64 run], .agg #[.int .i64 r, .int .i64 f], .bool good] W fun e w' => e = .returned (.tuple #[.agg #[.bool xu, .int .i64 xr], .bool xd]) ∧ Below W.heap.size W w') :=
    ⟨_, _, _, fun W => reply_yes up run r f good W hm, fun W => rreply_any up run r f good W hm⟩
  have HM := Lib.hid hm
  clear hm
  have SET := Lib.hid (fun W => maySet_any r f W)
  have RSET := Lib.hid (fun W => rmaySet_any r f W)
  have MAY := Lib.hid (fun W => hmay_any up run r f W)
  have RMAY := Lib.hid (fun W => rhmay_any up run r f W)
  rw [HM.out] at MAY RMAY
  obtain ⟨fx, FIT, RFIT⟩ : ∃ fx, Hid (∀ W, Calls Try.prog 28 #[.agg #[.bool up, .int .i64 run], .agg #[.int .i64 r, .int .i64 f]] W fun e w' => e = .returned (.agg #[.bool up, .int .i64 fx]) ∧ Below W.heap.size W w') ∧ Hid (∀ W, Calls Try.prog 29 #[.agg #[.bool up, .int .i64 run], .agg #[.int .i64 r, .int .i64 f]] W fun e w' => e = .returned (.agg #[.bool up, .int .i64 fx]) ∧ Below W.heap.size W w') :=
    ⟨_, fun W => fit_any up run r f W, fun W => rfit_any up run r f W h1 h2⟩
  obtain ⟨ms, hms⟩ : ∃ ms, maySet r f = ms := ⟨_, rfl⟩
  rw [hms] at SET RSET
  clear hms HM
  have HT := heap_two w (Obj.cells #[.bool up, .int .i64 run] 37) (Obj.cells #[.int .i64 r, .int .i64 f] 39)
  have X := Lib.hid HT.1
  have Y := Lib.hid HT.2
  have B1 := Lib.hid (b2 w (Obj.cells #[.bool up, .int .i64 run] 37) (Obj.cells #[.int .i64 r, .int .i64 f] 39))
  clear HT
  go_enter Try.func6, Try.ntmps6
  go_wp2_with fail
  generalize (w.alloc (Obj.cells #[.bool up, .int .i64 run] 37)).alloc (Obj.cells #[.int .i64 r, .int .i64 f] 39) = w1 at *
  refine (RY.out _).mono ?_
  rintro e w2 ⟨rfl, hb⟩
  have X2 := Lib.hid (Below.at hb X.out (lt_of_heap X.out))
  have Y2 := Lib.hid (Below.at hb Y.out (lt_of_heap Y.out))
  have B2 := Lib.hid (B1.out.trans (hb.mono B1.out.size))
  clear hb X Y B1 RY
  go_upto_region 2 with fail
  have X3 := Lib.hid (hold_alloc (o' := Obj.cells #[.bool xu, .int .i64 xr] 37) X2.out)
  have Y3 := Lib.hid (hold_alloc (o' := Obj.cells #[.bool xu, .int .i64 xr] 37) Y2.out)
  have Z3 := Lib.hid (heap_alloc_new w2 (Obj.cells #[.bool xu, .int .i64 xr] 37))
  have B3 := Lib.hid (B2.out.alloc B2.out.size (Obj.cells #[.bool xu, .int .i64 xr] 37))
  generalize w2.alloc (Obj.cells #[.bool xu, .int .i64 xr] 37) = w3 at *
  clear X2 Y2 B2
  have KEEP : Hid (∀ W, Hid (Below w3.heap.size w3 W) → (fun W => Hid (Below w3.heap.size w3 W) ∧ W.cell? ⟨w.heap.size, 0, none⟩ = some (.bool up) ∧ W.cell? ⟨w.heap.size, 1, none⟩ = some (.int .i64 run) ∧ W.cell? ⟨w.heap.size + 1, 0, none⟩ = some (.int .i64 r) ∧ W.cell? ⟨w.heap.size + 1, 1, none⟩ = some (.int .i64 f)) W) := fun W h =>
    ⟨h, cell_of 0 (Below.at h.out X3.out (lt_of_heap X3.out)) rfl, cell_of 1 (Below.at h.out X3.out (lt_of_heap X3.out)) rfl, cell_of 0 (Below.at h.out Y3.out (lt_of_heap Y3.out)) rfl, cell_of 1 (Below.at h.out Y3.out (lt_of_heap Y3.out)) rfl⟩
  have start : Hid (Below w3.heap.size w3 w3) := Below.refl _ _
  go_region_held3 (fun W => Hid (Below w3.heap.size w3 W) ∧ W.cell? ⟨w.heap.size, 0, none⟩ = some (.bool up) ∧ W.cell? ⟨w.heap.size, 1, none⟩ = some (.int .i64 run) ∧ W.cell? ⟨w.heap.size + 1, 0, none⟩ = some (.int .i64 r) ∧ W.cell? ⟨w.heap.size + 1, 1, none⟩ = some (.int .i64 f))
    (first | exact KEEP.out _ (by assumption) | exact KEEP.out _ (below_drew (by assumption)))
    (first
      | (go_at_call 24; have hh := (‹Hid (Below w3.heap.size w3 _) ∧ _›).1; refine (SET.out _).mono ?_; rintro e W' ⟨rfl, hb'⟩; have hb2 := below_next hh hb'; clear hb' hh)
      | (go_at_call 25; have hh := (‹Hid (Below w3.heap.size w3 _) ∧ _›).1; refine (RSET.out _).mono ?_; rintro e W' ⟨rfl, hb'⟩; have hb2 := below_next hh hb'; clear hb' hh)
      | (go_at_call 26; have hh := (‹Hid (Below w3.heap.size w3 _) ∧ _›).1; refine (MAY.out _).mono ?_; rintro e W' ⟨rfl, hb'⟩; have hb2 := below_next hh hb'; clear hb' hh)
      | (go_at_call 27; have hh := (‹Hid (Below w3.heap.size w3 _) ∧ _›).1; refine (RMAY.out _).mono ?_; rintro e W' ⟨rfl, hb'⟩; have hb2 := below_next hh hb'; clear hb' hh)
      | (go_at_call 28; have hh := (‹Hid (Below w3.heap.size w3 _) ∧ _›).1; refine (FIT.out _).mono ?_; rintro e W' ⟨rfl, hb'⟩; have hb2 := below_next hh hb'; clear hb' hh)
      | (go_at_call 29; have hh := (‹Hid (Below w3.heap.size w3 _) ∧ _›).1; refine (RFIT.out _).mono ?_; rintro e W' ⟨rfl, hb'⟩; have hb2 := below_next hh hb'; clear hb' hh)
      | (go_at_call 30; have hh := (‹Hid (Below w3.heap.size w3 _) ∧ _›).1; refine (first_any _).mono ?_; rintro e W' ⟨rfl, hb'⟩; have hb2 := below_next hh hb'; clear hb' hh))
  have hh := (‹Hid (Below w3.heap.size w3 _) ∧ _›).1
  have X4 := Lib.hid (Below.at hh.out X3.out (lt_of_heap X3.out))
  have Y4 := Lib.hid (Below.at hh.out Y3.out (lt_of_heap Y3.out))
  have Z4 := Lib.hid (Below.at hh.out Z3.out (lt_of_heap Z3.out))
  have B4 := Lib.hid (B3.out.trans (hh.out.mono B3.out.size))
  clear X3 Y3 Z3 hh KEEP start SET RSET MAY FIT RFIT B3
  have x0 := cell_of (v := .bool up) 0 X4.out rfl
  have x1 := cell_of (v := .int .i64 run) 1 X4.out rfl
  have y0 := cell_of (v := .int .i64 r) 0 Y4.out rfl
  have y1 := cell_of (v := .int .i64 f) 1 Y4.out rfl
  go_wp2_with fail
  refine (RMAY.out _).mono ?_
  rintro e w5 ⟨rfl, hb⟩
  have X5 := Lib.hid (Below.at hb X4.out (lt_of_heap X4.out))
  have Y5 := Lib.hid (Below.at hb Y4.out (lt_of_heap Y4.out))
  have Z5 := Lib.hid (Below.at hb Z4.out (lt_of_heap Z4.out))
  have B5 := Lib.hid (B4.out.trans (hb.mono B4.out.size))
  clear hb X4 Y4 Z4 B4 RMAY x0 x1 y0 y1
  have x0 := cell_of (v := .bool up) 0 X5.out rfl
  have x1 := cell_of (v := .int .i64 run) 1 X5.out rfl
  have y0 := cell_of (v := .int .i64 r) 0 Y5.out rfl
  have y1 := cell_of (v := .int .i64 f) 1 Y5.out rfl
  have z0 := cell_of (v := .bool xu) 0 Z5.out rfl
  have z1 := cell_of (v := .int .i64 xr) 1 Z5.out rfl
  go_wp2_with fail
  refine (RR.out _).mono ?_
  rintro e w6 ⟨rfl, hb⟩
  have Z6 := Lib.hid (Below.at hb Z5.out (lt_of_heap Z5.out))
  have B6 := Lib.hid (B5.out.trans (hb.mono B5.out.size))
  clear hb X5 Y5 Z5 B5 x0 x1 y0 y1 z0 z1
  have z0 := cell_of (v := .bool xu) 0 Z6.out rfl
  have z1 := cell_of (v := .int .i64 xr) 1 Z6.out rfl
  have hlt : w2.heap.size < w6.heap.size := lt_of_heap Z6.out
  go_wp2_with fail
  have B7 := Lib.hid (B6.out.alloc B6.out.size (Obj.cells #[.bool xu, .int .i64 xr] 37))
  refine (known21_any _).mono ?_
  rintro e w8 ⟨rfl, hb⟩
  have B8 := Lib.hid (B7.out.trans (hb.mono B7.out.size))
  clear hb
  go_wp2_with fail
  go_ret
  exact ⟨by simp, B8.out⟩


def InHealth (v : Value) : Prop := ∃ up run, v = .agg #[.bool up, .int .i64 run] ∧ -9223372036854775808 ≤ run ∧ run ≤ 9223372036854775807
def InSet (v : Value) : Prop := ∃ r f, v = .agg #[.int .i64 r, .int .i64 f]
theorem flat37 : flat Try.prog 3 37 = some [4, 3] := by kernel_rfl
theorem flat39 : flat Try.prog 3 39 = some [3, 3] := by kernel_rfl
set_option maxRecDepth 1000000 in
theorem openT37 {H : Type} {enc : TypeId × Value → H} {w : World} {base b0 : Nat} {spare : Nat → Bool} {held : Bool} {r : Reach} {v : Value} {d : DataW H} {p : List MemPlace} (hv : Value.okWide Try.prog w r b0 37 v) (h : DataW.Trod enc Try.prog w base spare held 37 v d p) : InHealth v := by
  obtain ⟨cs, rfl, hl⟩ := open_flat flat37 (agg_struct Try.underlying37 hv) h
  obtain ⟨o, vs, rfl, h1⟩ := leaves_bool Try.underlying4 hl
  obtain ⟨s, vs, rfl, ws, h2⟩ := leaves_int Try.underlying3 h1
  obtain rfl := leaves_nil h2
  have := bounds_i64 ws
  exact ⟨o, s, rfl, this.1, this.2⟩
set_option maxRecDepth 1000000 in
theorem openT39 {H : Type} {enc : TypeId × Value → H} {w : World} {base b0 : Nat} {spare : Nat → Bool} {held : Bool} {r : Reach} {v : Value} {d : DataW H} {p : List MemPlace} (hv : Value.okWide Try.prog w r b0 39 v) (h : DataW.Trod enc Try.prog w base spare held 39 v d p) : InSet v := by
  obtain ⟨cs, rfl, hl⟩ := open_flat flat39 (agg_struct Try.underlying39 hv) h
  obtain ⟨a, vs, rfl, _, h1⟩ := leaves_int Try.underlying3 hl
  obtain ⟨s, vs, rfl, ws, h2⟩ := leaves_int Try.underlying3 h1
  obtain rfl := leaves_nil h2
  exact ⟨a, s, rfl⟩

theorem healthReplies_walk (w : World) (h : Value) (hh : InHealth h) (s : Value) (hs : InSet s) (good : Bool) :
    Calls Try.prog 6 #[h, s, .bool good] w fun e w' => e = .returned (.bool true) ∧ Below w.heap.size w w' := by
  obtain ⟨up, run, rfl, h1, h2⟩ := hh
  obtain ⟨r, f, rfl⟩ := hs
  cases hm : hmay up run r f
  · exact healthReplies_no up run r f good w h1 h2 hm
  · exact healthReplies_yes up run r f good w h1 h2 hm
end Go.Proofs.Ytamjhaomdfeemaa
