/- The walk of the reference's ReadUDP. -/
import Derived.Test.YtcbjjkpjbdcakaaUr
namespace Go.Proofs.Ytcbjjkpjbdcakaa
open Go.RowKit Go.Wb
set_option linter.unusedVariables false
set_option linter.unusedSimpArgs false

set_option maxRecDepth 100000 in
set_option maxHeartbeats 1000000 in
theorem rudp_short {w : World} {a : Option Addr} {len cap : Nat} {zs : List Int} (v6 : Bool) (ss ds : List Int) (h : Row8 w a len cap zs) (h8 : len < 8) : Calls Try.prog 19 #[.bool v6, .agg (ar ss), .agg (ar ds), .slice a len cap] w (noUDP 4 w) := by
  have B0 := Lib.hid (below_four w (Obj.cells (ar ss) 22) (Obj.cells (ar ds) 22) (Obj.cells #[.int .u16 0, .int .u16 0, .bool false] 34) (Obj.cells #[.int .u16 0, .int .u16 0, .bool false] 34))
  clear h
  go_enter Try.func19, Try.ntmps19
  go_wp2_with fail
  refine bodyPost_ret (v := .tuple #[.agg #[.int .u16 0, .int .u16 0, .bool false], .slice none 0 0, .int .i64 4]) (by simp [results, Try.results19, go_sem]) rfl ⟨rfl, ?_⟩
  exact B0.out

set_option maxRecDepth 1000000 in
set_option maxHeartbeats 4000000 in
theorem rudp_form {w : World} {b off len cap : Nat} {zs : List Int} (v6 : Bool) (ss ds : List Int) (h : Row8 w (some ⟨b, off, none⟩) len cap zs) (h8 : 8 ≤ len) (hl : len ≤ 1099511627776) (hs : ss.length = 16) (hd : ds.length = 16) (bs : ∀ x ∈ ss, 0 ≤ x ∧ x ≤ 255) (bd : ∀ x ∈ ds, 0 ≤ x ∧ x ≤ 255) (c6 : True) (c4 : w16 zs 4 ≠ len) :
    Calls Try.prog 19 #[.bool v6, .agg (ar ss), .agg (ar ds), .slice (some ⟨b, off, none⟩) len cap] w (noUDP 5 w) := by
  have HT := heap_four w (Obj.cells (ar ss) 22) (Obj.cells (ar ds) 22) (Obj.cells #[.int .u16 0, .int .u16 0, .bool false] 34) (Obj.cells #[.int .u16 0, .int .u16 0, .bool false] 34)
  have X := Lib.hid HT.1
  have Y := Lib.hid HT.2.1
  have Z := Lib.hid HT.2.2.1
  have N := Lib.hid HT.2.2.2
  have B0 := Lib.hid (below_four w (Obj.cells (ar ss) 22) (Obj.cells (ar ds) 22) (Obj.cells #[.int .u16 0, .int .u16 0, .bool false] 34) (Obj.cells #[.int .u16 0, .int .u16 0, .bool false] 34))
  have H := Lib.hid h
  have HS := Lib.hid hs
  have HD := Lib.hid hd
  have SEAL := Lib.hid (fun W (hb : Below w.heap.size w W) => right_any v6 ss ds 17 (h.below hb) hl hs hd bs bd (by omega) (by omega))
  have hcap := h.cap_le
  have hle := h.le
  have A0 := Lib.hid (fun W (hb : Below w.heap.size w W) => num2 (h.below hb) 0 (by omega))
  have A2 := Lib.hid (fun W (hb : Below w.heap.size w W) => num2 (h.below hb) 2 (by omega))
  have A4 := Lib.hid (fun W (hb : Below w.heap.size w W) => num2 (h.below hb) 4 (by omega))
  have A6 := Lib.hid (fun W (hb : Below w.heap.size w W) => num2 (h.below hb) 6 (by omega))
  have r0 := w16_range h.bytes 0
  have r2 := w16_range h.bytes 2
  have r4 := w16_range h.bytes 4
  have r6 := w16_range h.bytes 6
  obtain ⟨sp, hsp⟩ : ∃ x, w16 zs 0 = x := ⟨_, rfl⟩
  obtain ⟨dp, hdp⟩ : ∃ x, w16 zs 2 = x := ⟨_, rfl⟩
  obtain ⟨q4, hq4⟩ : ∃ x, w16 zs 4 = x := ⟨_, rfl⟩
  obtain ⟨q6, hq6⟩ : ∃ x, w16 zs 6 = x := ⟨_, rfl⟩
  rw [hsp] at A0 r0
  rw [hdp] at A2 r2
  rw [hq4] at A4 r4 c4
  rw [hq6] at A6 r6
  have HSP := Lib.hid hsp
  have HDP := Lib.hid hdp
  obtain ⟨r00, r01⟩ := r0
  obtain ⟨r20, r21⟩ := r2
  obtain ⟨r40, r41⟩ := r4
  obtain ⟨r60, r61⟩ := r6
  clear HT h hs hd bs bd hsp hdp hq4 hq6
  have q4b : (q4 != (len : Int)) = true := by simp; omega
  clear c4 c6
  go_enter Try.func19, Try.ntmps19
  go_wp2_with fail
  refine (A4.out _ B0.out).mono ?_
  rintro e W ⟨rfl, rfl⟩
  go_wp2_with fail
  refine bodyPost_ret (v := .tuple #[.agg #[.int .u16 0, .int .u16 0, .bool false], .slice none 0 0, .int .i64 5]) (by simp [results, Try.results19, go_sem]) rfl ⟨rfl, ?_⟩
  first | exact B0.out | (repeat' (first | with_reducible exact B0.out | with_reducible refine Below.setCell ?_ ?_ _ | with_reducible refine Below.alloc ?_ ?_ _)
                          all_goals (first | (simp; done) | (simp; omega) | omega))

set_option maxRecDepth 1000000 in
set_option maxHeartbeats 4000000 in
theorem rudp_none_v6 {w : World} {b off len cap : Nat} {zs : List Int} (ss ds : List Int) (h : Row8 w (some ⟨b, off, none⟩) len cap zs) (h8 : 8 ≤ len) (hl : len ≤ 1099511627776) (hs : ss.length = 16) (hd : ds.length = 16) (bs : ∀ x ∈ ss, 0 ≤ x ∧ x ≤ 255) (bd : ∀ x ∈ ds, 0 ≤ x ∧ x ≤ 255) (c6 : w16 zs 6 = 0) (c4 : w16 zs 4 = len) :
    Calls Try.prog 19 #[.bool true, .agg (ar ss), .agg (ar ds), .slice (some ⟨b, off, none⟩) len cap] w (noUDP 6 w) := by
  have HT := heap_four w (Obj.cells (ar ss) 22) (Obj.cells (ar ds) 22) (Obj.cells #[.int .u16 0, .int .u16 0, .bool false] 34) (Obj.cells #[.int .u16 0, .int .u16 0, .bool false] 34)
  have X := Lib.hid HT.1
  have Y := Lib.hid HT.2.1
  have Z := Lib.hid HT.2.2.1
  have N := Lib.hid HT.2.2.2
  have B0 := Lib.hid (below_four w (Obj.cells (ar ss) 22) (Obj.cells (ar ds) 22) (Obj.cells #[.int .u16 0, .int .u16 0, .bool false] 34) (Obj.cells #[.int .u16 0, .int .u16 0, .bool false] 34))
  have H := Lib.hid h
  have HS := Lib.hid hs
  have HD := Lib.hid hd
  have SEAL := Lib.hid (fun W (hb : Below w.heap.size w W) => right_any true ss ds 17 (h.below hb) hl hs hd bs bd (by omega) (by omega))
  have hcap := h.cap_le
  have hle := h.le
  have A0 := Lib.hid (fun W (hb : Below w.heap.size w W) => num2 (h.below hb) 0 (by omega))
  have A2 := Lib.hid (fun W (hb : Below w.heap.size w W) => num2 (h.below hb) 2 (by omega))
  have A4 := Lib.hid (fun W (hb : Below w.heap.size w W) => num2 (h.below hb) 4 (by omega))
  have A6 := Lib.hid (fun W (hb : Below w.heap.size w W) => num2 (h.below hb) 6 (by omega))
  have r0 := w16_range h.bytes 0
  have r2 := w16_range h.bytes 2
  have r4 := w16_range h.bytes 4
  have r6 := w16_range h.bytes 6
  obtain ⟨sp, hsp⟩ : ∃ x, w16 zs 0 = x := ⟨_, rfl⟩
  obtain ⟨dp, hdp⟩ : ∃ x, w16 zs 2 = x := ⟨_, rfl⟩
  obtain ⟨q4, hq4⟩ : ∃ x, w16 zs 4 = x := ⟨_, rfl⟩
  obtain ⟨q6, hq6⟩ : ∃ x, w16 zs 6 = x := ⟨_, rfl⟩
  rw [hsp] at A0 r0
  rw [hdp] at A2 r2
  rw [hq4] at A4 r4 c4
  rw [hq6] at A6 r6 c6
  have HSP := Lib.hid hsp
  have HDP := Lib.hid hdp
  obtain ⟨r00, r01⟩ := r0
  obtain ⟨r20, r21⟩ := r2
  obtain ⟨r40, r41⟩ := r4
  obtain ⟨r60, r61⟩ := r6
  clear HT h hs hd bs bd hsp hdp hq4 hq6
  have q6b : (q6 == 0) = true := by simp; omega
  have q4b : (q4 != (len : Int)) = false := by simp; omega
  clear c4 c6
  go_enter Try.func19, Try.ntmps19
  go_wp2_with fail
  refine (A4.out _ B0.out).mono ?_
  rintro e W ⟨rfl, rfl⟩
  go_wp2_with fail
  refine (A0.out _ B0.out).mono ?_
  rintro e W ⟨rfl, rfl⟩
  go_wp2_with fail
  refine (A2.out _ B0.out).mono ?_
  rintro e W ⟨rfl, rfl⟩
  go_wp2_with fail
  refine (A6.out _ (B0.out.alloc B0.out.size (Obj.cells #[.int .u16 sp, .int .u16 dp, .bool false] 34))).mono ?_
  rintro e W ⟨rfl, rfl⟩
  go_wp2_with fail
  refine bodyPost_ret (v := .tuple #[.agg #[.int .u16 0, .int .u16 0, .bool false], .slice none 0 0, .int .i64 6]) (by simp [results, Try.results19, go_sem]) rfl ⟨rfl, ?_⟩
  first | exact B0.out | (repeat' (first | with_reducible exact B0.out | with_reducible refine Below.setCell ?_ ?_ _ | with_reducible refine Below.alloc ?_ ?_ _)
                          all_goals (first | (simp; done) | (simp; omega) | omega))

set_option maxRecDepth 1000000 in
set_option maxHeartbeats 4000000 in
theorem rudp_ok_none {w : World} {b off len cap : Nat} {zs : List Int} (ss ds : List Int) (h : Row8 w (some ⟨b, off, none⟩) len cap zs) (h8 : 8 ≤ len) (hl : len ≤ 1099511627776) (hs : ss.length = 16) (hd : ds.length = 16) (bs : ∀ x ∈ ss, 0 ≤ x ∧ x ≤ 255) (bd : ∀ x ∈ ds, 0 ≤ x ∧ x ≤ 255) (c6 : w16 zs 6 = 0) (c4 : w16 zs 4 = len) :
    Calls Try.prog 19 #[.bool false, .agg (ar ss), .agg (ar ds), .slice (some ⟨b, off, none⟩) len cap] w (okUDP true len zs w) := by
  have HT := heap_four w (Obj.cells (ar ss) 22) (Obj.cells (ar ds) 22) (Obj.cells #[.int .u16 0, .int .u16 0, .bool false] 34) (Obj.cells #[.int .u16 0, .int .u16 0, .bool false] 34)
  have X := Lib.hid HT.1
  have Y := Lib.hid HT.2.1
  have Z := Lib.hid HT.2.2.1
  have N := Lib.hid HT.2.2.2
  have B0 := Lib.hid (below_four w (Obj.cells (ar ss) 22) (Obj.cells (ar ds) 22) (Obj.cells #[.int .u16 0, .int .u16 0, .bool false] 34) (Obj.cells #[.int .u16 0, .int .u16 0, .bool false] 34))
  have H := Lib.hid h
  have HS := Lib.hid hs
  have HD := Lib.hid hd
  have SEAL := Lib.hid (fun W (hb : Below w.heap.size w W) => right_any false ss ds 17 (h.below hb) hl hs hd bs bd (by omega) (by omega))
  have hcap := h.cap_le
  have hle := h.le
  have A0 := Lib.hid (fun W (hb : Below w.heap.size w W) => num2 (h.below hb) 0 (by omega))
  have A2 := Lib.hid (fun W (hb : Below w.heap.size w W) => num2 (h.below hb) 2 (by omega))
  have A4 := Lib.hid (fun W (hb : Below w.heap.size w W) => num2 (h.below hb) 4 (by omega))
  have A6 := Lib.hid (fun W (hb : Below w.heap.size w W) => num2 (h.below hb) 6 (by omega))
  have r0 := w16_range h.bytes 0
  have r2 := w16_range h.bytes 2
  have r4 := w16_range h.bytes 4
  have r6 := w16_range h.bytes 6
  obtain ⟨sp, hsp⟩ : ∃ x, w16 zs 0 = x := ⟨_, rfl⟩
  obtain ⟨dp, hdp⟩ : ∃ x, w16 zs 2 = x := ⟨_, rfl⟩
  obtain ⟨q4, hq4⟩ : ∃ x, w16 zs 4 = x := ⟨_, rfl⟩
  obtain ⟨q6, hq6⟩ : ∃ x, w16 zs 6 = x := ⟨_, rfl⟩
  rw [hsp] at A0 r0
  rw [hdp] at A2 r2
  rw [hq4] at A4 r4 c4
  rw [hq6] at A6 r6 c6
  have HSP := Lib.hid hsp
  have HDP := Lib.hid hdp
  obtain ⟨r00, r01⟩ := r0
  obtain ⟨r20, r21⟩ := r2
  obtain ⟨r40, r41⟩ := r4
  obtain ⟨r60, r61⟩ := r6
  clear HT h hs hd bs bd hsp hdp hq4 hq6
  have q6b : (q6 == 0) = true := by simp; omega
  have q4b : (q4 != (len : Int)) = false := by simp; omega
  clear c4 c6
  go_enter Try.func19, Try.ntmps19
  go_wp2_with fail
  refine (A4.out _ B0.out).mono ?_
  rintro e W ⟨rfl, rfl⟩
  go_wp2_with fail
  refine (A0.out _ B0.out).mono ?_
  rintro e W ⟨rfl, rfl⟩
  go_wp2_with fail
  refine (A2.out _ B0.out).mono ?_
  rintro e W ⟨rfl, rfl⟩
  go_wp2_with fail
  refine (A6.out _ (B0.out.alloc B0.out.size (Obj.cells #[.int .u16 sp, .int .u16 dp, .bool false] 34))).mono ?_
  rintro e W ⟨rfl, rfl⟩
  go_wp2_with fail
  obtain ⟨ub, hub⟩ : ∃ ub, w.heap.size + 1 + 1 + 1 + 1 = ub := ⟨_, rfl⟩
  have U0 : Hid ((((((w.alloc (Obj.cells (ar ss) 22)).alloc (Obj.cells (ar ds) 22)).alloc (Obj.cells #[.int .u16 0, .int .u16 0, .bool false] 34)).alloc (Obj.cells #[.int .u16 0, .int .u16 0, .bool false] 34)).alloc (Obj.cells #[.int .u16 sp, .int .u16 dp, .bool true] 34)).heap[ub]? = some (Obj.cells #[.int .u16 sp, .int .u16 dp, .bool true] 34)) := by
    have := heap_alloc_new ((((w.alloc (Obj.cells (ar ss) 22)).alloc (Obj.cells (ar ds) 22)).alloc (Obj.cells #[.int .u16 0, .int .u16 0, .bool false] 34)).alloc (Obj.cells #[.int .u16 0, .int .u16 0, .bool false] 34)) (Obj.cells #[.int .u16 sp, .int .u16 dp, .bool true] 34)
    simp only [World.size_alloc] at this
    rw [← hub]; exact this
  have Z0 := Lib.hid (hold_alloc (o' := (Obj.cells #[.int .u16 sp, .int .u16 dp, .bool true] 34)) Z.out)
  have X0 := Lib.hid (hold_alloc (o' := (Obj.cells #[.int .u16 sp, .int .u16 dp, .bool true] 34)) X.out)
  have Y0 := Lib.hid (hold_alloc (o' := (Obj.cells #[.int .u16 sp, .int .u16 dp, .bool true] 34)) Y.out)
  have B5 : Hid (Below w.heap.size w (((((w.alloc (Obj.cells (ar ss) 22)).alloc (Obj.cells (ar ds) 22)).alloc (Obj.cells #[.int .u16 0, .int .u16 0, .bool false] 34)).alloc (Obj.cells #[.int .u16 0, .int .u16 0, .bool false] 34)).alloc (Obj.cells #[.int .u16 sp, .int .u16 dp, .bool true] 34))) := B0.out.alloc B0.out.size _
  rw [hub]
  clear X Y Z N B0 hub
  obtain ⟨U, Z, X, Y⟩ := And.intro U0 (And.intro Z0 (And.intro X0 Y0))
  clear U0 Z0 X0 Y0
  generalize ((((w.alloc (Obj.cells (ar ss) 22)).alloc (Obj.cells (ar ds) 22)).alloc (Obj.cells #[.int .u16 0, .int .u16 0, .bool false] 34)).alloc (Obj.cells #[.int .u16 0, .int .u16 0, .bool false] 34)).alloc (Obj.cells #[.int .u16 sp, .int .u16 dp, .bool true] 34) = w5 at *
  obtain ⟨ad8, had⟩ : ∃ ad, (if cap = 8 then some ⟨b, off, none⟩ else some ⟨b, off + 8, none⟩ : Option Addr) = some ad := by split <;> exact ⟨_, rfl⟩
  have HAD := Lib.hid had
  clear had
  have SL : Hid (∀ W, Below w5.heap.size w5 W → Row8 W (some ad8) (len - 8) (cap - 8) (zs.drop 8)) := fun W hW => by rw [← HAD.out]; exact ((H.out.below B5.out).below hW).tail h8
  have i8 : (8 : Int) ≤ (len : Int) := by omega
  refine region_tails_lit 5 [[(12, none)], [], [(3, none)], [(47, some 2)], [(46, some 1), (48, some 3)]]
    [Is (.agg #[.int .u16 sp, .int .u16 dp, .bool true]), Empty8 w5.heap.size, Is (.slice (some ⟨b, off, none⟩) len cap), Is (.slice (some ad8) (len - 8) (cap - 8)), Fresh8 w5.heap.size (len - 8) (zs.drop 8)]
    (by kernel_rfl) (List.cons_ne_nil _ _) (by kernel_rfl) (by kernel_rfl) rfl ⟨stab_is _, stab_empty _, stab_is _, stab_is _, stab_fresh _ _ _, trivial⟩ ?_ ?_
  · refine ⟨step_plain rfl ?_, step_plain rfl ?_, step_plain rfl ?_, step_plain rfl ?_, step_plain rfl ?_, trivial⟩
    · rintro a W hW ⟨h12, _⟩
      replace h12 : a.tmps[12]? = some (.pointer (some ⟨ub, 0, none⟩)) := h12
      have u0 := cell_of (v := .int .u16 sp) 0 (kept hW U.out) rfl
      have u1 := cell_of (v := .int .u16 dp) 1 (kept hW U.out) rfl
      have u2 := cell_of (v := .bool true) 2 (kept hW U.out) rfl
      simp only [execOp]
      go_simp
      exact step_val
    · rintro a W hW _
      simp only [execOp]
      go_simp
      exact step_empty hW.size
    · rintro a W hW ⟨h3, _⟩
      replace h3 : a.tmps[3]? = some (.slice (some ⟨b, off, none⟩) len cap) := h3
      simp only [execOp]
      go_simp
      exact step_val
    · rintro a W hW ⟨⟨v47, h47, rfl⟩, _⟩
      simp only [execOp]
      go_simp
      rw [HAD.out]
      exact step_val
    · rintro a W hW ⟨⟨v46, h46, k46⟩, ⟨v48, h48, rfl⟩, _⟩
      obtain ⟨g46, rfl, hg46, hh46⟩ := k46
      exact step_copy8 _ _ rfl (getD_of_get h46) (getD_of_get h48) hg46 hh46 (SL.out W hW) (by omega)
  · intro W hW
    simp only [List.take_succ_cons, List.take_zero, List.drop_succ_cons, List.drop_zero]
    with_reducible refine grow_is ?_
    with_reducible refine grow_any ?_
    intro v46 k46
    with_reducible refine grow_is ?_
    with_reducible refine grow_is ?_
    with_reducible refine grow_any ?_
    intro v49 k49
    with_reducible refine grow_end ?_
    obtain ⟨a', c', rfl, ho⟩ := k49
    obtain ⟨g46, rfl, _, _⟩ := k46
    have BW := Lib.hid (B5.out.trans (hW.mono B5.out.size))
    have ZW := Lib.hid (kept hW Z.out)
    have ZB := lt_of_heap Z.out
    have OW := Lib.hid ho
    have z0 := cell_of (v := .int .u16 0) 0 ZW.out rfl
    have z1 := cell_of (v := .int .u16 0) 1 ZW.out rfl
    have z2 := cell_of (v := .bool false) 2 ZW.out rfl
    have zf0 := free_of 0 ZW.out
    have zf1 := free_of 1 ZW.out
    have zf2 := free_of 2 ZW.out
    clear hW ho Z
    go_wp2_with fail
    refine bodyPost_ret (v := .tuple #[.agg #[.int .u16 sp, .int .u16 dp, .bool true], .slice a' (len - 8) c', .int .i64 0]) (by simp [results, Try.results19, go_sem, z0, z1, z2]) rfl ⟨a', c', by rw [HSP.out, HDP.out], ?_, ?_⟩
    · exact (((OW.out.other ZB).other ZB).other ZB).mono B5.out.size
    · repeat' (first | with_reducible exact BW.out | with_reducible refine Below.setCell ?_ ?_ _ | with_reducible refine Below.alloc ?_ ?_ _)
      all_goals (first | (simp; done) | (simp; omega) | omega)

set_option maxRecDepth 1000000 in
set_option maxHeartbeats 4000000 in
theorem rudp_sum {w : World} {b off len cap : Nat} {zs : List Int} (v6 : Bool) (ss ds : List Int) (h : Row8 w (some ⟨b, off, none⟩) len cap zs) (h8 : 8 ≤ len) (hl : len ≤ 1099511627776) (hs : ss.length = 16) (hd : ds.length = 16) (bs : ∀ x ∈ ss, 0 ≤ x ∧ x ≤ 255) (bd : ∀ x ∈ ds, 0 ≤ x ∧ x ≤ 255) (c6 : w16 zs 6 ≠ 0) (c4 : w16 zs 4 = len) (cs : ck v6 ss ds 17 zs ≠ 0) :
    Calls Try.prog 19 #[.bool v6, .agg (ar ss), .agg (ar ds), .slice (some ⟨b, off, none⟩) len cap] w (noUDP 6 w) := by
  have HT := heap_four w (Obj.cells (ar ss) 22) (Obj.cells (ar ds) 22) (Obj.cells #[.int .u16 0, .int .u16 0, .bool false] 34) (Obj.cells #[.int .u16 0, .int .u16 0, .bool false] 34)
  have X := Lib.hid HT.1
  have Y := Lib.hid HT.2.1
  have Z := Lib.hid HT.2.2.1
  have N := Lib.hid HT.2.2.2
  have B0 := Lib.hid (below_four w (Obj.cells (ar ss) 22) (Obj.cells (ar ds) 22) (Obj.cells #[.int .u16 0, .int .u16 0, .bool false] 34) (Obj.cells #[.int .u16 0, .int .u16 0, .bool false] 34))
  have H := Lib.hid h
  have HS := Lib.hid hs
  have HD := Lib.hid hd
  have SEAL := Lib.hid (fun W (hb : Below w.heap.size w W) => right_any v6 ss ds 17 (h.below hb) hl hs hd bs bd (by omega) (by omega))
  have hcap := h.cap_le
  have hle := h.le
  have A0 := Lib.hid (fun W (hb : Below w.heap.size w W) => num2 (h.below hb) 0 (by omega))
  have A2 := Lib.hid (fun W (hb : Below w.heap.size w W) => num2 (h.below hb) 2 (by omega))
  have A4 := Lib.hid (fun W (hb : Below w.heap.size w W) => num2 (h.below hb) 4 (by omega))
  have A6 := Lib.hid (fun W (hb : Below w.heap.size w W) => num2 (h.below hb) 6 (by omega))
  have r0 := w16_range h.bytes 0
  have r2 := w16_range h.bytes 2
  have r4 := w16_range h.bytes 4
  have r6 := w16_range h.bytes 6
  obtain ⟨sp, hsp⟩ : ∃ x, w16 zs 0 = x := ⟨_, rfl⟩
  obtain ⟨dp, hdp⟩ : ∃ x, w16 zs 2 = x := ⟨_, rfl⟩
  obtain ⟨q4, hq4⟩ : ∃ x, w16 zs 4 = x := ⟨_, rfl⟩
  obtain ⟨q6, hq6⟩ : ∃ x, w16 zs 6 = x := ⟨_, rfl⟩
  rw [hsp] at A0 r0
  rw [hdp] at A2 r2
  rw [hq4] at A4 r4 c4
  rw [hq6] at A6 r6 c6
  have HSP := Lib.hid hsp
  have HDP := Lib.hid hdp
  obtain ⟨r00, r01⟩ := r0
  obtain ⟨r20, r21⟩ := r2
  obtain ⟨r40, r41⟩ := r4
  obtain ⟨r60, r61⟩ := r6
  clear HT h hs hd bs bd hsp hdp hq4 hq6
  have q6b : (q6 == 0) = false := by simp; omega
  have q4b : (q4 != (len : Int)) = false := by simp; omega
  obtain ⟨ck0, hck⟩ : ∃ x, ck v6 ss ds 17 zs = x := ⟨_, rfl⟩
  rw [hck] at SEAL cs
  have csb : (ck0 != 0) = true := by simp; omega
  clear c4 c6 cs hck
  go_enter Try.func19, Try.ntmps19
  go_wp2_with fail
  refine (A4.out _ B0.out).mono ?_
  rintro e W ⟨rfl, rfl⟩
  go_wp2_with fail
  refine (A0.out _ B0.out).mono ?_
  rintro e W ⟨rfl, rfl⟩
  go_wp2_with fail
  refine (A2.out _ B0.out).mono ?_
  rintro e W ⟨rfl, rfl⟩
  go_wp2_with fail
  refine (A6.out _ (B0.out.alloc B0.out.size (Obj.cells #[.int .u16 sp, .int .u16 dp, .bool false] 34))).mono ?_
  rintro e W ⟨rfl, rfl⟩
  go_upto_region 11 with (fail)
  obtain ⟨ub, hub⟩ : ∃ ub, w.heap.size + 1 + 1 + 1 + 1 = ub := ⟨_, rfl⟩
  have U0 : Hid ((((((w.alloc (Obj.cells (ar ss) 22)).alloc (Obj.cells (ar ds) 22)).alloc (Obj.cells #[.int .u16 0, .int .u16 0, .bool false] 34)).alloc (Obj.cells #[.int .u16 0, .int .u16 0, .bool false] 34)).alloc (Obj.cells #[.int .u16 sp, .int .u16 dp, .bool false] 34)).heap[ub]? = some (Obj.cells #[.int .u16 sp, .int .u16 dp, .bool false] 34)) := by
    have := heap_alloc_new ((((w.alloc (Obj.cells (ar ss) 22)).alloc (Obj.cells (ar ds) 22)).alloc (Obj.cells #[.int .u16 0, .int .u16 0, .bool false] 34)).alloc (Obj.cells #[.int .u16 0, .int .u16 0, .bool false] 34)) (Obj.cells #[.int .u16 sp, .int .u16 dp, .bool false] 34)
    simp only [World.size_alloc] at this
    rw [← hub]; exact this
  have Z0 := Lib.hid (hold_alloc (o' := (Obj.cells #[.int .u16 sp, .int .u16 dp, .bool false] 34)) Z.out)
  have X0 := Lib.hid (hold_alloc (o' := (Obj.cells #[.int .u16 sp, .int .u16 dp, .bool false] 34)) X.out)
  have N0 := Lib.hid (hold_alloc (o' := (Obj.cells #[.int .u16 sp, .int .u16 dp, .bool false] 34)) N.out)
  have Y0 := Lib.hid (hold_alloc (o' := (Obj.cells #[.int .u16 sp, .int .u16 dp, .bool false] 34)) Y.out)
  have B5 : Hid (Below w.heap.size w (((((w.alloc (Obj.cells (ar ss) 22)).alloc (Obj.cells (ar ds) 22)).alloc (Obj.cells #[.int .u16 0, .int .u16 0, .bool false] 34)).alloc (Obj.cells #[.int .u16 0, .int .u16 0, .bool false] 34)).alloc (Obj.cells #[.int .u16 sp, .int .u16 dp, .bool false] 34))) := B0.out.alloc B0.out.size _
  rw [hub]
  clear X Y Z N B0 hub
  obtain ⟨U, Z, X, Y, N⟩ := And.intro U0 (And.intro Z0 (And.intro X0 (And.intro Y0 N0)))
  clear U0 Z0 X0 Y0 N0
  generalize ((((w.alloc (Obj.cells (ar ss) 22)).alloc (Obj.cells (ar ds) 22)).alloc (Obj.cells #[.int .u16 0, .int .u16 0, .bool false] 34)).alloc (Obj.cells #[.int .u16 0, .int .u16 0, .bool false] 34)).alloc (Obj.cells #[.int .u16 sp, .int .u16 dp, .bool false] 34) = w5 at *
  go_wp2_with (first | (refine arms_load2 (by rfl) _ rfl rfl X.out HS.out ?_) | (refine arms_load2 (by rfl) _ rfl rfl Y.out HD.out ?_))
  refine (SEAL.out _ B5.out).mono ?_
  rintro e w6 ⟨rfl, hb⟩
  have B6 := Lib.hid (B5.out.trans (hb.mono B5.out.size))
  have Z' := Lib.hid (kept hb Z.out)
  have U' := Lib.hid (kept hb U.out)
  have N' := Lib.hid (kept hb N.out)
  clear Z U N
  have Z := Z'
  clear Z'
  have U := U'
  clear U'
  have N := N'
  clear N'
  clear hb B5 X Y
  have n0 := cell_of (v := .int .u16 0) 0 N.out rfl
  have n1 := cell_of (v := .int .u16 0) 1 N.out rfl
  have n2 := cell_of (v := .bool false) 2 N.out rfl
  have z0 := cell_of (v := .int .u16 0) 0 Z.out rfl
  have z1 := cell_of (v := .int .u16 0) 1 Z.out rfl
  have z2 := cell_of (v := .bool false) 2 Z.out rfl
  have zf0 := free_of 0 Z.out
  have zf1 := free_of 1 Z.out
  have zf2 := free_of 2 Z.out
  go_wp2_with fail
  refine bodyPost_ret (v := .tuple #[.agg #[.int .u16 0, .int .u16 0, .bool false], .slice none 0 0, .int .i64 6]) (by simp [results, Try.results19, go_sem, z0, z1, z2]) rfl ⟨rfl, ?_⟩
  first | exact B6.out | (repeat' (first | with_reducible exact B6.out | with_reducible refine Below.setCell ?_ ?_ _ | with_reducible refine Below.alloc ?_ ?_ _)
                          all_goals (first | (simp; done) | (simp; omega) | omega))

set_option maxRecDepth 1000000 in
set_option maxHeartbeats 4000000 in
theorem rudp_ok_sum {w : World} {b off len cap : Nat} {zs : List Int} (v6 : Bool) (ss ds : List Int) (h : Row8 w (some ⟨b, off, none⟩) len cap zs) (h8 : 8 ≤ len) (hl : len ≤ 1099511627776) (hs : ss.length = 16) (hd : ds.length = 16) (bs : ∀ x ∈ ss, 0 ≤ x ∧ x ≤ 255) (bd : ∀ x ∈ ds, 0 ≤ x ∧ x ≤ 255) (c6 : w16 zs 6 ≠ 0) (c4 : w16 zs 4 = len) (cs : ck v6 ss ds 17 zs = 0) :
    Calls Try.prog 19 #[.bool v6, .agg (ar ss), .agg (ar ds), .slice (some ⟨b, off, none⟩) len cap] w (okUDP false len zs w) := by
  have HT := heap_four w (Obj.cells (ar ss) 22) (Obj.cells (ar ds) 22) (Obj.cells #[.int .u16 0, .int .u16 0, .bool false] 34) (Obj.cells #[.int .u16 0, .int .u16 0, .bool false] 34)
  have X := Lib.hid HT.1
  have Y := Lib.hid HT.2.1
  have Z := Lib.hid HT.2.2.1
  have N := Lib.hid HT.2.2.2
  have B0 := Lib.hid (below_four w (Obj.cells (ar ss) 22) (Obj.cells (ar ds) 22) (Obj.cells #[.int .u16 0, .int .u16 0, .bool false] 34) (Obj.cells #[.int .u16 0, .int .u16 0, .bool false] 34))
  have H := Lib.hid h
  have HS := Lib.hid hs
  have HD := Lib.hid hd
  have SEAL := Lib.hid (fun W (hb : Below w.heap.size w W) => right_any v6 ss ds 17 (h.below hb) hl hs hd bs bd (by omega) (by omega))
  have hcap := h.cap_le
  have hle := h.le
  have A0 := Lib.hid (fun W (hb : Below w.heap.size w W) => num2 (h.below hb) 0 (by omega))
  have A2 := Lib.hid (fun W (hb : Below w.heap.size w W) => num2 (h.below hb) 2 (by omega))
  have A4 := Lib.hid (fun W (hb : Below w.heap.size w W) => num2 (h.below hb) 4 (by omega))
  have A6 := Lib.hid (fun W (hb : Below w.heap.size w W) => num2 (h.below hb) 6 (by omega))
  have r0 := w16_range h.bytes 0
  have r2 := w16_range h.bytes 2
  have r4 := w16_range h.bytes 4
  have r6 := w16_range h.bytes 6
  obtain ⟨sp, hsp⟩ : ∃ x, w16 zs 0 = x := ⟨_, rfl⟩
  obtain ⟨dp, hdp⟩ : ∃ x, w16 zs 2 = x := ⟨_, rfl⟩
  obtain ⟨q4, hq4⟩ : ∃ x, w16 zs 4 = x := ⟨_, rfl⟩
  obtain ⟨q6, hq6⟩ : ∃ x, w16 zs 6 = x := ⟨_, rfl⟩
  rw [hsp] at A0 r0
  rw [hdp] at A2 r2
  rw [hq4] at A4 r4 c4
  rw [hq6] at A6 r6 c6
  have HSP := Lib.hid hsp
  have HDP := Lib.hid hdp
  obtain ⟨r00, r01⟩ := r0
  obtain ⟨r20, r21⟩ := r2
  obtain ⟨r40, r41⟩ := r4
  obtain ⟨r60, r61⟩ := r6
  clear HT h hs hd bs bd hsp hdp hq4 hq6
  have q6b : (q6 == 0) = false := by simp; omega
  have q4b : (q4 != (len : Int)) = false := by simp; omega
  obtain ⟨ck0, hck⟩ : ∃ x, ck v6 ss ds 17 zs = x := ⟨_, rfl⟩
  rw [hck] at SEAL cs
  have csb : (ck0 != 0) = false := by simp; omega
  clear c4 c6 cs hck
  go_enter Try.func19, Try.ntmps19
  go_wp2_with fail
  refine (A4.out _ B0.out).mono ?_
  rintro e W ⟨rfl, rfl⟩
  go_wp2_with fail
  refine (A0.out _ B0.out).mono ?_
  rintro e W ⟨rfl, rfl⟩
  go_wp2_with fail
  refine (A2.out _ B0.out).mono ?_
  rintro e W ⟨rfl, rfl⟩
  go_wp2_with fail
  refine (A6.out _ (B0.out.alloc B0.out.size (Obj.cells #[.int .u16 sp, .int .u16 dp, .bool false] 34))).mono ?_
  rintro e W ⟨rfl, rfl⟩
  go_upto_region 11 with (fail)
  obtain ⟨ub, hub⟩ : ∃ ub, w.heap.size + 1 + 1 + 1 + 1 = ub := ⟨_, rfl⟩
  have U0 : Hid ((((((w.alloc (Obj.cells (ar ss) 22)).alloc (Obj.cells (ar ds) 22)).alloc (Obj.cells #[.int .u16 0, .int .u16 0, .bool false] 34)).alloc (Obj.cells #[.int .u16 0, .int .u16 0, .bool false] 34)).alloc (Obj.cells #[.int .u16 sp, .int .u16 dp, .bool false] 34)).heap[ub]? = some (Obj.cells #[.int .u16 sp, .int .u16 dp, .bool false] 34)) := by
    have := heap_alloc_new ((((w.alloc (Obj.cells (ar ss) 22)).alloc (Obj.cells (ar ds) 22)).alloc (Obj.cells #[.int .u16 0, .int .u16 0, .bool false] 34)).alloc (Obj.cells #[.int .u16 0, .int .u16 0, .bool false] 34)) (Obj.cells #[.int .u16 sp, .int .u16 dp, .bool false] 34)
    simp only [World.size_alloc] at this
    rw [← hub]; exact this
  have Z0 := Lib.hid (hold_alloc (o' := (Obj.cells #[.int .u16 sp, .int .u16 dp, .bool false] 34)) Z.out)
  have X0 := Lib.hid (hold_alloc (o' := (Obj.cells #[.int .u16 sp, .int .u16 dp, .bool false] 34)) X.out)
  have N0 := Lib.hid (hold_alloc (o' := (Obj.cells #[.int .u16 sp, .int .u16 dp, .bool false] 34)) N.out)
  have Y0 := Lib.hid (hold_alloc (o' := (Obj.cells #[.int .u16 sp, .int .u16 dp, .bool false] 34)) Y.out)
  have B5 : Hid (Below w.heap.size w (((((w.alloc (Obj.cells (ar ss) 22)).alloc (Obj.cells (ar ds) 22)).alloc (Obj.cells #[.int .u16 0, .int .u16 0, .bool false] 34)).alloc (Obj.cells #[.int .u16 0, .int .u16 0, .bool false] 34)).alloc (Obj.cells #[.int .u16 sp, .int .u16 dp, .bool false] 34))) := B0.out.alloc B0.out.size _
  rw [hub]
  clear X Y Z N B0 hub
  obtain ⟨U, Z, X, Y, N⟩ := And.intro U0 (And.intro Z0 (And.intro X0 (And.intro Y0 N0)))
  clear U0 Z0 X0 Y0 N0
  generalize ((((w.alloc (Obj.cells (ar ss) 22)).alloc (Obj.cells (ar ds) 22)).alloc (Obj.cells #[.int .u16 0, .int .u16 0, .bool false] 34)).alloc (Obj.cells #[.int .u16 0, .int .u16 0, .bool false] 34)).alloc (Obj.cells #[.int .u16 sp, .int .u16 dp, .bool false] 34) = w5 at *
  go_wp2_with (first | (refine arms_load2 (by rfl) _ rfl rfl X.out HS.out ?_) | (refine arms_load2 (by rfl) _ rfl rfl Y.out HD.out ?_))
  refine (SEAL.out _ B5.out).mono ?_
  rintro e w6 ⟨rfl, hb⟩
  have B6 := Lib.hid (B5.out.trans (hb.mono B5.out.size))
  have Z' := Lib.hid (kept hb Z.out)
  have U' := Lib.hid (kept hb U.out)
  have N' := Lib.hid (kept hb N.out)
  clear Z U N
  have Z := Z'
  clear Z'
  have U := U'
  clear U'
  have N := N'
  clear N'
  clear hb B5 X Y
  go_wp2_with fail
  obtain ⟨ad8, had⟩ : ∃ ad, (if cap = 8 then some ⟨b, off, none⟩ else some ⟨b, off + 8, none⟩ : Option Addr) = some ad := by split <;> exact ⟨_, rfl⟩
  have HAD := Lib.hid had
  clear had
  have SL : Hid (∀ W, Below w6.heap.size w6 W → Row8 W (some ad8) (len - 8) (cap - 8) (zs.drop 8)) := fun W hW => by rw [← HAD.out]; exact ((H.out.below B6.out).below hW).tail h8
  have i8 : (8 : Int) ≤ (len : Int) := by omega
  refine region_tails_lit 5 [[(12, none)], [], [(3, none)], [(47, some 2)], [(46, some 1), (48, some 3)]]
    [Is (.agg #[.int .u16 sp, .int .u16 dp, .bool false]), Empty8 w6.heap.size, Is (.slice (some ⟨b, off, none⟩) len cap), Is (.slice (some ad8) (len - 8) (cap - 8)), Fresh8 w6.heap.size (len - 8) (zs.drop 8)]
    (by kernel_rfl) (List.cons_ne_nil _ _) (by kernel_rfl) (by kernel_rfl) rfl ⟨stab_is _, stab_empty _, stab_is _, stab_is _, stab_fresh _ _ _, trivial⟩ ?_ ?_
  · refine ⟨step_plain rfl ?_, step_plain rfl ?_, step_plain rfl ?_, step_plain rfl ?_, step_plain rfl ?_, trivial⟩
    · rintro a W hW ⟨h12, _⟩
      replace h12 : a.tmps[12]? = some (.pointer (some ⟨ub, 0, none⟩)) := h12
      have u0 := cell_of (v := .int .u16 sp) 0 (kept hW U.out) rfl
      have u1 := cell_of (v := .int .u16 dp) 1 (kept hW U.out) rfl
      have u2 := cell_of (v := .bool false) 2 (kept hW U.out) rfl
      simp only [execOp]
      go_simp
      exact step_val
    · rintro a W hW _
      simp only [execOp]
      go_simp
      exact step_empty hW.size
    · rintro a W hW ⟨h3, _⟩
      replace h3 : a.tmps[3]? = some (.slice (some ⟨b, off, none⟩) len cap) := h3
      simp only [execOp]
      go_simp
      exact step_val
    · rintro a W hW ⟨⟨v47, h47, rfl⟩, _⟩
      simp only [execOp]
      go_simp
      rw [HAD.out]
      exact step_val
    · rintro a W hW ⟨⟨v46, h46, k46⟩, ⟨v48, h48, rfl⟩, _⟩
      obtain ⟨g46, rfl, hg46, hh46⟩ := k46
      exact step_copy8 _ _ rfl (getD_of_get h46) (getD_of_get h48) hg46 hh46 (SL.out W hW) (by omega)
  · intro W hW
    simp only [List.take_succ_cons, List.take_zero, List.drop_succ_cons, List.drop_zero]
    with_reducible refine grow_is ?_
    with_reducible refine grow_any ?_
    intro v46 k46
    with_reducible refine grow_is ?_
    with_reducible refine grow_is ?_
    with_reducible refine grow_any ?_
    intro v49 k49
    with_reducible refine grow_end ?_
    obtain ⟨a', c', rfl, ho⟩ := k49
    obtain ⟨g46, rfl, _, _⟩ := k46
    have BW := Lib.hid (B6.out.trans (hW.mono B6.out.size))
    have ZW := Lib.hid (kept hW Z.out)
    have ZB := lt_of_heap Z.out
    have OW := Lib.hid ho
    have z0 := cell_of (v := .int .u16 0) 0 ZW.out rfl
    have z1 := cell_of (v := .int .u16 0) 1 ZW.out rfl
    have z2 := cell_of (v := .bool false) 2 ZW.out rfl
    have zf0 := free_of 0 ZW.out
    have zf1 := free_of 1 ZW.out
    have zf2 := free_of 2 ZW.out
    clear hW ho Z
    go_wp2_with fail
    refine bodyPost_ret (v := .tuple #[.agg #[.int .u16 sp, .int .u16 dp, .bool false], .slice a' (len - 8) c', .int .i64 0]) (by simp [results, Try.results19, go_sem, z0, z1, z2]) rfl ⟨a', c', by rw [HSP.out, HDP.out], ?_, ?_⟩
    · exact (((OW.out.other ZB).other ZB).other ZB).mono B6.out.size
    · repeat' (first | with_reducible exact BW.out | with_reducible refine Below.setCell ?_ ?_ _ | with_reducible refine Below.alloc ?_ ?_ _)
      all_goals (first | (simp; done) | (simp; omega) | omega)

end Go.Proofs.Ytcbjjkpjbdcakaa
