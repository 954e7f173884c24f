/- The walk of the law BucketPlays. -/
import Derived.Test.YtamjhaomdfeemaaBr
import Derived.Test.YtamjhaomdfeemaaRd
import Derived.Deep.RegionHeld3
import Derived.Deep.RegionWith
import Derived.Deep.DeepCutAuto
import Derived.Deep.CutBlock
namespace Go.Proofs.Ytamjhaomdfeemaa
open Go.RowKit Go.Wb
set_option linter.unusedVariables false

/-- Calls that came in: each of a kind, a number of ticks, two numbers. -/
structure OpsIn (w : World) (a : Option Addr) (len : Nat) : Prop where
  le : len ≤ 9223372036854775807
  cells : ∀ i, i < len → ∃ b off K M n m, a = some ⟨b, off, none⟩ ∧ b < w.heap.size ∧ w.cell? ⟨b, off + i * 4, none⟩ = some (.int .i64 K) ∧ w.cell? ⟨b, off + i * 4 + 1, none⟩ = some (.int .u64 M) ∧
    w.cell? ⟨b, off + i * 4 + 2, none⟩ = some (.int .u32 n) ∧ w.cell? ⟨b, off + i * 4 + 3, none⟩ = some (.int .u32 m) ∧ 0 ≤ M ∧ M ≤ 18446744073709551615 ∧ 0 ≤ n ∧ n ≤ 4294967295 ∧ 0 ≤ m ∧ m ≤ 4294967295

/-- Two buckets that are one: the program's in block B, the reference's in block R. -/
structure Twin (w0 : World) (B R : Nat) (r u t : Int) (w : World) : Prop where
  below : Below w0.heap.size w0 w
  hB : w.heap[B]? = some (Bk r u t)
  hR : w.heap[R]? = some (Rk r u t)
  ne : B ≠ R
  B0 : w0.heap.size ≤ B
  R0 : w0.heap.size ≤ R
  may : may r u = true
  t0 : 0 ≤ t
  t1 : t ≤ u

/-- What a call leaves: two buckets that are one, the answers alike, the call itself still there. -/
def PlayCut (w0 : World) (O : Nat) (K M n m : Int) (p q ok : Value) (w : World) : Prop :=
  ∃ B R r u t, p = .pointer (some ⟨B, 0, none⟩) ∧ q = .pointer (some ⟨R, 0, none⟩) ∧ ok = .bool true ∧ Twin w0 B R r u t w ∧ w.heap[O]? = some (.cells #[.int .i64 K, .int .u64 M, .int .u32 n, .int .u32 m] 88 (0, 0)) ∧ B ≠ O ∧ R ≠ O

theorem But.of_drew {b : Nat} {x y : World} (h : But b x.drew y) : But b x y := ⟨h.os, h.tape, h.output, h.size, h.block⟩

/-- Both have been changed alike. -/
theorem Twin.step {w0 w w1 w2 : World} {B R : Nat} {r u t r' u' t' : Int} (T : Twin w0 B R r u t w) (k1 : But B w w1) (h1 : w1.heap[B]? = some (Bk r' u' t')) (k2 : But R w1 w2) (h2 : w2.heap[R]? = some (Rk r' u' t')) (hm : Go.Proofs.Ytamjhaomdfeemaa.may r' u' = true) (t0 : 0 ≤ t') (t1 : t' ≤ u') : Twin w0 B R r' u' t' w2 :=
  ⟨below_but (below_but T.below k1 T.B0 T.below.size) k2 T.R0 (below_but T.below k1 T.B0 T.below.size).size, k2.at h1 T.ne, h2, T.ne, T.B0, T.R0, hm, t0, t1⟩

theorem set_yes (b : Nat) (r u t n m : Int) (w : World) (hb : w.heap[b]? = some (Bk r u t)) (hr : (r == 0) = false) (hm : may n m = true) :
    Calls Try.prog 60 #[.pointer (some ⟨b, 0, none⟩), .int .u32 n, .int .u32 m] w fun e w' => e = .returned (.int .i64 0) ∧ But b w w' ∧ w'.heap[b]? = some (Bk n m (min t m)) :=
  (set_at b r u t n m w hb hr).mono fun e w' h => by simpa [hm] using h
theorem set_no (b : Nat) (r u t n m : Int) (w : World) (hb : w.heap[b]? = some (Bk r u t)) (hr : (r == 0) = false) (hm : may n m = false) :
    Calls Try.prog 60 #[.pointer (some ⟨b, 0, none⟩), .int .u32 n, .int .u32 m] w fun e w' => e = .returned (.int .i64 2) ∧ But b w w' ∧ w'.heap[b]? = some (Bk r u t) :=
  (set_at b r u t n m w hb hr).mono fun e w' h => by simpa [hm] using h

set_option maxRecDepth 100000 in
set_option maxHeartbeats 8000000 in
theorem plays_loop (r u : Int) (a : Option Addr) (len cap : Nat) (w : World) (hm : may r u = true) (r0 : 0 ≤ r) (r1 : r ≤ 4294967295) (u0 : 0 ≤ u) (u1 : u ≤ 4294967295) (hl : len ≤ 100) (h : OpsIn w a len) :
    Calls Try.prog 13 #[.int .u32 r, .int .u32 u, .slice a len cap] w fun e w' => e = .returned (.bool true) ∧ Below w.heap.size w w' := by
  have H := Lib.hid h
  have hmi := may_iff hm
  have HM := Lib.hid hm
  clear h hm
  have MAY := Lib.hid (rmay_any r u (w.alloc (Bk r u u)) r0)
  rw [HM.out] at MAY
  go_enter Try.func13, Try.ntmps13
  go_wp2_with fail
  refine (new_yes r u _ HM.out).mono ?_
  rintro e w1 ⟨rfl, rfl⟩
  go_wp2_with fail
  refine (MAY.out).mono ?_
  rintro e w1 ⟨rfl, rfl⟩
  go_wp2_with fail
  refine (rnew_any r u _ r0 r1 u0 u1).mono ?_
  rintro e w1 ⟨rfl, rfl⟩
  go_wp2_with fail
  have T : Hid (Twin w w.heap.size (w.heap.size + 1) r u u ((w.alloc (Bk r u u)).alloc (Rk r u u))) := ⟨((Below.refl w.heap.size w).alloc (Nat.le_refl _) _).alloc (by simp) _, hold_alloc (heap_alloc_new w _), by have := heap_alloc_new (w.alloc (Bk r u u)) (Rk r u u); rwa [World.size_alloc] at this, by omega, Nat.le_refl _, by omega, HM.out, u0, Int.le_refl _⟩
  generalize (w.alloc (Bk r u u)).alloc (Rk r u u) = w1 at *
  go_loopw [7, 9, 53] (fun p q i wr => ∃ (k B R : Nat) (r u t : Int), k ≤ len ∧ i = .int .i64 k ∧ p = .pointer (some ⟨B, 0, none⟩) ∧ q = .pointer (some ⟨R, 0, none⟩) ∧ Hid (Twin w B R r u t wr)) (fun _ _ i _ => len - (intOf i).toNat)
  case atStart => exact ⟨0, _, _, r, u, u, by omega, rfl, rfl, rfl, T⟩
  case round =>
    obtain ⟨k, B, R, r, u, t, hk, rfl, rfl, rfl, T⟩ := hrel
    by_cases hlt : k < len
    · obtain ⟨b, off, K, M, n, m, rfl, hbl, hcK, hcM, hcn, hcm, M0, M1, n0, n1, m0, m1⟩ := H.out.cells k hlt
      have cK : wr.cell? ⟨b, off + k * 4, none⟩ = some (.int .i64 K) := (T.out.below.cell (p := ⟨b, off + k * 4, none⟩) hbl).trans hcK
      have cM : wr.cell? ⟨b, off + k * 4 + 1, none⟩ = some (.int .u64 M) := (T.out.below.cell (p := ⟨b, off + k * 4 + 1, none⟩) hbl).trans hcM
      have cn : wr.cell? ⟨b, off + k * 4 + 2, none⟩ = some (.int .u32 n) := (T.out.below.cell (p := ⟨b, off + k * 4 + 2, none⟩) hbl).trans hcn
      have cm : wr.cell? ⟨b, off + k * 4 + 3, none⟩ = some (.int .u32 m) := (T.out.below.cell (p := ⟨b, off + k * 4 + 3, none⟩) hbl).trans hcm
      clear hcK hcM hcn hcm
      go_upto_block 2 with (fail)
      have hmi := may_iff T.out.may
      obtain ⟨i1, i2, i3⟩ := hmi
      have hr : Hid ((r == 0) = false) := by show _ = _; simp; omega
      have T1 : Hid (Twin w B R r u t (wr.alloc (Obj.cells #[.int .i64 K, .int .u64 M, .int .u32 n, .int .u32 m] 88))) := ⟨T.out.below.alloc T.out.below.size _, hold_alloc T.out.hB, hold_alloc T.out.hR, T.out.ne, T.out.B0, T.out.R0, T.out.may, T.out.t0, T.out.t1⟩
      have HO : Hid ((wr.alloc (Obj.cells #[.int .i64 K, .int .u64 M, .int .u32 n, .int .u32 m] 88)).heap[wr.heap.size]? = some (.cells #[.int .i64 K, .int .u64 M, .int .u32 n, .int .u32 m] 88 (0, 0))) := heap_alloc_new _ _
      have hBO : B ≠ wr.heap.size := by have := lt_of_heap T.out.hB; omega
      have hRO : R ≠ wr.heap.size := by have := lt_of_heap T.out.hR; omega
      generalize wr.alloc (Obj.cells #[.int .i64 K, .int .u64 M, .int .u32 n, .int .u32 m] 88) = w2 at *
      clear cK cM cn cm T
      have t0 := T1.out.t0
      have t1 := T1.out.t1
      go_cut [7, 9, 12] (fun p q ok wx => PlayCut w wr.heap.size K M n m p q ok wx)
      case first =>
        have o1 : w2.cell? ⟨wr.heap.size, 1, none⟩ = some (.int .u64 M) := cell_of 1 HO.out rfl
        have o2 : w2.cell? ⟨wr.heap.size, 2, none⟩ = some (.int .u32 n) := cell_of 2 HO.out rfl
        have o3 : w2.cell? ⟨wr.heap.size, 3, none⟩ = some (.int .u32 m) := cell_of 3 HO.out rfl
        by_cases hK1 : K = 1
        · subst hK1
          go_wp2_with fail
          refine (lapse_at B r u t M w2 T1.out.hB hr.out i1 i3 t0 t1 i2 M0 M1).mono ?_
          rintro e w3 ⟨rfl, hk3, hb3⟩
          have K3 := Lib.hid hk3
          have B3 := Lib.hid hb3
          have R3 := Lib.hid (hk3.at T1.out.hR T1.out.ne.symm)
          have O3 := Lib.hid (hk3.at HO.out (Ne.symm hBO))
          clear hk3 hb3 o1 o2 o3
          have o1 : w3.cell? ⟨wr.heap.size, 1, none⟩ = some (.int .u64 M) := cell_of 1 O3.out rfl
          go_wp2_with fail
          refine (rlapse_at R r u t M w3 R3.out i1 i3 t0 t1 i2 M0 M1).mono ?_
          rintro e w4 ⟨rfl, hk4, hb4⟩
          have FIN : Hid (PlayCut w wr.heap.size 1 M n m (.pointer (some ⟨B, 0, none⟩)) (.pointer (some ⟨R, 0, none⟩)) (.bool true) w4) := by
            have hl := lapse_le (n := M) i1 t1 t0 M0
            exact ⟨B, R, r, u, lapse r u t M, rfl, rfl, rfl, T1.out.step K3.out B3.out hk4 hb4 T1.out.may hl.1 hl.2.2, hk4.at O3.out (Ne.symm hRO), hBO, hRO⟩
          clear hk4 hb4
          go_wp2_with fail
          go_meet
          exact FIN.out
        by_cases hK2 : K = 2
        · subst hK2
          go_wp2_with fail
          go_region_held3 (fun W => W.cell? ⟨wr.heap.size, 2, none⟩ = some (.int .u32 n) ∧ W.cell? ⟨wr.heap.size, 3, none⟩ = some (.int .u32 m))
              (first | exact ⟨cell_of 2 HO.out rfl, cell_of 3 HO.out rfl⟩ | exact ⟨cell_of 2 O3.out rfl, cell_of 3 O3.out rfl⟩ | exact ⟨cell_of 2 O4.out rfl, cell_of 3 O4.out rfl⟩)
              (first
            | (go_at_call 38; refine (take_at B r u t n w2.drew T1.out.hB hr.out n0 t0 (by omega)).mono ?_; rintro e w3 ⟨rfl, hk3', hb3⟩; have hk3 : But B w2 w3 := But.of_drew hk3'; have K3 := Lib.hid hk3; have B3 := Lib.hid hb3; have R3 := Lib.hid (hk3.at T1.out.hR T1.out.ne.symm); have O3 := Lib.hid (hk3.at HO.out (Ne.symm hBO)); clear hk3 hk3' hb3)
            | (go_at_call 59; refine (rtake_at R r u t n _ R3.out n0 n1 t0 (by omega)).mono ?_; rintro e w4 ⟨rfl, hk4, hb4⟩; have FIN : Hid (PlayCut w wr.heap.size 2 M n m (.pointer (some ⟨B, 0, none⟩)) (.pointer (some ⟨R, 0, none⟩)) (.bool true) w4) := ⟨B, R, r, u, _, rfl, rfl, rfl, T1.out.step K3.out B3.out hk4 hb4 T1.out.may (by split <;> omega) (by split <;> omega), hk4.at O3.out (Ne.symm hRO), hBO, hRO⟩; have O4 := Lib.hid (hk4.at O3.out (Ne.symm hRO)); clear hk4 hb4))
          all_goals
            go_wp2_with fail
            go_meet
            exact FIN.out
        by_cases hK3 : K = 3
        · subst hK3
          have HNM : may n m = true ∨ may n m = false := by cases may n m <;> simp
          rcases HNM with hnm | hnm
          · have SET := fun W h => set_yes B r u t n m W h hr.out hnm
            have RSET := fun W h => rset_yes R r u t n m W h n0 n1 m0 m1 hnm
            have LE := may_iff hnm
            have HS := Lib.hid SET
            have HRS := Lib.hid RSET
            have HNM := Lib.hid hnm
            clear SET RSET hnm
            go_wp2_with fail
            go_region_held3 (fun W => W.cell? ⟨wr.heap.size, 2, none⟩ = some (.int .u32 n) ∧ W.cell? ⟨wr.heap.size, 3, none⟩ = some (.int .u32 m))
              (first | exact ⟨cell_of 2 HO.out rfl, cell_of 3 HO.out rfl⟩ | exact ⟨cell_of 2 O3.out rfl, cell_of 3 O3.out rfl⟩ | exact ⟨cell_of 2 O4.out rfl, cell_of 3 O4.out rfl⟩)
              (first
              | (go_at_call 60; refine (HS.out w2.drew T1.out.hB).mono ?_; rintro e w3 ⟨rfl, hk3', hb3⟩; have hk3 : But B w2 w3 := But.of_drew hk3'; have K3 := Lib.hid hk3; have B3 := Lib.hid hb3; have R3 := Lib.hid (hk3.at T1.out.hR T1.out.ne.symm); have O3 := Lib.hid (hk3.at HO.out (Ne.symm hBO)); clear hk3 hk3' hb3)
              | (go_at_call 61; refine (HRS.out _ R3.out).mono ?_; rintro e w4 ⟨rfl, hk4, hb4⟩; have FIN : Hid (PlayCut w wr.heap.size 3 M n m (.pointer (some ⟨B, 0, none⟩)) (.pointer (some ⟨R, 0, none⟩)) (.bool true) w4) := ⟨B, R, n, m, _, rfl, rfl, rfl, T1.out.step K3.out B3.out hk4 hb4 HNM.out (by omega) (by omega), hk4.at O3.out (Ne.symm hRO), hBO, hRO⟩; have O4 := Lib.hid (hk4.at O3.out (Ne.symm hRO)); clear hk4 hb4))
            all_goals
              go_wp2_with fail
              go_meet
              exact FIN.out
          · have SET := fun W h => set_no B r u t n m W h hr.out hnm
            have RSET := fun W h => rset_no R r u t n m W h n0 hnm
            have HS := Lib.hid SET
            have HRS := Lib.hid RSET
            clear SET RSET hnm
            go_wp2_with fail
            go_region_held3 (fun W => W.cell? ⟨wr.heap.size, 2, none⟩ = some (.int .u32 n) ∧ W.cell? ⟨wr.heap.size, 3, none⟩ = some (.int .u32 m))
              (first | exact ⟨cell_of 2 HO.out rfl, cell_of 3 HO.out rfl⟩ | exact ⟨cell_of 2 O3.out rfl, cell_of 3 O3.out rfl⟩ | exact ⟨cell_of 2 O4.out rfl, cell_of 3 O4.out rfl⟩)
              (first
              | (go_at_call 60; refine (HS.out w2.drew T1.out.hB).mono ?_; rintro e w3 ⟨rfl, hk3', hb3⟩; have hk3 : But B w2 w3 := But.of_drew hk3'; have K3 := Lib.hid hk3; have B3 := Lib.hid hb3; have R3 := Lib.hid (hk3.at T1.out.hR T1.out.ne.symm); have O3 := Lib.hid (hk3.at HO.out (Ne.symm hBO)); clear hk3 hk3' hb3)
              | (go_at_call 61; refine (HRS.out w3 R3.out).mono ?_; rintro e w4 ⟨rfl, rfl⟩; have FIN : Hid (PlayCut w wr.heap.size 3 M n m (.pointer (some ⟨B, 0, none⟩)) (.pointer (some ⟨R, 0, none⟩)) (.bool true) w3) := ⟨B, R, r, u, t, rfl, rfl, rfl, T1.out.step K3.out B3.out (But.refl _ _) R3.out T1.out.may t0 t1, O3.out, hBO, hRO⟩))
            all_goals
              go_wp2_with fail
              go_meet
              exact FIN.out
        by_cases hK4 : K = 4
        · subst hK4
          go_wp2_with fail
          refine (copy_at B r u t w2 T1.out.hB hr.out).mono ?_
          rintro e w3 ⟨rfl, rfl⟩
          have C3 := Lib.hid (heap_alloc_new w2 (Bk r u t))
          have B3 := Lib.hid (hold_alloc (o' := Bk r u t) T1.out.hB)
          have R3 := Lib.hid (hold_alloc (o' := Bk r u t) T1.out.hR)
          have O3 := Lib.hid (hold_alloc (o' := Bk r u t) HO.out)
          have BL3 := Lib.hid (T1.out.below.alloc T1.out.below.size (Bk r u t))
          have z1 := lt_of_heap T1.out.hB
          have z2 := lt_of_heap T1.out.hR
          have z3 := lt_of_heap HO.out
          have z4 := T1.out.below.size
          generalize w2.alloc (Bk r u t) = w3 at *
          clear o1 o2 o3
          go_wp2_with fail
          refine (take_at B r u t 1 w3 B3.out hr.out (by omega) t0 (by omega)).mono ?_
          rintro e w4 ⟨rfl, hk4, hb4⟩
          have C4 := Lib.hid (hk4.at C3.out (by omega))
          have R4 := Lib.hid (hk4.at R3.out T1.out.ne.symm)
          have O4 := Lib.hid (hk4.at O3.out (Ne.symm hBO))
          have BL4 := Lib.hid (below_but BL3.out hk4 T1.out.B0 BL3.out.size)
          clear hk4 hb4 C3 R3 O3 BL3 B3
          go_wp2_with fail
          refine (rcopy_at R r u t w4 R4.out).mono ?_
          rintro e w5 ⟨rfl, rfl⟩
          have FIN : Hid (PlayCut w wr.heap.size 4 M n m (.pointer (some ⟨w2.heap.size, 0, none⟩)) (.pointer (some ⟨w4.heap.size, 0, none⟩)) (.bool true) (w4.alloc (Rk r u t))) :=
            ⟨w2.heap.size, w4.heap.size, r, u, t, rfl, rfl, rfl, ⟨BL4.out.alloc BL4.out.size _, hold_alloc C4.out, heap_alloc_new _ _, by have := lt_of_heap C4.out; omega, z4, BL4.out.size, T1.out.may, t0, t1⟩, hold_alloc O4.out, by omega, by have := lt_of_heap O4.out; omega⟩
          go_wp2_with fail
          go_meet
          exact FIN.out
        by_cases hK5 : K = 5
        · subst hK5
          go_wp2_with fail
          refine (copy_at B r u t w2 T1.out.hB hr.out).mono ?_
          rintro e w3 ⟨rfl, rfl⟩
          have C3 := Lib.hid (heap_alloc_new w2 (Bk r u t))
          have B3 := Lib.hid (hold_alloc (o' := Bk r u t) T1.out.hB)
          have R3 := Lib.hid (hold_alloc (o' := Bk r u t) T1.out.hR)
          have O3 := Lib.hid (hold_alloc (o' := Bk r u t) HO.out)
          have BL3 := Lib.hid (T1.out.below.alloc T1.out.below.size (Bk r u t))
          have z1 := lt_of_heap T1.out.hB
          have z2 := lt_of_heap T1.out.hR
          have z3 := lt_of_heap HO.out
          have z4 := T1.out.below.size
          obtain ⟨C, hC⟩ : ∃ C, w2.heap.size = C := ⟨_, rfl⟩
          rw [hC] at C3 z1 z2 z3 z4 ⊢
          generalize w2.alloc (Bk r u t) = w3 at *
          clear o1 o2 o3 hC
          have o2 : w3.cell? ⟨wr.heap.size, 2, none⟩ = some (.int .u32 n) := cell_of 2 O3.out rfl
          go_wp2_with fail
          refine (take_at C r u t n w3 C3.out hr.out n0 t0 (by omega)).mono ?_
          rintro e w4 ⟨rfl, hk4, hb4⟩
          have C4 := Lib.hid hb4
          have B4 := Lib.hid (hk4.at B3.out (by omega))
          have R4 := Lib.hid (hk4.at R3.out (by omega))
          have O4 := Lib.hid (hk4.at O3.out (by omega))
          have BL4 := Lib.hid (below_but BL3.out hk4 z4 BL3.out.size)
          clear hk4 hb4 C3 R3 O3 BL3 B3 o2
          go_wp2_with fail
          refine (set_at C r u _ 1 1 w4 C4.out hr.out).mono ?_
          rintro e w5 ⟨rfl, hk5, hb5⟩
          have FIN : Hid (PlayCut w wr.heap.size 5 M n m (.pointer (some ⟨B, 0, none⟩)) (.pointer (some ⟨R, 0, none⟩)) (.bool true) w5) :=
            ⟨B, R, r, u, t, rfl, rfl, rfl, ⟨below_but BL4.out hk5 z4 BL4.out.size, hk5.at B4.out (by omega), hk5.at R4.out (by omega), T1.out.ne, T1.out.B0, T1.out.R0, T1.out.may, t0, t1⟩, hk5.at O4.out (by omega), hBO, hRO⟩
          clear hk5 hb5
          go_wp2_with fail
          go_meet
          exact FIN.out
        have e1 : (K == 1) = false := by simp; exact hK1
        have e2 : (K == 2) = false := by simp; exact hK2
        have e3 : (K == 3) = false := by simp; exact hK3
        have e4 : (K == 4) = false := by simp; exact hK4
        have e5 : (K == 5) = false := by simp; exact hK5
        have FIN : Hid (PlayCut w wr.heap.size K M n m (.pointer (some ⟨B, 0, none⟩)) (.pointer (some ⟨R, 0, none⟩)) (.bool true) w2) := ⟨B, R, r, u, t, rfl, rfl, rfl, T1.out, HO.out, hBO, hRO⟩
        clear hK1 hK2 hK3 hK4 hK5
        go_wp2_with fail
        go_meet
        exact FIN.out
      case rest =>
        obtain ⟨B', R', r', u', t', rfl, rfl, rfl, T, hO, hBO', hRO'⟩ := hcut
        have HT := Lib.hid T
        have HO2 := Lib.hid hO
        clear T hO T1 HO hr t0 t1 i1 i2 i3
        obtain ⟨i1, i2, i3⟩ := may_iff HT.out.may
        have hr : Hid ((r' == 0) = false) := by show _ = _; simp; omega
        have t0 := HT.out.t0
        have t1 := HT.out.t1
        have o2 := cell_of (v := .int .u32 n) 2 HO2.out rfl
        go_wp2_with fail
        refine (until_at B' r' u' t' n _ HT.out.hB hr.out i1 i3 t0 t1 i2 n0 n1).mono ?_
        rintro e w4 ⟨rfl, hk4, hb4⟩
        have B4 := Lib.hid hb4
        have R4 := Lib.hid (hk4.at HT.out.hR HT.out.ne.symm)
        have O4 := Lib.hid (hk4.at HO2.out (Ne.symm hBO'))
        have BL4 := Lib.hid (below_but HT.out.below hk4 HT.out.B0 HT.out.below.size)
        clear hk4 hb4 o2
        have o2 := cell_of (v := .int .u32 n) 2 O4.out rfl
        obtain ⟨un, hun⟩ : ∃ un, until1 r' u' t' n = un := ⟨_, rfl⟩
        obtain ⟨bn, hbn⟩ : ∃ bn, decide (n ≤ u') = bn := ⟨_, rfl⟩
        have UN := Lib.hid (fun W h => runtil_at R' r' u' t' n W h i1 i3 t0 t1 i2 n0 n1)
        rw [hun, hbn] at UN ⊢
        clear hun hbn
        go_wp2_with fail
        refine (UN.out w4 R4.out).mono ?_
        rintro e w5 ⟨rfl, rfl⟩
        have LEFT := Lib.hid (fun W h => left_at B' r' u' t' W h hr.out)
        have r2 := Rk.c2 R4.out
        go_wp2_with fail
        go_quiet ((go_at_call 40; refine Calls.quiet_of_same ((LEFT.out (w4.drewN _) B4.out).mono fun e w' h => ⟨h.1, h.2.symm⟩)))
        go_wp2_with fail
        go_roundw
        case rel => exact ⟨k + 1, B', R', r', u', t', by omega, by go_num, rfl, rfl, ⟨⟨BL4.out.os, BL4.out.tape, BL4.out.output, BL4.out.size, BL4.out.block⟩, B4.out, R4.out, HT.out.ne, HT.out.B0, HT.out.R0, HT.out.may, t0, t1⟩⟩
        case measure => simp [intOf]; omega
    · go_wp2_with fail
      refine (known_any _).mono ?_
      rintro e w3 ⟨rfl, hk3⟩
      go_wp2_with fail
      go_ret
      exact ⟨rfl, T.out.below.trans (hk3.mono T.out.below.size)⟩
end Go.Proofs.Ytamjhaomdfeemaa
