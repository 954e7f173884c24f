/- The walk of the law BucketParts: it answers true at every input and turns nothing that was there. -/
import Derived.Test.YtamjhaomdfeemaaBl
import Derived.OpenShut
namespace Go.Proofs.Ytamjhaomdfeemaa
open Go.RowKit Go.Wb
set_option linter.unusedVariables false

set_option maxRecDepth 100000 in
theorem bucketParts_no (r u f n a c : Int) (w : World) (hm : may r u = false) : Calls Try.prog 11 #[.int .u32 r, .int .u32 u, .int .u32 f, .int .u32 n, .int .u64 a, .int .u64 c] w fun e w' => e = .returned (.bool true) ∧ Below w.heap.size w w' := by
  have HM := Lib.hid hm
  clear hm
  go_enter Try.func11, Try.ntmps11
  go_wp2_with fail
  refine (new_no r u _ HM.out).mono ?_
  rintro e w1 ⟨rfl, rfl⟩
  go_wp2_with fail
  refine (new_no r u _ HM.out).mono ?_
  rintro e w1 ⟨rfl, rfl⟩
  go_wp2_with fail
  refine (known_any _).mono ?_
  rintro e w2 ⟨rfl, hb2⟩
  go_wp2_with fail
  go_ret
  exact ⟨rfl, hb2⟩

set_option maxRecDepth 100000 in
set_option maxHeartbeats 1000000 in
theorem bucketParts_yes (r u f n a c : Int) (w : World) (hm : may r u = true) (f0 : 0 ≤ f) (n0 : 0 ≤ n) (n1 : n ≤ 4294967295) (a0 : 0 ≤ a) (a1 : a ≤ 18446744073709551615) (c0 : 0 ≤ c) (c1 : c ≤ 18446744073709551615) :
    Calls Try.prog 11 #[.int .u32 r, .int .u32 u, .int .u32 f, .int .u32 n, .int .u64 a, .int .u64 c] w fun e w' => e = .returned (.bool true) ∧ Below w.heap.size w w' := by
  obtain ⟨h1, h2, h3⟩ := may_iff hm
  have hr : (r == 0) = false := by simp; omega
  have HR := Lib.hid hr
  have HM := Lib.hid hm
  clear hm hr
  go_enter Try.func11, Try.ntmps11
  go_wp2_with fail
  refine (new_yes r u _ HM.out).mono ?_
  rintro e w1 ⟨rfl, rfl⟩
  go_wp2_with fail
  refine (new_yes r u _ HM.out).mono ?_
  rintro e w1 ⟨rfl, rfl⟩
  go_wp2_with fail
  have X := Lib.hid (hold_alloc (o' := Bk r u u) (heap_alloc_new w (Bk r u u)))
  have Y : Hid (((w.alloc (Bk r u u)).alloc (Bk r u u)).heap[w.heap.size + 1]? = some (Bk r u u)) := by
    have := heap_alloc_new (w.alloc (Bk r u u)) (Bk r u u); rwa [World.size_alloc] at this
  have B := Lib.hid (((Below.refl w.heap.size w).alloc (Nat.le_refl _) (Bk r u u)).alloc (by simp) (Bk r u u))
  generalize (w.alloc (Bk r u u)).alloc (Bk r u u) = w1 at *
  clear HM
  obtain ⟨f1, hf⟩ : ∃ f1, f1 = f % (u + 1) := ⟨_, rfl⟩
  have g0 : 0 ≤ f1 := by rw [hf]; exact Int.emod_nonneg _ (by omega)
  have g1 : f1 ≤ u := by rw [hf]; have := Int.emod_lt_of_pos f (show 0 < u + 1 by omega); omega
  rw [← hf]
  have HF := Lib.hid hf
  clear hf
  obtain ⟨t, ht⟩ : ∃ t, u - f1 = t := ⟨_, rfl⟩
  have t0 : 0 ≤ t := by omega
  have t1 : t ≤ u := by omega
  have HT := Lib.hid ht
  clear ht
  refine (take_at _ r u u f1 w1 X.out HR.out g0 (by omega) (by omega)).mono ?_
  rintro e w2 ⟨rfl, hk, hb⟩
  rw [if_pos g1, HT.out] at hb
  have X2 := Lib.hid hb
  have Y2 := Lib.hid (hk.at Y.out (by omega))
  have B2 := Lib.hid (below_but B.out hk (Nat.le_refl _) B.out.size)
  clear hk hb X Y B
  go_wp2_with fail
  rw [HF.out.symm]
  refine (take_at _ r u u f1 w2 Y2.out HR.out g0 (by omega) (by omega)).mono ?_
  rintro e w3 ⟨rfl, hk, hb⟩
  rw [if_pos g1, HT.out] at hb
  have Y3 := Lib.hid hb
  have X3 := Lib.hid (hk.at X2.out (by omega))
  have B3 := Lib.hid (below_but B2.out hk (by omega) B2.out.size)
  clear hk hb X2 Y2 B2
  go_wp2_with fail
  refine (copy_at _ r u t w3 X3.out HR.out).mono ?_
  rintro e w4 ⟨rfl, rfl⟩
  have Z4 := Lib.hid (heap_alloc_new w3 (Bk r u t))
  have Y4 := Lib.hid (hold_alloc (o' := Bk r u t) Y3.out)
  have X4 := Lib.hid (hold_alloc (o' := Bk r u t) X3.out)
  have B4 := Lib.hid (B3.out.alloc B3.out.size (Bk r u t))
  have z4 : w.heap.size + 1 < w3.heap.size := lt_of_heap Y3.out
  have z5 : (w3.alloc (Bk r u t)).heap.size = w3.heap.size + 1 := World.size_alloc _ _
  obtain ⟨z, hz⟩ : ∃ z, w3.heap.size = z := ⟨_, rfl⟩
  rw [hz] at Z4 z4 z5 ⊢
  generalize w3.alloc (Bk r u t) = w4 at *
  have Z5 := Lib.hid z5
  clear X3 Y3 B3 hz z5
  go_wp2_with fail
  refine (copy_at _ r u t w4 X4.out HR.out).mono ?_
  rintro e w5 ⟨rfl, rfl⟩
  have S5 := Lib.hid (heap_alloc_new w4 (Bk r u t))
  rw [Z5.out] at S5 ⊢
  have Z6 := Lib.hid (hold_alloc (o' := Bk r u t) Z4.out)
  have Y6 := Lib.hid (hold_alloc (o' := Bk r u t) Y4.out)
  have X6 := Lib.hid (hold_alloc (o' := Bk r u t) X4.out)
  have B6 := Lib.hid (B4.out.alloc B4.out.size (Bk r u t))
  generalize w4.alloc (Bk r u t) = w5 at *
  clear X4 Y4 B4 Z4 Z5
  go_wp2_with fail
  -- x, y, z, sooner lie in blocks N, N + 1, z, z + 1
  refine (lapse_at _ r u t a w5 X6.out HR.out h1 h3 t0 t1 h2 a0 a1).mono ?_
  rintro e w6 ⟨rfl, hk, hb⟩
  have l1 := lapse_le h1 t1 t0 a0
  have X7 := Lib.hid hb
  have Y7 := Lib.hid (hk.at Y6.out (by omega))
  have Z7 := Lib.hid (hk.at Z6.out (by omega))
  have S7 := Lib.hid (hk.at S5.out (by omega))
  have B7 := Lib.hid (below_but B6.out hk (by omega) B6.out.size)
  clear hk hb X6 Y6 Z6 S5 B6
  go_wp2_with fail
  refine (lapse_at _ r u _ c w6 X7.out HR.out h1 h3 (by omega) (by omega) h2 c0 c1).mono ?_
  rintro e w7 ⟨rfl, hk, hb⟩
  have X8 := Lib.hid hb
  have Y8 := Lib.hid (hk.at Y7.out (by omega))
  have Z8 := Lib.hid (hk.at Z7.out (by omega))
  have S8 := Lib.hid (hk.at S7.out (by omega))
  have B8 := Lib.hid (below_but B7.out hk (by omega) B7.out.size)
  clear hk hb X7 Y7 Z7 S7 B7
  have hp := lapse_parts h1 h3 t1 t0 a0 a1 c0 c1
  have l2 := lapse_le (n := c) h1 l1.2.2 l1.1 c0
  have HP1 : Hid (a + c ≤ 18446744073709551615 → lapse r u (lapse r u t a) c = lapse r u t (a + c)) := by
    intro h; rw [hp]; rw [show a + min c (18446744073709551615 - a) = a + c from by omega]
  have HP2 : Hid (18446744073709551615 - a ≤ c → lapse r u (lapse r u t a) c = lapse r u t (a + (18446744073709551615 - a))) := by
    intro h; rw [hp]; rw [show min c (18446744073709551615 - a) = (18446744073709551615 - a) from by omega]
  clear hp
  obtain ⟨tx, htx⟩ : ∃ tx, lapse r u (lapse r u t a) c = tx := ⟨_, rfl⟩
  rw [htx] at X8 HP1 HP2 l2
  clear htx
  obtain ⟨U0, U1, U2, U3⟩ : (n ≤ u → 0 ≤ until1 r u t n) ∧ (n ≤ u → until1 r u t n ≤ 4294967296) ∧ Hid (n ≤ u → n ≤ lapse r u t (until1 r u t n)) ∧ Hid (n ≤ u → 0 < until1 r u t n → lapse r u t (until1 r u t n - 1) < n) := by
    by_cases hn : n ≤ u
    · have := until_there h1 h3 t1 t0 hn n0
      exact ⟨fun _ => this.1, fun _ => this.2.1, fun _ => this.2.2.1, fun _ => this.2.2.2⟩
    · exact ⟨fun h => absurd h hn, fun h => absurd h hn, fun h => absurd h hn, fun h => absurd h hn⟩
  go_wp2_with fail
  all_goals
    refine (lapse_at _ r u t _ w7 Y8.out HR.out h1 h3 t0 t1 h2 (by omega) (by omega)).mono ?_
    rintro e w8 ⟨rfl, hk, hb⟩
    first | rw [← HP1.out (by omega)] at hb | rw [← HP2.out (by omega)] at hb
    have Y9 := Lib.hid hb
    have X9 := Lib.hid (hk.at X8.out (by omega))
    have Z9 := Lib.hid (hk.at Z8.out (by omega))
    have S9 := Lib.hid (hk.at S8.out (by omega))
    have B9 := Lib.hid (below_but B8.out hk (by omega) B8.out.size)
    clear hk hb X8 Y8 Z8 S8 B8 HP1 HP2
    go_wp2_with fail
    refine (left_at _ r u _ w8 X9.out HR.out).mono ?_
    rintro e w9 ⟨rfl, rfl⟩
    go_wp2_with fail
    refine (left_at _ r u _ w8 Y9.out HR.out).mono ?_
    rintro e w9 ⟨rfl, rfl⟩
    go_wp2_with fail
    refine (until_at _ r u t n w8 Z9.out HR.out h1 h3 t0 t1 h2 n0 n1).mono ?_
    rintro e w9 ⟨rfl, hk, hb⟩
    have Z10 := Lib.hid hb
    have S10 := Lib.hid (hk.at S9.out (by omega))
    have B10 := Lib.hid (below_but B9.out hk (by omega) B9.out.size)
    clear hk hb Z9 S9 B9 X9 Y9
    obtain ⟨T, hT⟩ : ∃ T, until1 r u t n = T := ⟨_, rfl⟩
    rw [hT] at U0 U1 U2 U3 ⊢
    clear hT
    by_cases hn : n ≤ u
    · rw [show decide (n ≤ u) = true from by simp; exact hn]
      have V0 := U0 hn
      have V1 := U1 hn
      have V2 := U2.out hn
      have V3 := Lib.hid (U3.out hn)
      have VT := lapse_le (n := T) h1 t1 t0 V0
      clear U0 U1 U2 U3
      go_wp2_with fail
      refine (lapse_at _ r u t T w9 Z10.out HR.out h1 h3 t0 t1 h2 V0 (by omega)).mono ?_
      rintro e w10 ⟨rfl, hk, hb⟩
      have Z11 := Lib.hid hb
      have S11 := Lib.hid (hk.at S10.out (by omega))
      have B11 := Lib.hid (below_but B10.out hk (by omega) B10.out.size)
      clear hk hb Z10 S10 B10
      obtain ⟨tz, htz⟩ : ∃ tz, lapse r u t T = tz := ⟨_, rfl⟩
      rw [htz] at Z11 V2 VT
      clear htz
      by_cases hT : 0 < T
      · have hT0 : (T == 0) = false := by simp; omega
        have V4 := V3.out hT
        have VS := lapse_le (n := T - 1) h1 t1 t0 (by omega)
        clear V3
        go_wp2_with fail
        refine (lapse_at _ r u t _ w10 S11.out HR.out h1 h3 t0 t1 h2 (by omega) (by omega)).mono ?_
        rintro e w11 ⟨rfl, hk, hb⟩
        have S12 := Lib.hid hb
        have Z12 := Lib.hid (hk.at Z11.out (by omega))
        have B12 := Lib.hid (below_but B11.out hk (by omega) B11.out.size)
        clear hk hb Z11 S11 B11
        obtain ⟨ts, hts⟩ : ∃ ts, lapse r u t (T - 1) = ts := ⟨_, rfl⟩
        rw [hts] at S12 V4 VS
        clear hts
        go_wp2_with fail
        refine (take_at _ r u tz n w11 Z12.out HR.out n0 (by omega) (by omega)).mono ?_
        rintro e w12 ⟨rfl, hk, hb⟩
        have S13 := Lib.hid (hk.at S12.out (by omega))
        have B13 := Lib.hid (below_but B12.out hk (by omega) B12.out.size)
        clear hk hb Z12 S12 B12
        rw [show decide (n ≤ tz) = true from by simp; exact V2]
        go_wp2_with fail
        refine (take_at _ r u ts n w12 S13.out HR.out n0 (by omega) (by omega)).mono ?_
        rintro e w13 ⟨rfl, hk, hb⟩
        have B14 := Lib.hid (below_but B13.out hk (by omega) B13.out.size)
        clear hk hb S13 B13
        rw [show decide (n ≤ ts) = false from by simp; exact V4]
        go_wp2_with fail
        refine (known_any _).mono ?_
        rintro e w14 ⟨rfl, hk⟩
        go_wp2_with fail
        go_ret
        exact ⟨rfl, B14.out.trans (hk.mono B14.out.size)⟩
      · obtain rfl : T = 0 := by omega
        clear V3
        go_wp2_with fail
        refine (take_at _ r u tz n w10 Z11.out HR.out n0 (by omega) (by omega)).mono ?_
        rintro e w12 ⟨rfl, hk, hb⟩
        have B13 := Lib.hid (below_but B11.out hk (by omega) B11.out.size)
        clear hk hb Z11 S11 B11
        rw [show decide (n ≤ tz) = true from by simp; exact V2]
        go_wp2_with fail
        refine (known_any _).mono ?_
        rintro e w14 ⟨rfl, hk⟩
        go_wp2_with fail
        go_ret
        exact ⟨rfl, B13.out.trans (hk.mono B13.out.size)⟩
    · rw [show decide (n ≤ u) = false from by simp; omega]
      go_wp2_with fail
      refine (known_any _).mono ?_
      rintro e w10 ⟨rfl, hk⟩
      go_wp2_with fail
      go_ret
      exact ⟨rfl, B10.out.trans (hk.mono B10.out.size)⟩

theorem bucketParts_walk (r : Int) (wr : (Lit.int .u32 r).wf = true) (u : Int) (wu : (Lit.int .u32 u).wf = true) (f : Int) (wf : (Lit.int .u32 f).wf = true) (n : Int) (wn : (Lit.int .u32 n).wf = true)
    (a : Int) (wa : (Lit.int .u64 a).wf = true) (c : Int) (wc : (Lit.int .u64 c).wf = true) (w : World) :
    Calls Try.prog 11 #[.int .u32 r, .int .u32 u, .int .u32 f, .int .u32 n, .int .u64 a, .int .u64 c] w fun e w' => e = .returned (.bool true) ∧ Below w.heap.size w w' := by
  have b1 := bounds_u32 wf
  have b2 := bounds_u32 wn
  have b3 := bounds_u64 wa
  have b4 := bounds_u64 wc
  cases hm : may r u
  · exact bucketParts_no r u f n a c w hm
  · exact bucketParts_yes r u f n a c w hm b1.1 b2.1 b2.2 b3.1 b3.2 b4.1 b4.2
end Go.Proofs.Ytamjhaomdfeemaa
