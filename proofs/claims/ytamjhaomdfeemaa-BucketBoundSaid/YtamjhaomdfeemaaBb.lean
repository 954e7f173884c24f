/- The walk of the law BucketBound: it answers true at every input and turns nothing that was there. -/
import Derived.Test.YtamjhaomdfeemaaBp
import Derived.Test.YtamjhaomdfeemaaRd
import Derived.Test.YtamjhaomdfeemaaCe
namespace Go.Proofs.Ytamjhaomdfeemaa
open Go.RowKit Go.Wb
set_option linter.unusedVariables false

set_option maxRecDepth 100000 in
theorem bucketBound_no (r u : Int) (ao : Option Addr) (len cap : Nat) (from_ : Int) (w : World) (hm : may r u = false) : Calls Try.prog 9 #[.int .u32 r, .int .u32 u, .slice ao len cap, .int .u8 from_] w fun e w' => e = .returned (.bool true) ∧ Below w.heap.size w w' := by
  have HM := Lib.hid hm
  clear hm
  go_enter Try.func9, Try.ntmps9
  go_wp2_with fail
  refine (new_no r u _ HM.out).mono ?_
  rintro e w1 ⟨rfl, rfl⟩
  go_wp2_with fail
  refine (new_no r u _ HM.out).mono ?_
  rintro e w1 ⟨rfl, rfl⟩
  go_wp2_with fail
  refine (known_any _).mono ?_
  rintro e w2 ⟨rfl, hb2⟩
  go_wp2_with fail
  go_ret
  exact ⟨rfl, hb2⟩

set_option maxRecDepth 100000 in
set_option maxHeartbeats 1000000 in
theorem bucketBound_long (r u : Int) (ao : Option Addr) (len cap : Nat) (from_ : Int) (w : World) (hm : may r u = true) (hl : 60 < len) (hl' : len ≤ 9223372036854775807) : Calls Try.prog 9 #[.int .u32 r, .int .u32 u, .slice ao len cap, .int .u8 from_] w fun e w' => e = .returned (.bool true) ∧ Below w.heap.size w w' := by
  have HM := Lib.hid hm
  clear hm
  go_enter Try.func9, Try.ntmps9
  go_wp2_with fail
  refine (new_yes r u _ HM.out).mono ?_
  rintro e w1 ⟨rfl, rfl⟩
  go_wp2_with fail
  refine (new_yes r u _ HM.out).mono ?_
  rintro e w1 ⟨rfl, rfl⟩
  go_wp2_with fail
  have B := Lib.hid (((Below.refl w.heap.size w).alloc (Nat.le_refl _) (Bk r u u)).alloc (by simp) (Bk r u u))
  refine (known_any _).mono ?_
  rintro e w2 ⟨rfl, hk⟩
  go_wp2_with fail
  go_ret
  exact ⟨rfl, B.out.trans (hk.mono B.out.size)⟩

set_option maxRecDepth 100000 in
set_option maxHeartbeats 1000000 in
theorem bucketBound_loop (r u : Int) (ao : Option Addr) (len cap : Nat) (zs : List Int) (from_ : Int) (w : World) (hm : may r u = true) (hl : len ≤ 60) (hz : zs.length = len) (f0 : 0 ≤ from_) (f1 : from_ ≤ 255)
    (hc : ∀ i, i < len → ∃ b off, ao = some ⟨b, off, none⟩ ∧ b < w.heap.size ∧ w.cell? ⟨b, off + i, none⟩ = some (.int .u32 (zs.getD i 0)) ∧ 0 ≤ zs.getD i 0 ∧ zs.getD i 0 ≤ 4294967295) :
    Calls Try.prog 9 #[.int .u32 r, .int .u32 u, .slice ao len cap, .int .u8 from_] w fun e w' => e = .returned (.bool true) ∧ Below w.heap.size w w' := by
  obtain ⟨h1, h2, h3⟩ := may_iff hm
  have hr : (r == 0) = false := by simp; omega
  have HR := Lib.hid hr
  have HM := Lib.hid hm
  have HC := Lib.hid hc
  have HZ := Lib.hid hz
  clear hm hr hc hz
  go_enter Try.func9, Try.ntmps9
  go_wp2_with fail
  refine (new_yes r u _ HM.out).mono ?_
  rintro e w1 ⟨rfl, rfl⟩
  go_wp2_with fail
  refine (new_yes r u _ HM.out).mono ?_
  rintro e w1 ⟨rfl, rfl⟩
  go_wp2_with fail
  have X := Lib.hid (hold_alloc (o' := Bk r u u) (heap_alloc_new w (Bk r u u)))
  have Y : Hid (((w.alloc (Bk r u u)).alloc (Bk r u u)).heap[w.heap.size + 1]? = some (Bk r u u)) := by
    have := heap_alloc_new (w.alloc (Bk r u u)) (Bk r u u); rwa [World.size_alloc] at this
  have B := Lib.hid (((Below.refl w.heap.size w).alloc (Nat.le_refl _) (Bk r u u)).alloc (by simp) (Bk r u u))
  generalize (w.alloc (Bk r u u)).alloc (Bk r u u) = w1 at *
  clear HM
  go_loopw [13, 14, 59] (fun tk ti i wr => ∃ (k : Nat) (T C t : Int), k ≤ len ∧ i = .int .i64 k ∧ tk = .int .u64 T ∧ ti = .int .u64 C ∧ Hid (Below w.heap.size w wr) ∧ Hid (wr.heap[w.heap.size]? = some (Bk r u t)) ∧ Hid (wr.heap[w.heap.size + 1]? = some (Bk r u u)) ∧
      0 ≤ T ∧ 0 ≤ C ∧ C ≤ k ∧ 0 ≤ t ∧ t ≤ u ∧ T + t ≤ u + C * r ∧ (k ≤ from_ → T = 0 ∧ C = 0)) (fun _ _ i _ => len - (intOf i).toNat)
  case atStart => exact ⟨0, 0, 0, u, by omega, rfl, rfl, rfl, B, X, Y, by omega, by omega, by omega, by omega, by omega, by omega, fun _ => ⟨rfl, rfl⟩⟩
  case round =>
    obtain ⟨k, T, C, t, hk, rfl, rfl, rfl, hB, hX, hY, T0, C0, Ck, t0, t1, hT, hF⟩ := hrel
    have HF := Lib.hid hF
    clear hF X Y B
    by_cases hlt : k < len
    · obtain ⟨b, off, rfl, hbl, hcell, z0, z1⟩ := HC.out k hlt
      have hcw : wr.cell? ⟨b, off + k, none⟩ = some (.int .u32 (zs.getD k 0)) := (hB.out.cell (p := ⟨b, off + k, none⟩) hbl).trans hcell
      clear hcell
      obtain ⟨n, hn⟩ : ∃ n, zs.getD k 0 = n := ⟨_, rfl⟩
      rw [hn] at hcw z0 z1
      clear hn
      have hTr : C * r ≤ 60 * r := Int.mul_le_mul_of_nonneg_right (by omega) (by omega)
      have hTr0 : 0 ≤ C * r := Int.mul_nonneg C0 (by omega)
      -- the number that c is asked for
      obtain ⟨m, hm⟩ : ∃ m, n % (r + 1) = m := ⟨_, rfl⟩
      have m0 : 0 ≤ m := by rw [← hm]; exact Int.emod_nonneg _ (by omega)
      have m1 : m ≤ r := by rw [← hm]; have := Int.emod_lt_of_pos n (show 0 < r + 1 by omega); omega
      have HM := Lib.hid hm
      clear hm
      -- what is taken, and ticked
      obtain ⟨T', hT'⟩ : ∃ T', (if n ≤ t ∧ from_ ≤ k then T + n else T) = T' := ⟨_, rfl⟩
      obtain ⟨C', hC'⟩ : ∃ C', (if from_ ≤ (k : Int) then C + 1 else C) = C' := ⟨_, rfl⟩
      obtain ⟨t', ht'⟩ : ∃ t', lapse r u (if n ≤ t then t - n else t) 1 = t' := ⟨_, rfl⟩
      have e1 : lapse r u (if n ≤ t then t - n else t) 1 = min u ((if n ≤ t then t - n else t) + r) := by
        rw [lapse_eq h1 (by split <;> omega) (by omega), Int.one_mul]
      have e2 : lapse r u (u - m) 1 = u := by rw [lapse_eq h1 (by omega) (by omega), Int.one_mul]; omega
      have E2 := Lib.hid e2
      have R' : Hid (0 ≤ T' ∧ 0 ≤ C' ∧ C' ≤ k + 1 ∧ 0 ≤ t' ∧ t' ≤ u ∧ T' + t' ≤ u + C' * r ∧ (((k + 1 : Nat) : Int) ≤ from_ → T' = 0 ∧ C' = 0) ∧ T' ≤ u + C * r) := by
        rw [e1] at ht'
        by_cases hf : from_ ≤ (k : Int)
        · rw [if_pos hf] at hC'
          subst hC'
          rw [Int.add_mul, Int.one_mul]
          refine ⟨?_, by omega, by omega, ?_, ?_, ?_, fun h => by omega, ?_⟩
          all_goals (by_cases hn : n ≤ t <;> simp only [hn, hf, and_self, and_true, if_true, if_false] at hT' ht' <;> omega)
        · rw [if_neg hf] at hC'
          subst hC'
          obtain ⟨rfl, rfl⟩ := HF.out (by omega)
          rw [if_neg (by omega)] at hT'
          subst hT'
          refine ⟨by omega, by omega, by omega, ?_, ?_, ?_, fun h => ⟨rfl, rfl⟩, by omega⟩
          all_goals (by_cases hn : n ≤ t <;> simp only [hn, if_true, if_false] at ht' <;> omega)
      have HT' := Lib.hid hT'
      have HC' := Lib.hid hC'
      have Ht' := Lib.hid ht'
      clear e1 e2 hT' hC' ht'
      have q0 : 0 ≤ (if n ≤ t then t - n else t) := by split <;> omega
      have q1 : (if n ≤ t then t - n else t) ≤ u := by split <;> omega
      obtain ⟨q, hq⟩ : ∃ q, (if n ≤ t then t - n else t) = q := ⟨_, rfl⟩
      rw [hq] at q0 q1 Ht'
      have HQ := Lib.hid hq
      clear hq
      have e3 : T ≤ u + C * r := by omega
      have e4 : n ≤ t → T + n ≤ u + C * r := by omega
      have E4 := Lib.hid e4
      clear e4
      have TAKE := Lib.hid (take_at _ r u t n wr hX.out HR.out z0 t0 (by omega))
      by_cases hf : from_ ≤ (k : Int) <;> by_cases hn : n ≤ t
      all_goals
        go_wp2_with fail
        refine (TAKE.out).mono ?_
        rintro e w2 ⟨rfl, hk2, hb⟩
        rw [HQ.out] at hb
        have X2 := Lib.hid hb
        have Y2 := Lib.hid (hk2.at hY.out (by omega))
        have B2 := Lib.hid (below_but hB.out hk2 (by omega) hB.out.size)
        clear hk2 hb hX hY hB
        first
          | rw [show decide (n ≤ t) = true from by simp; exact hn]
          | rw [show decide (n ≤ t) = false from by simp; omega]
        have e5 : n ≤ t → T + n ≤ u + C * r := E4.out
        try replace e5 := e5 hn
        go_wp2_with fail
        refine (take_at _ r u u _ w2 Y2.out HR.out (by rw [HM.out]; exact m0) (by omega) (by omega)).mono ?_
        rintro e w3 ⟨rfl, hk2, hb⟩
        rw [HM.out] at hb ⊢
        rw [if_pos (by omega)] at hb
        rw [show decide (m ≤ u) = true from by simp; omega]
        have Y3 := Lib.hid hb
        have X3 := Lib.hid (hk2.at X2.out (by omega))
        have B3 := Lib.hid (below_but B2.out hk2 (by omega) B2.out.size)
        clear hk2 hb X2 Y2 B2
        go_wp2_with fail
        refine (lapse_at _ r u q 1 w3 X3.out HR.out h1 h3 q0 q1 h2 (by omega) (by omega)).mono ?_
        rintro e w4 ⟨rfl, hk2, hb⟩
        rw [Ht'.out] at hb
        have X4 := Lib.hid hb
        have Y4 := Lib.hid (hk2.at Y3.out (by omega))
        have B4 := Lib.hid (below_but B3.out hk2 (by omega) B3.out.size)
        clear hk2 hb X3 Y3 B3
        go_wp2_with fail
        refine (lapse_at _ r u (u - m) 1 w4 Y4.out HR.out h1 h3 (by omega) (by omega) h2 (by omega) (by omega)).mono ?_
        rintro e w5 ⟨rfl, hk2, hb⟩
        rw [E2.out] at hb
        have Y5 := Lib.hid hb
        have X5 := Lib.hid (hk2.at X4.out (by omega))
        have B5 := Lib.hid (below_but B4.out hk2 (by omega) B4.out.size)
        clear hk2 hb X4 Y4 B4
        go_wp2_with fail
        go_roundw
        case rel =>
          obtain ⟨r1, r2, r3, r4, r5, r6, r7, r8⟩ := R'.out
          refine ⟨k + 1, T', C', t', by omega, by go_num, ?_, ?_, B5, X5, Y5, r1, r2, by omega, r4, r5, r6, r7⟩
          · rw [← HT'.out]; split <;> first | rfl | (exfalso; omega)
          · rw [← HC'.out]; split <;> first | rfl | (exfalso; omega)
        case measure => simp [intOf]; omega
    · have hX2 := Lib.hid hX
      go_wp2_with fail
      refine (left_at _ r u t wr hX.out HR.out).mono ?_
      rintro e w2 ⟨rfl, rfl⟩
      go_wp2_with fail
      refine (known_any _).mono ?_
      rintro e w3 ⟨rfl, hk3⟩
      go_wp2_with fail
      go_ret
      exact ⟨rfl, hB.out.trans (hk3.mono hB.out.size)⟩

theorem bucketBound_walk (w : World) (r : Int) (wr : (Lit.int .u32 r).wf = true) (u : Int) (wu : (Lit.int .u32 u).wf = true) (v : Value) (hv : ∃ zs, IsRow .u32 w v zs) (f : Int) (wf : (Lit.int .u8 f).wf = true) :
    Calls Try.prog 9 #[.int .u32 r, .int .u32 u, v, .int .u8 f] w fun e w' => e = .returned (.bool true) ∧ Below w.heap.size w w' := by
  have b1 := bounds_u8 wf
  obtain ⟨zs, a, len, cap, rfl, hz, hl, hm, hc, hw⟩ := hv
  unfold maxLen at hm
  cases hm' : may r u
  · exact bucketBound_no r u a len cap f w hm'
  · by_cases h60 : 60 < len
    · exact bucketBound_long r u a len cap f w hm' h60 (by omega)
    · refine bucketBound_loop r u a len cap zs f w hm' (by omega) hz b1.1 b1.2 ?_
      intro i hi
      rcases hc with h0 | ⟨b, off, rfl, hb, hcell⟩
      · omega
      · have := bounds_u32 (hw (zs.getD i 0) (by
          rw [List.getD_eq_getElem?_getD, List.getElem?_eq_getElem (by omega)]; exact List.getElem_mem _))
        exact ⟨b, off, rfl, hb, hcell i hi, this.1, this.2⟩
set_option maxRecDepth 1000000 in
theorem openT56 {H : Type} {enc : TypeId × Value → H} {w : World} {base b0 : Nat} {spare : Nat → Bool} {held : Bool} {r : Reach} {v : Value} {d : DataW H} {p : List MemPlace} (hv : Value.okWide Try.prog w r b0 56 v) (h : DataW.Trod enc Try.prog w base spare held 56 v d p) : ∃ zs, IsRow .u32 w v zs :=
  open_row Try.underlying56 Try.underlying55 Try.cells55 hv h

end Go.Proofs.Ytamjhaomdfeemaa
