/- Walks of package sum and of its reference: what Add, Of, End, Update of either come to. -/
import Derived.Test.YtmdafjegddnecaaRows
import Derived.Test.YtmdafjegddnecaaMv
import Derived.Test.YtmdafjegddnecaaRd
import Derived.Test.YtmdafjegddnecaaSp
import Derived.WalkLawsBesides
import Derived.Outline
import Derived.Laws.MathBits
import Derived.Laws.BitsAllLaws
import Derived.Deep.DeepCutAuto
namespace Go.Proofs.Ytmdafjegddnecaa
open Go.RowKit Go.Wb
set_option linter.unusedVariables false

theorem and_low16 (z : Int) (h0 : 0 ≤ z) (h1 : z < 18446744073709551616) : bits .and .u64 z 65535 = z % 65536 := by go_bits2

theorem fold_any (n : Int) (w : World) (h0 : 0 ≤ n) (h1 : n ≤ 18446744073709551615) :
    Calls Try.prog 148 #[.int .u64 n] w fun e w' => e = .returned (.int .u16 (cn n)) ∧ w = w' := by
  go_enter Try.func148, Try.ntmps148
  go_wp2_with fail
  go_loop [0] (fun v => ∃ x : Int, 0 ≤ x ∧ x ≤ n ∧ cn x = cn n ∧ v = .int .u64 x) (fun v => (intOf v).toNat)
  case atStart => exact ⟨n, h0, Int.le_refl _, rfl, rfl⟩
  case round =>
    obtain ⟨x, x0, x1, hx, rfl⟩ := hrel
    have HX := Lib.hid hx
    clear hx
    by_cases hlt : 65535 < x
    · go_wp2_with fail
      go_round
      case rel =>
        rw [and_low16 x (by omega) (by omega), IntWalk.u64_in _ (by omega)]
        exact ⟨_, by omega, by omega, (cn_fold hlt).trans HX.out, rfl⟩
      case measure => 
        rw [and_low16 x (by omega) (by omega), IntWalk.u64_in _ (by omega)]
        simp [intOf]; omega
    · go_wp2_with fail
      go_ret
      exact ⟨ret_int (by rw [← HX.out, cn_small x0 (by omega)]), rfl⟩

theorem plus_any (a b : Int) (w : World) (a0 : 0 ≤ a) (a1 : a ≤ 65535) (b0 : 0 ≤ b) (b1 : b ≤ 65535) :
    Calls Try.prog 149 #[.int .u16 a, .int .u16 b] w fun e w' => e = .returned (.int .u16 (cn (a + b))) ∧ w = w' := by
  have hp := Lib.hid (cn_plus a0 a1 b0 b1)
  by_cases h : 65535 < a + b
  · go_enter Try.func149, Try.ntmps149
    go_wp2_with fail
    go_ret
    exact ⟨ret_int (by rw [hp.out, if_pos h]), rfl⟩
  · go_enter Try.func149, Try.ntmps149
    go_wp2_with fail
    go_ret
    exact ⟨ret_int (by rw [hp.out, if_neg (by omega)]), rfl⟩

theorem add1_any (h l n : Int) (c : Nat) (w : World) (hc : w.heap[c]? = some (.cells #[.int .u64 n] 37 (0, 0))) (h0 : 0 ≤ h) (h1 : h ≤ 255) (l0 : 0 ≤ l) (l1 : l ≤ 255) (n0 : 0 ≤ n) (n1 : n ≤ 1152921504606846976) :
    Calls Try.prog 147 #[.int .u8 h, .int .u8 l, .pointer (some ⟨c, 0, none⟩)] w fun e w' => e = .returned (.tuple #[]) ∧ But c w w' ∧ w'.heap[c]? = some (.cells #[.int .u64 (n + (h * 256 + l))] 37 (0, 0)) := by
  have c0 := cell_of 0 hc rfl
  have f0 := free_of 0 hc
  have HC := Lib.hid hc
  clear hc
  go_enter Try.func147, Try.ntmps147
  go_wp2_with fail
  go_end0
  refine ⟨rfl, But.set1 _ _ _ _, ?_⟩
  rw [heap_setCell HC.out]
  rfl

theorem xor_ones (x : Nat) (h : x < 65536) : 65535 ^^^ x = 65535 - x := by
  apply Nat.eq_of_testBit_eq
  intro i
  have e1 : Nat.testBit 65535 i = decide (i < 16) := Nat.testBit_two_pow_sub_one 16 i
  have e2 : Nat.testBit (65535 - x) i = (decide (i < 16) && !Nat.testBit x i) := by
    rw [show 65535 - x = 2 ^ 16 - (x + 1) from by omega, Nat.testBit_two_pow_sub_succ (by omega)]
  rw [Nat.testBit_xor, e1, e2]
  by_cases hi : i < 16
  · simp [hi]
  · have : Nat.testBit x i = false := Nat.testBit_lt_two_pow (Nat.lt_of_lt_of_le (show x < 2 ^ 16 from h) (Nat.pow_le_pow_right (show 0 < 2 by omega) (show 16 ≤ i by omega)))
    simp [hi, this]
theorem not_u16 (s : Int) (s0 : 0 ≤ s) (s1 : s ≤ 65535) : bits BinOp.xor IntKind.u16 IntKind.u16.max s = 65535 - s := by
  have := u16_xor IntKind.u16.max s (by decide) (by decide) s0 (by omega)
  rw [this, show IntKind.u16.max.toNat = 65535 from by decide, xor_ones _ (by omega)]
  omega

theorem end_any (s : Int) (o : Bool) (w : World) (s0 : 0 ≤ s) (s1 : s ≤ 65535) :
    Calls Try.prog 117 #[.agg #[.int .u16 s, .bool o]] w fun e w' => e = .returned (.int .u16 (65535 - s)) ∧ Below w.heap.size w w' := by
  go_enter Try.func117, Try.ntmps117
  go_wp2_with fail
  go_ret
  refine ⟨ret_int ?_, (Below.refl _ _).alloc (Nat.le_refl _) _⟩
  exact not_u16 s s0 s1

theorem rend_any (s : Int) (o : Bool) (w : World) (s0 : 0 ≤ s) (s1 : s ≤ 65535) :
    Calls Try.prog 121 #[.agg #[.int .u16 s, .bool o]] w fun e w' => e = .returned (.int .u16 (65535 - s)) ∧ Below w.heap.size w w' := by
  go_enter Try.func121, Try.ntmps121
  go_wp2_with fail
  go_ret
  exact ⟨ret_int (by simp), (Below.refl _ _).alloc (Nat.le_refl _) _⟩

set_option maxRecDepth 100000 in
set_option maxHeartbeats 1000000 in
theorem radd_any (s : Int) (o : Bool) (ao : Option Addr) (len cap : Nat) (zs : List Int) (w : World) (s0 : 0 ≤ s) (s1 : s ≤ 65535) (hz : zs.length = len) (hm : len ≤ 1099511627776)
    (hc : ∀ i, i < len → ∃ b off, ao = some ⟨b, off, none⟩ ∧ b < w.heap.size ∧ w.cell? ⟨b, off + i, none⟩ = some (.int .u8 (zs.getD i 0))) (hb : ∀ x ∈ zs, 0 ≤ x ∧ x ≤ 255) :
    Calls Try.prog 122 #[.agg #[.int .u16 s, .bool o], .slice ao len cap] w fun e w' => e = .returned (.agg #[.int .u16 (sumTo s o zs), .bool (par o len)]) ∧ Below w.heap.size w w' := by
  have HC := Lib.hid hc
  have HZ := Lib.hid hz
  have HB := Lib.hid hb
  clear hc hz hb
  go_enter Try.func122, Try.ntmps122
  go_wp2_with fail
  have X : Hid (((w.alloc (Obj.cells #[Value.int IntKind.u16 s, Value.bool o] 194)).alloc (Obj.cells #[Value.int IntKind.u16 0, Value.bool false] 194)).heap[w.heap.size]? = some (.cells #[.int .u16 s, .bool o] 194 (0, 0))) := hold_alloc (heap_alloc_new w _)
  have Y : Hid (((w.alloc (Obj.cells #[Value.int IntKind.u16 s, Value.bool o] 194)).alloc (Obj.cells #[Value.int IntKind.u16 0, Value.bool false] 194)).heap[w.heap.size + 1]? = some (.cells #[.int .u16 0, .bool false] 194 (0, 0))) := by
    have := heap_alloc_new (w.alloc (Obj.cells #[Value.int IntKind.u16 s, Value.bool o] 194)) (Obj.cells #[Value.int IntKind.u16 0, Value.bool false] 194); rwa [World.size_alloc] at this
  have B := Lib.hid (((Below.refl w.heap.size w).alloc (Nat.le_refl _) (Obj.cells #[Value.int IntKind.u16 s, Value.bool o] 194)).alloc (by simp) (Obj.cells #[Value.int IntKind.u16 0, Value.bool false] 194))
  generalize (w.alloc (Obj.cells #[Value.int IntKind.u16 s, Value.bool o] 194)).alloc (Obj.cells #[Value.int IntKind.u16 0, Value.bool false] 194) = w1 at *
  go_loopw [5] (fun i wr => ∃ k : Nat, k ≤ len ∧ i = .int .i64 k ∧ Hid (Below w.heap.size w wr) ∧ Hid (wr.heap[w.heap.size]? = some (.cells #[.int .u16 (sumTo s o (zs.take k)), .bool (par o k)] 194 (0, 0))) ∧
      Hid (wr.heap[w.heap.size + 1]? = some (.cells #[.int .u16 0, .bool false] 194 (0, 0)))) (fun i _ => len - (intOf i).toNat)
  case atStart =>
    refine ⟨0, by omega, rfl, B, ?_, Y⟩
    rw [List.take_zero, par_zero, show sumTo s o [] = s from by cases o <;> simp [sumTo, ws, cn_small s0 s1]]
    exact X
  case round =>
    obtain ⟨k, hk, rfl, hB, hX, hY⟩ := hrel
    clear X Y B
    by_cases hlt : k < len
    · obtain ⟨b, off, rfl, hbl, hcell⟩ := HC.out k hlt
      have hcw : wr.cell? ⟨b, off + k, none⟩ = some (.int .u8 (zs.getD k 0)) := (hB.out.cell (p := ⟨b, off + k, none⟩) hbl).trans hcell
      clear hcell
      have hzk := HB.out (zs.getD k 0) (by rw [List.getD_eq_getElem?_getD, List.getElem?_eq_getElem (by have := HZ.out; omega)]; exact List.getElem_mem _)
      have hsum : sumTo s o (zs.take (k + 1)) = cn (sumTo s o (zs.take k) + (if par o k = true then zs.getD k 0 else zs.getD k 0 * 256)) := by
        unfold sumTo
        have h1 := (ws_nonneg o (zs.take k) (fun x hx => HB.out x (List.mem_of_mem_take hx))).1
        rw [cn_add (by omega) (by split <;> omega), ws_take_succ (by have := HZ.out; omega), Int.add_assoc]
      obtain ⟨z, hz⟩ : ∃ z, zs.getD k 0 = z := ⟨_, rfl⟩
      rw [hz] at hcw hzk hsum
      have hr := cn_range (n := s + ws o (zs.take k)) (by have := (ws_nonneg o (zs.take k) (fun x hx => HB.out x (List.mem_of_mem_take hx))).1; omega)
      have HS := Lib.hid hsum
      clear hsum hz
      obtain ⟨t, ht⟩ : ∃ t, sumTo s o (zs.take k) = t := ⟨_, rfl⟩
      have hr' : 0 ≤ t ∧ t ≤ 65535 := by rw [← ht]; exact hr
      rw [ht] at hX HS
      clear hr ht
      have ps := par_succ o k
      obtain ⟨q, hq⟩ : ∃ q, par o k = q := ⟨_, rfl⟩
      rw [hq] at hX HS ps
      have HP := Lib.hid ps
      clear ps hq
      have x0 := cell_of 0 hX.out rfl
      have x1 := cell_of 1 hX.out rfl
      have f0 := free_of 0 hX.out
      have f1 := free_of 1 hX.out
      obtain ⟨z0, z1⟩ := hzk
      obtain ⟨t0, t1⟩ := hr'
      cases q
      all_goals
        go_wp2_with fail
        refine (plus_any _ _ _ t0 t1 (by omega) (by omega)).mono ?_
        rintro e w2 ⟨rfl, rfl⟩
        go_wp2_with fail
        go_roundw
        case rel =>
          refine ⟨k + 1, by omega, by go_num, ?_, ?_, ?_⟩
          · exact (hB.out.setCell (p := ⟨w.heap.size, 0, none⟩) (Nat.le_refl _) _).setCell (p := ⟨w.heap.size, 1, none⟩) (Nat.le_refl _) _
          · show Hid _
            have := heap_setCell (i := 1) (u := .bool (par o (k + 1))) (heap_setCell (i := 0) (u := .int .u16 (sumTo s o (zs.take (k + 1)))) hX.out)
            rw [HP.out, HS.out] at this ⊢
            exact this
          · exact (But.set1 _ _ _ _).at ((But.set1 _ _ _ _).at hY.out (by omega)) (by omega)
        case measure => simp [intOf]; omega
    · have hkl : k = len := by omega
      have HKL := Lib.hid hkl
      clear hkl
      have x0 := cell_of 0 hX.out rfl
      have x1 := cell_of 1 hX.out rfl
      have y0 := free_of 0 hY.out
      have y1 := free_of 1 hY.out
      have yc0 : wr.cell? ⟨w.heap.size + 1, 0, none⟩ = some (.int .u16 0) := cell_of 0 hY.out rfl
      have yc1 : wr.cell? ⟨w.heap.size + 1, 1, none⟩ = some (.bool false) := cell_of 1 hY.out rfl
      go_wp2_with fail
      refine bodyPost_ret (v := .agg #[.int .u16 (sumTo s o (zs.take k)), .bool (par o k)]) (by simp [results, Try.results122, go_sem, yc0, yc1]) rfl ⟨?_, ?_⟩
      · rw [HKL.out, ← HZ.out, List.take_length]
      · exact (hB.out.setCell (p := ⟨w.heap.size + 1, 0, none⟩) (by simp) _).setCell (p := ⟨w.heap.size + 1, 1, none⟩) (by simp) _
end Go.Proofs.Ytmdafjegddnecaa
