/- The law SegBack as a function of values: where the TCP reader accepts. -/
import Derived.Test.YtcbjjkpjbdcakaaRb
import Derived.Test.YtcbjjkpjbdcakaaRc
import Derived.Test.YtcbjjkpjbdcakaaRf
namespace Go.Proofs.Ytcbjjkpjbdcakaa
open Go.Pm
set_option linter.unusedVariables false
set_option linter.unusedSimpArgs false
set_option maxRecDepth 1000000
def OkB (v6 : Bool) (ss ds zs W : List Int) (n : Nat) : Prop := tcpV v6 ss ds zs = tcpR zs n ∧ 20 ≤ zs.length ∧ 20 ≤ n ∧ n ≤ zs.length ∧ goodW ss ds (zs.drop n) (zs.length - n) ∧ goodT (gb zs 12 % 16) (gb zs 13) ((zs.drop 20).take (n - 20)) ∧
  wtcpV v6 ss ds (w16 zs 0) (w16 zs 2) (w32 zs 4) (w32 zs 8) (gb zs 12 % 16) (gb zs 13) (w16 zs 14) (w16 zs 18) ((zs.drop 20).take (n - 20)) (zs.drop n) = wR W ∧ W.length = zs.length ∧ ∀ i, i ≠ 16 → i ≠ 17 → W.getD i 0 = zs.getD i 0
def OkV (v6 : Bool) (ss ds zs V : List Int) (no : Bool) : Prop := udpV v6 ss ds zs = (.tup [udpA (w16 zs 0) (w16 zs 2) no, .own 0 0 0 (zs.length - 8) 1 (.whole 5), .v (.int .i64 0)], [B8 (zs.drop 8)]) ∧ 8 ≤ zs.length ∧ goodW ss ds (zs.drop 8) (zs.length - 8) ∧
  wudpV v6 ss ds (w16 zs 0) (w16 zs 2) no (zs.drop 8) = wR V ∧ V.length = zs.length ∧ V.take 6 = zs.take 6 ∧ V.drop 8 = zs.drop 8
set_option maxHeartbeats 8000000 in
theorem back_ee (zs W O : List Int) (v6 : Bool) (ss ds : List Int) (nn : Bool) (cap : Option Nat) (at_ x : Int) (n i : Nat) (h : zs.length ≤ 1600) (hg : goodIn ss ds zs zs.length) (hB : OkB v6 ss ds zs W n)
    (hi : (IntKind.u64.wrap at_).tmod (zs.length : Int) = (i : Int)) (hi2 : i < zs.length) (hO : zs.set i (bits .xor .u8 (gb zs i) x) = O) (gO : goodIn ss ds O zs.length) (e3 : Int) (hG : ¬ i = 12 → ¬ x = 0 → e3 = 6) (rO : tcpV v6 ss ds O = errT e3)
    (e2 : Int) (n2 : ¬ e2 = 0) (r2 : udpV v6 ss ds zs = errU e2) :
    (pvCall Try.prog K6 Dm 100000 1 0 5 [.v (.bool v6), .agg (B8 ss), .agg (B8 ds), .sl nn (B8 zs) zs.length cap, .v (.int .i64 at_), .v (.int .u8 x)] (fun _ => none)).map (·.1) = some (.v (.bool true)) := by
  obtain ⟨r1, h20, hn1, hn2, gW, gT, hw, hWl, hWe⟩ := hB
  have be2 : (e2 == 0) = false := by simp [n2]
  have h1 : ¬ (1600 : Int) < (zs.length : Int) := by omega
  have t1 : ss.take 16 = ss := List.take_of_length_le (by have := hg.2.2.1; omega)
  have t2 : ds.take 16 = ds := List.take_of_length_le (by have := hg.2.2.2.1; omega)
  have s1 : ss.length = 16 := hg.2.2.1
  have s2 : ds.length = 16 := hg.2.2.2.1
  have ol : min (n - 20) (zs.length - 20) = n - 20 := by omega
  have k1 : (zs.drop n).take (zs.length - n) = zs.drop n := List.take_of_length_le (by simp)
  have k2 : ((zs.drop 20).take (n - 20)).take (n - 20) = (zs.drop 20).take (n - 20) := List.take_of_length_le (by simp; omega)
  have m1 : n - 20 ≤ 1700 := by omega
  rw [pvCall_own (fn := Try.f5) rfl Try.func5 rfl (by decide) rfl rfl (by simp)]
  simp -implicitDefEqProofs [h1, fKnown, fTCP, fUDP, fWTCP, tcpR, tcpH, asTcp, hg, r1, hw, wR, hWl, t1, t2, s1, s2, splice, ol, gW, gT, hn1, hn2, m1, k1, k2, Nat.testBit_eq_decide_div_mod_eq]
  generalize hL : loopK _ _ _ _ _ _ _ _ _ ⟨_, _⟩ = R
  have hF : 0 < zs.length := by omega
  obtain ⟨t', rfl, hk⟩ := loop_met hL [18, 63, 64, 65, 66, 67, 68, 69, 70, 71, 72, 73, 74, 75, 76, 77, 78, 79, 80, 81, 82, 83] 63 zs.length 0 (by simp) (by omega) (fun j t hj hk hc => by
      have e16 := hk 16 (by decide)
      have e3 := hk 3 (by decide)
      have e62 := hk 62 (by decide)
      simp at e16 e3 e62
      have j1 : (j : Int) < (zs.length : Int) := by omega
      have w1 : IntKind.i64.wrap ((j : Int) + 1) = ((j + 1 : Nat) : Int) := by rw [wrap64_id (by omega) (by omega)]; omega
      have a1 := B8_at0 zs j hj
      have a2 := B8_at0 W j (by omega)
      have j2 : j ≤ zs.length := by omega
      have hq : (gb W j = gb zs j) ∨ j = 16 ∨ j = 17 := by
        by_cases h16 : j = 16
        · exact .inr (.inl h16)
        by_cases h17 : j = 17
        · exact .inr (.inr h17)
        exact .inl (hWe j h16 h17)
      by_cases hq' : gb W j = gb zs j
      · refine ⟨?t0, ?a0, ?b0, ?c0⟩
        case a0 =>
          simp -implicitDefEqProofs [hc, e16, e3, e62, j1, j2, hj, hWl, w1, a1, a2, hq', splice]
          exact rfl
        case b0 =>
          repeat' refine Kept.upd ?_ (by decide) _
          exact hk
        case c0 => simp
      · rcases hq with hq | rfl | rfl
        · exact absurd hq hq'
        · have j5 : (16 : Int) < zs.length := by omega
          have hqn : (gb W 16 != gb zs 16) = true := by simp [hq']
          have hqe : (gb W 16 == gb zs 16) = false := by simp [hq']
          refine ⟨?t1, ?a1, ?b1, ?c1⟩
          case a1 =>
            simp -implicitDefEqProofs [hc, e16, e3, e62, j1, j2, hj, hWl, w1, a1, a2, hq', hqn, hqe, j5, splice]
            exact rfl
          case b1 =>
            repeat' refine Kept.upd ?_ (by decide) _
            exact hk
          case c1 => simp
        · have j5 : (17 : Int) < zs.length := by omega
          have hqn : (gb W 17 != gb zs 17) = true := by simp [hq']
          have hqe : (gb W 17 == gb zs 17) = false := by simp [hq']
          refine ⟨?t2, ?a2, ?b2, ?c2⟩
          case a2 =>
            simp -implicitDefEqProofs [hc, e16, e3, e62, j1, j2, hj, hWl, w1, a1, a2, hq', hqn, hqe, j5, splice]
            exact rfl
          case b2 =>
            repeat' refine Kept.upd ?_ (by decide) _
            exact hk
          case c2 => simp)
      (fun t hk hc => by
      have e62 := hk 62 (by decide)
      simp at e62
      refine ⟨?t, ?a, ?b⟩
      case a =>
        simp -implicitDefEqProofs [hc, e62]
        exact rfl
      case b =>
        repeat' refine Kept.upd ?_ (by decide) _
        exact hk)
  have f0 := hk 0 (by decide)
  have f3 := hk 3 (by decide)
  have f4 := hk 4 (by decide)
  have f5 := hk 5 (by decide)
  have f7 := hk 7 (by decide)
  have f8 := hk 8 (by decide)
  have f12 := hk 12 (by decide)
  have f13 := hk 13 (by decide)
  have f14 := hk 14 (by decide)
  have f15 := hk 15 (by decide)
  have f16 := hk 16 (by decide)
  have f17 := hk 17 (by decide)
  simp at f0 f3 f4 f5 f7 f8 f12 f13 f14 f15 f16 f17
  have u1 : IntKind.u64.wrap (zs.length : Int) = (zs.length : Int) := by simp [IntKind.wrap, IntKind.signed, IntKind.bits]; omega
  have u2 : ¬ zs = [] := by intro h; rw [h] at hF; simp at hF
  have u3 : IntKind.i64.wrap (i : Int) = (i : Int) := wrap64_id (by omega) (by omega)
  have u4 : (i : Int) < (zs.length : Int) := by omega
  have u5 : i ≤ zs.length := by omega
  have u9 : i + 1 ≤ zs.length := by omega
  have u6 : zs.length ≤ 549755813888 := by omega
  have u7 : zs.take zs.length = zs := List.take_length
  have u8 := B8_at0 zs i hi2
  have hO2 : List.take zs.length (List.take i zs ++ bits .xor .u8 (gb zs i) x :: List.drop (i + 1) zs) = O := by
    rw [← hO, List.set_eq_take_append_cons_drop, if_pos hi2, List.take_of_length_le (by simp; omega)]
  by_cases h12 : i = 12
  · subst h12
    have hc12 : (12 : Int) < (zs.length : Int) := by omega
    simp -implicitDefEqProofs [hc12, u9, u1, u2, u3, u4, u5, u6, u7, u8, hi, hi2, hO2, gO, rO, errT, noT, errU, noU, r2, n2, be2, f0, f3, f4, f5, f7, f8, f12, f13, f14, f15, f16, f17, h1, fKnown, fTCP, fUDP, fWTCP, tcpR, tcpH, asTcp, hg, r1, hw, wR, hWl, t1, t2, s1, s2, splice, ol, gW, gT, hn1, hn2, m1, k1, k2, Nat.testBit_eq_decide_div_mod_eq]
  have hin : ((i : Int) != 12) = true := by simp; omega
  have hie : ((i : Int) == 12) = false := by simp; omega
  have hi3 : ¬ (i : Int) = 12 := by omega
  by_cases hx : x = 0
  · subst hx
    simp -implicitDefEqProofs [hin, hie, hi3, h12, u9, u1, u2, u3, u4, u5, u6, u7, u8, hi, hi2, hO2, gO, rO, errT, noT, errU, noU, r2, n2, be2, f0, f3, f4, f5, f7, f8, f12, f13, f14, f15, f16, f17, h1, fKnown, fTCP, fUDP, fWTCP, tcpR, tcpH, asTcp, hg, r1, hw, wR, hWl, t1, t2, s1, s2, splice, ol, gW, gT, hn1, hn2, m1, k1, k2, Nat.testBit_eq_decide_div_mod_eq]
  have hxn : (x != 0) = true := by simp [hx]
  have hxe : (x == 0) = false := by simp [hx]
  have h6 := hG h12 hx
  subst h6
  simp -implicitDefEqProofs [hx, hxn, hxe, hin, hie, hi3, h12, u9, u1, u2, u3, u4, u5, u6, u7, u8, hi, hi2, hO2, gO, rO, errT, noT, errU, noU, r2, n2, be2, f0, f3, f4, f5, f7, f8, f12, f13, f14, f15, f16, f17, h1, fKnown, fTCP, fUDP, fWTCP, tcpR, tcpH, asTcp, hg, r1, hw, wR, hWl, t1, t2, s1, s2, splice, ol, gW, gT, hn1, hn2, m1, k1, k2, Nat.testBit_eq_decide_div_mod_eq]
set_option maxHeartbeats 8000000 in
theorem back_eo (zs W O : List Int) (v6 : Bool) (ss ds : List Int) (nn : Bool) (cap : Option Nat) (at_ x : Int) (n i : Nat) (h : zs.length ≤ 1600) (hg : goodIn ss ds zs zs.length) (hB : OkB v6 ss ds zs W n)
    (hi : (IntKind.u64.wrap at_).tmod (zs.length : Int) = (i : Int)) (hi2 : i < zs.length) (hO : zs.set i (bits .xor .u8 (gb zs i) x) = O) (gO : goodIn ss ds O zs.length) (e3 : Int) (hG : ¬ i = 12 → ¬ x = 0 → e3 = 6) (rO : tcpV v6 ss ds O = errT e3)
    (V : List Int) (no : Bool) (hU : OkV v6 ss ds zs V no) :
    (pvCall Try.prog K6 Dm 100000 1 0 5 [.v (.bool v6), .agg (B8 ss), .agg (B8 ds), .sl nn (B8 zs) zs.length cap, .v (.int .i64 at_), .v (.int .u8 x)] (fun _ => none)).map (·.1) = some (.v (.bool true)) := by
  obtain ⟨r1, h20, hn1, hn2, gW, gT, hw, hWl, hWe⟩ := hB
  obtain ⟨ub, u10, gU, rW, vl, v6t, v8d⟩ := hU
  have u12 : zs.length - 8 ≤ 1700 := by omega
  have u13 : (zs.drop 8).take (zs.length - 8) = zs.drop 8 := List.take_of_length_le (by simp)
  have u14 : 6 ≤ zs.length := by omega
  have u11 : (8 : Int) ≤ (zs.length : Int) := by omega
  have u15 : (6 : Int) ≤ (zs.length : Int) := by omega
  have u16 : (zs.take 6).length = 6 := by simp; omega
  have u17 : ((zs.drop 8).take (zs.length - 8)) = zs.drop 8 := List.take_of_length_le (by simp)
  have ue : min 6 zs.length = 6 := by omega
  have uf : (zs.take 6).take 6 = zs.take 6 := List.take_of_length_le (by omega)
  have u18 : zs.length - 8 ≤ 549755813888 := by omega
  have u19 : zs.length ≤ 549755813896 := by omega
  have h1 : ¬ (1600 : Int) < (zs.length : Int) := by omega
  have t1 : ss.take 16 = ss := List.take_of_length_le (by have := hg.2.2.1; omega)
  have t2 : ds.take 16 = ds := List.take_of_length_le (by have := hg.2.2.2.1; omega)
  have s1 : ss.length = 16 := hg.2.2.1
  have s2 : ds.length = 16 := hg.2.2.2.1
  have ol : min (n - 20) (zs.length - 20) = n - 20 := by omega
  have k1 : (zs.drop n).take (zs.length - n) = zs.drop n := List.take_of_length_le (by simp)
  have k2 : ((zs.drop 20).take (n - 20)).take (n - 20) = (zs.drop 20).take (n - 20) := List.take_of_length_le (by simp; omega)
  have m1 : n - 20 ≤ 1700 := by omega
  rw [pvCall_own (fn := Try.f5) rfl Try.func5 rfl (by decide) rfl rfl (by simp)]
  simp -implicitDefEqProofs [h1, fKnown, fTCP, fUDP, fWTCP, tcpR, tcpH, asTcp, hg, r1, hw, wR, hWl, t1, t2, s1, s2, splice, ol, gW, gT, hn1, hn2, m1, k1, k2, Nat.testBit_eq_decide_div_mod_eq]
  generalize hL : loopK _ _ _ _ _ _ _ _ _ ⟨_, _⟩ = R
  have hF : 0 < zs.length := by omega
  obtain ⟨t', rfl, hk⟩ := loop_met hL [18, 63, 64, 65, 66, 67, 68, 69, 70, 71, 72, 73, 74, 75, 76, 77, 78, 79, 80, 81, 82, 83] 63 zs.length 0 (by simp) (by omega) (fun j t hj hk hc => by
      have e16 := hk 16 (by decide)
      have e3 := hk 3 (by decide)
      have e62 := hk 62 (by decide)
      simp at e16 e3 e62
      have j1 : (j : Int) < (zs.length : Int) := by omega
      have w1 : IntKind.i64.wrap ((j : Int) + 1) = ((j + 1 : Nat) : Int) := by rw [wrap64_id (by omega) (by omega)]; omega
      have a1 := B8_at0 zs j hj
      have a2 := B8_at0 W j (by omega)
      have j2 : j ≤ zs.length := by omega
      have hq : (gb W j = gb zs j) ∨ j = 16 ∨ j = 17 := by
        by_cases h16 : j = 16
        · exact .inr (.inl h16)
        by_cases h17 : j = 17
        · exact .inr (.inr h17)
        exact .inl (hWe j h16 h17)
      by_cases hq' : gb W j = gb zs j
      · refine ⟨?t0, ?a0, ?b0, ?c0⟩
        case a0 =>
          simp -implicitDefEqProofs [hc, e16, e3, e62, j1, j2, hj, hWl, w1, a1, a2, hq', splice]
          exact rfl
        case b0 =>
          repeat' refine Kept.upd ?_ (by decide) _
          exact hk
        case c0 => simp
      · rcases hq with hq | rfl | rfl
        · exact absurd hq hq'
        · have j5 : (16 : Int) < zs.length := by omega
          have hqn : (gb W 16 != gb zs 16) = true := by simp [hq']
          have hqe : (gb W 16 == gb zs 16) = false := by simp [hq']
          refine ⟨?t1, ?a1, ?b1, ?c1⟩
          case a1 =>
            simp -implicitDefEqProofs [hc, e16, e3, e62, j1, j2, hj, hWl, w1, a1, a2, hq', hqn, hqe, j5, splice]
            exact rfl
          case b1 =>
            repeat' refine Kept.upd ?_ (by decide) _
            exact hk
          case c1 => simp
        · have j5 : (17 : Int) < zs.length := by omega
          have hqn : (gb W 17 != gb zs 17) = true := by simp [hq']
          have hqe : (gb W 17 == gb zs 17) = false := by simp [hq']
          refine ⟨?t2, ?a2, ?b2, ?c2⟩
          case a2 =>
            simp -implicitDefEqProofs [hc, e16, e3, e62, j1, j2, hj, hWl, w1, a1, a2, hq', hqn, hqe, j5, splice]
            exact rfl
          case b2 =>
            repeat' refine Kept.upd ?_ (by decide) _
            exact hk
          case c2 => simp)
      (fun t hk hc => by
      have e62 := hk 62 (by decide)
      simp at e62
      refine ⟨?t, ?a, ?b⟩
      case a =>
        simp -implicitDefEqProofs [hc, e62]
        exact rfl
      case b =>
        repeat' refine Kept.upd ?_ (by decide) _
        exact hk)
  have f0 := hk 0 (by decide)
  have f3 := hk 3 (by decide)
  have f4 := hk 4 (by decide)
  have f5 := hk 5 (by decide)
  have f7 := hk 7 (by decide)
  have f8 := hk 8 (by decide)
  have f12 := hk 12 (by decide)
  have f13 := hk 13 (by decide)
  have f14 := hk 14 (by decide)
  have f15 := hk 15 (by decide)
  have f16 := hk 16 (by decide)
  have f17 := hk 17 (by decide)
  simp at f0 f3 f4 f5 f7 f8 f12 f13 f14 f15 f16 f17
  have u1 : IntKind.u64.wrap (zs.length : Int) = (zs.length : Int) := by simp [IntKind.wrap, IntKind.signed, IntKind.bits]; omega
  have u2 : ¬ zs = [] := by intro h; rw [h] at hF; simp at hF
  have u3 : IntKind.i64.wrap (i : Int) = (i : Int) := wrap64_id (by omega) (by omega)
  have u4 : (i : Int) < (zs.length : Int) := by omega
  have u5 : i ≤ zs.length := by omega
  have u9 : i + 1 ≤ zs.length := by omega
  have u6 : zs.length ≤ 549755813888 := by omega
  have u7 : zs.take zs.length = zs := List.take_length
  have u8 := B8_at0 zs i hi2
  have hO2 : List.take zs.length (List.take i zs ++ bits .xor .u8 (gb zs i) x :: List.drop (i + 1) zs) = O := by
    rw [← hO, List.set_eq_take_append_cons_drop, if_pos hi2, List.take_of_length_le (by simp; omega)]
  by_cases h12 : i = 12
  · subst h12
    have hc12 : (12 : Int) < (zs.length : Int) := by omega
    simp -implicitDefEqProofs [hc12, u9, u1, u2, u3, u4, u5, u6, u7, u8, hi, hi2, hO2, gO, rO, errT, noT, udpA, fWUDP, ub, u10, u11, u12, u13, u14, u15, gU, rW, vl, v6t, v8d, u16, u17, u18, u19, ue, uf, f0, f3, f4, f5, f7, f8, f12, f13, f14, f15, f16, f17, h1, fKnown, fTCP, fUDP, fWTCP, tcpR, tcpH, asTcp, hg, r1, hw, wR, hWl, t1, t2, s1, s2, splice, ol, gW, gT, hn1, hn2, m1, k1, k2, Nat.testBit_eq_decide_div_mod_eq]
  have hin : ((i : Int) != 12) = true := by simp; omega
  have hie : ((i : Int) == 12) = false := by simp; omega
  have hi3 : ¬ (i : Int) = 12 := by omega
  by_cases hx : x = 0
  · subst hx
    simp -implicitDefEqProofs [hin, hie, hi3, h12, u9, u1, u2, u3, u4, u5, u6, u7, u8, hi, hi2, hO2, gO, rO, errT, noT, udpA, fWUDP, ub, u10, u11, u12, u13, u14, u15, gU, rW, vl, v6t, v8d, u16, u17, u18, u19, ue, uf, f0, f3, f4, f5, f7, f8, f12, f13, f14, f15, f16, f17, h1, fKnown, fTCP, fUDP, fWTCP, tcpR, tcpH, asTcp, hg, r1, hw, wR, hWl, t1, t2, s1, s2, splice, ol, gW, gT, hn1, hn2, m1, k1, k2, Nat.testBit_eq_decide_div_mod_eq]
  have hxn : (x != 0) = true := by simp [hx]
  have hxe : (x == 0) = false := by simp [hx]
  have h6 := hG h12 hx
  subst h6
  simp -implicitDefEqProofs [hx, hxn, hxe, hin, hie, hi3, h12, u9, u1, u2, u3, u4, u5, u6, u7, u8, hi, hi2, hO2, gO, rO, errT, noT, udpA, fWUDP, ub, u10, u11, u12, u13, u14, u15, gU, rW, vl, v6t, v8d, u16, u17, u18, u19, ue, uf, f0, f3, f4, f5, f7, f8, f12, f13, f14, f15, f16, f17, h1, fKnown, fTCP, fUDP, fWTCP, tcpR, tcpH, asTcp, hg, r1, hw, wR, hWl, t1, t2, s1, s2, splice, ol, gW, gT, hn1, hn2, m1, k1, k2, Nat.testBit_eq_decide_div_mod_eq]
set_option maxHeartbeats 8000000 in
theorem back_re (zs W O : List Int) (v6 : Bool) (ss ds : List Int) (nn : Bool) (cap : Option Nat) (at_ x : Int) (n i : Nat) (h : zs.length ≤ 1600) (hg : goodIn ss ds zs zs.length) (hB : OkB v6 ss ds zs W n)
    (hi : (IntKind.u64.wrap at_).tmod (zs.length : Int) = (i : Int)) (hi2 : i < zs.length) (hO : zs.set i (bits .xor .u8 (gb zs i) x) = O) (gO : goodIn ss ds O zs.length) (n3 : Nat) (h20o : 20 ≤ n3) (h21o : n3 ≤ zs.length) (hG : ¬ i = 12 → ¬ x = 0 → False) (rO : tcpV v6 ss ds O = tcpR O n3)
    (e2 : Int) (n2 : ¬ e2 = 0) (r2 : udpV v6 ss ds zs = errU e2) :
    (pvCall Try.prog K6 Dm 100000 1 0 5 [.v (.bool v6), .agg (B8 ss), .agg (B8 ds), .sl nn (B8 zs) zs.length cap, .v (.int .i64 at_), .v (.int .u8 x)] (fun _ => none)).map (·.1) = some (.v (.bool true)) := by
  obtain ⟨r1, h20, hn1, hn2, gW, gT, hw, hWl, hWe⟩ := hB
  have be2 : (e2 == 0) = false := by simp [n2]
  have h1 : ¬ (1600 : Int) < (zs.length : Int) := by omega
  have t1 : ss.take 16 = ss := List.take_of_length_le (by have := hg.2.2.1; omega)
  have t2 : ds.take 16 = ds := List.take_of_length_le (by have := hg.2.2.2.1; omega)
  have s1 : ss.length = 16 := hg.2.2.1
  have s2 : ds.length = 16 := hg.2.2.2.1
  have ol : min (n - 20) (zs.length - 20) = n - 20 := by omega
  have k1 : (zs.drop n).take (zs.length - n) = zs.drop n := List.take_of_length_le (by simp)
  have k2 : ((zs.drop 20).take (n - 20)).take (n - 20) = (zs.drop 20).take (n - 20) := List.take_of_length_le (by simp; omega)
  have m1 : n - 20 ≤ 1700 := by omega
  rw [pvCall_own (fn := Try.f5) rfl Try.func5 rfl (by decide) rfl rfl (by simp)]
  simp -implicitDefEqProofs [h1, fKnown, fTCP, fUDP, fWTCP, tcpR, tcpH, asTcp, hg, r1, hw, wR, hWl, t1, t2, s1, s2, splice, ol, gW, gT, hn1, hn2, m1, k1, k2, Nat.testBit_eq_decide_div_mod_eq]
  generalize hL : loopK _ _ _ _ _ _ _ _ _ ⟨_, _⟩ = R
  have hF : 0 < zs.length := by omega
  obtain ⟨t', rfl, hk⟩ := loop_met hL [18, 63, 64, 65, 66, 67, 68, 69, 70, 71, 72, 73, 74, 75, 76, 77, 78, 79, 80, 81, 82, 83] 63 zs.length 0 (by simp) (by omega) (fun j t hj hk hc => by
      have e16 := hk 16 (by decide)
      have e3 := hk 3 (by decide)
      have e62 := hk 62 (by decide)
      simp at e16 e3 e62
      have j1 : (j : Int) < (zs.length : Int) := by omega
      have w1 : IntKind.i64.wrap ((j : Int) + 1) = ((j + 1 : Nat) : Int) := by rw [wrap64_id (by omega) (by omega)]; omega
      have a1 := B8_at0 zs j hj
      have a2 := B8_at0 W j (by omega)
      have j2 : j ≤ zs.length := by omega
      have hq : (gb W j = gb zs j) ∨ j = 16 ∨ j = 17 := by
        by_cases h16 : j = 16
        · exact .inr (.inl h16)
        by_cases h17 : j = 17
        · exact .inr (.inr h17)
        exact .inl (hWe j h16 h17)
      by_cases hq' : gb W j = gb zs j
      · refine ⟨?t0, ?a0, ?b0, ?c0⟩
        case a0 =>
          simp -implicitDefEqProofs [hc, e16, e3, e62, j1, j2, hj, hWl, w1, a1, a2, hq', splice]
          exact rfl
        case b0 =>
          repeat' refine Kept.upd ?_ (by decide) _
          exact hk
        case c0 => simp
      · rcases hq with hq | rfl | rfl
        · exact absurd hq hq'
        · have j5 : (16 : Int) < zs.length := by omega
          have hqn : (gb W 16 != gb zs 16) = true := by simp [hq']
          have hqe : (gb W 16 == gb zs 16) = false := by simp [hq']
          refine ⟨?t1, ?a1, ?b1, ?c1⟩
          case a1 =>
            simp -implicitDefEqProofs [hc, e16, e3, e62, j1, j2, hj, hWl, w1, a1, a2, hq', hqn, hqe, j5, splice]
            exact rfl
          case b1 =>
            repeat' refine Kept.upd ?_ (by decide) _
            exact hk
          case c1 => simp
        · have j5 : (17 : Int) < zs.length := by omega
          have hqn : (gb W 17 != gb zs 17) = true := by simp [hq']
          have hqe : (gb W 17 == gb zs 17) = false := by simp [hq']
          refine ⟨?t2, ?a2, ?b2, ?c2⟩
          case a2 =>
            simp -implicitDefEqProofs [hc, e16, e3, e62, j1, j2, hj, hWl, w1, a1, a2, hq', hqn, hqe, j5, splice]
            exact rfl
          case b2 =>
            repeat' refine Kept.upd ?_ (by decide) _
            exact hk
          case c2 => simp)
      (fun t hk hc => by
      have e62 := hk 62 (by decide)
      simp at e62
      refine ⟨?t, ?a, ?b⟩
      case a =>
        simp -implicitDefEqProofs [hc, e62]
        exact rfl
      case b =>
        repeat' refine Kept.upd ?_ (by decide) _
        exact hk)
  have f0 := hk 0 (by decide)
  have f3 := hk 3 (by decide)
  have f4 := hk 4 (by decide)
  have f5 := hk 5 (by decide)
  have f7 := hk 7 (by decide)
  have f8 := hk 8 (by decide)
  have f12 := hk 12 (by decide)
  have f13 := hk 13 (by decide)
  have f14 := hk 14 (by decide)
  have f15 := hk 15 (by decide)
  have f16 := hk 16 (by decide)
  have f17 := hk 17 (by decide)
  simp at f0 f3 f4 f5 f7 f8 f12 f13 f14 f15 f16 f17
  have u1 : IntKind.u64.wrap (zs.length : Int) = (zs.length : Int) := by simp [IntKind.wrap, IntKind.signed, IntKind.bits]; omega
  have u2 : ¬ zs = [] := by intro h; rw [h] at hF; simp at hF
  have u3 : IntKind.i64.wrap (i : Int) = (i : Int) := wrap64_id (by omega) (by omega)
  have u4 : (i : Int) < (zs.length : Int) := by omega
  have u5 : i ≤ zs.length := by omega
  have u9 : i + 1 ≤ zs.length := by omega
  have u6 : zs.length ≤ 549755813888 := by omega
  have u7 : zs.take zs.length = zs := List.take_length
  have u8 := B8_at0 zs i hi2
  have hO2 : List.take zs.length (List.take i zs ++ bits .xor .u8 (gb zs i) x :: List.drop (i + 1) zs) = O := by
    rw [← hO, List.set_eq_take_append_cons_drop, if_pos hi2, List.take_of_length_le (by simp; omega)]
  have p1 : n3 ≤ zs.length := h21o
  have p2 := h20o
  have p3 : O.length = zs.length := gO.1
  have p4 : 20 ≤ zs.length := h20
  by_cases h12 : i = 12
  · subst h12
    have hc12 : (12 : Int) < (zs.length : Int) := by omega
    simp -implicitDefEqProofs [hc12, u9, u1, u2, u3, u4, u5, u6, u7, u8, hi, hi2, hO2, gO, rO, p1, p2, p3, p4, errU, noU, r2, n2, be2, f0, f3, f4, f5, f7, f8, f12, f13, f14, f15, f16, f17, h1, fKnown, fTCP, fUDP, fWTCP, tcpR, tcpH, asTcp, hg, r1, hw, wR, hWl, t1, t2, s1, s2, splice, ol, gW, gT, hn1, hn2, m1, k1, k2, Nat.testBit_eq_decide_div_mod_eq]
  have hin : ((i : Int) != 12) = true := by simp; omega
  have hie : ((i : Int) == 12) = false := by simp; omega
  have hi3 : ¬ (i : Int) = 12 := by omega
  by_cases hx : x = 0
  · subst hx
    simp -implicitDefEqProofs [hin, hie, hi3, h12, u9, u1, u2, u3, u4, u5, u6, u7, u8, hi, hi2, hO2, gO, rO, p1, p2, p3, p4, errU, noU, r2, n2, be2, f0, f3, f4, f5, f7, f8, f12, f13, f14, f15, f16, f17, h1, fKnown, fTCP, fUDP, fWTCP, tcpR, tcpH, asTcp, hg, r1, hw, wR, hWl, t1, t2, s1, s2, splice, ol, gW, gT, hn1, hn2, m1, k1, k2, Nat.testBit_eq_decide_div_mod_eq]
  have hxn : (x != 0) = true := by simp [hx]
  have hxe : (x == 0) = false := by simp [hx]
  exact (hG h12 hx).elim
set_option maxHeartbeats 8000000 in
theorem back_ro (zs W O : List Int) (v6 : Bool) (ss ds : List Int) (nn : Bool) (cap : Option Nat) (at_ x : Int) (n i : Nat) (h : zs.length ≤ 1600) (hg : goodIn ss ds zs zs.length) (hB : OkB v6 ss ds zs W n)
    (hi : (IntKind.u64.wrap at_).tmod (zs.length : Int) = (i : Int)) (hi2 : i < zs.length) (hO : zs.set i (bits .xor .u8 (gb zs i) x) = O) (gO : goodIn ss ds O zs.length) (n3 : Nat) (h20o : 20 ≤ n3) (h21o : n3 ≤ zs.length) (hG : ¬ i = 12 → ¬ x = 0 → False) (rO : tcpV v6 ss ds O = tcpR O n3)
    (V : List Int) (no : Bool) (hU : OkV v6 ss ds zs V no) :
    (pvCall Try.prog K6 Dm 100000 1 0 5 [.v (.bool v6), .agg (B8 ss), .agg (B8 ds), .sl nn (B8 zs) zs.length cap, .v (.int .i64 at_), .v (.int .u8 x)] (fun _ => none)).map (·.1) = some (.v (.bool true)) := by
  obtain ⟨r1, h20, hn1, hn2, gW, gT, hw, hWl, hWe⟩ := hB
  obtain ⟨ub, u10, gU, rW, vl, v6t, v8d⟩ := hU
  have u12 : zs.length - 8 ≤ 1700 := by omega
  have u13 : (zs.drop 8).take (zs.length - 8) = zs.drop 8 := List.take_of_length_le (by simp)
  have u14 : 6 ≤ zs.length := by omega
  have u11 : (8 : Int) ≤ (zs.length : Int) := by omega
  have u15 : (6 : Int) ≤ (zs.length : Int) := by omega
  have u16 : (zs.take 6).length = 6 := by simp; omega
  have u17 : ((zs.drop 8).take (zs.length - 8)) = zs.drop 8 := List.take_of_length_le (by simp)
  have ue : min 6 zs.length = 6 := by omega
  have uf : (zs.take 6).take 6 = zs.take 6 := List.take_of_length_le (by omega)
  have u18 : zs.length - 8 ≤ 549755813888 := by omega
  have u19 : zs.length ≤ 549755813896 := by omega
  have h1 : ¬ (1600 : Int) < (zs.length : Int) := by omega
  have t1 : ss.take 16 = ss := List.take_of_length_le (by have := hg.2.2.1; omega)
  have t2 : ds.take 16 = ds := List.take_of_length_le (by have := hg.2.2.2.1; omega)
  have s1 : ss.length = 16 := hg.2.2.1
  have s2 : ds.length = 16 := hg.2.2.2.1
  have ol : min (n - 20) (zs.length - 20) = n - 20 := by omega
  have k1 : (zs.drop n).take (zs.length - n) = zs.drop n := List.take_of_length_le (by simp)
  have k2 : ((zs.drop 20).take (n - 20)).take (n - 20) = (zs.drop 20).take (n - 20) := List.take_of_length_le (by simp; omega)
  have m1 : n - 20 ≤ 1700 := by omega
  rw [pvCall_own (fn := Try.f5) rfl Try.func5 rfl (by decide) rfl rfl (by simp)]
  simp -implicitDefEqProofs [h1, fKnown, fTCP, fUDP, fWTCP, tcpR, tcpH, asTcp, hg, r1, hw, wR, hWl, t1, t2, s1, s2, splice, ol, gW, gT, hn1, hn2, m1, k1, k2, Nat.testBit_eq_decide_div_mod_eq]
  generalize hL : loopK _ _ _ _ _ _ _ _ _ ⟨_, _⟩ = R
  have hF : 0 < zs.length := by omega
  obtain ⟨t', rfl, hk⟩ := loop_met hL [18, 63, 64, 65, 66, 67, 68, 69, 70, 71, 72, 73, 74, 75, 76, 77, 78, 79, 80, 81, 82, 83] 63 zs.length 0 (by simp) (by omega) (fun j t hj hk hc => by
      have e16 := hk 16 (by decide)
      have e3 := hk 3 (by decide)
      have e62 := hk 62 (by decide)
      simp at e16 e3 e62
      have j1 : (j : Int) < (zs.length : Int) := by omega
      have w1 : IntKind.i64.wrap ((j : Int) + 1) = ((j + 1 : Nat) : Int) := by rw [wrap64_id (by omega) (by omega)]; omega
      have a1 := B8_at0 zs j hj
      have a2 := B8_at0 W j (by omega)
      have j2 : j ≤ zs.length := by omega
      have hq : (gb W j = gb zs j) ∨ j = 16 ∨ j = 17 := by
        by_cases h16 : j = 16
        · exact .inr (.inl h16)
        by_cases h17 : j = 17
        · exact .inr (.inr h17)
        exact .inl (hWe j h16 h17)
      by_cases hq' : gb W j = gb zs j
      · refine ⟨?t0, ?a0, ?b0, ?c0⟩
        case a0 =>
          simp -implicitDefEqProofs [hc, e16, e3, e62, j1, j2, hj, hWl, w1, a1, a2, hq', splice]
          exact rfl
        case b0 =>
          repeat' refine Kept.upd ?_ (by decide) _
          exact hk
        case c0 => simp
      · rcases hq with hq | rfl | rfl
        · exact absurd hq hq'
        · have j5 : (16 : Int) < zs.length := by omega
          have hqn : (gb W 16 != gb zs 16) = true := by simp [hq']
          have hqe : (gb W 16 == gb zs 16) = false := by simp [hq']
          refine ⟨?t1, ?a1, ?b1, ?c1⟩
          case a1 =>
            simp -implicitDefEqProofs [hc, e16, e3, e62, j1, j2, hj, hWl, w1, a1, a2, hq', hqn, hqe, j5, splice]
            exact rfl
          case b1 =>
            repeat' refine Kept.upd ?_ (by decide) _
            exact hk
          case c1 => simp
        · have j5 : (17 : Int) < zs.length := by omega
          have hqn : (gb W 17 != gb zs 17) = true := by simp [hq']
          have hqe : (gb W 17 == gb zs 17) = false := by simp [hq']
          refine ⟨?t2, ?a2, ?b2, ?c2⟩
          case a2 =>
            simp -implicitDefEqProofs [hc, e16, e3, e62, j1, j2, hj, hWl, w1, a1, a2, hq', hqn, hqe, j5, splice]
            exact rfl
          case b2 =>
            repeat' refine Kept.upd ?_ (by decide) _
            exact hk
          case c2 => simp)
      (fun t hk hc => by
      have e62 := hk 62 (by decide)
      simp at e62
      refine ⟨?t, ?a, ?b⟩
      case a =>
        simp -implicitDefEqProofs [hc, e62]
        exact rfl
      case b =>
        repeat' refine Kept.upd ?_ (by decide) _
        exact hk)
  have f0 := hk 0 (by decide)
  have f3 := hk 3 (by decide)
  have f4 := hk 4 (by decide)
  have f5 := hk 5 (by decide)
  have f7 := hk 7 (by decide)
  have f8 := hk 8 (by decide)
  have f12 := hk 12 (by decide)
  have f13 := hk 13 (by decide)
  have f14 := hk 14 (by decide)
  have f15 := hk 15 (by decide)
  have f16 := hk 16 (by decide)
  have f17 := hk 17 (by decide)
  simp at f0 f3 f4 f5 f7 f8 f12 f13 f14 f15 f16 f17
  have u1 : IntKind.u64.wrap (zs.length : Int) = (zs.length : Int) := by simp [IntKind.wrap, IntKind.signed, IntKind.bits]; omega
  have u2 : ¬ zs = [] := by intro h; rw [h] at hF; simp at hF
  have u3 : IntKind.i64.wrap (i : Int) = (i : Int) := wrap64_id (by omega) (by omega)
  have u4 : (i : Int) < (zs.length : Int) := by omega
  have u5 : i ≤ zs.length := by omega
  have u9 : i + 1 ≤ zs.length := by omega
  have u6 : zs.length ≤ 549755813888 := by omega
  have u7 : zs.take zs.length = zs := List.take_length
  have u8 := B8_at0 zs i hi2
  have hO2 : List.take zs.length (List.take i zs ++ bits .xor .u8 (gb zs i) x :: List.drop (i + 1) zs) = O := by
    rw [← hO, List.set_eq_take_append_cons_drop, if_pos hi2, List.take_of_length_le (by simp; omega)]
  have p1 : n3 ≤ zs.length := h21o
  have p2 := h20o
  have p3 : O.length = zs.length := gO.1
  have p4 : 20 ≤ zs.length := h20
  by_cases h12 : i = 12
  · subst h12
    have hc12 : (12 : Int) < (zs.length : Int) := by omega
    simp -implicitDefEqProofs [hc12, u9, u1, u2, u3, u4, u5, u6, u7, u8, hi, hi2, hO2, gO, rO, p1, p2, p3, p4, udpA, fWUDP, ub, u10, u11, u12, u13, u14, u15, gU, rW, vl, v6t, v8d, u16, u17, u18, u19, ue, uf, f0, f3, f4, f5, f7, f8, f12, f13, f14, f15, f16, f17, h1, fKnown, fTCP, fUDP, fWTCP, tcpR, tcpH, asTcp, hg, r1, hw, wR, hWl, t1, t2, s1, s2, splice, ol, gW, gT, hn1, hn2, m1, k1, k2, Nat.testBit_eq_decide_div_mod_eq]
  have hin : ((i : Int) != 12) = true := by simp; omega
  have hie : ((i : Int) == 12) = false := by simp; omega
  have hi3 : ¬ (i : Int) = 12 := by omega
  by_cases hx : x = 0
  · subst hx
    simp -implicitDefEqProofs [hin, hie, hi3, h12, u9, u1, u2, u3, u4, u5, u6, u7, u8, hi, hi2, hO2, gO, rO, p1, p2, p3, p4, udpA, fWUDP, ub, u10, u11, u12, u13, u14, u15, gU, rW, vl, v6t, v8d, u16, u17, u18, u19, ue, uf, f0, f3, f4, f5, f7, f8, f12, f13, f14, f15, f16, f17, h1, fKnown, fTCP, fUDP, fWTCP, tcpR, tcpH, asTcp, hg, r1, hw, wR, hWl, t1, t2, s1, s2, splice, ol, gW, gT, hn1, hn2, m1, k1, k2, Nat.testBit_eq_decide_div_mod_eq]
  have hxn : (x != 0) = true := by simp [hx]
  have hxe : (x == 0) = false := by simp [hx]
  exact (hG h12 hx).elim
set_option maxHeartbeats 8000000 in
theorem back_no (zs : List Int) (v6 : Bool) (ss ds : List Int) (nn : Bool) (cap : Option Nat) (at_ x : Int) (h : zs.length ≤ 1600) (hg : goodIn ss ds zs zs.length) (e1 : Int) (n1 : ¬ e1 = 0) (r1 : tcpV v6 ss ds zs = errT e1)
    (V : List Int) (no : Bool) (hU : OkV v6 ss ds zs V no) :
    (pvCall Try.prog K6 Dm 100000 1 0 5 [.v (.bool v6), .agg (B8 ss), .agg (B8 ds), .sl nn (B8 zs) zs.length cap, .v (.int .i64 at_), .v (.int .u8 x)] (fun _ => none)).map (·.1) = some (.v (.bool true)) := by
  have h1 : ¬ (1600 : Int) < (zs.length : Int) := by omega
  have b1 : (e1 == 0) = false := by simp [n1]
  have t1 : ss.take 16 = ss := List.take_of_length_le (by have := hg.2.2.1; omega)
  have t2 : ds.take 16 = ds := List.take_of_length_le (by have := hg.2.2.2.1; omega)
  have s1 : ss.length = 16 := hg.2.2.1
  have s2 : ds.length = 16 := hg.2.2.2.1
  obtain ⟨ub, u10, gU, rW, vl, v6t, v8d⟩ := hU
  have u12 : zs.length - 8 ≤ 1700 := by omega
  have u13 : (zs.drop 8).take (zs.length - 8) = zs.drop 8 := List.take_of_length_le (by simp)
  have u14 : 6 ≤ zs.length := by omega
  have u11 : (8 : Int) ≤ (zs.length : Int) := by omega
  have u15 : (6 : Int) ≤ (zs.length : Int) := by omega
  have u16 : (zs.take 6).length = 6 := by simp; omega
  have u17 : ((zs.drop 8).take (zs.length - 8)) = zs.drop 8 := List.take_of_length_le (by simp)
  have ue : min 6 zs.length = 6 := by omega
  have uf : (zs.take 6).take 6 = zs.take 6 := List.take_of_length_le (by omega)
  have u18 : zs.length - 8 ≤ 549755813888 := by omega
  have u19 : zs.length ≤ 549755813896 := by omega
  rw [pvCall_own (fn := Try.f5) rfl Try.func5 rfl (by decide) rfl rfl (by simp)]
  simp -implicitDefEqProofs [h1, fKnown, fTCP, errT, noT, hg, r1, n1, b1, t1, t2, s1, s2, splice, fUDP, wR, Nat.testBit_eq_decide_div_mod_eq, udpA, fWUDP, ub, u10, u11, u12, u13, u14, u15, gU, rW, vl, v6t, v8d, u16, u17, u18, u19, ue, uf]
end Go.Proofs.Ytcbjjkpjbdcakaa
