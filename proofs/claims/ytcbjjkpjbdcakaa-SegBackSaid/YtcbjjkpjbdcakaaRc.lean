/- What a segment's reader read is written as it was: plain facts. -/
import Derived.Test.YtcbjjkpjbdcakaaQp
namespace Go.Proofs.Ytcbjjkpjbdcakaa
open Go.Pm Go.Wb
set_option linter.unusedVariables false
set_option linter.unusedSimpArgs false

theorem split20 : ∀ (zs : List Int), 20 ≤ zs.length → ∃ a0 a1 a2 a3 a4 a5 a6 a7 a8 a9 a10 a11 a12 a13 a14 a15 a16 a17 a18 a19 r, zs = a0::a1::a2::a3::a4::a5::a6::a7::a8::a9::a10::a11::a12::a13::a14::a15::a16::a17::a18::a19::r
  | a0::a1::a2::a3::a4::a5::a6::a7::a8::a9::a10::a11::a12::a13::a14::a15::a16::a17::a18::a19::r, _ => ⟨a0, a1, a2, a3, a4, a5, a6, a7, a8, a9, a10, a11, a12, a13, a14, a15, a16, a17, a18, a19, r, rfl⟩
  | [], h => absurd h (by simp)
  | [a0], h => absurd h (by simp)
  | [a0, a1], h => absurd h (by simp)
  | [a0, a1, a2], h => absurd h (by simp)
  | [a0, a1, a2, a3], h => absurd h (by simp)
  | [a0, a1, a2, a3, a4], h => absurd h (by simp)
  | [a0, a1, a2, a3, a4, a5], h => absurd h (by simp)
  | [a0, a1, a2, a3, a4, a5, a6], h => absurd h (by simp)
  | [a0, a1, a2, a3, a4, a5, a6, a7], h => absurd h (by simp)
  | [a0, a1, a2, a3, a4, a5, a6, a7, a8], h => absurd h (by simp)
  | [a0, a1, a2, a3, a4, a5, a6, a7, a8, a9], h => absurd h (by simp)
  | [a0, a1, a2, a3, a4, a5, a6, a7, a8, a9, a10], h => absurd h (by simp)
  | [a0, a1, a2, a3, a4, a5, a6, a7, a8, a9, a10, a11], h => absurd h (by simp)
  | [a0, a1, a2, a3, a4, a5, a6, a7, a8, a9, a10, a11, a12], h => absurd h (by simp)
  | [a0, a1, a2, a3, a4, a5, a6, a7, a8, a9, a10, a11, a12, a13], h => absurd h (by simp)
  | [a0, a1, a2, a3, a4, a5, a6, a7, a8, a9, a10, a11, a12, a13, a14], h => absurd h (by simp)
  | [a0, a1, a2, a3, a4, a5, a6, a7, a8, a9, a10, a11, a12, a13, a14, a15], h => absurd h (by simp)
  | [a0, a1, a2, a3, a4, a5, a6, a7, a8, a9, a10, a11, a12, a13, a14, a15, a16], h => absurd h (by simp)
  | [a0, a1, a2, a3, a4, a5, a6, a7, a8, a9, a10, a11, a12, a13, a14, a15, a16, a17], h => absurd h (by simp)
  | [a0, a1, a2, a3, a4, a5, a6, a7, a8, a9, a10, a11, a12, a13, a14, a15, a16, a17, a18], h => absurd h (by simp)
theorem bytes20 {zs : List Int} (h : bytesB zs = true) (k : Nat) : 0 ≤ zs.getD k 0 ∧ zs.getD k 0 ≤ 255 := gb_range h k
theorem wrote_eq {v6 : Bool} {ss ds os ps : List Int} {a0 a1 a2 a3 a4 a5 a6 a7 a8 a9 a10 a11 a12 a13 a14 a15 a16 a17 a18 a19 : Int} {r : List Int} (h0 : 0 ≤ a0 ∧ a0 ≤ 255) (h1 : 0 ≤ a1 ∧ a1 ≤ 255) (h2 : 0 ≤ a2 ∧ a2 ≤ 255) (h3 : 0 ≤ a3 ∧ a3 ≤ 255) (h4 : 0 ≤ a4 ∧ a4 ≤ 255) (h5 : 0 ≤ a5 ∧ a5 ≤ 255) (h6 : 0 ≤ a6 ∧ a6 ≤ 255) (h7 : 0 ≤ a7 ∧ a7 ≤ 255) (h8 : 0 ≤ a8 ∧ a8 ≤ 255) (h9 : 0 ≤ a9 ∧ a9 ≤ 255) (h10 : 0 ≤ a10 ∧ a10 ≤ 255) (h11 : 0 ≤ a11 ∧ a11 ≤ 255) (h12 : 0 ≤ a12 ∧ a12 ≤ 255) (h13 : 0 ≤ a13 ∧ a13 ≤ 255) (h14 : 0 ≤ a14 ∧ a14 ≤ 255) (h15 : 0 ≤ a15 ∧ a15 ≤ 255) (h16 : 0 ≤ a16 ∧ a16 ≤ 255) (h17 : 0 ≤ a17 ∧ a17 ≤ 255) (h18 : 0 ≤ a18 ∧ a18 ≤ 255) (h19 : 0 ≤ a19 ∧ a19 ≤ 255) (hr : os ++ ps = r) (hn : a12 / 16 * 4 = 20 + (os.length : Int)) :
    ∃ C, tcpW v6 ss ds (tcpHead (a0 * 256 + a1) (a2 * 256 + a3) ((a4 * 256 + a5) * 65536 + (a6 * 256 + a7)) ((a8 * 256 + a9) * 65536 + (a10 * 256 + a11)) (a12 % 16) a13 (a14 * 256 + a15) (a18 * 256 + a19) os ++ (os ++ ps)) = a0 :: a1 :: a2 :: a3 :: a4 :: a5 :: a6 :: a7 :: a8 :: a9 :: a10 :: a11 :: a12 :: a13 :: a14 :: a15 :: C / 256 % 256 :: C % 256 :: a18 :: a19 :: r := by
  refine ⟨ck v6 ss ds 6 (tcpHead (a0 * 256 + a1) (a2 * 256 + a3) ((a4 * 256 + a5) * 65536 + (a6 * 256 + a7)) ((a8 * 256 + a9) * 65536 + (a10 * 256 + a11)) (a12 % 16) a13 (a14 * 256 + a15) (a18 * 256 + a19) os ++ (os ++ ps)), ?_⟩
  rw [tcpW_eq, hr]
  generalize ck v6 ss ds 6 _ = C
  simp only [hd16, hl8, List.cons_append, List.nil_append, List.cons.injEq, and_true, true_and]
  refine ⟨by omega, by omega, by omega, by omega, by omega, by omega, by omega, by omega, by omega, by omega, by omega, by omega, by omega, by omega, by omega, by omega, by omega, by omega⟩
theorem ws_set : ∀ (l : List Int) (o : Bool) (i : Nat) (y : Int), i < l.length → ∃ k : Int, (k = 1 ∨ k = 256) ∧ ws o (l.set i y) = ws o l + (y - l.getD i 0) * k
  | [], _, _, _, h => absurd h (by simp)
  | x :: l, o, 0, y, _ => by
    cases o
    · exact ⟨256, .inr rfl, by simp only [List.set_cons_zero, ws, List.getD_cons_zero]; omega⟩
    · exact ⟨1, .inl rfl, by simp only [List.set_cons_zero, ws, List.getD_cons_zero]; omega⟩
  | x :: l, o, i + 1, y, h => by
    cases o
    · obtain ⟨k, hk, e⟩ := ws_set l true i y (by simpa using h)
      exact ⟨k, hk, by simp only [List.set_cons_succ, ws, List.getD_cons_succ, e]; omega⟩
    · obtain ⟨k, hk, e⟩ := ws_set l false i y (by simpa using h)
      exact ⟨k, hk, by simp only [List.set_cons_succ, ws, List.getD_cons_succ, e]; omega⟩
theorem ck_turned {v6 : Bool} {ss ds zs : List Int} {pr y : Int} {i : Nat} (bs : bytesB ss = true) (bd : bytesB ds = true) (p0 : 0 ≤ pr) (p1 : pr ≤ 255) (hz : bytesB zs = true) (hi : i < zs.length) (y0 : 0 ≤ y) (y1 : y ≤ 255) (hy : y ≠ zs.getD i 0)
    (h : ck v6 ss ds pr zs = 0) : ¬ ck v6 ss ds pr (zs.set i y) = 0 := by
  obtain ⟨k, hk, e⟩ := ws_set zs false i y hi
  have w0 := (ws_nonneg false zs (bytesB_iff.1 hz)).1
  have g := gb_range hz i
  unfold gb at g
  have s0 := (sumTo_range (s := 0) (o := false) (Int.le_refl 0) (phead_b (v6 := v6) (pr := pr) (n := (zs.length : Nat)) (bytesB_iff.1 bs) (bytesB_iff.1 bd) p0 p1))
  unfold ck at h ⊢
  rw [List.length_set]
  unfold sumTo at h s0 ⊢
  rw [e]
  generalize cn (0 + ws false (phead v6 ss ds pr (zs.length : Nat))) = s at *
  generalize ws false zs = t at *
  generalize zs.getD i 0 = z at *
  clear e hz hi bs bd
  unfold cn at *
  rcases hk with rfl | rfl <;> split at h <;> split <;> omega
theorem wrote_back {v6 : Bool} {ss ds zs : List Int} {n : Nat} (hz : bytesB zs = true) (h20 : 20 ≤ zs.length) (hl : zs.length ≤ 1600) (h5 : 5 ≤ gb zs 12 / 16) (hn : (n : Int) = gb zs 12 / 16 * 4) (hnl : n ≤ zs.length) :
    ∃ W, wtcpV v6 ss ds (w16 zs 0) (w16 zs 2) (w32 zs 4) (w32 zs 8) (gb zs 12 % 16) (gb zs 13) (w16 zs 14) (w16 zs 18) ((zs.drop 20).take (n - 20)) (zs.drop n) = wR W ∧ W.length = zs.length ∧ ∀ i, i ≠ 16 → i ≠ 17 → W.getD i 0 = zs.getD i 0 := by
  obtain ⟨a0, a1, a2, a3, a4, a5, a6, a7, a8, a9, a10, a11, a12, a13, a14, a15, a16, a17, a18, a19, r, rfl⟩ := split20 zs h20
  have g0 : 0 ≤ a0 ∧ a0 ≤ 255 := gb_range hz 0
  have g1 : 0 ≤ a1 ∧ a1 ≤ 255 := gb_range hz 1
  have g2 : 0 ≤ a2 ∧ a2 ≤ 255 := gb_range hz 2
  have g3 : 0 ≤ a3 ∧ a3 ≤ 255 := gb_range hz 3
  have g4 : 0 ≤ a4 ∧ a4 ≤ 255 := gb_range hz 4
  have g5 : 0 ≤ a5 ∧ a5 ≤ 255 := gb_range hz 5
  have g6 : 0 ≤ a6 ∧ a6 ≤ 255 := gb_range hz 6
  have g7 : 0 ≤ a7 ∧ a7 ≤ 255 := gb_range hz 7
  have g8 : 0 ≤ a8 ∧ a8 ≤ 255 := gb_range hz 8
  have g9 : 0 ≤ a9 ∧ a9 ≤ 255 := gb_range hz 9
  have g10 : 0 ≤ a10 ∧ a10 ≤ 255 := gb_range hz 10
  have g11 : 0 ≤ a11 ∧ a11 ≤ 255 := gb_range hz 11
  have g12 : 0 ≤ a12 ∧ a12 ≤ 255 := gb_range hz 12
  have g13 : 0 ≤ a13 ∧ a13 ≤ 255 := gb_range hz 13
  have g14 : 0 ≤ a14 ∧ a14 ≤ 255 := gb_range hz 14
  have g15 : 0 ≤ a15 ∧ a15 ≤ 255 := gb_range hz 15
  have g16 : 0 ≤ a16 ∧ a16 ≤ 255 := gb_range hz 16
  have g17 : 0 ≤ a17 ∧ a17 ≤ 255 := gb_range hz 17
  have g18 : 0 ≤ a18 ∧ a18 ≤ 255 := gb_range hz 18
  have g19 : 0 ≤ a19 ∧ a19 ≤ 255 := gb_range hz 19
  have hr : List.drop 20 (a0 :: a1 :: a2 :: a3 :: a4 :: a5 :: a6 :: a7 :: a8 :: a9 :: a10 :: a11 :: a12 :: a13 :: a14 :: a15 :: a16 :: a17 :: a18 :: a19 :: r) = r := rfl
  have h12 : gb (a0 :: a1 :: a2 :: a3 :: a4 :: a5 :: a6 :: a7 :: a8 :: a9 :: a10 :: a11 :: a12 :: a13 :: a14 :: a15 :: a16 :: a17 :: a18 :: a19 :: r) 12 = a12 := rfl
  rw [h12] at h5 hn ⊢
  have hrl : (a0 :: a1 :: a2 :: a3 :: a4 :: a5 :: a6 :: a7 :: a8 :: a9 :: a10 :: a11 :: a12 :: a13 :: a14 :: a15 :: a16 :: a17 :: a18 :: a19 :: r).length = r.length + 20 := rfl
  have hol : (r.take (n - 20)).length = n - 20 := by simp; omega
  have hdn : List.drop n (a0 :: a1 :: a2 :: a3 :: a4 :: a5 :: a6 :: a7 :: a8 :: a9 :: a10 :: a11 :: a12 :: a13 :: a14 :: a15 :: a16 :: a17 :: a18 :: a19 :: r) = r.drop (n - 20) := by
    conv => lhs; rw [show n = 20 + (n - 20) by omega]
    rw [← List.drop_drop, hr]
  rw [hr, hdn]
  have happ : r.take (n - 20) ++ r.drop (n - 20) = r := List.take_append_drop _ _
  have hpl : (r.drop (n - 20)).length = r.length - (n - 20) := by simp
  obtain ⟨C, hC⟩ := wrote_eq (v6 := v6) (ss := ss) (ds := ds) g0 g1 g2 g3 g4 g5 g6 g7 g8 g9 g10 g11 g12 g13 g14 g15 g16 g17 g18 g19 happ (by rw [hol]; omega)
  refine ⟨a0 :: a1 :: a2 :: a3 :: a4 :: a5 :: a6 :: a7 :: a8 :: a9 :: a10 :: a11 :: a12 :: a13 :: a14 :: a15 :: C / 256 % 256 :: C % 256 :: a18 :: a19 :: r, ?_, rfl, ?_⟩
  · unfold wtcpV
    rw [if_neg (by omega), if_neg (by omega), if_neg (by omega), if_neg (by omega)]
    exact congrArg wR hC
  · intro i h16 h17
    match i with
    | 0 => rfl
    | 1 => rfl
    | 2 => rfl
    | 3 => rfl
    | 4 => rfl
    | 5 => rfl
    | 6 => rfl
    | 7 => rfl
    | 8 => rfl
    | 9 => rfl
    | 10 => rfl
    | 11 => rfl
    | 12 => rfl
    | 13 => rfl
    | 14 => rfl
    | 15 => rfl
    | 16 => exact absurd rfl h16
    | 17 => exact absurd rfl h17
    | 18 => rfl
    | 19 => rfl
    | i + 20 => rfl
theorem split8 : ∀ (zs : List Int), 8 ≤ zs.length → ∃ a0 a1 a2 a3 a4 a5 a6 a7 r, zs = a0::a1::a2::a3::a4::a5::a6::a7::r
  | a0::a1::a2::a3::a4::a5::a6::a7::r, _ => ⟨a0, a1, a2, a3, a4, a5, a6, a7, r, rfl⟩
  | [], h => absurd h (by simp)
  | [a0], h => absurd h (by simp)
  | [a0, a1], h => absurd h (by simp)
  | [a0, a1, a2], h => absurd h (by simp)
  | [a0, a1, a2, a3], h => absurd h (by simp)
  | [a0, a1, a2, a3, a4], h => absurd h (by simp)
  | [a0, a1, a2, a3, a4, a5], h => absurd h (by simp)
  | [a0, a1, a2, a3, a4, a5, a6], h => absurd h (by simp)
theorem uwrote_back {v6 : Bool} {ss ds zs : List Int} (hz : bytesB zs = true) (h8 : 8 ≤ zs.length) (hl : zs.length ≤ 1600) (h4 : w16 zs 4 = zs.length) (h6 : w16 zs 6 = 0 → v6 = false) :
    ∃ W, wudpV v6 ss ds (w16 zs 0) (w16 zs 2) (decide (w16 zs 6 = 0)) (zs.drop 8) = wR W ∧ W.length = zs.length ∧ W.take 6 = zs.take 6 ∧ W.drop 8 = zs.drop 8 := by
  obtain ⟨a0, a1, a2, a3, a4, a5, a6, a7, r, rfl⟩ := split8 zs h8
  have g0 : 0 ≤ a0 ∧ a0 ≤ 255 := gb_range hz 0
  have g1 : 0 ≤ a1 ∧ a1 ≤ 255 := gb_range hz 1
  have g2 : 0 ≤ a2 ∧ a2 ≤ 255 := gb_range hz 2
  have g3 : 0 ≤ a3 ∧ a3 ≤ 255 := gb_range hz 3
  have g4 : 0 ≤ a4 ∧ a4 ≤ 255 := gb_range hz 4
  have g5 : 0 ≤ a5 ∧ a5 ≤ 255 := gb_range hz 5
  have g6 : 0 ≤ a6 ∧ a6 ≤ 255 := gb_range hz 6
  have g7 : 0 ≤ a7 ∧ a7 ≤ 255 := gb_range hz 7
  have hr : List.drop 8 (a0 :: a1 :: a2 :: a3 :: a4 :: a5 :: a6 :: a7 :: r) = r := rfl
  have k0 : w16 (a0 :: a1 :: a2 :: a3 :: a4 :: a5 :: a6 :: a7 :: r) 0 = a0 * 256 + a1 := rfl
  have k2 : w16 (a0 :: a1 :: a2 :: a3 :: a4 :: a5 :: a6 :: a7 :: r) 2 = a2 * 256 + a3 := rfl
  have k4 : w16 (a0 :: a1 :: a2 :: a3 :: a4 :: a5 :: a6 :: a7 :: r) 4 = a4 * 256 + a5 := rfl
  have k6 : w16 (a0 :: a1 :: a2 :: a3 :: a4 :: a5 :: a6 :: a7 :: r) 6 = a6 * 256 + a7 := rfl
  have hrl : (a0 :: a1 :: a2 :: a3 :: a4 :: a5 :: a6 :: a7 :: r).length = r.length + 8 := rfl
  rw [k4, hrl] at h4
  rw [k6] at h6
  rw [hrl] at hl
  rw [k0, k2, k6, hr]
  have e4 : (8 + (r.length : Int)) / 256 % 256 = a4 := by omega
  have e5 : (8 + (r.length : Int)) % 256 = a5 := by omega
  have e0 : (a0 * 256 + a1) / 256 % 256 = a0 := by omega
  have e1 : (a0 * 256 + a1) % 256 = a1 := by omega
  have e2 : (a2 * 256 + a3) / 256 % 256 = a2 := by omega
  have e3 : (a2 * 256 + a3) % 256 = a3 := by omega
  unfold wudpV
  by_cases h0 : a6 * 256 + a7 = 0
  · rw [h6 h0, decide_eq_true h0, if_neg (by simp), if_neg (by omega), if_pos rfl]
    refine ⟨_, rfl, ?_, ?_, ?_⟩
    · rw [udpZ_len, hrl]; omega
    · simp only [udpHead, hl8, List.cons_append, List.nil_append, e0, e1, e2, e3, e4, e5]; rfl
    · rfl
  · rw [decide_eq_false h0, if_neg (by simp), if_neg (by omega), if_neg (by simp)]
    refine ⟨_, rfl, ?_, ?_, ?_⟩
    · rw [udpW_len, hrl]; omega
    · rw [udpW_eq]; simp only [hd6, hl8, List.cons_append, List.nil_append, e0, e1, e2, e3, e4, e5]; rfl
    · rw [udpW_eq]; rfl
end Go.Proofs.Ytcbjjkpjbdcakaa
