/- The law SegBack: what comes in, and the walk. -/
import Derived.Test.YtcbjjkpjbdcakaaRg
namespace Go.Proofs.Ytcbjjkpjbdcakaa
open Go.Pm Go.RowKit Go.Wb
set_option linter.unusedVariables false
theorem xor8_range {a b : Int} (a0 : 0 ≤ a) (a1 : a ≤ 255) (b0 : 0 ≤ b) (b1 : b ≤ 255) : 0 ≤ bits .xor .u8 a b ∧ bits .xor .u8 a b ≤ 255 := by
  rw [u8_xor a b a0 (by omega) b0 (by omega)]
  have := @Nat.xor_lt_two_pow a.toNat b.toNat 8 (by omega) (by omega)
  omega
theorem xor8_ne {a b : Int} (a0 : 0 ≤ a) (a1 : a ≤ 255) (b0 : 0 ≤ b) (b1 : b ≤ 255) (h : ¬ b = 0) : bits .xor .u8 a b ≠ a := by
  rw [u8_xor a b a0 (by omega) b0 (by omega)]
  intro e
  have e2 : a.toNat ^^^ b.toNat = a.toNat := by omega
  have e3 : a.toNat ^^^ (a.toNat ^^^ b.toNat) = a.toNat ^^^ a.toNat := by rw [e2]
  rw [← Nat.xor_assoc, Nat.xor_self, Nat.zero_xor] at e3
  omega
theorem gb_set_ne {zs : List Int} {i k : Nat} {y : Int} (h : i ≠ k) : gb (zs.set i y) k = gb zs k := by
  unfold gb
  rw [List.getD_eq_getElem?_getD, List.getD_eq_getElem?_getD, List.getElem?_set_ne h]
theorem bytesB_set {zs : List Int} {i : Nat} {y : Int} (h : bytesB zs = true) (y0 : 0 ≤ y) (y1 : y ≤ 255) : bytesB (zs.set i y) = true := by
  rw [bytesB_iff] at h ⊢
  intro x hx
  rcases List.mem_or_eq_of_mem_set hx with h' | rfl
  · exact h x h'
  · exact ⟨y0, y1⟩
theorem tcpV_cases {v6 : Bool} {ss ds zs : List Int} (hz : bytesB zs = true) : (∃ e : Int, ¬ e = 0 ∧ tcpV v6 ss ds zs = errT e) ∨ ∃ n : Nat, (n : Int) = gb zs 12 / 16 * 4 ∧ 20 ≤ zs.length ∧ 5 ≤ gb zs 12 / 16 ∧ 20 ≤ n ∧ n ≤ zs.length ∧ ck v6 ss ds 6 zs = 0 ∧ tcpV v6 ss ds zs = tcpR zs n := by
  have g := gb_range hz 12
  unfold tcpV
  split
  · exact .inl ⟨4, by omega, rfl⟩
  split
  · exact .inl ⟨5, by omega, rfl⟩
  split
  · exact .inl ⟨4, by omega, rfl⟩
  split
  · exact .inr ⟨_, by omega, by omega, by omega, by omega, by omega, by assumption, rfl⟩
  · exact .inl ⟨6, by omega, rfl⟩
theorem udpV_cases {v6 : Bool} {ss ds zs : List Int} (hg : goodIn ss ds zs zs.length) (hl : zs.length ≤ 1600) : (∃ e : Int, ¬ e = 0 ∧ udpV v6 ss ds zs = errU e) ∨ ∃ V no, OkV v6 ss ds zs V no := by
  obtain ⟨_, _, s1, s2, hz, s4, s5⟩ := hg
  have fin : 8 ≤ zs.length → w16 zs 4 = zs.length → (w16 zs 6 = 0 → v6 = false) → udpV v6 ss ds zs = udpR zs → ∃ V no, OkV v6 ss ds zs V no := fun h8 h4 h6 h => by
    obtain ⟨V, e1, e2, e3, e4⟩ := uwrote_back (ss := ss) (ds := ds) hz h8 hl h4 h6
    exact ⟨V, _, h.trans rfl, h8, ⟨by simp, by omega, s1, s2, bytesB_drop hz 8, s4, s5⟩, e1, e2, e3, e4⟩
  unfold udpV at fin ⊢
  split
  · exact .inl ⟨4, by omega, rfl⟩
  rename_i h8
  rw [if_neg h8] at fin
  split
  · rename_i h4
    rw [if_pos h4] at fin
    split
    · rename_i h6
      rw [if_pos h6] at fin
      split
      · exact .inl ⟨6, by omega, rfl⟩
      · rename_i hv
        rw [if_neg hv] at fin
        exact .inr (fin (by omega) h4 (fun _ => by simpa using hv) rfl)
    · rename_i h6
      rw [if_neg h6] at fin
      split
      · rename_i hc
        rw [if_pos hc] at fin
        exact .inr (fin (by omega) h4 (fun h => absurd h h6) rfl)
      · exact .inl ⟨6, by omega, rfl⟩
  · exact .inl ⟨5, by omega, rfl⟩
theorem segBack_walk (w : World) (v6 : Bool) (v1 : Value) (o1 : InAr 16 v1) (v2 : Value) (o2 : InAr 16 v2) (v3 : Value) (o3 : In8 w v3) (at_ : Int) (h4 : (Lit.int .i64 at_).wf = true) (x : Int) (h5 : (Lit.int .u8 x).wf = true) :
    Calls Try.prog 5 #[.bool v6, v1, v2, v3, .int .i64 at_, .int .u8 x] w fun e w' => e = .returned (.bool true) ∧ Below w.heap.size w w' := by
  obtain ⟨ss, rfl, s1, s2⟩ := o1
  obtain ⟨ds, rfl, d1, d2⟩ := o2
  obtain ⟨a, len, cap, zs, rfl, ro⟩ := o3
  have hol : zs.length = len := ro.1
  subst hol
  have hx := bounds_u8 h5
  have ra : RelL (noneAt w) [.v (.bool v6), .agg (B8 ss), .agg (B8 ds), .sl false (B8 zs) zs.length none, .v (.int .i64 at_), .v (.int .u8 x)] (#[.bool v6, .agg (ar ss), .agg (ar ds), .slice a zs.length cap, .int .i64 at_, .int .u8 x] : Array Value).toList :=
    .cons .v (.cons (rel_ar _ ss) (.cons (rel_ar _ ds) (.cons (rel_row ro) (.cons .v (.cons .v (.nil _))))))
  have key : (pvCall Try.prog K6 Dm 100000 1 0 5 [.v (.bool v6), .agg (B8 ss), .agg (B8 ds), .sl false (B8 zs) zs.length none, .v (.int .i64 at_), .v (.int .u8 x)] (fun _ => none)).map (·.1) = some (.v (.bool true)) := by
    by_cases hlong : 1600 < zs.length
    · exact back_long zs v6 ss ds false none at_ x hlong
    have hl : zs.length ≤ 1600 := by omega
    have hz : bytesB zs = true := bytesB_iff.2 ro.5
    have hg : goodIn ss ds zs zs.length := ⟨rfl, by omega, s1, d1, hz, bytesB_iff.2 s2, bytesB_iff.2 d2⟩
    rcases tcpV_cases (v6 := v6) (ss := ss) (ds := ds) hz with ⟨e1, n1, r1⟩ | ⟨n, hn, h20, h5, hn1, hn2, hck, r1⟩
    · rcases udpV_cases (v6 := v6) hg hl with ⟨e2, n2, r2⟩ | ⟨V, no, hU⟩
      · exact back_both zs v6 ss ds false none at_ x hl e1 e2 n1 n2 hg r1 r2
      · exact back_no zs v6 ss ds false none at_ x hl hg e1 n1 r1 V no hU
    · obtain ⟨W, w1, w2, w3⟩ := wrote_back (v6 := v6) (ss := ss) (ds := ds) hz h20 hl h5 hn hn2
      have g12 := gb_range hz 12
      have g13 := gb_range hz 13
      have hB : OkB v6 ss ds zs W n := ⟨r1, h20, hn1, hn2, ⟨by simp, by omega, s1, d1, bytesB_drop hz n, bytesB_iff.2 s2, bytesB_iff.2 d2⟩, ⟨by simp; omega, by omega, by omega, g13.1, g13.2, bytesB_take (bytesB_drop hz 20) _⟩, w1, w2, w3⟩
      have hm0 : 0 ≤ IntKind.u64.wrap at_ := by simp [IntKind.wrap, IntKind.signed, IntKind.bits]; omega
      obtain ⟨i, hi⟩ : ∃ i : Nat, (IntKind.u64.wrap at_).tmod (zs.length : Int) = (i : Int) := ⟨((IntKind.u64.wrap at_).tmod (zs.length : Int)).toNat, by
        have := Int.tmod_nonneg (zs.length : Int) hm0; omega⟩
      have hi2 : i < zs.length := by
        have := Int.tmod_lt_of_pos (IntKind.u64.wrap at_) (show (0 : Int) < (zs.length : Int) by omega); omega
      have gi := gb_range hz i
      have hy := xor8_range gi.1 gi.2 hx.1 hx.2
      have gO : goodIn ss ds (zs.set i (bits .xor .u8 (gb zs i) x)) zs.length := ⟨by simp, by omega, s1, d1, bytesB_set hz hy.1 hy.2, bytesB_iff.2 s2, bytesB_iff.2 d2⟩
      have hturn : ¬ i = 12 → ¬ x = 0 → tcpV v6 ss ds (zs.set i (bits .xor .u8 (gb zs i) x)) = errT 6 := fun h12 h0 => by
        have hc := ck_turned (pr := 6) (bytesB_iff.2 s2) (bytesB_iff.2 d2) (by omega) (by omega) hz hi2 hy.1 hy.2 (xor8_ne gi.1 gi.2 hx.1 hx.2 h0) hck
        unfold tcpV
        rw [gb_set_ne h12, List.length_set, if_neg (by omega), if_neg (by omega), if_neg (by omega), if_neg hc]
      rcases tcpV_cases (v6 := v6) (ss := ss) (ds := ds) gO.2.2.2.2.1 with ⟨e3, n3, r3⟩ | ⟨n3, _, _, _, q1, q2, _, r3⟩
      · have hG : ¬ i = 12 → ¬ x = 0 → e3 = 6 := fun a b => by
          have := hturn a b
          rw [r3] at this
          simpa [errT] using this
        rcases udpV_cases (v6 := v6) hg hl with ⟨e2, n2, r2⟩ | ⟨V, no, hU⟩
        · exact back_ee zs W _ v6 ss ds false none at_ x n i hl hg hB hi hi2 rfl gO e3 hG r3 e2 n2 r2
        · exact back_eo zs W _ v6 ss ds false none at_ x n i hl hg hB hi hi2 rfl gO e3 hG r3 V no hU
      · have hG : ¬ i = 12 → ¬ x = 0 → False := fun a b => by
          have := hturn a b
          rw [r3] at this
          simp [errT, tcpR, tcpH, noT] at this
        rw [List.length_set] at q2
        rcases udpV_cases (v6 := v6) hg hl with ⟨e2, n2, r2⟩ | ⟨V, no, hU⟩
        · exact back_re zs W _ v6 ss ds false none at_ x n i hl hg hB hi hi2 rfl gO n3 q1 q2 hG r3 e2 n2 r2
        · exact back_ro zs W _ v6 ss ds false none at_ x n i hl hg hB hi hi2 rfl gO n3 q1 q2 hG r3 V no hU
  obtain ⟨⟨x, m'⟩, k1, k2⟩ := Option.map_eq_some_iff.1 key
  simp only at k2
  subst k2
  exact law_of_run k6_ok follows_mixed dm_ok k1 ra
end Go.Proofs.Ytcbjjkpjbdcakaa
