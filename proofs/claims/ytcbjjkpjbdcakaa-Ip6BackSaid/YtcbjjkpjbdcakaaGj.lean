/- A packet of IPv6 that is written is read as it was; one that is read is written as it was: plain facts. -/
import Derived.Test.YtcbjjkpjbdcakaaGi
namespace Go.Proofs.Ytcbjjkpjbdcakaa
open Go.Pm Go.Wb
set_option linter.unusedVariables false
set_option linter.unusedSimpArgs false
theorem getD_app {l x : List Int} {i : Nat} (h : i < l.length) : (l ++ x).getD i 0 = l.getD i 0 := by
  rw [List.getD_eq_getElem?_getD, List.getD_eq_getElem?_getD, List.getElem?_append_left h]
theorem getD_take {l : List Int} {i m : Nat} (h : i < m) : (l.take m).getD i 0 = l.getD i 0 := by
  rw [List.getD_eq_getElem?_getD, List.getD_eq_getElem?_getD, List.getElem?_take_of_lt h]
theorem hlen_app {n : Int} {l x : List Int} (h : 8 ≤ l.length) : hlen n (l ++ x) = hlen n l := by unfold hlen; rw [getD_app (by omega)]
theorem herr_app {n : Int} {l x : List Int} (h : 8 ≤ l.length) : herr2 n (l ++ x) = herr2 n l := by unfold herr2; rw [getD_app (by omega), getD_app (by omega)]
theorem hlen_take {n : Int} {l : List Int} {m : Nat} (h : 8 ≤ m) : hlen n (l.take m) = hlen n l := by unfold hlen; rw [getD_take (by omega)]
theorem herr_take {n : Int} {l : List Int} {m : Nat} (h : 8 ≤ m) : herr2 n (l.take m) = herr2 n l := by unfold herr2; rw [getD_take (by omega), getD_take (by omega)]
theorem hlen_8 {n : Int} {l : List Int} (hb : bytesB l = true) : 8 ≤ hlen n l := by
  have g1 := gb_range hb 1
  unfold hlen; unfold gb at g1; split <;> omega
theorem chain_more : ∀ (f : Nat) (n : Int) (l x : List Int) (j : Nat) (k : Int), 0 < f → bytesB l = true → (chainF f n l j k).2.2 = 0 → 8 < f + j → j ≤ 8 → chainF f n (l ++ x) j k = chainF f n l j k := by
  intro f
  induction f with
  | zero => intro n l x j k h; omega
  | succ f ih =>
    intro n l x j k _ hb h hf hj
    rw [chainF] at h
    rw [chainF, chainF]
    split at h
    · rename_i q; rw [if_pos q, if_pos q]
    rename_i q; rw [if_neg q, if_neg q]
    split at h
    · simp at h
    rename_i q1; rw [if_neg q1, if_neg q1]
    split at h
    · simp at h
    rename_i q2; rw [if_neg q2, if_neg q2]
    split at h
    · simp at h
    rename_i q3
    have h8 : 8 ≤ l.length := by omega
    rw [if_neg q3, if_neg (by simp; omega), hlen_app h8, herr_app h8]
    split at h
    · simp at h
    rename_i q4
    have hh := hlen_8 (n := n) hb
    rw [if_neg q4, if_neg (by simp; omega)]
    split at h
    · rename_i q5
      rw [if_pos q5, if_pos q5, getD_app (by omega), List.drop_append_of_le_length (by omega)]
      exact ih _ _ _ _ _ (by omega) (bytesB_drop hb _) h (by omega) (by omega)
    · exact absurd h (by simpa using ‹_›)
theorem chain_less : ∀ (f : Nat) (n : Int) (l : List Int) (j : Nat) (k : Int) (r : Int) (m : Nat), 0 < f → 0 ≤ k → bytesB l = true → chainF f n l j k = (r, k + (m : Int), 0) → 8 < f + j → j ≤ 8 → chainF f n (l.take m) j k = (r, k + (m : Int), 0) := by
  intro f
  induction f with
  | zero => intro n l j k r m h; omega
  | succ f ih =>
    intro n l j k r m _ hk hb h hf hj
    rw [chainF] at h
    rw [chainF]
    split at h
    · rename_i q; rw [if_pos q]; exact h
    rename_i q; rw [if_neg q]
    split at h
    · simp at h
    rename_i q1; rw [if_neg q1]
    split at h
    · simp at h
    rename_i q2; rw [if_neg q2]
    split at h
    · simp at h
    rename_i q3
    split at h
    · simp at h
    rename_i q4
    have hh := hlen_8 (n := n) hb
    split at h
    case isFalse => simp at h; omega
    rename_i q5
    have hb0 := gb_range hb 0
    have ho := chain_out f (l.getD 0 0) (l.drop (hlen n l).toNat) (j + 1) (k + hlen n l) hb0.1 hb0.2 (bytesB_drop hb _)
    have hj' : j + 1 ≤ 8 := by omega
    have := ho hj' (by omega) (by omega)
    rcases this with ⟨a, b, c, d⟩ | ⟨a, b, c⟩
    · rw [h] at b c
      simp only at b c
      rw [List.length_drop] at c
      obtain ⟨m', hm'⟩ : ∃ m' : Nat, (m : Int) = hlen n l + m' := ⟨m - (hlen n l).toNat, by omega⟩
      have hm8 : 8 ≤ m := by omega
      have e1 : (l.take m).length = m := by simp; omega
      rw [e1, if_neg (by omega), hlen_take hm8, herr_take hm8, if_neg (by omega), if_pos q5, getD_take (by omega), List.drop_take]
      have e2 : m - (hlen n l).toNat = m' := by omega
      have e3 : k + (m : Int) = k + hlen n l + (m' : Int) := by omega
      rw [e2, e3]
      rw [e3] at h
      exact ih _ _ _ _ _ _ (by omega) (by omega) (bytesB_drop hb _) h (by omega) (by omega)
    · rw [h] at a; exact absurd rfl a
theorem bad6_not {la nx pr : Int} {cs : List Int} (h : ¬ bad6 la nx pr cs) : la < 1048576 ∧ chainF 9 nx cs 0 0 = (pr, (cs.length : Int), 0) := by
  unfold bad6 at h
  simp only [not_or, Decidable.not_not] at h
  obtain ⟨h1, h2, h3, h4⟩ := h
  exact ⟨by omega, Prod.ext h3 (Prod.ext h4 h2)⟩
theorem ip6_back {cl la nx pr ho : Int} {ss ds cs ps rest : List Int} (hg : good6 cl la nx pr ho ss ds cs) (hb : ¬ bad6 la nx pr cs) (hl : cs.length + ps.length ≤ 1620) (hp : bytesB ps = true) :
    ip6V ((head6 cl la nx ho ((cs.length : Int) + (ps.length : Int)) ++ (ss ++ (ds ++ (cs ++ ps)))) ++ rest) = (.tup [ip6A cl la nx pr ho ss ds (.own 0 0 0 cs.length 1 (.whole 5)), .own 1 0 0 ps.length 1 (.whole 5), .v (.int .i64 0)], [B8 cs, B8 ps]) := by
  obtain ⟨c0, c1, l0, l1, n0, n1, p0, p1, h0, h1, hs, hd, bs, bd, bc, hcl⟩ := hg
  obtain ⟨hla, hch⟩ := bad6_not hb
  obtain ⟨Z, hZ⟩ : ∃ Z, (head6 cl la nx ho ((cs.length : Int) + (ps.length : Int)) ++ (ss ++ (ds ++ (cs ++ ps)))) ++ rest = Z := ⟨_, rfl⟩
  have e8 : Z.drop 8 = ss ++ (ds ++ (cs ++ (ps ++ rest))) := by rw [← hZ]; simp [head6]
  have g0 : gb Z 0 = 96 + cl / 16 := by rw [← hZ]; rfl
  have g1 : gb Z 1 = cl % 16 * 16 + la / 65536 := by rw [← hZ]; rfl
  have g2 : gb Z 2 = la / 256 % 256 := by rw [← hZ]; rfl
  have g3 : gb Z 3 = la % 256 := by rw [← hZ]; rfl
  have g4 : gb Z 4 = ((cs.length : Int) + (ps.length : Int)) / 256 := by rw [← hZ]; rfl
  have g5 : gb Z 5 = ((cs.length : Int) + (ps.length : Int)) % 256 := by rw [← hZ]; rfl
  have g6 : gb Z 6 = nx := by rw [← hZ]; rfl
  have g7 : gb Z 7 = ho := by rw [← hZ]; rfl
  have zl : Z.length = 40 + cs.length + ps.length + rest.length := by rw [← hZ]; simp [head6, hs, hd]; omega
  have e24 : Z.drop 24 = ds ++ (cs ++ (ps ++ rest)) := by rw [show (24 : Nat) = 8 + 16 from rfl, ← List.drop_drop, e8, List.drop_left' hs]
  have e40 : Z.drop 40 = cs ++ (ps ++ rest) := by rw [show (40 : Nat) = 24 + 16 from rfl, ← List.drop_drop, e24, List.drop_left' hd]
  have hL : len6 Z = cs.length + ps.length := by unfold len6; rw [g4, g5]; omega
  have e4 : (Z.drop 40).take (cs.length + ps.length) = cs ++ ps := by rw [e40, ← List.append_assoc, List.take_left' (by simp)]
  have ec : chainF 9 nx (cs ++ ps) 0 0 = (pr, (cs.length : Int), 0) := by rw [chain_more 9 nx cs ps 0 0 (by omega) bc (by rw [hch]) (by omega) (by omega), hch]
  have ea : (Z.drop 8).take 16 = ss := by rw [e8, List.take_left' hs]
  have eb : (Z.drop 24).take 16 = ds := by rw [e24, List.take_left' hd]
  have ed : (Z.drop 40).take cs.length = cs := by rw [e40, List.take_left' rfl]
  have ee : (Z.drop (40 + cs.length)).take ps.length = ps := by rw [← List.drop_drop, e40, List.drop_left' rfl, List.take_left' rfl]
  rw [hZ]
  unfold ip6V
  rw [hL, g6, e4, ec, if_neg (by omega), if_neg (by rw [g0]; omega), if_neg (by omega), if_pos rfl]
  unfold ip6R
  simp only [Int.toNat_natCast]
  rw [ea, eb, ed, show cs.length + ps.length - cs.length = ps.length by omega, ee, g0, g1, g2, g3, g6, g7, show (96 + cl / 16) % 16 * 16 + (cl % 16 * 16 + la / 65536) / 16 = cl by omega, show (cl % 16 * 16 + la / 65536) % 16 * 65536 + la / 256 % 256 * 256 + la % 256 = la by omega]
theorem take8_eq {zs : List Int} (h : 8 ≤ zs.length) : zs.take 8 = [gb zs 0, gb zs 1, gb zs 2, gb zs 3, gb zs 4, gb zs 5, gb zs 6, gb zs 7] := by
  match zs, h with
  | a :: b :: c :: d :: e :: f :: g :: i :: r, _ => rfl
theorem ip6_again {bs : List Int} {r1 : Int} {n : Nat} (hz : bytesB bs = true) (h40 : 40 ≤ bs.length) (h6 : gb bs 0 / 16 = 6) (hL : 40 + len6 bs ≤ bs.length) (hn : n ≤ len6 bs) (hc : chainF 9 (gb bs 6) ((bs.drop 40).take (len6 bs)) 0 0 = (r1, (n : Int), 0)) :
    good6 (gb bs 0 % 16 * 16 + gb bs 1 / 16) (gb bs 1 % 16 * 65536 + gb bs 2 * 256 + gb bs 3) (gb bs 6) r1 (gb bs 7) ((bs.drop 8).take 16) ((bs.drop 24).take 16) ((bs.drop 40).take n) ∧ 
    w6V (gb bs 0 % 16 * 16 + gb bs 1 / 16) (gb bs 1 % 16 * 65536 + gb bs 2 * 256 + gb bs 3) (gb bs 6) r1 (gb bs 7) ((bs.drop 8).take 16) ((bs.drop 24).take 16) ((bs.drop 40).take n) ((bs.drop (40 + n)).take (len6 bs - n)) = if 1620 < len6 bs then errB 3 else wB (bs.take (40 + len6 bs)) := by
  have g0 := gb_range hz 0
  have g1 := gb_range hz 1
  have g2 := gb_range hz 2
  have g3 := gb_range hz 3
  have g4 := gb_range hz 4
  have g5 := gb_range hz 5
  have g6 := gb_range hz 6
  have g7 := gb_range hz 7
  have hl6 := len6_le hz
  have hlb : bytesB ((bs.drop 40).take (len6 bs)) = true := bytesB_take (bytesB_drop hz _) _
  have hout := chain_out 9 (gb bs 6) ((bs.drop 40).take (len6 bs)) 0 0 g6.1 g6.2 hlb (by omega) (by omega) (by omega)
  rw [hc] at hout
  have hr : 0 ≤ r1 ∧ r1 ≤ 255 := by
    rcases hout with ⟨_, _, _, a, b⟩ | ⟨a, _⟩
    · exact ⟨a, b⟩
    · exact absurd rfl a
  have hcl : ((bs.drop 40).take n).length = n := by simp; omega
  have hql : ((bs.drop (40 + n)).take (len6 bs - n)).length = len6 bs - n := by simp; omega
  have hless : chainF 9 (gb bs 6) ((bs.drop 40).take n) 0 0 = (r1, (n : Int), 0) := by
    have := chain_less 9 (gb bs 6) ((bs.drop 40).take (len6 bs)) 0 0 r1 n (by omega) (by omega) hlb (by simpa using hc) (by omega) (by omega)
    rw [List.take_take, Nat.min_eq_left hn] at this
    simpa using this
  refine ⟨⟨by omega, by omega, by omega, by omega, g6.1, g6.2, hr.1, hr.2, g7.1, g7.2, by simp; omega, by simp; omega, bytesB_take (bytesB_drop hz _) _, bytesB_take (bytesB_drop hz _) _, bytesB_take (bytesB_drop hz _) _, by omega⟩, ?_⟩
  unfold w6V
  rw [if_neg (by unfold bad6; rw [hless, hcl]; simp; omega), hcl, hql, show n + (len6 bs - n) = len6 bs by omega]
  congr 2
  have e1 : head6 (gb bs 0 % 16 * 16 + gb bs 1 / 16) (gb bs 1 % 16 * 65536 + gb bs 2 * 256 + gb bs 3) (gb bs 6) (gb bs 7) ((n : Int) + ((len6 bs - n : Nat) : Int)) = bs.take 8 := by
    rw [take8_eq (by omega)]
    have : (n : Int) + ((len6 bs - n : Nat) : Int) = gb bs 4 * 256 + gb bs 5 := by unfold len6 at hn ⊢; omega
    rw [this]
    unfold head6
    simp only [List.cons.injEq, and_true]
    refine ⟨by omega, by omega, by omega, by omega, by omega, by omega⟩
  rw [e1, show 40 + len6 bs = 8 + (16 + (16 + (n + (len6 bs - n)))) by omega, List.take_add, List.take_add (l := bs.drop 8), List.drop_drop, List.take_add (l := bs.drop (8 + 16)), List.drop_drop, List.take_add (l := bs.drop (8 + 16 + 16)), List.drop_drop]
end Go.Proofs.Ytcbjjkpjbdcakaa
