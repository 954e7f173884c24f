import Derived.Test.YtmdafjegddnecaaMk
import Derived.Test.YtmdafjegddnecaaZl
import Derived.Test.YtmdafjegddnecaaMn
/- Plain law: a packet that is too big is told of by a report of its flow. -/
namespace Go.Proofs.Ytmdafjegddnecaa
open Go.Pm Go.Wb
set_option linter.unusedVariables false
set_option linter.unusedSimpArgs false
set_option maxRecDepth 1000000
theorem rdE_back {v6 : Bool} {ss ds h ps : List Int} {k c : Int} {len : Nat} (hg : goodIW k c ss ds h ps len) (he : isE v6 k = true) : rdE v6 ss ds (w6M k c (skV v6 ss ds (k :: c :: 0 :: 0 :: (h ++ ps))) h ps) = wiE v6 ps := by
  have hh := hg.2.2.2.2.1
  have h0 := skV_back (v6 := v6) hg
  unfold rdE
  rw [if_neg (by rw [w6M_len hh]; omega), if_neg (by rw [h0]; simp), if_neg (by show ¬ isE v6 k = false; simp [he]), w6M_drop hh]
theorem rdT_back {v6 : Bool} {ss ds h ps : List Int} {k c : Int} {len : Nat} (hg : goodIW k c ss ds h ps len) (he : isE v6 k = true) : rdT v6 ss ds (w6M k c (skV v6 ss ds (k :: c :: 0 :: 0 :: (h ++ ps))) h ps) = if wiE v6 ps = 0 then repA k c v6 (hdP v6 ps) (hdS v6 ps) (hdD v6 ps) (w16 ps (hdN v6 ps + 2)) (w16 ps (hdN v6 ps)) else noRep := by
  have hh := hg.2.2.2.2.1
  unfold rdT
  rw [rdE_back hg he, w6M_drop hh]; rfl
theorem chain_up {pr : Int} (l : List Int) (h : pr = 6 ∨ pr = 17 ∨ pr = 58) : chainF 9 pr l 0 0 = (pr, 0, 0) := by
  rcases h with rfl | rfl | rfl <;> rfl
theorem w6_eq {pr ho : Int} {S D M W : List Int} (h : w6V 0 0 pr pr ho S D [] M = ewC W) : W = head6 0 0 pr ho (M.length : Int) ++ (S ++ (D ++ M)) := by
  unfold w6V at h
  split at h
  · simp [errB, ewC] at h
  split at h
  · simp [errB, ewC] at h
  · unfold wB ewC at h
    have h2 := (Prod.mk.inj h).2
    have h3 := B8_inj (List.cons.inj h2).1
    rw [← h3]; simp
theorem w4_eq {pr ttl : Int} {S D M W : List Int} (h : w4V 0 0 false ttl pr S D [] M = ewC W) : ∃ a b c d : Int, W = 69 :: 0 :: a :: b :: 0 :: 0 :: 0 :: 0 :: ttl :: pr :: c :: d :: gb S 0 :: gb S 1 :: gb S 2 :: gb S 3 :: gb D 0 :: gb D 1 :: gb D 2 :: gb D 3 :: M := by
  unfold w4V at h
  split at h
  · simp [errC, ewC] at h
  split at h
  · simp [errC, ewC] at h
  split at h
  · simp [errC, ewC] at h
  · unfold wC ewC at h
    have h2 := (Prod.mk.inj h).2
    have h3 := B8_inj (List.cons.inj h2).1
    exact ⟨_, _, _, _, h3.symm⟩
/-- A flow's packet. -/
def pkT (v6 : Bool) (pr : Int) (S D R : List Int) : AV × List (List AV) := if v6 = true then w6V 0 0 pr pr 0 S D [] R else w4V 0 0 false 0 pr S D [] R
theorem ad4_id {S : List Int} (hS : S.length = 16) (z : S.drop 4 = zero12) : ad4 S = S := ad4_self hS z
theorem gb_take {l : List Int} {i m : Nat} (h : i < m) : gb (l.take m) i = gb l i := getD_take h
theorem w16_take {l : List Int} {i m : Nat} (h : i + 1 < m) : w16 (l.take m) i = w16 l i := by
  unfold w16
  rw [getD_take (by omega), getD_take h]
/-- What the first bytes of a flow's packet tell. -/
theorem within_of {v6 : Bool} {pr : Int} {S D R P : List Int} {n : Nat} (hp : pr = 6 ∨ pr = 17) (hS : S.length = 16) (hD : D.length = 16) (z : v6 = false → S.drop 4 = zero12 ∧ D.drop 4 = zero12) (h : pkT v6 pr S D R = ewC P) (hn : n = (if v6 = true then 40 else 20) + 8 ∨ (v6 = true ∧ 48 ≤ n)) (hR : 8 ≤ R.length) (hnl : n ≤ P.length) :
    wiE v6 (P.take n) = 0 ∧ hdP v6 (P.take n) = pr ∧ hdS v6 (P.take n) = D ∧ hdD v6 (P.take n) = S ∧ w16 (P.take n) (hdN v6 (P.take n) + 2) = w16 R 2 ∧ w16 (P.take n) (hdN v6 (P.take n)) = w16 R 0 := by
  cases v6 with
  | true =>
    have hP := w6_eq h
    have hn48 : 48 ≤ n := by
      rcases hn with h | h
      · simp at h; omega
      · exact h.2
    obtain ⟨j, rfl⟩ : ∃ j, n = 40 + j := ⟨n - 40, by omega⟩
    have hps : P.take (40 + j) = head6 0 0 pr 0 (R.length : Int) ++ (S ++ (D ++ R.take j)) := by
      rw [hP, List.take_append, List.take_of_length_le (by simp [head6]; omega), List.take_append, List.take_of_length_le (by simp [head6, hS]; omega), List.take_append, List.take_of_length_le (by simp [head6, hS, hD]; omega)]
      congr 4
      simp [head6, hS, hD]; omega
    have hl : (P.take (40 + j)).length = 40 + j := by simp; omega
    have g0 : gb (P.take (40 + j)) 0 / 16 = 6 := by rw [hps]; rfl
    have g6 : gb (P.take (40 + j)) 6 = pr := by rw [hps]; rfl
    have d8 : ((P.take (40 + j)).drop 8).take 16 = S := by
      rw [hps]
      show (S ++ (D ++ R.take j)).take 16 = S
      exact List.take_left' hS
    have d24 : ((P.take (40 + j)).drop 24).take 16 = D := by
      rw [hps]
      show ((S ++ (D ++ R.take j)).drop 16).take 16 = D
      rw [List.drop_left' hS]
      exact List.take_left' hD
    have d40 : (P.take (40 + j)).drop 40 = R.take j := by
      rw [hps]
      show (S ++ (D ++ R.take j)).drop 32 = R.take j
      rw [show (32 : Nat) = 16 + 16 from rfl, ← List.drop_drop, List.drop_left' hS, List.drop_left' hD]
    generalize P.take (40 + j) = Z at *
    have hc := chain_up (Z.drop 40) (pr := pr) (by rcases hp with h | h; exact .inl h; exact .inr (.inl h))
    have hE : hdE true Z = 0 := by
      unfold hdE hd6E
      rw [if_pos rfl, if_neg (by omega), if_neg (by simp [g0]), g6, hc]
    have hPr : hdP true Z = pr := by unfold hdP; rw [if_pos rfl, g6, hc]
    have hN : hdN true Z = 40 := by unfold hdN; rw [if_pos rfl, g6, hc]; rfl
    have e1 : w16 Z 42 = w16 R 2 := by rw [show (42 : Nat) = 40 + 2 from rfl, ← w16_drop, d40, w16_take (by omega)]
    have e2 : w16 Z 40 = w16 R 0 := by rw [show (40 : Nat) = 40 + 0 from rfl, ← w16_drop, d40, w16_take (by omega)]
    refine ⟨?_, hPr, by unfold hdS; rw [if_pos rfl, d24], by unfold hdD; rw [if_pos rfl, d8], by rw [hN]; exact e1, by rw [hN]; exact e2⟩
    unfold wiE
    rw [hE, hPr, hN, if_neg (by simp), if_neg (by omega), if_neg (by omega)]
  | false =>
    obtain ⟨a, b, c, d, hP⟩ := w4_eq h
    have hn28 : n = 28 := by
      rcases hn with h | h
      · simpa using h
      · cases h.1
    subst hn28
    have hps : P.take 28 = 69 :: 0 :: a :: b :: 0 :: 0 :: 0 :: 0 :: 0 :: pr :: c :: d :: gb S 0 :: gb S 1 :: gb S 2 :: gb S 3 :: gb D 0 :: gb D 1 :: gb D 2 :: gb D 3 :: R.take 8 := by rw [hP]; rfl
    have hl : (P.take 28).length = 28 := by simp; omega
    have g0 : gb (P.take 28) 0 = 69 := by rw [hps]; rfl
    have g6 : w16 (P.take 28) 6 = 0 := by rw [hps]; rfl
    have g9 : gb (P.take 28) 9 = pr := by rw [hps]; rfl
    have d12 : ad4 ((P.take 28).drop 12) = S := by
      rw [hps]
      exact ad4_id hS (z rfl).1
    have d16 : ad4 ((P.take 28).drop 16) = D := by
      rw [hps]
      exact ad4_id hD (z rfl).2
    have e1 : w16 (P.take 28) 22 = w16 R 2 := by
      rw [hps]
      show w16 (R.take 8) 2 = w16 R 2
      exact w16_take (by omega)
    have e2 : w16 (P.take 28) 20 = w16 R 0 := by
      rw [hps]
      show w16 (R.take 8) 0 = w16 R 0
      exact w16_take (by omega)
    generalize P.take 28 = Z at *
    have hn4 : hn4 Z = 20 := by unfold hn4; rw [g0]; rfl
    have hE : hdE false Z = 0 := by
      unfold hdE hd4E
      rw [if_neg (by simp), if_neg (by omega), if_neg (by rw [g0]; decide), hn4, if_neg (by omega), if_neg (by omega), if_neg (by rw [g6]; decide)]
    have hPr : hdP false Z = pr := by unfold hdP; rw [if_neg (by simp)]; exact g9
    have hN : hdN false Z = 20 := by unfold hdN; rw [if_neg (by simp)]; exact hn4
    refine ⟨?_, hPr, by unfold hdS; rw [if_neg (by simp)]; exact d16, by unfold hdD; rw [if_neg (by simp)]; exact d12, by rw [hN]; exact e1, by rw [hN]; exact e2⟩
    unfold wiE
    rw [hE, hPr, hN, if_neg (by simp), if_neg (by omega), if_neg (by omega)]
theorem pkT_said {v6 : Bool} {pr : Int} {S D R : List Int} (hp : pr = 6 ∨ pr = 17) (hS : S.length = 16) (hD : D.length = 16) (z : v6 = false → S.drop 4 = zero12 ∧ D.drop 4 = zero12) (bS : bytesB S = true) (bD : bytesB D = true) (bR : bytesB R = true) (hl : R.length ≤ 1600) : ∃ W, pkT v6 pr S D R = ewC W ∧ W.length = (if v6 = true then 40 else 20) + R.length ∧ Said v6 pr S D R W := by
  have hc := chain_up [] (pr := pr) (by rcases hp with h | h; exact .inl h; exact .inr (.inl h))
  cases v6 with
  | true => exact an_back6 (ho := 0) hc (by omega) (by omega) (by decide) (by decide) hS hD bS bD bR (by omega)
  | false => exact an_back4 (ttl := 0) (by omega) (by omega) (by decide) (by decide) hS hD (z rfl).1 (z rfl).2 bS bD bR (by omega)
theorem anN_of {v6 : Bool} {pr : Int} {S D R P : List Int} (hp : pr = 6 ∨ pr = 17) (h : pkT v6 pr S D R = ewC P) : anN P = if v6 = true then 40 else 20 := by
  cases v6 with
  | true =>
    have hP := w6_eq h
    have g6 : gb P 6 = pr := by rw [hP]; rfl
    have hv : an6 P = true := by
      have : gb P 0 / 16 = 6 := by rw [hP]; rfl
      simp [an6, this]
    unfold anN anC
    rw [if_pos hv, g6, chain_up _ (by rcases hp with h | h; exact .inl h; exact .inr (.inl h))]
    rfl
  | false =>
    obtain ⟨a, b, c, d, hP⟩ := w4_eq h
    have g0 : gb P 0 = 69 := by rw [hP]; rfl
    have hv : an6 P = false := by simp [an6, g0]
    unfold anN hl4
    rw [if_neg (by simp [hv]), g0]
    rfl
end Go.Proofs.Ytmdafjegddnecaa

/- Plain law: what is told of a packet of a flow, and how it is read. -/
namespace Go.Proofs.Ytmdafjegddnecaa
open Go.Pm Go.Wb
set_option linter.unusedVariables false
set_option linter.unusedSimpArgs false
set_option maxRecDepth 1000000
theorem w4_raw {pr ttl : Int} {S D M W : List Int} (h : w4V 0 0 false ttl pr S D [] M = ewC W) : W = putS (head4 0 0 false ttl pr S D [] (20 + (([] : List Int).length : Int) + (M.length : Int))) (ofV (head4 0 0 false ttl pr S D [] (20 + (([] : List Int).length : Int) + (M.length : Int)))) ++ M := by
  unfold w4V at h
  split at h
  · simp [errC, ewC] at h
  split at h
  · simp [errC, ewC] at h
  split at h
  · simp [errC, ewC] at h
  · unfold wC ewC at h
    have h2 := (Prod.mk.inj h).2
    exact (B8_inj (List.cons.inj h2).1).symm
theorem ip6_of {ho : Int} {S D M W : List Int} (h0 : 0 ≤ ho) (h1 : ho ≤ 255) (hS : S.length = 16) (hD : D.length = 16) (bS : bytesB S = true) (bD : bytesB D = true) (bM : bytesB M = true) (hl : M.length ≤ 1600) (h : w6V 0 0 58 58 ho S D [] M = ewC W) :
    ip6V W = (.tup [ip6A 0 0 58 58 ho S D (.own 0 0 0 0 1 (.whole 5)), .own 1 0 0 M.length 1 (.whole 5), .v (.int .i64 0)], [[], B8 M]) := by
  have hc : chainF 9 58 [] 0 0 = (58, 0, 0) := rfl
  have hnb : ¬ bad6 0 58 58 [] := by unfold bad6; rw [hc]; simp
  have hg : good6 0 0 58 58 ho S D [] := ⟨by decide, by decide, by decide, by decide, by decide, by decide, by decide, by decide, h0, h1, hS, hD, bS, bD, rfl, by decide⟩
  have hb := ip6_back (ps := M) (rest := []) hg hnb (by simp; omega) bM
  rw [w6_eq h]
  simpa using hb
theorem ip4_of {ttl : Int} {S D M W : List Int} (h0 : 0 ≤ ttl) (h1 : ttl ≤ 255) (hS : S.length = 16) (hD : D.length = 16) (zS : S.drop 4 = zero12) (zD : D.drop 4 = zero12) (bS : bytesB S = true) (bD : bytesB D = true) (bM : bytesB M = true) (hl : M.length ≤ 1600) (h : w4V 0 0 false ttl 1 S D [] M = ewC W) :
    ip4V W = (.tup [ip4A 0 0 false ttl 1 S D (.own 0 0 0 0 1 (.whole 5)), .own 1 0 0 M.length 1 (.whole 5), .v (.int .i64 0)], [[], B8 M]) := by
  have hnb : ¬ bad4 S D := by unfold bad4; rw [zS, zD]; simp
  have hg : good4 0 0 ttl 1 S D [] := ⟨by decide, by decide, by decide, by decide, h0, h1, by decide, by decide, hS, hD, bS, bD, rfl, by decide⟩
  have hb := (ip4_back (df := false) (ps := M) (rest := []) hg (by decide) hnb (by simp; omega) bM rfl).1
  rw [w4_raw h]
  rw [List.append_nil] at hb
  exact hb
theorem isE_tb (v6 : Bool) : isE v6 (tbK v6) = true := by cases v6 <;> rfl
theorem rep_law {v6 : Bool} {pr size : Int} {S D F R : List Int} (hp : pr = 6 ∨ pr = 17) (hS : S.length = 16) (hD : D.length = 16) (hF : F.length = 16) (z : v6 = false → S.drop 4 = zero12 ∧ D.drop 4 = zero12 ∧ F.drop 4 = zero12) (bS : bytesB S = true) (bD : bytesB D = true) (bF : bytesB F = true) (bR : bytesB R = true) (h8 : 8 ≤ R.length) (hl : R.length ≤ 1400) (z0 : 0 ≤ size) (z1 : size ≤ 65535) :
    ∃ P, pkT v6 pr S D R = ewC P ∧ P.length ≤ 1500 ∧ bytesB P = true ∧ ((∃ e, ¬ e = 0 ∧ tbV P F size = ewE e) ∨ (∃ Q M k c, tbV P F size = ewC Q ∧ Q.length ≤ 1280 ∧ bytesB Q = true ∧
      (v6 = true → ip6V Q = (.tup [ip6A 0 0 58 58 64 F S (.own 0 0 0 0 1 (.whole 5)), .own 1 0 0 M.length 1 (.whole 5), .v (.int .i64 0)], [[], B8 M])) ∧
      (v6 = false → ip4V Q = (.tup [ip4A 0 0 false 64 1 F S (.own 0 0 0 0 1 (.whole 5)), .own 1 0 0 M.length 1 (.whole 5), .v (.int .i64 0)], [[], B8 M])) ∧
      goodM F S M M.length ∧ M.length ≤ 1300 ∧ rdV v6 F S M = (.tup [repA k c v6 pr D S (w16 R 2) (w16 R 0), .v (.int .i64 0)], []) ∧ tbV Q S size = ewE 10)) := by
  obtain ⟨P, hP, hPl, hsaid⟩ := pkT_said (v6 := v6) (D := D) hp hS hD (fun h => ⟨(z h).1, (z h).2.1⟩) bS bD bR (by omega)
  have hN := anN_of hp hP
  have hsaid0 := hsaid
  obtain ⟨bP, s1, s2, s3, s4, s5, s6⟩ := hsaid
  refine ⟨P, hP, by rw [hPl]; split <;> omega, bP, ?_⟩
  by_cases hE : tbE P size = 0
  case neg => exact .inl ⟨_, hE, by unfold tbV; rw [if_pos hE]⟩
  right
  have hn : tbN P = if v6 = true then (if 40 + R.length < 1232 then 40 + R.length else 1232) else 28 := by
    unfold tbN
    rw [s2, s6, hN]
    cases v6 with
    | true => simp
    | false => simp; omega
  have hn1 : tbN P = (if v6 = true then 40 else 20) + 8 ∨ (v6 = true ∧ 48 ≤ tbN P) := by
    rw [hn]
    cases v6 with
    | true => right; refine ⟨rfl, ?_⟩; rw [if_pos rfl]; split <;> omega
    | false => left; rfl
  have hn2 : tbN P ≤ P.length := by
    rw [hn, hPl]
    cases v6 with
    | true => simp; split <;> omega
    | false => simp; omega
  have hn3 : tbN P ≤ 1232 := by
    rw [hn]
    cases v6 with
    | true => simp; split <;> omega
    | false => simp
  have hn4 : v6 = false → tbN P = 28 := by intro h; rw [hn, h]; rfl
  obtain ⟨i1, i2, i3, i4, i5, i6⟩ := within_of hp hS hD (fun h => ⟨(z h).1, (z h).2.1⟩) hP hn1 h8 hn2
  have hpl : (P.take (tbN P)).length = tbN P := by simp; omega
  have bps := bytesB_take bP (tbN P)
  have hv : tbV P F size = pkV v6 F S (tbM v6 F S size (P.take (tbN P))) := by
    unfold tbV
    rw [if_neg (by simp [hE]), s2, s3]
  generalize P.take (tbN P) = ps at *
  generalize tbN P = n at *
  have hk0 : 0 ≤ tbK v6 ∧ tbK v6 ≤ 255 ∧ 0 ≤ tbC v6 ∧ tbC v6 ≤ 255 := by cases v6 <;> decide
  have bh : bytesB [0, 0, size / 256, size % 256] = true := by
    simp only [bytesB_cons, Bool.and_eq_true, decide_eq_true_eq]
    exact ⟨by omega, by omega, by omega, by omega, rfl⟩
  have hg : goodIW (tbK v6) (tbC v6) F S [0, 0, size / 256, size % 256] ps ps.length := ⟨rfl, by omega, hF, hS, rfl, bps, bF, bS, bh, hk0.1, hk0.2.1, hk0.2.2.1, hk0.2.2.2⟩
  have hgm := goodM_back (v6 := v6) hg (by omega)
  have hrE := rdE_back (v6 := v6) hg (isE_tb v6)
  have hrT := rdT_back (v6 := v6) hg (isE_tb v6)
  rw [if_pos i1, i2, i3, i4, i5, i6] at hrT
  rw [i1] at hrE
  have hM0 : gb (tbM v6 F S size ps) 0 = tbK v6 := rfl
  have hMe : tbM v6 F S size ps = w6M (tbK v6) (tbC v6) (skV v6 F S (tbK v6 :: tbC v6 :: 0 :: 0 :: ([0, 0, size / 256, size % 256] ++ ps))) [0, 0, size / 256, size % 256] ps := rfl
  rw [← hMe] at hgm hrE hrT
  have hMl : (tbM v6 F S size ps).length = 8 + ps.length := hgm.1
  have bM : bytesB (tbM v6 F S size ps) = true := hgm.2.2.2.2.1
  generalize tbM v6 F S size ps = M at *
  obtain ⟨Q, hQ, hQl, hsaidQ⟩ := pk_said (v6 := v6) hF hS (fun h => ⟨(z h).2.2, (z h).1⟩) bF bS bM (by omega)
  refine ⟨Q, M, tbK v6, tbC v6, by rw [hv, hQ], ?_, hsaidQ.1, ?_, ?_, by rw [hMl]; exact hgm, by omega, ?_, ?_⟩
  · rw [hQl]
    cases v6 with
    | true => simp; omega
    | false => have := hn4 rfl; simp; omega
  · rintro rfl
    exact ip6_of (by decide) (by decide) hF hS bF bS bM (by omega) hQ
  · rintro rfl
    exact ip4_of (by decide) (by decide) hF hS (z rfl).2.2 (z rfl).1 bF bS bM (by omega) hQ
  · unfold rdV
    rw [hrT, hrE]
  · obtain ⟨_, q1, q2, q3, q4, q5, q6⟩ := hsaidQ
    have : tbE Q size = 10 := by
      unfold tbE
      rw [q2, q5, q6, if_neg (by simp [q1]), if_pos ⟨rfl, by omega, by rw [hM0]; exact isE_tb v6⟩]
    unfold tbV
    rw [this, if_pos (by decide)]
end Go.Proofs.Ytmdafjegddnecaa

/- The law AnswerReports as a function of values. -/
namespace Go.Proofs.Ytmdafjegddnecaa
open Go.Pm Go.Wb Go.RowKit
set_option linter.unusedVariables false
set_option linter.unusedSimpArgs false
set_option maxRecDepth 1000000
theorem eqV_ci (k : IntKind) (a : Int) (x y : List Value) : eqV (.int k a :: x) (.int k a :: y) = eqV x y := by
  show (decide _ && eqV x y) = _
  simp
theorem eqV_cb (a : Bool) (x y : List Value) : eqV (.bool a :: x) (.bool a :: y) = eqV x y := by
  show (decide _ && eqV x y) = _
  simp
theorem eqV_n : eqV [] [] = true := rfl
theorem eqV_m (S : List Int) (x y : List Value) : eqV (S.map (Value.int .u8) ++ x) (S.map (Value.int .u8) ++ y) = eqV x y := by
  induction S with
  | nil => rfl
  | cons z S ih => show eqV (.int .u8 z :: (S.map (Value.int .u8) ++ x)) (.int .u8 z :: (S.map (Value.int .u8) ++ y)) = _; rw [eqV_ci, ih]
theorem pairOk_app {S : List Int} {ks : List LK} {x : List Value} : pairOk ((S.map fun _ => LK.int) ++ ks) (S.map (Value.int .u8) ++ x) (S.map (Value.int .u8) ++ x) = pairOk ks x x := by
  induction S with
  | nil => rfl
  | cons z S ih => simp only [List.map_cons, List.cons_append, pairOk, leafOk, decide_true, Bool.true_and]; exact ih
theorem pairOk34 {S E : List Int} (hS : S.length = 16) (hE : E.length = 16) (sp dp : Int) : pairOk [.int, .int, .int, .int, .int, .int, .int, .int, .int, .int, .int, .int, .int, .int, .int, .int, .int, .int, .int, .int, .int, .int, .int, .int, .int, .int, .int, .int, .int, .int, .int, .int, .int, .int] (S.map (Value.int .u8) ++ (E.map (Value.int .u8) ++ [Value.int .u16 sp, Value.int .u16 dp])) (S.map (Value.int .u8) ++ (E.map (Value.int .u8) ++ [Value.int .u16 sp, Value.int .u16 dp])) = true := by
  have e : ([.int, .int, .int, .int, .int, .int, .int, .int, .int, .int, .int, .int, .int, .int, .int, .int, .int, .int, .int, .int, .int, .int, .int, .int, .int, .int, .int, .int, .int, .int, .int, .int, .int, .int] : List LK) = (S.map fun _ => LK.int) ++ ((E.map fun _ => LK.int) ++ [.int, .int]) := by rw [kinds_of hS, kinds_of hE]; rfl
  rw [e, pairOk_app, pairOk_app]; rfl
theorem valsOf_B8app (zs : List Int) (T : List AV) : valsOf (B8 zs ++ T) = (valsOf T).map (zs.map (Value.int .u8) ++ ·) := by
  induction zs with
  | nil => show valsOf T = _; cases valsOf T <;> rfl
  | cons z zs ih =>
    show (valsOf (B8 zs ++ T)).map _ = _
    rw [ih]; cases valsOf T <;> rfl
noncomputable def KAU : Nat → Option Con
  | 43 => some fW4
  | 44 => some fW6
  | 48 => some fATooBig
  | 52 => some fIP4
  | 22 => some fIP6
  | 53 => some fRead
  | 37 => some fKnown37
  | _ => none
theorem kau_ok : KOk Try.prog KAU := fun f F h => by
  unfold KAU at h
  split at h
  · cases h; exact ⟨w4_pure, _, Try.func43, rfl, by decide⟩
  · cases h; exact ⟨w6_pure, _, Try.func44, rfl, by decide⟩
  · cases h; exact ⟨abig_pure, _, Try.func48, rfl, by decide⟩
  · cases h; exact ⟨ip4_pure, _, Try.func52, rfl, by decide⟩
  · cases h; exact ⟨ip6_pure, _, Try.func22, rfl, by decide⟩
  · cases h; exact ⟨read_pure, _, Try.func53, rfl, by decide⟩
  · cases h; exact ⟨known37_pure, _, Try.func37, rfl, by decide⟩
  · cases h
section
variable {D : FuncId → Nat → List Nat} {L d px : Nat} {args : List AV} {m : Mem}
theorem ckau_w4 : pvCall Try.prog KAU D L d px 43 args m = callBy fW4 m px args := pvCall_by rfl
theorem ckau_w6 : pvCall Try.prog KAU D L d px 44 args m = callBy fW6 m px args := pvCall_by rfl
theorem ckau_abig : pvCall Try.prog KAU D L d px 48 args m = callBy fATooBig m px args := pvCall_by rfl
theorem ckau_ip4 : pvCall Try.prog KAU D L d px 52 args m = callBy fIP4 m px args := pvCall_by rfl
theorem ckau_ip6 : pvCall Try.prog KAU D L d px 22 args m = callBy fIP6 m px args := pvCall_by rfl
theorem ckau_iread : pvCall Try.prog KAU D L d px 53 args m = callBy fRead m px args := pvCall_by rfl
theorem ckau_known : pvCall Try.prog KAU D L d px 37 args m = callBy fKnown37 m px args := pvCall_by rfl
end
theorem ekau_w4 : KAU 43 = some (.pure fW4) := rfl
theorem ekau_w6 : KAU 44 = some (.pure fW6) := rfl
theorem ekau_abig : KAU 48 = some (.pure fATooBig) := rfl
theorem ekau_ip4 : KAU 52 = some (.pure fIP4) := rfl
theorem ekau_ip6 : KAU 22 = some (.pure fIP6) := rfl
theorem ekau_iread : KAU 53 = some (.pure fRead) := rfl
theorem ekau_known : KAU 37 = some (.pure fKnown37) := rfl
attribute [simp] ckau_w4 ekau_w4 ckau_w6 ekau_w6 ckau_abig ekau_abig ckau_ip4 ekau_ip4 ckau_ip6 ekau_ip6 ckau_iread ekau_iread ckau_known ekau_known
set_option maxHeartbeats 8000000 in
theorem areport_long (v6 tcp : Bool) (ss ds fs : List Int) (R : List Int) (nn : Bool) (cap : Option Nat) (size : Int) (hp : R.length ≤ 9223372036854775807) (hs : ss.length = 16) (hd : ds.length = 16) (hf : fs.length = 16) (h : 1400 < R.length ∨ R.length < 8) : (pvCall Try.prog KAU Dm 100000 1 0 14 [.v (.bool v6), .v (.bool tcp), .agg (B8 ss), .agg (B8 ds), .agg (B8 fs), .sl nn (B8 R) R.length cap, .v (.int .u16 size)] (fun _ => none)).map (·.1) = some (.v (.bool true)) := by
  have t1 : ss.take 16 = ss := List.take_of_length_le (by omega)
  have t2 : ds.take 16 = ds := List.take_of_length_le (by omega)
  have t3 : fs.take 16 = fs := List.take_of_length_le (by omega)
  rw [pvCall_own (fn := Try.f14) rfl Try.func14 rfl (by decide) rfl rfl (by simp)]
  by_cases h1 : 1400 < R.length
  · have i1 : (1400 : Int) < (R.length : Int) := by omega
    simp -implicitDefEqProofs [i1, hs, hd, hf, t1, t2, t3, fKnown37, splice]
  have i1 : ¬ (1400 : Int) < (R.length : Int) := by omega
  have i2 : (R.length : Int) < 8 := by omega
  simp -implicitDefEqProofs [i1, i2, hs, hd, hf, t1, t2, t3, fKnown37, splice]
set_option maxHeartbeats 32000000 in
theorem areport_st_err (ss ds fs : List Int) (hs : ss.length = 16) (hd : ds.length = 16) (hf : fs.length = 16) (R : List Int) (nn : Bool) (cap : Option Nat) (size : Int) (P : List Int) (hP0 : pkT true 6 ss ds R = ewC P) (hPl : P.length ≤ 1500) (hPb : bytesB P = true) (e : Int) (ne : ¬ e = 0) (hE : tbV P fs size = ewE e) (l1 : R.length ≤ 1400) (l2 : 8 ≤ R.length) (hs' : (ss : List Int).length = 16) (hd' : (ds : List Int).length = 16) (hf' : (fs : List Int).length = 16) (bs : bytesB ss = true) (bd : bytesB ds = true) (bf : bytesB fs = true) (bR : bytesB R = true) (z0 : 0 ≤ size) (z1 : size ≤ 65535) : (pvCall Try.prog KAU Dm 100000 1 0 14 [.v (.bool true), .v (.bool true), .agg (B8 ss), .agg (B8 ds), .agg (B8 fs), .sl nn (B8 R) R.length cap, .v (.int .u16 size)] (fun _ => none)).map (·.1) = some (.v (.bool true)) := by
  have u1 : ¬ (1400 : Int) < (R.length : Int) := by omega
  have u2 : ¬ (R.length : Int) < 8 := by omega
  have l5 : R.length ≤ 500000 := by omega
  have l8 : R.take R.length = R := List.take_length
  have l9 : R.length ≤ 9223372036854775807 := by omega
  have p1 : P.length ≤ 500000 := by omega
  have p2 : P.take P.length = P := List.take_length
  have g6 : good6 0 0 6 6 0 ss ds [] := ⟨by decide, by decide, by decide, by decide, by decide, by decide, by decide, by decide, by decide, by decide, hs', hd', bs, bd, rfl, by decide⟩
  have g4 : good4 0 0 0 6 ss ds [] := ⟨by decide, by decide, by decide, by decide, by decide, by decide, by decide, by decide, hs', hd', bs, bd, rfl, by decide⟩
  have a6 := asI6_at (cl := 0) (la := 0) (nx := 6) (pr := 6) (ho := 0) (ss := ss) (ds := ds) (cs := []) (len := 0) hs' hd' rfl
  have a4 := asI4_at (tos := 0) (id := 0) (df := false) (ttl := 0) (pr := 6) (ss := ss) (ds := ds) (cs := []) (len := 0) hs' hd' rfl
  simp only [B8vc, B8vn, List.cons_append, List.nil_append] at a6 a4
  have t1 : ss.take 16 = ss := List.take_of_length_le (by omega)
  have t2 : ds.take 16 = ds := List.take_of_length_le (by omega)
  have t3 : fs.take 16 = fs := List.take_of_length_le (by omega)
  have ne1 : (e != 0) = true := by simp [ne]
  rw [pvCall_own (fn := Try.f14) rfl Try.func14 rfl (by decide) rfl rfl (by simp)]
  have hP : w6V 0 0 6 6 0 ss ds [] R = ewC P := hP0
  have h40 : (∃ e0, w4V 0 0 false 0 6 ss ds [] R = ewE e0) ∨ ∃ W0, w4V 0 0 false 0 6 ss ds [] R = ewC W0 := by
    unfold w4V
    split
    · exact .inl ⟨_, rfl⟩
    split
    · exact .inl ⟨_, rfl⟩
    split
    · exact .inl ⟨_, rfl⟩
    · exact .inr ⟨_, rfl⟩
  rcases h40 with ⟨e0, h40⟩ | ⟨W0, h40⟩
  · simp -implicitDefEqProofs [h40, hP, u1, u2, l5, l8, l9, p1, p2, g6, g4, a6, a4, bs, bd, bf, bR, z0, z1, hE, hPb, fW4, fW6, fIP4, fIP6, fATooBig, fRead, fKnown37, ewC, ewE, splice, B8vc, B8vn, asB8_nil'', asB8_cons'', Nat.testBit_eq_decide_div_mod_eq, hs, hd, hf, t1, t2, t3, B8t16 hs, B8d16 hs, B8t33 hs, B8t17 hs, B8d32 hs, B8t32 hs, B8d33 hs, B8d17 hs, B8d34 hs, B8d18 hs, B8t34 hs, B8t18 hs, B8t16 hd, B8d16 hd, B8t33 hd, B8t17 hd, B8d32 hd, B8t32 hd, B8d33 hd, B8d17 hd, B8d34 hd, B8d18 hd, B8t34 hd, B8t18 hd, B8t16 hf, B8d16 hf, B8t33 hf, B8t17 hf, B8d32 hf, B8t32 hf, B8d33 hf, B8d17 hf, B8d34 hf, B8d18 hf, B8t34 hf, B8t18 hf, -B8_append, ne, ne1]
  · simp -implicitDefEqProofs [h40, hP, u1, u2, l5, l8, l9, p1, p2, g6, g4, a6, a4, bs, bd, bf, bR, z0, z1, hE, hPb, fW4, fW6, fIP4, fIP6, fATooBig, fRead, fKnown37, ewC, ewE, splice, B8vc, B8vn, asB8_nil'', asB8_cons'', Nat.testBit_eq_decide_div_mod_eq, hs, hd, hf, t1, t2, t3, B8t16 hs, B8d16 hs, B8t33 hs, B8t17 hs, B8d32 hs, B8t32 hs, B8d33 hs, B8d17 hs, B8d34 hs, B8d18 hs, B8t34 hs, B8t18 hs, B8t16 hd, B8d16 hd, B8t33 hd, B8t17 hd, B8d32 hd, B8t32 hd, B8d33 hd, B8d17 hd, B8d34 hd, B8d18 hd, B8t34 hd, B8t18 hd, B8t16 hf, B8d16 hf, B8t33 hf, B8t17 hf, B8d32 hf, B8t32 hf, B8d33 hf, B8d17 hf, B8d34 hf, B8d18 hf, B8t34 hf, B8t18 hf, -B8_append, ne, ne1]
set_option maxHeartbeats 32000000 in
theorem areport_st_ok (ss ds fs : List Int) (hs : ss.length = 16) (hd : ds.length = 16) (hf : fs.length = 16) (R : List Int) (nn : Bool) (cap : Option Nat) (size : Int) (P : List Int) (hP0 : pkT true 6 ss ds R = ewC P) (hPl : P.length ≤ 1500) (hPb : bytesB P = true) (Q M : List Int) (k c : Int) (hE : tbV P fs size = ewC Q) (hQl : Q.length ≤ 1280) (hQb : bytesB Q = true) (h6 : true = true → ip6V Q = (.tup [ip6A 0 0 58 58 64 fs ss (.own 0 0 0 0 1 (.whole 5)), .own 1 0 0 M.length 1 (.whole 5), .v (.int .i64 0)], [[], B8 M])) (h4 : true = false → ip4V Q = (.tup [ip4A 0 0 false 64 1 fs ss (.own 0 0 0 0 1 (.whole 5)), .own 1 0 0 M.length 1 (.whole 5), .v (.int .i64 0)], [[], B8 M])) (hgm : goodM fs ss M M.length) (hMl : M.length ≤ 1300) (hrd : rdV true fs ss M = (.tup [repA k c true 6 ds ss (w16 R 2) (w16 R 0), .v (.int .i64 0)], [])) (hE2 : tbV Q ss size = ewE 10) (l1 : R.length ≤ 1400) (l2 : 8 ≤ R.length) (hs' : (ss : List Int).length = 16) (hd' : (ds : List Int).length = 16) (hf' : (fs : List Int).length = 16) (bs : bytesB ss = true) (bd : bytesB ds = true) (bf : bytesB fs = true) (bR : bytesB R = true) (z0 : 0 ≤ size) (z1 : size ≤ 65535) : (pvCall Try.prog KAU Dm 100000 1 0 14 [.v (.bool true), .v (.bool true), .agg (B8 ss), .agg (B8 ds), .agg (B8 fs), .sl nn (B8 R) R.length cap, .v (.int .u16 size)] (fun _ => none)).map (·.1) = some (.v (.bool true)) := by
  have u1 : ¬ (1400 : Int) < (R.length : Int) := by omega
  have u2 : ¬ (R.length : Int) < 8 := by omega
  have l5 : R.length ≤ 500000 := by omega
  have l8 : R.take R.length = R := List.take_length
  have l9 : R.length ≤ 9223372036854775807 := by omega
  have p1 : P.length ≤ 500000 := by omega
  have p2 : P.take P.length = P := List.take_length
  have g6 : good6 0 0 6 6 0 ss ds [] := ⟨by decide, by decide, by decide, by decide, by decide, by decide, by decide, by decide, by decide, by decide, hs', hd', bs, bd, rfl, by decide⟩
  have g4 : good4 0 0 0 6 ss ds [] := ⟨by decide, by decide, by decide, by decide, by decide, by decide, by decide, by decide, hs', hd', bs, bd, rfl, by decide⟩
  have a6 := asI6_at (cl := 0) (la := 0) (nx := 6) (pr := 6) (ho := 0) (ss := ss) (ds := ds) (cs := []) (len := 0) hs' hd' rfl
  have a4 := asI4_at (tos := 0) (id := 0) (df := false) (ttl := 0) (pr := 6) (ss := ss) (ds := ds) (cs := []) (len := 0) hs' hd' rfl
  simp only [B8vc, B8vn, List.cons_append, List.nil_append] at a6 a4
  have t1 : ss.take 16 = ss := List.take_of_length_le (by omega)
  have t2 : ds.take 16 = ds := List.take_of_length_le (by omega)
  have t3 : fs.take 16 = fs := List.take_of_length_le (by omega)
  have q1 : Q.length ≤ 500000 := by omega
  have q2 : Q.take Q.length = Q := List.take_length
  have q3 : (Q.length : Int) ≤ 1280 := by omega
  have m1 : M.length ≤ 500000 := by omega
  have m2 : M.take M.length = M := List.take_length
  have r0 := B8_at00 R (by omega)
  have r1 := B8_at0 R 1 (by omega)
  have r2 := B8_at0 R 2 (by omega)
  have r3 := B8_at0 R 3 (by omega)
  have j0 : 0 < R.length := by omega
  have j1 : 1 < R.length := by omega
  have j2 : 2 < R.length := by omega
  have j3 : 3 < R.length := by omega
  have i0 : (0 : Int) < (R.length : Int) := by omega
  have i1 : (1 : Int) < (R.length : Int) := by omega
  have i2 : (2 : Int) < (R.length : Int) := by omega
  have i3 : (3 : Int) < (R.length : Int) := by omega
  have o1 := orw R 2 bR
  have o2 := orw R 0 bR
  have hV := h6 rfl
  rw [pvCall_own (fn := Try.f14) rfl Try.func14 rfl (by decide) rfl rfl (by simp)]
  have hP : w6V 0 0 6 6 0 ss ds [] R = ewC P := hP0
  have h40 : (∃ e0, w4V 0 0 false 0 6 ss ds [] R = ewE e0) ∨ ∃ W0, w4V 0 0 false 0 6 ss ds [] R = ewC W0 := by
    unfold w4V
    split
    · exact .inl ⟨_, rfl⟩
    split
    · exact .inl ⟨_, rfl⟩
    split
    · exact .inl ⟨_, rfl⟩
    · exact .inr ⟨_, rfl⟩
  rcases h40 with ⟨e0, h40⟩ | ⟨W0, h40⟩
  · simp -implicitDefEqProofs [h40, hP, u1, u2, l5, l8, l9, p1, p2, g6, g4, a6, a4, bs, bd, bf, bR, z0, z1, hE, hPb, fW4, fW6, fIP4, fIP6, fATooBig, fRead, fKnown37, ewC, ewE, splice, B8vc, B8vn, asB8_nil'', asB8_cons'', Nat.testBit_eq_decide_div_mod_eq, hs, hd, hf, t1, t2, t3, B8t16 hs, B8d16 hs, B8t33 hs, B8t17 hs, B8d32 hs, B8t32 hs, B8d33 hs, B8d17 hs, B8d34 hs, B8d18 hs, B8t34 hs, B8t18 hs, B8t16 hd, B8d16 hd, B8t33 hd, B8t17 hd, B8d32 hd, B8t32 hd, B8d33 hd, B8d17 hd, B8d34 hd, B8d18 hd, B8t34 hd, B8t18 hd, B8t16 hf, B8d16 hf, B8t33 hf, B8t17 hf, B8d32 hf, B8t32 hf, B8d33 hf, B8d17 hf, B8d34 hf, B8d18 hf, B8t34 hf, B8t18 hf, -B8_append, q1, q2, q3, m1, m2, r0, r1, r2, r3, j0, j1, j2, j3, i0, i1, i2, i3, o1, o2, hV, hgm, hQb, hrd, hE2, repA, ip6A, IntKind.bits, valsOf_B8app, eqV_ci, eqV_cb, eqV_n, eqV_m, pairOk34 hd hs, pairOk34 hs hd]
  · simp -implicitDefEqProofs [h40, hP, u1, u2, l5, l8, l9, p1, p2, g6, g4, a6, a4, bs, bd, bf, bR, z0, z1, hE, hPb, fW4, fW6, fIP4, fIP6, fATooBig, fRead, fKnown37, ewC, ewE, splice, B8vc, B8vn, asB8_nil'', asB8_cons'', Nat.testBit_eq_decide_div_mod_eq, hs, hd, hf, t1, t2, t3, B8t16 hs, B8d16 hs, B8t33 hs, B8t17 hs, B8d32 hs, B8t32 hs, B8d33 hs, B8d17 hs, B8d34 hs, B8d18 hs, B8t34 hs, B8t18 hs, B8t16 hd, B8d16 hd, B8t33 hd, B8t17 hd, B8d32 hd, B8t32 hd, B8d33 hd, B8d17 hd, B8d34 hd, B8d18 hd, B8t34 hd, B8t18 hd, B8t16 hf, B8d16 hf, B8t33 hf, B8t17 hf, B8d32 hf, B8t32 hf, B8d33 hf, B8d17 hf, B8d34 hf, B8d18 hf, B8t34 hf, B8t18 hf, -B8_append, q1, q2, q3, m1, m2, r0, r1, r2, r3, j0, j1, j2, j3, i0, i1, i2, i3, o1, o2, hV, hgm, hQb, hrd, hE2, repA, ip6A, IntKind.bits, valsOf_B8app, eqV_ci, eqV_cb, eqV_n, eqV_m, pairOk34 hd hs, pairOk34 hs hd]
set_option maxHeartbeats 32000000 in
theorem areport_su_err (ss ds fs : List Int) (hs : ss.length = 16) (hd : ds.length = 16) (hf : fs.length = 16) (R : List Int) (nn : Bool) (cap : Option Nat) (size : Int) (P : List Int) (hP0 : pkT true 17 ss ds R = ewC P) (hPl : P.length ≤ 1500) (hPb : bytesB P = true) (e : Int) (ne : ¬ e = 0) (hE : tbV P fs size = ewE e) (l1 : R.length ≤ 1400) (l2 : 8 ≤ R.length) (hs' : (ss : List Int).length = 16) (hd' : (ds : List Int).length = 16) (hf' : (fs : List Int).length = 16) (bs : bytesB ss = true) (bd : bytesB ds = true) (bf : bytesB fs = true) (bR : bytesB R = true) (z0 : 0 ≤ size) (z1 : size ≤ 65535) : (pvCall Try.prog KAU Dm 100000 1 0 14 [.v (.bool true), .v (.bool false), .agg (B8 ss), .agg (B8 ds), .agg (B8 fs), .sl nn (B8 R) R.length cap, .v (.int .u16 size)] (fun _ => none)).map (·.1) = some (.v (.bool true)) := by
  have u1 : ¬ (1400 : Int) < (R.length : Int) := by omega
  have u2 : ¬ (R.length : Int) < 8 := by omega
  have l5 : R.length ≤ 500000 := by omega
  have l8 : R.take R.length = R := List.take_length
  have l9 : R.length ≤ 9223372036854775807 := by omega
  have p1 : P.length ≤ 500000 := by omega
  have p2 : P.take P.length = P := List.take_length
  have g6 : good6 0 0 17 17 0 ss ds [] := ⟨by decide, by decide, by decide, by decide, by decide, by decide, by decide, by decide, by decide, by decide, hs', hd', bs, bd, rfl, by decide⟩
  have g4 : good4 0 0 0 17 ss ds [] := ⟨by decide, by decide, by decide, by decide, by decide, by decide, by decide, by decide, hs', hd', bs, bd, rfl, by decide⟩
  have a6 := asI6_at (cl := 0) (la := 0) (nx := 17) (pr := 17) (ho := 0) (ss := ss) (ds := ds) (cs := []) (len := 0) hs' hd' rfl
  have a4 := asI4_at (tos := 0) (id := 0) (df := false) (ttl := 0) (pr := 17) (ss := ss) (ds := ds) (cs := []) (len := 0) hs' hd' rfl
  simp only [B8vc, B8vn, List.cons_append, List.nil_append] at a6 a4
  have t1 : ss.take 16 = ss := List.take_of_length_le (by omega)
  have t2 : ds.take 16 = ds := List.take_of_length_le (by omega)
  have t3 : fs.take 16 = fs := List.take_of_length_le (by omega)
  have ne1 : (e != 0) = true := by simp [ne]
  rw [pvCall_own (fn := Try.f14) rfl Try.func14 rfl (by decide) rfl rfl (by simp)]
  have hP : w6V 0 0 17 17 0 ss ds [] R = ewC P := hP0
  have h40 : (∃ e0, w4V 0 0 false 0 17 ss ds [] R = ewE e0) ∨ ∃ W0, w4V 0 0 false 0 17 ss ds [] R = ewC W0 := by
    unfold w4V
    split
    · exact .inl ⟨_, rfl⟩
    split
    · exact .inl ⟨_, rfl⟩
    split
    · exact .inl ⟨_, rfl⟩
    · exact .inr ⟨_, rfl⟩
  rcases h40 with ⟨e0, h40⟩ | ⟨W0, h40⟩
  · simp -implicitDefEqProofs [h40, hP, u1, u2, l5, l8, l9, p1, p2, g6, g4, a6, a4, bs, bd, bf, bR, z0, z1, hE, hPb, fW4, fW6, fIP4, fIP6, fATooBig, fRead, fKnown37, ewC, ewE, splice, B8vc, B8vn, asB8_nil'', asB8_cons'', Nat.testBit_eq_decide_div_mod_eq, hs, hd, hf, t1, t2, t3, B8t16 hs, B8d16 hs, B8t33 hs, B8t17 hs, B8d32 hs, B8t32 hs, B8d33 hs, B8d17 hs, B8d34 hs, B8d18 hs, B8t34 hs, B8t18 hs, B8t16 hd, B8d16 hd, B8t33 hd, B8t17 hd, B8d32 hd, B8t32 hd, B8d33 hd, B8d17 hd, B8d34 hd, B8d18 hd, B8t34 hd, B8t18 hd, B8t16 hf, B8d16 hf, B8t33 hf, B8t17 hf, B8d32 hf, B8t32 hf, B8d33 hf, B8d17 hf, B8d34 hf, B8d18 hf, B8t34 hf, B8t18 hf, -B8_append, ne, ne1]
  · simp -implicitDefEqProofs [h40, hP, u1, u2, l5, l8, l9, p1, p2, g6, g4, a6, a4, bs, bd, bf, bR, z0, z1, hE, hPb, fW4, fW6, fIP4, fIP6, fATooBig, fRead, fKnown37, ewC, ewE, splice, B8vc, B8vn, asB8_nil'', asB8_cons'', Nat.testBit_eq_decide_div_mod_eq, hs, hd, hf, t1, t2, t3, B8t16 hs, B8d16 hs, B8t33 hs, B8t17 hs, B8d32 hs, B8t32 hs, B8d33 hs, B8d17 hs, B8d34 hs, B8d18 hs, B8t34 hs, B8t18 hs, B8t16 hd, B8d16 hd, B8t33 hd, B8t17 hd, B8d32 hd, B8t32 hd, B8d33 hd, B8d17 hd, B8d34 hd, B8d18 hd, B8t34 hd, B8t18 hd, B8t16 hf, B8d16 hf, B8t33 hf, B8t17 hf, B8d32 hf, B8t32 hf, B8d33 hf, B8d17 hf, B8d34 hf, B8d18 hf, B8t34 hf, B8t18 hf, -B8_append, ne, ne1]
set_option maxHeartbeats 32000000 in
theorem areport_su_ok (ss ds fs : List Int) (hs : ss.length = 16) (hd : ds.length = 16) (hf : fs.length = 16) (R : List Int) (nn : Bool) (cap : Option Nat) (size : Int) (P : List Int) (hP0 : pkT true 17 ss ds R = ewC P) (hPl : P.length ≤ 1500) (hPb : bytesB P = true) (Q M : List Int) (k c : Int) (hE : tbV P fs size = ewC Q) (hQl : Q.length ≤ 1280) (hQb : bytesB Q = true) (h6 : true = true → ip6V Q = (.tup [ip6A 0 0 58 58 64 fs ss (.own 0 0 0 0 1 (.whole 5)), .own 1 0 0 M.length 1 (.whole 5), .v (.int .i64 0)], [[], B8 M])) (h4 : true = false → ip4V Q = (.tup [ip4A 0 0 false 64 1 fs ss (.own 0 0 0 0 1 (.whole 5)), .own 1 0 0 M.length 1 (.whole 5), .v (.int .i64 0)], [[], B8 M])) (hgm : goodM fs ss M M.length) (hMl : M.length ≤ 1300) (hrd : rdV true fs ss M = (.tup [repA k c true 17 ds ss (w16 R 2) (w16 R 0), .v (.int .i64 0)], [])) (hE2 : tbV Q ss size = ewE 10) (l1 : R.length ≤ 1400) (l2 : 8 ≤ R.length) (hs' : (ss : List Int).length = 16) (hd' : (ds : List Int).length = 16) (hf' : (fs : List Int).length = 16) (bs : bytesB ss = true) (bd : bytesB ds = true) (bf : bytesB fs = true) (bR : bytesB R = true) (z0 : 0 ≤ size) (z1 : size ≤ 65535) : (pvCall Try.prog KAU Dm 100000 1 0 14 [.v (.bool true), .v (.bool false), .agg (B8 ss), .agg (B8 ds), .agg (B8 fs), .sl nn (B8 R) R.length cap, .v (.int .u16 size)] (fun _ => none)).map (·.1) = some (.v (.bool true)) := by
  have u1 : ¬ (1400 : Int) < (R.length : Int) := by omega
  have u2 : ¬ (R.length : Int) < 8 := by omega
  have l5 : R.length ≤ 500000 := by omega
  have l8 : R.take R.length = R := List.take_length
  have l9 : R.length ≤ 9223372036854775807 := by omega
  have p1 : P.length ≤ 500000 := by omega
  have p2 : P.take P.length = P := List.take_length
  have g6 : good6 0 0 17 17 0 ss ds [] := ⟨by decide, by decide, by decide, by decide, by decide, by decide, by decide, by decide, by decide, by decide, hs', hd', bs, bd, rfl, by decide⟩
  have g4 : good4 0 0 0 17 ss ds [] := ⟨by decide, by decide, by decide, by decide, by decide, by decide, by decide, by decide, hs', hd', bs, bd, rfl, by decide⟩
  have a6 := asI6_at (cl := 0) (la := 0) (nx := 17) (pr := 17) (ho := 0) (ss := ss) (ds := ds) (cs := []) (len := 0) hs' hd' rfl
  have a4 := asI4_at (tos := 0) (id := 0) (df := false) (ttl := 0) (pr := 17) (ss := ss) (ds := ds) (cs := []) (len := 0) hs' hd' rfl
  simp only [B8vc, B8vn, List.cons_append, List.nil_append] at a6 a4
  have t1 : ss.take 16 = ss := List.take_of_length_le (by omega)
  have t2 : ds.take 16 = ds := List.take_of_length_le (by omega)
  have t3 : fs.take 16 = fs := List.take_of_length_le (by omega)
  have q1 : Q.length ≤ 500000 := by omega
  have q2 : Q.take Q.length = Q := List.take_length
  have q3 : (Q.length : Int) ≤ 1280 := by omega
  have m1 : M.length ≤ 500000 := by omega
  have m2 : M.take M.length = M := List.take_length
  have r0 := B8_at00 R (by omega)
  have r1 := B8_at0 R 1 (by omega)
  have r2 := B8_at0 R 2 (by omega)
  have r3 := B8_at0 R 3 (by omega)
  have j0 : 0 < R.length := by omega
  have j1 : 1 < R.length := by omega
  have j2 : 2 < R.length := by omega
  have j3 : 3 < R.length := by omega
  have i0 : (0 : Int) < (R.length : Int) := by omega
  have i1 : (1 : Int) < (R.length : Int) := by omega
  have i2 : (2 : Int) < (R.length : Int) := by omega
  have i3 : (3 : Int) < (R.length : Int) := by omega
  have o1 := orw R 2 bR
  have o2 := orw R 0 bR
  have hV := h6 rfl
  rw [pvCall_own (fn := Try.f14) rfl Try.func14 rfl (by decide) rfl rfl (by simp)]
  have hP : w6V 0 0 17 17 0 ss ds [] R = ewC P := hP0
  have h40 : (∃ e0, w4V 0 0 false 0 17 ss ds [] R = ewE e0) ∨ ∃ W0, w4V 0 0 false 0 17 ss ds [] R = ewC W0 := by
    unfold w4V
    split
    · exact .inl ⟨_, rfl⟩
    split
    · exact .inl ⟨_, rfl⟩
    split
    · exact .inl ⟨_, rfl⟩
    · exact .inr ⟨_, rfl⟩
  rcases h40 with ⟨e0, h40⟩ | ⟨W0, h40⟩
  · simp -implicitDefEqProofs [h40, hP, u1, u2, l5, l8, l9, p1, p2, g6, g4, a6, a4, bs, bd, bf, bR, z0, z1, hE, hPb, fW4, fW6, fIP4, fIP6, fATooBig, fRead, fKnown37, ewC, ewE, splice, B8vc, B8vn, asB8_nil'', asB8_cons'', Nat.testBit_eq_decide_div_mod_eq, hs, hd, hf, t1, t2, t3, B8t16 hs, B8d16 hs, B8t33 hs, B8t17 hs, B8d32 hs, B8t32 hs, B8d33 hs, B8d17 hs, B8d34 hs, B8d18 hs, B8t34 hs, B8t18 hs, B8t16 hd, B8d16 hd, B8t33 hd, B8t17 hd, B8d32 hd, B8t32 hd, B8d33 hd, B8d17 hd, B8d34 hd, B8d18 hd, B8t34 hd, B8t18 hd, B8t16 hf, B8d16 hf, B8t33 hf, B8t17 hf, B8d32 hf, B8t32 hf, B8d33 hf, B8d17 hf, B8d34 hf, B8d18 hf, B8t34 hf, B8t18 hf, -B8_append, q1, q2, q3, m1, m2, r0, r1, r2, r3, j0, j1, j2, j3, i0, i1, i2, i3, o1, o2, hV, hgm, hQb, hrd, hE2, repA, ip6A, IntKind.bits, valsOf_B8app, eqV_ci, eqV_cb, eqV_n, eqV_m, pairOk34 hd hs, pairOk34 hs hd]
  · simp -implicitDefEqProofs [h40, hP, u1, u2, l5, l8, l9, p1, p2, g6, g4, a6, a4, bs, bd, bf, bR, z0, z1, hE, hPb, fW4, fW6, fIP4, fIP6, fATooBig, fRead, fKnown37, ewC, ewE, splice, B8vc, B8vn, asB8_nil'', asB8_cons'', Nat.testBit_eq_decide_div_mod_eq, hs, hd, hf, t1, t2, t3, B8t16 hs, B8d16 hs, B8t33 hs, B8t17 hs, B8d32 hs, B8t32 hs, B8d33 hs, B8d17 hs, B8d34 hs, B8d18 hs, B8t34 hs, B8t18 hs, B8t16 hd, B8d16 hd, B8t33 hd, B8t17 hd, B8d32 hd, B8t32 hd, B8d33 hd, B8d17 hd, B8d34 hd, B8d18 hd, B8t34 hd, B8t18 hd, B8t16 hf, B8d16 hf, B8t33 hf, B8t17 hf, B8d32 hf, B8t32 hf, B8d33 hf, B8d17 hf, B8d34 hf, B8d18 hf, B8t34 hf, B8t18 hf, -B8_append, q1, q2, q3, m1, m2, r0, r1, r2, r3, j0, j1, j2, j3, i0, i1, i2, i3, o1, o2, hV, hgm, hQb, hrd, hE2, repA, ip6A, IntKind.bits, valsOf_B8app, eqV_ci, eqV_cb, eqV_n, eqV_m, pairOk34 hd hs, pairOk34 hs hd]
set_option maxHeartbeats 32000000 in
theorem areport_ft_err (x0 x1 x2 x3 x4 x5 x6 x7 x8 x9 x10 x11 x12 x13 x14 x15 y0 y1 y2 y3 y4 y5 y6 y7 y8 y9 y10 y11 y12 y13 y14 y15 u0 u1 u2 u3 u4 u5 u6 u7 u8 u9 u10 u11 u12 u13 u14 u15 : Int) (R : List Int) (nn : Bool) (cap : Option Nat) (size : Int) (P : List Int) (hP0 : pkT false 6 [x0, x1, x2, x3, 0, 0, 0, 0, 0, 0, 0, 0, 0, 0, 0, 0] [y0, y1, y2, y3, 0, 0, 0, 0, 0, 0, 0, 0, 0, 0, 0, 0] R = ewC P) (hPl : P.length ≤ 1500) (hPb : bytesB P = true) (e : Int) (ne : ¬ e = 0) (hE : tbV P [u0, u1, u2, u3, 0, 0, 0, 0, 0, 0, 0, 0, 0, 0, 0, 0] size = ewE e) (l1 : R.length ≤ 1400) (l2 : 8 ≤ R.length) (hs' : ([x0, x1, x2, x3, 0, 0, 0, 0, 0, 0, 0, 0, 0, 0, 0, 0] : List Int).length = 16) (hd' : ([y0, y1, y2, y3, 0, 0, 0, 0, 0, 0, 0, 0, 0, 0, 0, 0] : List Int).length = 16) (hf' : ([u0, u1, u2, u3, 0, 0, 0, 0, 0, 0, 0, 0, 0, 0, 0, 0] : List Int).length = 16) (bs : bytesB [x0, x1, x2, x3, 0, 0, 0, 0, 0, 0, 0, 0, 0, 0, 0, 0] = true) (bd : bytesB [y0, y1, y2, y3, 0, 0, 0, 0, 0, 0, 0, 0, 0, 0, 0, 0] = true) (bf : bytesB [u0, u1, u2, u3, 0, 0, 0, 0, 0, 0, 0, 0, 0, 0, 0, 0] = true) (bR : bytesB R = true) (z0 : 0 ≤ size) (z1 : size ≤ 65535) : (pvCall Try.prog KAU Dm 100000 1 0 14 [.v (.bool false), .v (.bool true), .agg (B8 [x0, x1, x2, x3, x4, x5, x6, x7, x8, x9, x10, x11, x12, x13, x14, x15]), .agg (B8 [y0, y1, y2, y3, y4, y5, y6, y7, y8, y9, y10, y11, y12, y13, y14, y15]), .agg (B8 [u0, u1, u2, u3, u4, u5, u6, u7, u8, u9, u10, u11, u12, u13, u14, u15]), .sl nn (B8 R) R.length cap, .v (.int .u16 size)] (fun _ => none)).map (·.1) = some (.v (.bool true)) := by
  have u1 : ¬ (1400 : Int) < (R.length : Int) := by omega
  have u2 : ¬ (R.length : Int) < 8 := by omega
  have l5 : R.length ≤ 500000 := by omega
  have l8 : R.take R.length = R := List.take_length
  have l9 : R.length ≤ 9223372036854775807 := by omega
  have p1 : P.length ≤ 500000 := by omega
  have p2 : P.take P.length = P := List.take_length
  have g6 : good6 0 0 6 6 0 [x0, x1, x2, x3, 0, 0, 0, 0, 0, 0, 0, 0, 0, 0, 0, 0] [y0, y1, y2, y3, 0, 0, 0, 0, 0, 0, 0, 0, 0, 0, 0, 0] [] := ⟨by decide, by decide, by decide, by decide, by decide, by decide, by decide, by decide, by decide, by decide, hs', hd', bs, bd, rfl, by decide⟩
  have g4 : good4 0 0 0 6 [x0, x1, x2, x3, 0, 0, 0, 0, 0, 0, 0, 0, 0, 0, 0, 0] [y0, y1, y2, y3, 0, 0, 0, 0, 0, 0, 0, 0, 0, 0, 0, 0] [] := ⟨by decide, by decide, by decide, by decide, by decide, by decide, by decide, by decide, hs', hd', bs, bd, rfl, by decide⟩
  have a6 := asI6_at (cl := 0) (la := 0) (nx := 6) (pr := 6) (ho := 0) (ss := [x0, x1, x2, x3, 0, 0, 0, 0, 0, 0, 0, 0, 0, 0, 0, 0]) (ds := [y0, y1, y2, y3, 0, 0, 0, 0, 0, 0, 0, 0, 0, 0, 0, 0]) (cs := []) (len := 0) hs' hd' rfl
  have a4 := asI4_at (tos := 0) (id := 0) (df := false) (ttl := 0) (pr := 6) (ss := [x0, x1, x2, x3, 0, 0, 0, 0, 0, 0, 0, 0, 0, 0, 0, 0]) (ds := [y0, y1, y2, y3, 0, 0, 0, 0, 0, 0, 0, 0, 0, 0, 0, 0]) (cs := []) (len := 0) hs' hd' rfl
  simp only [B8vc, B8vn, List.cons_append, List.nil_append] at a6 a4
  have ne1 : (e != 0) = true := by simp [ne]
  rw [pvCall_own (fn := Try.f14) rfl Try.func14 rfl (by decide) rfl rfl (by simp)]
  have hP : w4V 0 0 false 0 6 [x0, x1, x2, x3, 0, 0, 0, 0, 0, 0, 0, 0, 0, 0, 0, 0] [y0, y1, y2, y3, 0, 0, 0, 0, 0, 0, 0, 0, 0, 0, 0, 0] [] R = ewC P := hP0
  simp -implicitDefEqProofs [hP, u1, u2, l5, l8, l9, p1, p2, g6, g4, a6, a4, bs, bd, bf, bR, z0, z1, hE, hPb, fW4, fW6, fIP4, fIP6, fATooBig, fRead, fKnown37, ewC, ewE, splice, B8vc, B8vn, asB8_nil'', asB8_cons'', Nat.testBit_eq_decide_div_mod_eq, ne, ne1]
set_option maxHeartbeats 32000000 in
theorem areport_ft_ok (x0 x1 x2 x3 x4 x5 x6 x7 x8 x9 x10 x11 x12 x13 x14 x15 y0 y1 y2 y3 y4 y5 y6 y7 y8 y9 y10 y11 y12 y13 y14 y15 u0 u1 u2 u3 u4 u5 u6 u7 u8 u9 u10 u11 u12 u13 u14 u15 : Int) (R : List Int) (nn : Bool) (cap : Option Nat) (size : Int) (P : List Int) (hP0 : pkT false 6 [x0, x1, x2, x3, 0, 0, 0, 0, 0, 0, 0, 0, 0, 0, 0, 0] [y0, y1, y2, y3, 0, 0, 0, 0, 0, 0, 0, 0, 0, 0, 0, 0] R = ewC P) (hPl : P.length ≤ 1500) (hPb : bytesB P = true) (Q M : List Int) (k c : Int) (hE : tbV P [u0, u1, u2, u3, 0, 0, 0, 0, 0, 0, 0, 0, 0, 0, 0, 0] size = ewC Q) (hQl : Q.length ≤ 1280) (hQb : bytesB Q = true) (h6 : false = true → ip6V Q = (.tup [ip6A 0 0 58 58 64 [u0, u1, u2, u3, 0, 0, 0, 0, 0, 0, 0, 0, 0, 0, 0, 0] [x0, x1, x2, x3, 0, 0, 0, 0, 0, 0, 0, 0, 0, 0, 0, 0] (.own 0 0 0 0 1 (.whole 5)), .own 1 0 0 M.length 1 (.whole 5), .v (.int .i64 0)], [[], B8 M])) (h4 : false = false → ip4V Q = (.tup [ip4A 0 0 false 64 1 [u0, u1, u2, u3, 0, 0, 0, 0, 0, 0, 0, 0, 0, 0, 0, 0] [x0, x1, x2, x3, 0, 0, 0, 0, 0, 0, 0, 0, 0, 0, 0, 0] (.own 0 0 0 0 1 (.whole 5)), .own 1 0 0 M.length 1 (.whole 5), .v (.int .i64 0)], [[], B8 M])) (hgm : goodM [u0, u1, u2, u3, 0, 0, 0, 0, 0, 0, 0, 0, 0, 0, 0, 0] [x0, x1, x2, x3, 0, 0, 0, 0, 0, 0, 0, 0, 0, 0, 0, 0] M M.length) (hMl : M.length ≤ 1300) (hrd : rdV false [u0, u1, u2, u3, 0, 0, 0, 0, 0, 0, 0, 0, 0, 0, 0, 0] [x0, x1, x2, x3, 0, 0, 0, 0, 0, 0, 0, 0, 0, 0, 0, 0] M = (.tup [repA k c false 6 [y0, y1, y2, y3, 0, 0, 0, 0, 0, 0, 0, 0, 0, 0, 0, 0] [x0, x1, x2, x3, 0, 0, 0, 0, 0, 0, 0, 0, 0, 0, 0, 0] (w16 R 2) (w16 R 0), .v (.int .i64 0)], [])) (hE2 : tbV Q [x0, x1, x2, x3, 0, 0, 0, 0, 0, 0, 0, 0, 0, 0, 0, 0] size = ewE 10) (l1 : R.length ≤ 1400) (l2 : 8 ≤ R.length) (hs' : ([x0, x1, x2, x3, 0, 0, 0, 0, 0, 0, 0, 0, 0, 0, 0, 0] : List Int).length = 16) (hd' : ([y0, y1, y2, y3, 0, 0, 0, 0, 0, 0, 0, 0, 0, 0, 0, 0] : List Int).length = 16) (hf' : ([u0, u1, u2, u3, 0, 0, 0, 0, 0, 0, 0, 0, 0, 0, 0, 0] : List Int).length = 16) (bs : bytesB [x0, x1, x2, x3, 0, 0, 0, 0, 0, 0, 0, 0, 0, 0, 0, 0] = true) (bd : bytesB [y0, y1, y2, y3, 0, 0, 0, 0, 0, 0, 0, 0, 0, 0, 0, 0] = true) (bf : bytesB [u0, u1, u2, u3, 0, 0, 0, 0, 0, 0, 0, 0, 0, 0, 0, 0] = true) (bR : bytesB R = true) (z0 : 0 ≤ size) (z1 : size ≤ 65535) : (pvCall Try.prog KAU Dm 100000 1 0 14 [.v (.bool false), .v (.bool true), .agg (B8 [x0, x1, x2, x3, x4, x5, x6, x7, x8, x9, x10, x11, x12, x13, x14, x15]), .agg (B8 [y0, y1, y2, y3, y4, y5, y6, y7, y8, y9, y10, y11, y12, y13, y14, y15]), .agg (B8 [u0, u1, u2, u3, u4, u5, u6, u7, u8, u9, u10, u11, u12, u13, u14, u15]), .sl nn (B8 R) R.length cap, .v (.int .u16 size)] (fun _ => none)).map (·.1) = some (.v (.bool true)) := by
  have u1 : ¬ (1400 : Int) < (R.length : Int) := by omega
  have u2 : ¬ (R.length : Int) < 8 := by omega
  have l5 : R.length ≤ 500000 := by omega
  have l8 : R.take R.length = R := List.take_length
  have l9 : R.length ≤ 9223372036854775807 := by omega
  have p1 : P.length ≤ 500000 := by omega
  have p2 : P.take P.length = P := List.take_length
  have g6 : good6 0 0 6 6 0 [x0, x1, x2, x3, 0, 0, 0, 0, 0, 0, 0, 0, 0, 0, 0, 0] [y0, y1, y2, y3, 0, 0, 0, 0, 0, 0, 0, 0, 0, 0, 0, 0] [] := ⟨by decide, by decide, by decide, by decide, by decide, by decide, by decide, by decide, by decide, by decide, hs', hd', bs, bd, rfl, by decide⟩
  have g4 : good4 0 0 0 6 [x0, x1, x2, x3, 0, 0, 0, 0, 0, 0, 0, 0, 0, 0, 0, 0] [y0, y1, y2, y3, 0, 0, 0, 0, 0, 0, 0, 0, 0, 0, 0, 0] [] := ⟨by decide, by decide, by decide, by decide, by decide, by decide, by decide, by decide, hs', hd', bs, bd, rfl, by decide⟩
  have a6 := asI6_at (cl := 0) (la := 0) (nx := 6) (pr := 6) (ho := 0) (ss := [x0, x1, x2, x3, 0, 0, 0, 0, 0, 0, 0, 0, 0, 0, 0, 0]) (ds := [y0, y1, y2, y3, 0, 0, 0, 0, 0, 0, 0, 0, 0, 0, 0, 0]) (cs := []) (len := 0) hs' hd' rfl
  have a4 := asI4_at (tos := 0) (id := 0) (df := false) (ttl := 0) (pr := 6) (ss := [x0, x1, x2, x3, 0, 0, 0, 0, 0, 0, 0, 0, 0, 0, 0, 0]) (ds := [y0, y1, y2, y3, 0, 0, 0, 0, 0, 0, 0, 0, 0, 0, 0, 0]) (cs := []) (len := 0) hs' hd' rfl
  simp only [B8vc, B8vn, List.cons_append, List.nil_append] at a6 a4
  have q1 : Q.length ≤ 500000 := by omega
  have q2 : Q.take Q.length = Q := List.take_length
  have q3 : (Q.length : Int) ≤ 1280 := by omega
  have m1 : M.length ≤ 500000 := by omega
  have m2 : M.take M.length = M := List.take_length
  have r0 := B8_at00 R (by omega)
  have r1 := B8_at0 R 1 (by omega)
  have r2 := B8_at0 R 2 (by omega)
  have r3 := B8_at0 R 3 (by omega)
  have j0 : 0 < R.length := by omega
  have j1 : 1 < R.length := by omega
  have j2 : 2 < R.length := by omega
  have j3 : 3 < R.length := by omega
  have i0 : (0 : Int) < (R.length : Int) := by omega
  have i1 : (1 : Int) < (R.length : Int) := by omega
  have i2 : (2 : Int) < (R.length : Int) := by omega
  have i3 : (3 : Int) < (R.length : Int) := by omega
  have o1 := orw R 2 bR
  have o2 := orw R 0 bR
  have hV := h4 rfl
  rw [pvCall_own (fn := Try.f14) rfl Try.func14 rfl (by decide) rfl rfl (by simp)]
  have hP : w4V 0 0 false 0 6 [x0, x1, x2, x3, 0, 0, 0, 0, 0, 0, 0, 0, 0, 0, 0, 0] [y0, y1, y2, y3, 0, 0, 0, 0, 0, 0, 0, 0, 0, 0, 0, 0] [] R = ewC P := hP0
  simp -implicitDefEqProofs [hP, u1, u2, l5, l8, l9, p1, p2, g6, g4, a6, a4, bs, bd, bf, bR, z0, z1, hE, hPb, fW4, fW6, fIP4, fIP6, fATooBig, fRead, fKnown37, ewC, ewE, splice, B8vc, B8vn, asB8_nil'', asB8_cons'', Nat.testBit_eq_decide_div_mod_eq, q1, q2, q3, m1, m2, r0, r1, r2, r3, j0, j1, j2, j3, i0, i1, i2, i3, o1, o2, hV, hgm, hQb, hrd, hE2, repA, ip4A, IntKind.bits, valsOf_B8app, eqV_ci, eqV_cb, eqV_n, eqV_m]
set_option maxHeartbeats 32000000 in
theorem areport_fu_err (x0 x1 x2 x3 x4 x5 x6 x7 x8 x9 x10 x11 x12 x13 x14 x15 y0 y1 y2 y3 y4 y5 y6 y7 y8 y9 y10 y11 y12 y13 y14 y15 u0 u1 u2 u3 u4 u5 u6 u7 u8 u9 u10 u11 u12 u13 u14 u15 : Int) (R : List Int) (nn : Bool) (cap : Option Nat) (size : Int) (P : List Int) (hP0 : pkT false 17 [x0, x1, x2, x3, 0, 0, 0, 0, 0, 0, 0, 0, 0, 0, 0, 0] [y0, y1, y2, y3, 0, 0, 0, 0, 0, 0, 0, 0, 0, 0, 0, 0] R = ewC P) (hPl : P.length ≤ 1500) (hPb : bytesB P = true) (e : Int) (ne : ¬ e = 0) (hE : tbV P [u0, u1, u2, u3, 0, 0, 0, 0, 0, 0, 0, 0, 0, 0, 0, 0] size = ewE e) (l1 : R.length ≤ 1400) (l2 : 8 ≤ R.length) (hs' : ([x0, x1, x2, x3, 0, 0, 0, 0, 0, 0, 0, 0, 0, 0, 0, 0] : List Int).length = 16) (hd' : ([y0, y1, y2, y3, 0, 0, 0, 0, 0, 0, 0, 0, 0, 0, 0, 0] : List Int).length = 16) (hf' : ([u0, u1, u2, u3, 0, 0, 0, 0, 0, 0, 0, 0, 0, 0, 0, 0] : List Int).length = 16) (bs : bytesB [x0, x1, x2, x3, 0, 0, 0, 0, 0, 0, 0, 0, 0, 0, 0, 0] = true) (bd : bytesB [y0, y1, y2, y3, 0, 0, 0, 0, 0, 0, 0, 0, 0, 0, 0, 0] = true) (bf : bytesB [u0, u1, u2, u3, 0, 0, 0, 0, 0, 0, 0, 0, 0, 0, 0, 0] = true) (bR : bytesB R = true) (z0 : 0 ≤ size) (z1 : size ≤ 65535) : (pvCall Try.prog KAU Dm 100000 1 0 14 [.v (.bool false), .v (.bool false), .agg (B8 [x0, x1, x2, x3, x4, x5, x6, x7, x8, x9, x10, x11, x12, x13, x14, x15]), .agg (B8 [y0, y1, y2, y3, y4, y5, y6, y7, y8, y9, y10, y11, y12, y13, y14, y15]), .agg (B8 [u0, u1, u2, u3, u4, u5, u6, u7, u8, u9, u10, u11, u12, u13, u14, u15]), .sl nn (B8 R) R.length cap, .v (.int .u16 size)] (fun _ => none)).map (·.1) = some (.v (.bool true)) := by
  have u1 : ¬ (1400 : Int) < (R.length : Int) := by omega
  have u2 : ¬ (R.length : Int) < 8 := by omega
  have l5 : R.length ≤ 500000 := by omega
  have l8 : R.take R.length = R := List.take_length
  have l9 : R.length ≤ 9223372036854775807 := by omega
  have p1 : P.length ≤ 500000 := by omega
  have p2 : P.take P.length = P := List.take_length
  have g6 : good6 0 0 17 17 0 [x0, x1, x2, x3, 0, 0, 0, 0, 0, 0, 0, 0, 0, 0, 0, 0] [y0, y1, y2, y3, 0, 0, 0, 0, 0, 0, 0, 0, 0, 0, 0, 0] [] := ⟨by decide, by decide, by decide, by decide, by decide, by decide, by decide, by decide, by decide, by decide, hs', hd', bs, bd, rfl, by decide⟩
  have g4 : good4 0 0 0 17 [x0, x1, x2, x3, 0, 0, 0, 0, 0, 0, 0, 0, 0, 0, 0, 0] [y0, y1, y2, y3, 0, 0, 0, 0, 0, 0, 0, 0, 0, 0, 0, 0] [] := ⟨by decide, by decide, by decide, by decide, by decide, by decide, by decide, by decide, hs', hd', bs, bd, rfl, by decide⟩
  have a6 := asI6_at (cl := 0) (la := 0) (nx := 17) (pr := 17) (ho := 0) (ss := [x0, x1, x2, x3, 0, 0, 0, 0, 0, 0, 0, 0, 0, 0, 0, 0]) (ds := [y0, y1, y2, y3, 0, 0, 0, 0, 0, 0, 0, 0, 0, 0, 0, 0]) (cs := []) (len := 0) hs' hd' rfl
  have a4 := asI4_at (tos := 0) (id := 0) (df := false) (ttl := 0) (pr := 17) (ss := [x0, x1, x2, x3, 0, 0, 0, 0, 0, 0, 0, 0, 0, 0, 0, 0]) (ds := [y0, y1, y2, y3, 0, 0, 0, 0, 0, 0, 0, 0, 0, 0, 0, 0]) (cs := []) (len := 0) hs' hd' rfl
  simp only [B8vc, B8vn, List.cons_append, List.nil_append] at a6 a4
  have ne1 : (e != 0) = true := by simp [ne]
  rw [pvCall_own (fn := Try.f14) rfl Try.func14 rfl (by decide) rfl rfl (by simp)]
  have hP : w4V 0 0 false 0 17 [x0, x1, x2, x3, 0, 0, 0, 0, 0, 0, 0, 0, 0, 0, 0, 0] [y0, y1, y2, y3, 0, 0, 0, 0, 0, 0, 0, 0, 0, 0, 0, 0] [] R = ewC P := hP0
  simp -implicitDefEqProofs [hP, u1, u2, l5, l8, l9, p1, p2, g6, g4, a6, a4, bs, bd, bf, bR, z0, z1, hE, hPb, fW4, fW6, fIP4, fIP6, fATooBig, fRead, fKnown37, ewC, ewE, splice, B8vc, B8vn, asB8_nil'', asB8_cons'', Nat.testBit_eq_decide_div_mod_eq, ne, ne1]
set_option maxHeartbeats 32000000 in
theorem areport_fu_ok (x0 x1 x2 x3 x4 x5 x6 x7 x8 x9 x10 x11 x12 x13 x14 x15 y0 y1 y2 y3 y4 y5 y6 y7 y8 y9 y10 y11 y12 y13 y14 y15 u0 u1 u2 u3 u4 u5 u6 u7 u8 u9 u10 u11 u12 u13 u14 u15 : Int) (R : List Int) (nn : Bool) (cap : Option Nat) (size : Int) (P : List Int) (hP0 : pkT false 17 [x0, x1, x2, x3, 0, 0, 0, 0, 0, 0, 0, 0, 0, 0, 0, 0] [y0, y1, y2, y3, 0, 0, 0, 0, 0, 0, 0, 0, 0, 0, 0, 0] R = ewC P) (hPl : P.length ≤ 1500) (hPb : bytesB P = true) (Q M : List Int) (k c : Int) (hE : tbV P [u0, u1, u2, u3, 0, 0, 0, 0, 0, 0, 0, 0, 0, 0, 0, 0] size = ewC Q) (hQl : Q.length ≤ 1280) (hQb : bytesB Q = true) (h6 : false = true → ip6V Q = (.tup [ip6A 0 0 58 58 64 [u0, u1, u2, u3, 0, 0, 0, 0, 0, 0, 0, 0, 0, 0, 0, 0] [x0, x1, x2, x3, 0, 0, 0, 0, 0, 0, 0, 0, 0, 0, 0, 0] (.own 0 0 0 0 1 (.whole 5)), .own 1 0 0 M.length 1 (.whole 5), .v (.int .i64 0)], [[], B8 M])) (h4 : false = false → ip4V Q = (.tup [ip4A 0 0 false 64 1 [u0, u1, u2, u3, 0, 0, 0, 0, 0, 0, 0, 0, 0, 0, 0, 0] [x0, x1, x2, x3, 0, 0, 0, 0, 0, 0, 0, 0, 0, 0, 0, 0] (.own 0 0 0 0 1 (.whole 5)), .own 1 0 0 M.length 1 (.whole 5), .v (.int .i64 0)], [[], B8 M])) (hgm : goodM [u0, u1, u2, u3, 0, 0, 0, 0, 0, 0, 0, 0, 0, 0, 0, 0] [x0, x1, x2, x3, 0, 0, 0, 0, 0, 0, 0, 0, 0, 0, 0, 0] M M.length) (hMl : M.length ≤ 1300) (hrd : rdV false [u0, u1, u2, u3, 0, 0, 0, 0, 0, 0, 0, 0, 0, 0, 0, 0] [x0, x1, x2, x3, 0, 0, 0, 0, 0, 0, 0, 0, 0, 0, 0, 0] M = (.tup [repA k c false 17 [y0, y1, y2, y3, 0, 0, 0, 0, 0, 0, 0, 0, 0, 0, 0, 0] [x0, x1, x2, x3, 0, 0, 0, 0, 0, 0, 0, 0, 0, 0, 0, 0] (w16 R 2) (w16 R 0), .v (.int .i64 0)], [])) (hE2 : tbV Q [x0, x1, x2, x3, 0, 0, 0, 0, 0, 0, 0, 0, 0, 0, 0, 0] size = ewE 10) (l1 : R.length ≤ 1400) (l2 : 8 ≤ R.length) (hs' : ([x0, x1, x2, x3, 0, 0, 0, 0, 0, 0, 0, 0, 0, 0, 0, 0] : List Int).length = 16) (hd' : ([y0, y1, y2, y3, 0, 0, 0, 0, 0, 0, 0, 0, 0, 0, 0, 0] : List Int).length = 16) (hf' : ([u0, u1, u2, u3, 0, 0, 0, 0, 0, 0, 0, 0, 0, 0, 0, 0] : List Int).length = 16) (bs : bytesB [x0, x1, x2, x3, 0, 0, 0, 0, 0, 0, 0, 0, 0, 0, 0, 0] = true) (bd : bytesB [y0, y1, y2, y3, 0, 0, 0, 0, 0, 0, 0, 0, 0, 0, 0, 0] = true) (bf : bytesB [u0, u1, u2, u3, 0, 0, 0, 0, 0, 0, 0, 0, 0, 0, 0, 0] = true) (bR : bytesB R = true) (z0 : 0 ≤ size) (z1 : size ≤ 65535) : (pvCall Try.prog KAU Dm 100000 1 0 14 [.v (.bool false), .v (.bool false), .agg (B8 [x0, x1, x2, x3, x4, x5, x6, x7, x8, x9, x10, x11, x12, x13, x14, x15]), .agg (B8 [y0, y1, y2, y3, y4, y5, y6, y7, y8, y9, y10, y11, y12, y13, y14, y15]), .agg (B8 [u0, u1, u2, u3, u4, u5, u6, u7, u8, u9, u10, u11, u12, u13, u14, u15]), .sl nn (B8 R) R.length cap, .v (.int .u16 size)] (fun _ => none)).map (·.1) = some (.v (.bool true)) := by
  have u1 : ¬ (1400 : Int) < (R.length : Int) := by omega
  have u2 : ¬ (R.length : Int) < 8 := by omega
  have l5 : R.length ≤ 500000 := by omega
  have l8 : R.take R.length = R := List.take_length
  have l9 : R.length ≤ 9223372036854775807 := by omega
  have p1 : P.length ≤ 500000 := by omega
  have p2 : P.take P.length = P := List.take_length
  have g6 : good6 0 0 17 17 0 [x0, x1, x2, x3, 0, 0, 0, 0, 0, 0, 0, 0, 0, 0, 0, 0] [y0, y1, y2, y3, 0, 0, 0, 0, 0, 0, 0, 0, 0, 0, 0, 0] [] := ⟨by decide, by decide, by decide, by decide, by decide, by decide, by decide, by decide, by decide, by decide, hs', hd', bs, bd, rfl, by decide⟩
  have g4 : good4 0 0 0 17 [x0, x1, x2, x3, 0, 0, 0, 0, 0, 0, 0, 0, 0, 0, 0, 0] [y0, y1, y2, y3, 0, 0, 0, 0, 0, 0, 0, 0, 0, 0, 0, 0] [] := ⟨by decide, by decide, by decide, by decide, by decide, by decide, by decide, by decide, hs', hd', bs, bd, rfl, by decide⟩
  have a6 := asI6_at (cl := 0) (la := 0) (nx := 17) (pr := 17) (ho := 0) (ss := [x0, x1, x2, x3, 0, 0, 0, 0, 0, 0, 0, 0, 0, 0, 0, 0]) (ds := [y0, y1, y2, y3, 0, 0, 0, 0, 0, 0, 0, 0, 0, 0, 0, 0]) (cs := []) (len := 0) hs' hd' rfl
  have a4 := asI4_at (tos := 0) (id := 0) (df := false) (ttl := 0) (pr := 17) (ss := [x0, x1, x2, x3, 0, 0, 0, 0, 0, 0, 0, 0, 0, 0, 0, 0]) (ds := [y0, y1, y2, y3, 0, 0, 0, 0, 0, 0, 0, 0, 0, 0, 0, 0]) (cs := []) (len := 0) hs' hd' rfl
  simp only [B8vc, B8vn, List.cons_append, List.nil_append] at a6 a4
  have q1 : Q.length ≤ 500000 := by omega
  have q2 : Q.take Q.length = Q := List.take_length
  have q3 : (Q.length : Int) ≤ 1280 := by omega
  have m1 : M.length ≤ 500000 := by omega
  have m2 : M.take M.length = M := List.take_length
  have r0 := B8_at00 R (by omega)
  have r1 := B8_at0 R 1 (by omega)
  have r2 := B8_at0 R 2 (by omega)
  have r3 := B8_at0 R 3 (by omega)
  have j0 : 0 < R.length := by omega
  have j1 : 1 < R.length := by omega
  have j2 : 2 < R.length := by omega
  have j3 : 3 < R.length := by omega
  have i0 : (0 : Int) < (R.length : Int) := by omega
  have i1 : (1 : Int) < (R.length : Int) := by omega
  have i2 : (2 : Int) < (R.length : Int) := by omega
  have i3 : (3 : Int) < (R.length : Int) := by omega
  have o1 := orw R 2 bR
  have o2 := orw R 0 bR
  have hV := h4 rfl
  rw [pvCall_own (fn := Try.f14) rfl Try.func14 rfl (by decide) rfl rfl (by simp)]
  have hP : w4V 0 0 false 0 17 [x0, x1, x2, x3, 0, 0, 0, 0, 0, 0, 0, 0, 0, 0, 0, 0] [y0, y1, y2, y3, 0, 0, 0, 0, 0, 0, 0, 0, 0, 0, 0, 0] [] R = ewC P := hP0
  simp -implicitDefEqProofs [hP, u1, u2, l5, l8, l9, p1, p2, g6, g4, a6, a4, bs, bd, bf, bR, z0, z1, hE, hPb, fW4, fW6, fIP4, fIP6, fATooBig, fRead, fKnown37, ewC, ewE, splice, B8vc, B8vn, asB8_nil'', asB8_cons'', Nat.testBit_eq_decide_div_mod_eq, q1, q2, q3, m1, m2, r0, r1, r2, r3, j0, j1, j2, j3, i0, i1, i2, i3, o1, o2, hV, hgm, hQb, hrd, hE2, repA, ip4A, IntKind.bits, valsOf_B8app, eqV_ci, eqV_cb, eqV_n, eqV_m]
theorem areport_run (v6 tcp : Bool) (ss ds fs : List Int) (R : List Int) (nn : Bool) (cap : Option Nat) (size : Int) (hp : R.length ≤ 9223372036854775807) (hs : ss.length = 16) (hd : ds.length = 16) (hf : fs.length = 16) (bs : bytesB ss = true) (bd : bytesB ds = true) (bf : bytesB fs = true) (bR : bytesB R = true) (z0 : 0 ≤ size) (z1 : size ≤ 65535) : (pvCall Try.prog KAU Dm 100000 1 0 14 [.v (.bool v6), .v (.bool tcp), .agg (B8 ss), .agg (B8 ds), .agg (B8 fs), .sl nn (B8 R) R.length cap, .v (.int .u16 size)] (fun _ => none)).map (·.1) = some (.v (.bool true)) := by
  by_cases hlong : 1400 < R.length ∨ R.length < 8
  · exact areport_long v6 tcp ss ds fs R nn cap size hp hs hd hf hlong
  have l1 : R.length ≤ 1400 := by omega
  have l2 : 8 ≤ R.length := by omega
  cases v6 with
  | true =>
    cases tcp with
    | true =>
      obtain ⟨P, hP, hPl, hPb, hh⟩ := rep_law (v6 := true) (pr := 6) (size := size) (S := ss) (D := ds) (F := fs) (R := R) (.inl rfl) hs hd hf (fun h => by cases h) bs bd bf bR l2 l1 z0 z1
      rcases hh with ⟨e, ne, hE⟩ | ⟨Q, M, k, c, hE, hQl, hQb, h6, h4, hgm, hMl, hrd, hE2⟩
      · exact areport_st_err ss ds fs hs hd hf R nn cap size P hP hPl hPb e ne hE l1 l2 hs hd hf bs bd bf bR z0 z1
      · exact areport_st_ok ss ds fs hs hd hf R nn cap size P hP hPl hPb Q M k c hE hQl hQb h6 h4 hgm hMl hrd hE2 l1 l2 hs hd hf bs bd bf bR z0 z1
    | false =>
      obtain ⟨P, hP, hPl, hPb, hh⟩ := rep_law (v6 := true) (pr := 17) (size := size) (S := ss) (D := ds) (F := fs) (R := R) (.inr rfl) hs hd hf (fun h => by cases h) bs bd bf bR l2 l1 z0 z1
      rcases hh with ⟨e, ne, hE⟩ | ⟨Q, M, k, c, hE, hQl, hQb, h6, h4, hgm, hMl, hrd, hE2⟩
      · exact areport_su_err ss ds fs hs hd hf R nn cap size P hP hPl hPb e ne hE l1 l2 hs hd hf bs bd bf bR z0 z1
      · exact areport_su_ok ss ds fs hs hd hf R nn cap size P hP hPl hPb Q M k c hE hQl hQb h6 h4 hgm hMl hrd hE2 l1 l2 hs hd hf bs bd bf bR z0 z1
  | false =>
    obtain ⟨x0, x1, x2, x3, x4, x5, x6, x7, x8, x9, x10, x11, x12, x13, x14, x15, rfl⟩ : ∃ x0 x1 x2 x3 x4 x5 x6 x7 x8 x9 x10 x11 x12 x13 x14 x15, ss = [x0, x1, x2, x3, x4, x5, x6, x7, x8, x9, x10, x11, x12, x13, x14, x15] := by
      match ss, hs with
      | [x0, x1, x2, x3, x4, x5, x6, x7, x8, x9, x10, x11, x12, x13, x14, x15], _ => exact ⟨x0, x1, x2, x3, x4, x5, x6, x7, x8, x9, x10, x11, x12, x13, x14, x15, rfl⟩
    have bs4 : bytesB [x0, x1, x2, x3, 0, 0, 0, 0, 0, 0, 0, 0, 0, 0, 0, 0] = true := by
      simp only [bytesB_cons, Bool.and_eq_true, decide_eq_true_eq] at bs ⊢
      exact ⟨bs.1, bs.2.1, bs.2.2.1, bs.2.2.2.1, by decide⟩
    obtain ⟨y0, y1, y2, y3, y4, y5, y6, y7, y8, y9, y10, y11, y12, y13, y14, y15, rfl⟩ : ∃ y0 y1 y2 y3 y4 y5 y6 y7 y8 y9 y10 y11 y12 y13 y14 y15, ds = [y0, y1, y2, y3, y4, y5, y6, y7, y8, y9, y10, y11, y12, y13, y14, y15] := by
      match ds, hd with
      | [y0, y1, y2, y3, y4, y5, y6, y7, y8, y9, y10, y11, y12, y13, y14, y15], _ => exact ⟨y0, y1, y2, y3, y4, y5, y6, y7, y8, y9, y10, y11, y12, y13, y14, y15, rfl⟩
    have bd4 : bytesB [y0, y1, y2, y3, 0, 0, 0, 0, 0, 0, 0, 0, 0, 0, 0, 0] = true := by
      simp only [bytesB_cons, Bool.and_eq_true, decide_eq_true_eq] at bd ⊢
      exact ⟨bd.1, bd.2.1, bd.2.2.1, bd.2.2.2.1, by decide⟩
    obtain ⟨u0, u1, u2, u3, u4, u5, u6, u7, u8, u9, u10, u11, u12, u13, u14, u15, rfl⟩ : ∃ u0 u1 u2 u3 u4 u5 u6 u7 u8 u9 u10 u11 u12 u13 u14 u15, fs = [u0, u1, u2, u3, u4, u5, u6, u7, u8, u9, u10, u11, u12, u13, u14, u15] := by
      match fs, hf with
      | [u0, u1, u2, u3, u4, u5, u6, u7, u8, u9, u10, u11, u12, u13, u14, u15], _ => exact ⟨u0, u1, u2, u3, u4, u5, u6, u7, u8, u9, u10, u11, u12, u13, u14, u15, rfl⟩
    have bf4 : bytesB [u0, u1, u2, u3, 0, 0, 0, 0, 0, 0, 0, 0, 0, 0, 0, 0] = true := by
      simp only [bytesB_cons, Bool.and_eq_true, decide_eq_true_eq] at bf ⊢
      exact ⟨bf.1, bf.2.1, bf.2.2.1, bf.2.2.2.1, by decide⟩
    cases tcp with
    | true =>
      obtain ⟨P, hP, hPl, hPb, hh⟩ := rep_law (v6 := false) (pr := 6) (size := size) (S := [x0, x1, x2, x3, 0, 0, 0, 0, 0, 0, 0, 0, 0, 0, 0, 0]) (D := [y0, y1, y2, y3, 0, 0, 0, 0, 0, 0, 0, 0, 0, 0, 0, 0]) (F := [u0, u1, u2, u3, 0, 0, 0, 0, 0, 0, 0, 0, 0, 0, 0, 0]) (R := R) (.inl rfl) rfl rfl rfl (fun _ => ⟨rfl, rfl, rfl⟩) bs4 bd4 bf4 bR l2 l1 z0 z1
      rcases hh with ⟨e, ne, hE⟩ | ⟨Q, M, k, c, hE, hQl, hQb, h6, h4, hgm, hMl, hrd, hE2⟩
      · exact areport_ft_err x0 x1 x2 x3 x4 x5 x6 x7 x8 x9 x10 x11 x12 x13 x14 x15 y0 y1 y2 y3 y4 y5 y6 y7 y8 y9 y10 y11 y12 y13 y14 y15 u0 u1 u2 u3 u4 u5 u6 u7 u8 u9 u10 u11 u12 u13 u14 u15 R nn cap size P hP hPl hPb e ne hE l1 l2 rfl rfl rfl bs4 bd4 bf4 bR z0 z1
      · exact areport_ft_ok x0 x1 x2 x3 x4 x5 x6 x7 x8 x9 x10 x11 x12 x13 x14 x15 y0 y1 y2 y3 y4 y5 y6 y7 y8 y9 y10 y11 y12 y13 y14 y15 u0 u1 u2 u3 u4 u5 u6 u7 u8 u9 u10 u11 u12 u13 u14 u15 R nn cap size P hP hPl hPb Q M k c hE hQl hQb h6 h4 hgm hMl hrd hE2 l1 l2 rfl rfl rfl bs4 bd4 bf4 bR z0 z1
    | false =>
      obtain ⟨P, hP, hPl, hPb, hh⟩ := rep_law (v6 := false) (pr := 17) (size := size) (S := [x0, x1, x2, x3, 0, 0, 0, 0, 0, 0, 0, 0, 0, 0, 0, 0]) (D := [y0, y1, y2, y3, 0, 0, 0, 0, 0, 0, 0, 0, 0, 0, 0, 0]) (F := [u0, u1, u2, u3, 0, 0, 0, 0, 0, 0, 0, 0, 0, 0, 0, 0]) (R := R) (.inr rfl) rfl rfl rfl (fun _ => ⟨rfl, rfl, rfl⟩) bs4 bd4 bf4 bR l2 l1 z0 z1
      rcases hh with ⟨e, ne, hE⟩ | ⟨Q, M, k, c, hE, hQl, hQb, h6, h4, hgm, hMl, hrd, hE2⟩
      · exact areport_fu_err x0 x1 x2 x3 x4 x5 x6 x7 x8 x9 x10 x11 x12 x13 x14 x15 y0 y1 y2 y3 y4 y5 y6 y7 y8 y9 y10 y11 y12 y13 y14 y15 u0 u1 u2 u3 u4 u5 u6 u7 u8 u9 u10 u11 u12 u13 u14 u15 R nn cap size P hP hPl hPb e ne hE l1 l2 rfl rfl rfl bs4 bd4 bf4 bR z0 z1
      · exact areport_fu_ok x0 x1 x2 x3 x4 x5 x6 x7 x8 x9 x10 x11 x12 x13 x14 x15 y0 y1 y2 y3 y4 y5 y6 y7 y8 y9 y10 y11 y12 y13 y14 y15 u0 u1 u2 u3 u4 u5 u6 u7 u8 u9 u10 u11 u12 u13 u14 u15 R nn cap size P hP hPl hPb Q M k c hE hQl hQb h6 h4 hgm hMl hrd hE2 l1 l2 rfl rfl rfl bs4 bd4 bf4 bR z0 z1
theorem answerReports_walk (w : World) (v6 tcp : Bool) (v1 : Value) (o1 : InAr 16 v1) (v2 : Value) (o2 : InAr 16 v2) (v3 : Value) (o3 : InAr 16 v3) (v4 : Value) (o4 : In8 w v4) (size : Int) (h5 : (Lit.int .u16 size).wf = true) :
    Calls Try.prog 14 #[.bool v6, .bool tcp, v1, v2, v3, v4, .int .u16 size] w fun e w' => e = .returned (.bool true) ∧ Below w.heap.size w w' := by
  obtain ⟨ss, rfl, s1, s2⟩ := o1
  obtain ⟨ds, rfl, d1, d2⟩ := o2
  obtain ⟨fs, rfl, f1, f2⟩ := o3
  obtain ⟨a, len, cap, R, rfl, ro⟩ := o4
  have hol : R.length = len := ro.1
  subst hol
  have hx := bounds_u16 h5
  have ra : RelL (noneAt w) [.v (.bool v6), .v (.bool tcp), .agg (B8 ss), .agg (B8 ds), .agg (B8 fs), .sl false (B8 R) R.length none, .v (.int .u16 size)] (#[.bool v6, .bool tcp, .agg (ar ss), .agg (ar ds), .agg (ar fs), .slice a R.length cap, .int .u16 size] : Array Value).toList :=
    .cons .v (.cons .v (.cons (rel_ar _ ss) (.cons (rel_ar _ ds) (.cons (rel_ar _ fs) (.cons (rel_row ro) (.cons .v (.nil _)))))))
  have hb : R.length ≤ 9223372036854775807 := by have := ro.le; have := ro.cap_le; omega
  have key := areport_run v6 tcp ss ds fs R false none size hb s1 d1 f1 (bytesB_iff.2 s2) (bytesB_iff.2 d2) (bytesB_iff.2 f2) (bytesB_iff.2 ro.5) (by omega) (by omega)
  obtain ⟨⟨x, m'⟩, k1, k2⟩ := Option.map_eq_some_iff.1 key
  simp only at k2
  subst k2
  exact law_of_run kau_ok follows_mixed dm_ok k1 ra
end Go.Proofs.Ytmdafjegddnecaa
