import Derived.Test.YtmdafjegddnecaaMd
import Derived.Test.YtmdafjegddnecaaMf
import Derived.Test.YtmdafjegddnecaaVj
import Derived.Test.YtmdafjegddnecaaMh
/- Plain law: packets and messages that are written are read as they were. -/
namespace Go.Proofs.Ytmdafjegddnecaa
theorem ad4_len (zs : List Int) : (ad4 zs).length = 16 := rfl
theorem len6_le {zs : List Int} (hz : bytesB zs = true) : len6 zs ≤ 65535 := by
  have g4 := gb_range hz 4
  have g5 := gb_range hz 5
  unfold len6; omega
section
open Go.Pm Go.Wb
set_option linter.unusedVariables false
set_option linter.unusedSimpArgs false
theorem head4_at {tos id : Int} {df : Bool} {ttl pr : Int} {ss ds os : List Int} {T : Int} : ∃ H T', head4 tos id df ttl pr ss ds os T = H ++ 0 :: 0 :: T' ∧ H.length = 10 := by
  unfold head4
  exact ⟨[64 + (20 + (os.length : Int)) / 4, tos, T / 256 % 256, T % 256, id / 256 % 256, id % 256, if df = true then 64 else 0, 0, ttl, pr], _, rfl, rfl⟩
theorem putS_at {H T : List Int} {x y C : Int} (h : H.length = 10) : putS (H ++ x :: y :: T) C = H ++ C / 256 % 256 :: C % 256 :: T := by
  unfold putS
  rw [List.take_left' h, show H ++ x :: y :: T = (H ++ [x, y]) ++ T by simp, List.drop_left' (by simp [h])]
theorem ws_at {H T : List Int} {x y : Int} (h : H.length = 10) : ws false (H ++ x :: y :: T) = ws false H + (x * 256 + (y + ws false T)) := by
  rw [ws_append, h, show par false 10 = false from rfl]; rfl
/-- With its checksum in its place a header's checksum is 0. -/
theorem ofV_put {H T : List Int} (h : H.length = 10) (hH : bytesB H = true) (hT : bytesB T = true) : ofV (putS (H ++ 0 :: 0 :: T) (ofV (H ++ 0 :: 0 :: T))) = 0 := by
  have hb : bytesB (H ++ 0 :: 0 :: T) = true := by rw [bytesB_append, bytesB_cons, bytesB_cons, hH, hT]; rfl
  have hr := ofV_range hb
  have h0 := (ws_nonneg false H (bytesB_iff.1 hH)).1
  have t0 := (ws_nonneg false T (bytesB_iff.1 hT)).1
  rw [putS_at h]
  generalize hC : ofV (H ++ 0 :: 0 :: T) = C at hr ⊢
  unfold ofV sumTo at hC ⊢
  rw [ws_at h] at hC ⊢
  generalize ws false H = a at *
  generalize ws false T = b at *
  unfold cn at *
  split at hC <;> split <;> omega
theorem ad4_self {ss : List Int} (h : ss.length = 16) (h4 : ss.drop 4 = zero12) : ad4 ss = ss := by
  match ss, h with
  | [a, b, c, d, e, f, g, i, j, k, l, m, n, o, p, q], _ =>
    simp [zero12] at h4
    obtain ⟨rfl, rfl, rfl, rfl, rfl, rfl, rfl, rfl, rfl, rfl, rfl, rfl⟩ := h4
    rfl
theorem ad4_gb (l s : List Int) (h0 : gb l 0 = gb s 0) (h1 : gb l 1 = gb s 1) (h2 : gb l 2 = gb s 2) (h3 : gb l 3 = gb s 3) : ad4 l = ad4 s := by
  unfold ad4; rw [h0, h1, h2, h3]
section
variable {tos id : Int} {df : Bool} {ttl pr : Int} {ss ds os ps rest : List Int}
theorem head4_len {T : Int} : (head4 tos id df ttl pr ss ds os T).length = 20 + os.length := by simp [head4]; omega
theorem head4_bytes {T : Int} (hg : good4 tos id ttl pr ss ds os) (ho : os.length ≤ 40) (T0 : 0 ≤ T) : bytesB (head4 tos id df ttl pr ss ds os T) = true := by
  obtain ⟨c0, c1, d0, d1, t0, t1, p0, p1, hs, hd, bs, bd, bo, hol⟩ := hg
  have q0 := gb_range bs 0
  have q1 := gb_range bs 1
  have q2 := gb_range bs 2
  have q3 := gb_range bs 3
  have r0 := gb_range bd 0
  have r1 := gb_range bd 1
  have r2 := gb_range bd 2
  have r3 := gb_range bd 3
  unfold head4
  simp only [bytesB_cons, Bool.and_eq_true, decide_eq_true_eq]
  refine ⟨⟨by omega, by omega⟩, ⟨by omega, by omega⟩, ⟨by omega, by omega⟩, ⟨by omega, by omega⟩, ⟨by omega, by omega⟩, ⟨by omega, by omega⟩, ⟨by split <;> omega, by split <;> omega⟩, ⟨by omega, by omega⟩, ⟨by omega, by omega⟩, ⟨by omega, by omega⟩, ⟨by omega, by omega⟩, ⟨by omega, by omega⟩, q0, q1, q2, q3, r0, r1, r2, r3, bo⟩
theorem ip4_back (hg : good4 tos id ttl pr ss ds os) (ho : optE os = 0) (hb : ¬ bad4 ss ds) (hl : 20 + os.length + ps.length ≤ 1660) (hp : bytesB ps = true) (hrest : bytesB rest = true) :
    ip4V ((putS (head4 tos id df ttl pr ss ds os (20 + (os.length : Int) + (ps.length : Int))) (ofV (head4 tos id df ttl pr ss ds os (20 + (os.length : Int) + (ps.length : Int)))) ++ ps) ++ rest) =
      (.tup [ip4A tos id df ttl pr ss ds (.own 0 0 0 os.length 1 (.whole 5)), .own 1 0 0 ps.length 1 (.whole 5), .v (.int .i64 0)], [B8 os, B8 ps]) ∧
    ofV (putS (head4 tos id df ttl pr ss ds os (20 + (os.length : Int) + (ps.length : Int))) (ofV (head4 tos id df ttl pr ss ds os (20 + (os.length : Int) + (ps.length : Int))))) = 0 := by
  obtain ⟨ol, o4⟩ := optE_len ho
  have hZb := head4_bytes (df := df) (T := 20 + (os.length : Int) + (ps.length : Int)) hg ol (by omega)
  have hr := ofV_range hZb
  unfold bad4 at hb
  simp only [not_or, Decidable.not_not] at hb
  obtain ⟨hs4, hd4⟩ := hb
  obtain ⟨c0, c1, d0, d1, t0, t1, p0, p1, hs, hd, bs, bd, bo, hol⟩ := hg
  obtain ⟨H, T', hH, hHl⟩ := head4_at (tos := tos) (id := id) (df := df) (ttl := ttl) (pr := pr) (ss := ss) (ds := ds) (os := os) (T := 20 + (os.length : Int) + (ps.length : Int))
  have hzero : ofV (putS (head4 tos id df ttl pr ss ds os (20 + (os.length : Int) + (ps.length : Int))) (ofV (head4 tos id df ttl pr ss ds os (20 + (os.length : Int) + (ps.length : Int))))) = 0 := by
    rw [hH] at hZb ⊢
    rw [bytesB_append, bytesB_cons, bytesB_cons] at hZb
    simp only [Bool.and_eq_true] at hZb
    exact ofV_put hHl hZb.1 hZb.2.2.2
  refine ⟨?_, hzero⟩
  generalize hC : ofV (head4 tos id df ttl pr ss ds os (20 + (os.length : Int) + (ps.length : Int))) = C at *
  obtain ⟨Z, hZ⟩ : ∃ Z, (putS (head4 tos id df ttl pr ss ds os (20 + (os.length : Int) + (ps.length : Int))) C ++ ps) ++ rest = Z := ⟨_, rfl⟩
  have hPl : (putS (head4 tos id df ttl pr ss ds os (20 + (os.length : Int) + (ps.length : Int))) C).length = 20 + os.length := by
    have := head4_len (tos := tos) (id := id) (df := df) (ttl := ttl) (pr := pr) (ss := ss) (ds := ds) (os := os) (T := 20 + (os.length : Int) + (ps.length : Int))
    unfold putS; simp; omega
  have zl : Z.length = 20 + os.length + ps.length + rest.length := by rw [← hZ]; simp; omega
  have g0 : gb Z 0 = 64 + (20 + (os.length : Int)) / 4 := by rw [← hZ]; rfl
  have g1 : gb Z 1 = tos := by rw [← hZ]; rfl
  have g2 : gb Z 2 = (20 + (os.length : Int) + (ps.length : Int)) / 256 % 256 := by rw [← hZ]; rfl
  have g3 : gb Z 3 = (20 + (os.length : Int) + (ps.length : Int)) % 256 := by rw [← hZ]; rfl
  have g4 : gb Z 4 = id / 256 % 256 := by rw [← hZ]; rfl
  have g5 : gb Z 5 = id % 256 := by rw [← hZ]; rfl
  have g6 : gb Z 6 = if df = true then 64 else 0 := by rw [← hZ]; rfl
  have g7 : gb Z 7 = 0 := by rw [← hZ]; rfl
  have g8 : gb Z 8 = ttl := by rw [← hZ]; rfl
  have g9 : gb Z 9 = pr := by rw [← hZ]; rfl
  have e20 : Z.drop 20 = os ++ (ps ++ rest) := by rw [← hZ]; simp [putS, head4]
  have w2 : w16 Z 2 = 20 + (os.length : Int) + (ps.length : Int) := by
    show gb Z 2 * 256 + gb Z 3 = _
    rw [g2, g3]; omega
  have w4 : w16 Z 4 = id := by
    show gb Z 4 * 256 + gb Z 5 = _
    rw [g4, g5]; omega
  have w6 : w16 Z 6 = if df = true then 16384 else 0 := by
    show gb Z 6 * 256 + gb Z 7 = _
    rw [g6, g7]; split <;> omega
  have hn : hl4 Z = 20 + os.length := by unfold hl4; rw [g0]; omega
  have et : Z.take (20 + os.length) = putS (head4 tos id df ttl pr ss ds os (20 + (os.length : Int) + (ps.length : Int))) C := by rw [← hZ, List.append_assoc, List.take_left' hPl]
  have eo : (Z.drop 20).take (20 + os.length - 20) = os := by rw [e20, show 20 + os.length - 20 = os.length by omega, List.take_left' rfl]
  have ep : (Z.drop (20 + os.length)).take ps.length = ps := by rw [← List.drop_drop, e20, List.drop_left' rfl, List.take_left' rfl]
  have hk : chk4 Z = 0 := ok4_chk ⟨by omega, by rw [g0]; omega, by omega, by omega, by rw [hn, et]; exact hzero, by rw [hn, w2]; omega, by rw [w2]; omega, by rw [w6]; split <;> omega, by rw [hn, eo]; exact ho, by rw [w6]; split <;> omega⟩
  have eS : ad4 (Z.drop 12) = ss := by
    refine (ad4_gb _ ss ?_ ?_ ?_ ?_).trans (ad4_self hs hs4) <;> (rw [gb_drop, ← hZ]; rfl)
  have eD : ad4 (Z.drop 16) = ds := by
    refine (ad4_gb _ ds ?_ ?_ ?_ ?_).trans (ad4_self hd hd4) <;> (rw [gb_drop, ← hZ]; rfl)
  rw [hZ]
  unfold ip4V
  rw [if_pos hk, hn]
  unfold ip4R
  rw [eS, eD, eo, g1, g8, g9, w4, w2, show (20 + (os.length : Int) + (ps.length : Int)).toNat - (20 + os.length) = ps.length by omega, ep, w6, show 20 + os.length - 20 = os.length by omega]
  cases df <;> rfl
end
end
section
open Go.Pm Go.Wb
set_option linter.unusedVariables false
set_option linter.unusedSimpArgs false
theorem getD_app {l x : List Int} {i : Nat} (h : i < l.length) : (l ++ x).getD i 0 = l.getD i 0 := by
  rw [List.getD_eq_getElem?_getD, List.getD_eq_getElem?_getD, List.getElem?_append_left h]
theorem getD_take {l : List Int} {i m : Nat} (h : i < m) : (l.take m).getD i 0 = l.getD i 0 := by
  rw [List.getD_eq_getElem?_getD, List.getD_eq_getElem?_getD, List.getElem?_take_of_lt h]
theorem hlen_app {n : Int} {l x : List Int} (h : 8 ≤ l.length) : hlen n (l ++ x) = hlen n l := by unfold hlen; rw [getD_app (by omega)]
theorem herr_app {n : Int} {l x : List Int} (h : 8 ≤ l.length) : herr2 n (l ++ x) = herr2 n l := by unfold herr2; rw [getD_app (by omega), getD_app (by omega)]
theorem hlen_take {n : Int} {l : List Int} {m : Nat} (h : 8 ≤ m) : hlen n (l.take m) = hlen n l := by unfold hlen; rw [getD_take (by omega)]
theorem herr_take {n : Int} {l : List Int} {m : Nat} (h : 8 ≤ m) : herr2 n (l.take m) = herr2 n l := by unfold herr2; rw [getD_take (by omega), getD_take (by omega)]
theorem hlen_8 {n : Int} {l : List Int} (hb : bytesB l = true) : 8 ≤ hlen n l := by
  have g1 := gb_range hb 1
  unfold hlen; unfold gb at g1; split <;> omega
theorem chain_more : ∀ (f : Nat) (n : Int) (l x : List Int) (j : Nat) (k : Int), 0 < f → bytesB l = true → (chainF f n l j k).2.2 = 0 → 8 < f + j → j ≤ 8 → chainF f n (l ++ x) j k = chainF f n l j k := by
  intro f
  induction f with
  | zero => intro n l x j k h; omega
  | succ f ih =>
    intro n l x j k _ hb h hf hj
    rw [chainF] at h
    rw [chainF, chainF]
    split at h
    · rename_i q; rw [if_pos q, if_pos q]
    rename_i q; rw [if_neg q, if_neg q]
    split at h
    · simp at h
    rename_i q1; rw [if_neg q1, if_neg q1]
    split at h
    · simp at h
    rename_i q2; rw [if_neg q2, if_neg q2]
    split at h
    · simp at h
    rename_i q3
    have h8 : 8 ≤ l.length := by omega
    rw [if_neg q3, if_neg (by simp; omega), hlen_app h8, herr_app h8]
    split at h
    · simp at h
    rename_i q4
    have hh := hlen_8 (n := n) hb
    rw [if_neg q4, if_neg (by simp; omega)]
    split at h
    · rename_i q5
      rw [if_pos q5, if_pos q5, getD_app (by omega), List.drop_append_of_le_length (by omega)]
      exact ih _ _ _ _ _ (by omega) (bytesB_drop hb _) h (by omega) (by omega)
    · exact absurd h (by simpa using ‹_›)
theorem bad6_not {la nx pr : Int} {cs : List Int} (h : ¬ bad6 la nx pr cs) : la < 1048576 ∧ chainF 9 nx cs 0 0 = (pr, (cs.length : Int), 0) := by
  unfold bad6 at h
  simp only [not_or, Decidable.not_not] at h
  obtain ⟨h1, h2, h3, h4⟩ := h
  exact ⟨by omega, Prod.ext h3 (Prod.ext h4 h2)⟩
theorem ip6_back {cl la nx pr ho : Int} {ss ds cs ps rest : List Int} (hg : good6 cl la nx pr ho ss ds cs) (hb : ¬ bad6 la nx pr cs) (hl : cs.length + ps.length ≤ 1620) (hp : bytesB ps = true) :
    ip6V ((head6 cl la nx ho ((cs.length : Int) + (ps.length : Int)) ++ (ss ++ (ds ++ (cs ++ ps)))) ++ rest) = (.tup [ip6A cl la nx pr ho ss ds (.own 0 0 0 cs.length 1 (.whole 5)), .own 1 0 0 ps.length 1 (.whole 5), .v (.int .i64 0)], [B8 cs, B8 ps]) := by
  obtain ⟨c0, c1, l0, l1, n0, n1, p0, p1, h0, h1, hs, hd, bs, bd, bc, hcl⟩ := hg
  obtain ⟨hla, hch⟩ := bad6_not hb
  obtain ⟨Z, hZ⟩ : ∃ Z, (head6 cl la nx ho ((cs.length : Int) + (ps.length : Int)) ++ (ss ++ (ds ++ (cs ++ ps)))) ++ rest = Z := ⟨_, rfl⟩
  have e8 : Z.drop 8 = ss ++ (ds ++ (cs ++ (ps ++ rest))) := by rw [← hZ]; simp [head6]
  have g0 : gb Z 0 = 96 + cl / 16 := by rw [← hZ]; rfl
  have g1 : gb Z 1 = cl % 16 * 16 + la / 65536 := by rw [← hZ]; rfl
  have g2 : gb Z 2 = la / 256 % 256 := by rw [← hZ]; rfl
  have g3 : gb Z 3 = la % 256 := by rw [← hZ]; rfl
  have g4 : gb Z 4 = ((cs.length : Int) + (ps.length : Int)) / 256 := by rw [← hZ]; rfl
  have g5 : gb Z 5 = ((cs.length : Int) + (ps.length : Int)) % 256 := by rw [← hZ]; rfl
  have g6 : gb Z 6 = nx := by rw [← hZ]; rfl
  have g7 : gb Z 7 = ho := by rw [← hZ]; rfl
  have zl : Z.length = 40 + cs.length + ps.length + rest.length := by rw [← hZ]; simp [head6, hs, hd]; omega
  have e24 : Z.drop 24 = ds ++ (cs ++ (ps ++ rest)) := by rw [show (24 : Nat) = 8 + 16 from rfl, ← List.drop_drop, e8, List.drop_left' hs]
  have e40 : Z.drop 40 = cs ++ (ps ++ rest) := by rw [show (40 : Nat) = 24 + 16 from rfl, ← List.drop_drop, e24, List.drop_left' hd]
  have hL : len6 Z = cs.length + ps.length := by unfold len6; rw [g4, g5]; omega
  have e4 : (Z.drop 40).take (cs.length + ps.length) = cs ++ ps := by rw [e40, ← List.append_assoc, List.take_left' (by simp)]
  have ec : chainF 9 nx (cs ++ ps) 0 0 = (pr, (cs.length : Int), 0) := by rw [chain_more 9 nx cs ps 0 0 (by omega) bc (by rw [hch]) (by omega) (by omega), hch]
  have ea : (Z.drop 8).take 16 = ss := by rw [e8, List.take_left' hs]
  have eb : (Z.drop 24).take 16 = ds := by rw [e24, List.take_left' hd]
  have ed : (Z.drop 40).take cs.length = cs := by rw [e40, List.take_left' rfl]
  have ee : (Z.drop (40 + cs.length)).take ps.length = ps := by rw [← List.drop_drop, e40, List.drop_left' rfl, List.take_left' rfl]
  rw [hZ]
  unfold ip6V
  rw [hL, g6, e4, ec, if_neg (by omega), if_neg (by rw [g0]; omega), if_neg (by omega), if_pos rfl]
  unfold ip6R
  simp only [Int.toNat_natCast]
  rw [ea, eb, ed, show cs.length + ps.length - cs.length = ps.length by omega, ee, g0, g1, g2, g3, g6, g7, show (96 + cl / 16) % 16 * 16 + (cl % 16 * 16 + la / 65536) / 16 = cl by omega, show (cl % 16 * 16 + la / 65536) % 16 * 65536 + la / 256 % 256 * 256 + la % 256 = la by omega]
end
section
open Go.Pm Go.Wb
theorem ck6_zero {v6 : Bool} {ss ds H T : List Int} {pr C : Int} (bs : bytesB ss = true) (bd : bytesB ds = true) (p0 : 0 ≤ pr) (p1 : pr ≤ 255) (hH : bytesB H = true) (hT : bytesB T = true) (he : par false H.length = false)
    (hC : C = ck v6 ss ds pr (H ++ 0 :: 0 :: T)) : ck v6 ss ds pr (H ++ C / 256 :: C % 256 :: T) = 0 := by
  have h0 := (ws_nonneg false H (bytesB_iff.1 hH)).1
  have t0 := (ws_nonneg false T (bytesB_iff.1 hT)).1
  have s0 := (sumTo_range (s := 0) (o := false) (Int.le_refl 0) (phead_b (v6 := v6) (pr := pr) (n := ((H ++ 0 :: 0 :: T).length : Nat)) (bytesB_iff.1 bs) (bytesB_iff.1 bd) p0 p1))
  have hl : (H ++ C / 256 :: C % 256 :: T).length = (H ++ 0 :: 0 :: T).length := by simp
  have w1 : ws false (H ++ C / 256 :: C % 256 :: T) = ws false H + (C / 256 * 256 + (C % 256 + ws false T)) := by rw [ws_append, he]; rfl
  have w0 : ws false (H ++ 0 :: 0 :: T) = ws false H + (0 * 256 + (0 + ws false T)) := by rw [ws_append, he]; rfl
  have hb : bytesB (H ++ 0 :: 0 :: T) = true := by rw [bytesB_append, bytesB_cons, bytesB_cons, hH, hT]; rfl
  have hc := ck_range (v6 := v6) (ss := ss) (ds := ds) (pr := pr) (zs := H ++ 0 :: 0 :: T) (bytesB_iff.1 hb) s0.1
  unfold ck at hC hc ⊢
  rw [hl]
  unfold sumTo at hC hc s0 ⊢
  rw [w0] at hC hc
  rw [w1]
  generalize cn (0 + ws false (phead v6 ss ds pr ((H ++ 0 :: 0 :: T).length : Nat))) = s at *
  generalize ws false H = h at *
  generalize ws false T = t at *
  clear hl w1 w0 hH hT he bs bd hb
  unfold cn at *
  repeat' split at hC
  all_goals (split <;> omega)
theorem of6_zero {H T : List Int} {C : Int} (hH : bytesB H = true) (hT : bytesB T = true) (he : par false H.length = false) (hC : C = ofV (H ++ 0 :: 0 :: T)) : ofV (H ++ C / 256 :: C % 256 :: T) = 0 := by
  have hb : bytesB (H ++ 0 :: 0 :: T) = true := by rw [bytesB_append, bytesB_cons, bytesB_cons, hH, hT]; rfl
  have hr := ofV_range hb
  have h0 := (ws_nonneg false H (bytesB_iff.1 hH)).1
  have t0 := (ws_nonneg false T (bytesB_iff.1 hT)).1
  have w1 : ws false (H ++ C / 256 :: C % 256 :: T) = ws false H + (C / 256 * 256 + (C % 256 + ws false T)) := by rw [ws_append, he]; rfl
  have w0 : ws false (H ++ 0 :: 0 :: T) = ws false H + (0 * 256 + (0 + ws false T)) := by rw [ws_append, he]; rfl
  unfold ofV sumTo at hC hr ⊢
  rw [w0] at hC hr
  rw [w1]
  generalize ws false H = a at *
  generalize ws false T = b at *
  clear w1 w0 hH hT he hb
  unfold cn at *
  split at hC <;> split <;> omega
theorem skV_back {v6 : Bool} {ss ds h ps : List Int} {k c : Int} {len : Nat} (hg : goodIW k c ss ds h ps len) : skV v6 ss ds (w6M k c (skV v6 ss ds (k :: c :: 0 :: 0 :: (h ++ ps))) h ps) = 0 := by
  obtain ⟨_, hl, hs, hd, hh, hz, bs, bd, bh, k0, k1, c0, c1⟩ := id hg
  have hH : bytesB [k, c] = true := by simp only [bytesB_cons]; simp [k0, k1, c0, c1]; rfl
  have hT : bytesB (h ++ ps) = true := by rw [bytesB_append, bh, hz]; rfl
  unfold w6M
  cases v6 with
  | true => exact ck6_zero (H := [k, c]) (T := h ++ ps) bs bd (by omega) (by omega) hH hT (by simp [par]) rfl
  | false => exact of6_zero (H := [k, c]) (T := h ++ ps) hH hT (by simp [par]) rfl
theorem w6M_len {k c K : Int} {h ps : List Int} (hh : h.length = 4) : (w6M k c K h ps).length = 8 + ps.length := by simp [w6M, hh]; omega
theorem w6M_drop {k c K : Int} {h ps : List Int} (hh : h.length = 4) : (w6M k c K h ps).drop 8 = ps := by
  match h, hh with
  | [x, y, z, u], _ => rfl
theorem goodM_back {v6 : Bool} {ss ds h ps : List Int} {k c : Int} {len : Nat} (hg : goodIW k c ss ds h ps len) (hl : ps.length ≤ 1652) : goodM ss ds (w6M k c (skV v6 ss ds (k :: c :: 0 :: 0 :: (h ++ ps))) h ps) (8 + ps.length) := by
  obtain ⟨_, _, hs, hd, hh, hz, bs, bd, bh, k0, k1, c0, c1⟩ := id hg
  have hT : bytesB (h ++ ps) = true := by rw [bytesB_append, bh, hz]; rfl
  have hK := skV_range (v6 := v6) (ss := ss) (ds := ds) (zs := k :: c :: 0 :: 0 :: (h ++ ps)) (by simp only [bytesB_cons, hT]; simp [k0, k1, c0, c1]) bs bd
  refine ⟨w6M_len hh, by omega, hs, hd, ?_, bs, bd⟩
  unfold w6M
  rw [bytesB_cons, bytesB_cons, bytesB_cons, bytesB_cons, hT]
  simp only [Bool.and_true, Bool.and_eq_true, decide_eq_true_eq]
  omega
end
end Go.Proofs.Ytmdafjegddnecaa

/- Plain law: what is said of a packet that was written; an echo that is written is read as it was; what is answered to it. -/
namespace Go.Proofs.Ytmdafjegddnecaa
open Go.Pm Go.Wb
set_option linter.unusedVariables false
set_option linter.unusedSimpArgs false
set_option maxRecDepth 1000000
theorem B8_inj {a b : List Int} (h : B8 a = B8 b) : a = b := by
  have := congrArg asB8 h
  simpa using this
/-- What is said of a packet. -/
def Said (v6 : Bool) (pr : Int) (S D M W : List Int) : Prop := bytesB W = true ∧ anEr W = 0 ∧ an6 W = v6 ∧ anS W = S ∧ anD W = D ∧ anP W = pr ∧ anR W = M
theorem an_back6 {pr : Int} {S D M : List Int} {ho : Int} (hc : chainF 9 pr [] 0 0 = (pr, 0, 0)) (p0 : 0 ≤ pr) (p1 : pr ≤ 255) (h0 : 0 ≤ ho) (h1 : ho ≤ 255) (hS : S.length = 16) (hD : D.length = 16) (bS : bytesB S = true) (bD : bytesB D = true) (bM : bytesB M = true) (hl : M.length ≤ 1620) :
    ∃ W, w6V 0 0 pr pr ho S D [] M = ewC W ∧ W.length = 40 + M.length ∧ Said true pr S D M W := by
  have hnb : ¬ bad6 0 pr pr [] := by unfold bad6; rw [hc]; simp
  have hg : good6 0 0 pr pr ho S D [] := ⟨by decide, by decide, by decide, by decide, p0, p1, p0, p1, h0, h1, hS, hD, bS, bD, rfl, by decide⟩
  have hb := ip6_back (ps := M) (rest := []) hg hnb (by simpa using hl) bM
  rw [List.append_nil] at hb
  have hw : w6V 0 0 pr pr ho S D [] M = ewC (head6 0 0 pr ho ((([] : List Int).length : Int) + (M.length : Int)) ++ (S ++ (D ++ ([] ++ M)))) := by
    unfold w6V
    rw [if_neg hnb, if_neg (by simp; omega)]
    rfl
  refine ⟨_, hw, by simp [head6, hS, hD]; omega, ?_⟩
  have hby : bytesB (head6 0 0 pr ho ((([] : List Int).length : Int) + (M.length : Int)) ++ (S ++ (D ++ ([] ++ M)))) = true := by
    unfold head6
    simp only [List.cons_append, List.nil_append, bytesB_cons, bytesB_append, bS, bD, bM, Bool.and_true, Bool.and_eq_true, decide_eq_true_eq, List.length_nil]
    omega
  have h6 : gb (head6 0 0 pr ho ((([] : List Int).length : Int) + (M.length : Int)) ++ (S ++ (D ++ ([] ++ M)))) 0 / 16 = 6 := rfl
  have hS' : ((head6 0 0 pr ho ((([] : List Int).length : Int) + (M.length : Int)) ++ (S ++ (D ++ ([] ++ M)))).drop 8).take 16 = S := by
    show (S ++ (D ++ ([] ++ M))).take 16 = S
    exact List.take_left' hS
  have hD' : ((head6 0 0 pr ho ((([] : List Int).length : Int) + (M.length : Int)) ++ (S ++ (D ++ ([] ++ M)))).drop 24).take 16 = D := by
    show ((S ++ (D ++ ([] ++ M))).drop 16).take 16 = D
    rw [List.drop_left' hS]
    exact List.take_left' hD
  have hlen : 0 < (head6 0 0 pr ho ((([] : List Int).length : Int) + (M.length : Int)) ++ (S ++ (D ++ ([] ++ M)))).length := by simp [head6]
  generalize head6 0 0 pr ho ((([] : List Int).length : Int) + (M.length : Int)) ++ (S ++ (D ++ ([] ++ M))) = W at *
  have hV := ip6V_e h6
  rw [hb] at hV
  have hv : an6 W = true := by simp [an6, h6]
  by_cases he : an6E W = 0
  case neg => rw [if_neg he] at hV; simp [err6] at hV
  rw [if_pos he] at hV
  have hbad : ¬ anBad W := by
    rintro (h | h)
    · omega
    · exact h.2 h6
  unfold ip6R ip6A at hV
  simp only [Prod.mk.injEq, AV.tup.injEq, AV.agg.injEq, List.cons.injEq, AV.v.injEq, Value.int.injEq, true_and, and_true] at hV
  obtain ⟨⟨hh, _⟩, _, hR⟩ := hV
  refine ⟨hby, ?_, hv, ?_, ?_, ?_, ?_⟩
  · unfold anEr anE; rw [if_neg hbad, if_pos hv]; exact he
  · unfold anS; rw [if_pos hv]; exact hS'
  · unfold anD; rw [if_pos hv]; exact hD'
  · unfold anP; rw [if_pos hv]; exact hh.2.2.2.1.symm
  · unfold anR; rw [if_pos hv]; exact (B8_inj hR).symm
theorem an_back4 {pr : Int} {S D M : List Int} {ttl : Int} (p0 : 0 ≤ pr) (p1 : pr ≤ 255) (h0 : 0 ≤ ttl) (h1 : ttl ≤ 255) (hS : S.length = 16) (hD : D.length = 16) (zS : S.drop 4 = zero12) (zD : D.drop 4 = zero12) (bS : bytesB S = true) (bD : bytesB D = true) (bM : bytesB M = true) (hl : M.length ≤ 1640) :
    ∃ W, w4V 0 0 false ttl pr S D [] M = ewC W ∧ W.length = 20 + M.length ∧ Said false pr S D M W := by
  have hnb : ¬ bad4 S D := by unfold bad4; rw [zS, zD]; simp
  have hg : good4 0 0 ttl pr S D [] := ⟨by decide, by decide, by decide, by decide, h0, h1, p0, p1, hS, hD, bS, bD, rfl, by decide⟩
  have ho : optE [] = 0 := by decide
  have hb := (ip4_back (df := false) (ps := M) (rest := []) hg ho hnb (by simp; omega) bM rfl).1
  rw [List.append_nil] at hb
  have hw : w4V 0 0 false ttl pr S D [] M = ewC (putS (head4 0 0 false ttl pr S D [] (20 + (([] : List Int).length : Int) + (M.length : Int))) (ofV (head4 0 0 false ttl pr S D [] (20 + (([] : List Int).length : Int) + (M.length : Int)))) ++ M) := by
    unfold w4V
    rw [if_neg (by simp [ho]), if_neg hnb, if_neg (by simp; omega)]
    rfl
  have hZb := head4_bytes (df := false) (T := 20 + (([] : List Int).length : Int) + (M.length : Int)) hg (by simp) (by omega)
  have hr := ofV_range hZb
  have hZl : (head4 0 0 false ttl pr S D [] (20 + (([] : List Int).length : Int) + (M.length : Int))).length = 20 := by simp [head4]
  have hby : bytesB (putS (head4 0 0 false ttl pr S D [] (20 + (([] : List Int).length : Int) + (M.length : Int))) (ofV (head4 0 0 false ttl pr S D [] (20 + (([] : List Int).length : Int) + (M.length : Int)))) ++ M) = true := by
    unfold putS
    rw [bytesB_append, bytesB_append, bytesB_take hZb, bytesB_cons, bytesB_cons, bytesB_drop hZb, bM]
    simp only [Bool.and_true, Bool.true_and, Bool.and_eq_true, decide_eq_true_eq]
    omega
  refine ⟨_, hw, by simp only [putS, List.length_append, List.length_take, List.length_cons, List.length_drop, hZl]; omega, ?_⟩
  generalize putS (head4 0 0 false ttl pr S D [] (20 + (([] : List Int).length : Int) + (M.length : Int))) (ofV (head4 0 0 false ttl pr S D [] (20 + (([] : List Int).length : Int) + (M.length : Int)))) ++ M = W at *
  by_cases he : chk4 W = 0
  case neg =>
    unfold ip4V at hb
    rw [if_neg he] at hb
    simp [err4] at hb
  obtain ⟨q1, q2, q3, q4, q5, q6, q7, q8, q9, q10⟩ := chk4_ok he
  have hv : an6 W = false := by simp [an6, q2]
  have hbad : ¬ anBad W := by
    rintro (h | h)
    · omega
    · exact h.1 q2
  unfold ip4V at hb
  rw [if_pos he] at hb
  unfold ip4R ip4A at hb
  simp only [Prod.mk.injEq, AV.tup.injEq, AV.agg.injEq, List.cons.injEq, AV.v.injEq, Value.int.injEq, true_and, and_true] at hb
  obtain ⟨⟨hh, _⟩, _, hR⟩ := hb
  obtain ⟨i1, i2⟩ := List.append_inj hh.2.2.2.2.2 (by rw [B8_length, B8_length, hS]; rfl)
  obtain ⟨i3, i4⟩ := List.append_inj i2 (by rw [B8_length, B8_length, hD]; rfl)
  refine ⟨hby, ?_, hv, ?_, ?_, ?_, ?_⟩
  · unfold anEr anE; rw [if_neg hbad, if_neg (by simp [hv])]; exact he
  · unfold anS; rw [if_neg (by simp [hv])]; exact B8_inj i1
  · unfold anD; rw [if_neg (by simp [hv])]; exact B8_inj i3
  · unfold anP; rw [if_neg (by simp [hv])]; exact hh.2.2.2.2.1
  · unfold anR; rw [if_neg (by simp [hv])]; exact B8_inj hR
theorem kdK_range (v6 re : Bool) : 0 ≤ kdK v6 re ∧ kdK v6 re ≤ 255 := by cases v6 <;> cases re <;> decide
theorem ewM_eq (k K : Int) (id nu : Int) (ps : List Int) : ewM k K (ewX id nu ps) = w6M k 0 K [id / 256, id % 256, nu / 256, nu % 256] ps := rfl
theorem ewX_eq (id nu : Int) (ps : List Int) : ewX id nu ps = [id / 256, id % 256, nu / 256, nu % 256] ++ ps := rfl
theorem ew_good {v6 re : Bool} {ss ds : List Int} {id nu : Int} {ps : List Int} (hg : goodE id nu ss ds ps ps.length) : goodIW (kdK v6 re) 0 ss ds [id / 256, id % 256, nu / 256, nu % 256] ps ps.length := by
  obtain ⟨_, hl, hs, hd, hz, bs, bd, a0, a1, b0, b1⟩ := hg
  have hk := kdK_range v6 re
  refine ⟨rfl, hl, hs, hd, rfl, hz, bs, bd, ?_, hk.1, hk.2, by decide, by decide⟩
  simp only [bytesB_cons, Bool.and_eq_true, decide_eq_true_eq]
  exact ⟨by omega, by omega, by omega, by omega, rfl⟩
/-- An echo that is written is read as it was. -/
theorem ec_back {v6 re : Bool} {ss ds : List Int} {id nu : Int} {ps : List Int} (hg : goodE id nu ss ds ps ps.length) :
    ecE v6 ss ds (ewM (kdK v6 re) (skV v6 ss ds (kdK v6 re :: 0 :: 0 :: 0 :: ewX id nu ps)) (ewX id nu ps)) = 0 ∧
    ecV v6 ss ds (ewM (kdK v6 re) (skV v6 ss ds (kdK v6 re :: 0 :: 0 :: 0 :: ewX id nu ps)) (ewX id nu ps)) = (.tup [echA re id nu (.own 0 0 0 ps.length 1 (.whole 5)), .v (.int .i64 0)], [B8 ps]) := by
  have h0 := skV_back (v6 := v6) (ew_good (v6 := v6) (re := re) hg)
  obtain ⟨_, hl, hs, hd, hz, bs, bd, a0, a1, b0, b1⟩ := hg
  rw [← ewX_eq, ← ewM_eq] at h0
  have hE : ecE v6 ss ds (ewM (kdK v6 re) (skV v6 ss ds (kdK v6 re :: 0 :: 0 :: 0 :: ewX id nu ps)) (ewX id nu ps)) = 0 := by
    unfold ecE
    rw [if_neg (by simp only [ewM, ewX, List.length_cons]; omega), if_neg (by simp [h0]), if_neg, if_neg]
    · show ¬ ¬ (0 : Int) = 0
      exact fun h => h rfl
    · show ¬ (¬ kdK v6 re = askK v6 ∧ ¬ kdK v6 re = repK v6)
      cases v6 <;> cases re <;> simp [kdK]
  refine ⟨hE, ?_⟩
  unfold ecV
  rw [if_pos hE]
  generalize skV v6 ss ds (kdK v6 re :: 0 :: 0 :: 0 :: ewX id nu ps) = K
  have e1 : w16 (ewM (kdK v6 re) K (ewX id nu ps)) 4 = id := by show id / 256 * 256 + id % 256 = id; omega
  have e2 : w16 (ewM (kdK v6 re) K (ewX id nu ps)) 6 = nu := by show nu / 256 * 256 + nu % 256 = nu; omega
  have e3 : (ewM (kdK v6 re) K (ewX id nu ps)).drop 8 = ps := rfl
  have e4 : gb (ewM (kdK v6 re) K (ewX id nu ps)) 0 = kdK v6 re := rfl
  have e5 : (ewM (kdK v6 re) K (ewX id nu ps)).length - 8 = ps.length := by simp [ewM, ewX]
  rw [e1, e2, e3, e4, e5]
  congr 5
  cases v6 <;> cases re <;> decide
theorem ew_bytes {v6 re : Bool} {ss ds : List Int} {id nu : Int} {ps : List Int} (hg : goodE id nu ss ds ps ps.length) (hl : ps.length ≤ 1652) : bytesB (ewM (kdK v6 re) (skV v6 ss ds (kdK v6 re :: 0 :: 0 :: 0 :: ewX id nu ps)) (ewX id nu ps)) = true :=
  (goodM_back (v6 := v6) (ew_good (v6 := v6) (re := re) hg) hl).2.2.2.2.1
end Go.Proofs.Ytmdafjegddnecaa
