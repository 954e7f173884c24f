/- A packet of IPv4 that is written is read as it was; one that is read is written as it was: plain facts. -/
import Derived.Test.YtcbjjkpjbdcakaaJk
namespace Go.Proofs.Ytcbjjkpjbdcakaa
open Go.Pm Go.Wb
set_option linter.unusedVariables false
set_option linter.unusedSimpArgs false
theorem head4_at {tos id : Int} {df : Bool} {ttl pr : Int} {ss ds os : List Int} {T : Int} : ∃ H T', head4 tos id df ttl pr ss ds os T = H ++ 0 :: 0 :: T' ∧ H.length = 10 := by
  unfold head4
  exact ⟨[64 + (20 + (os.length : Int)) / 4, tos, T / 256 % 256, T % 256, id / 256 % 256, id % 256, if df = true then 64 else 0, 0, ttl, pr], _, rfl, rfl⟩
theorem putS_at {H T : List Int} {x y C : Int} (h : H.length = 10) : putS (H ++ x :: y :: T) C = H ++ C / 256 % 256 :: C % 256 :: T := by
  unfold putS
  rw [List.take_left' h, show H ++ x :: y :: T = (H ++ [x, y]) ++ T by simp, List.drop_left' (by simp [h])]
theorem ws_at {H T : List Int} {x y : Int} (h : H.length = 10) : ws false (H ++ x :: y :: T) = ws false H + (x * 256 + (y + ws false T)) := by
  rw [ws_append, h, show par false 10 = false from rfl]; rfl
/-- With its checksum in its place a header's checksum is 0. -/
theorem ofV_put {H T : List Int} (h : H.length = 10) (hH : bytesB H = true) (hT : bytesB T = true) : ofV (putS (H ++ 0 :: 0 :: T) (ofV (H ++ 0 :: 0 :: T))) = 0 := by
  have hb : bytesB (H ++ 0 :: 0 :: T) = true := by rw [bytesB_append, bytesB_cons, bytesB_cons, hH, hT]; rfl
  have hr := ofV_range hb
  have h0 := (ws_nonneg false H (bytesB_iff.1 hH)).1
  have t0 := (ws_nonneg false T (bytesB_iff.1 hT)).1
  rw [putS_at h]
  generalize hC : ofV (H ++ 0 :: 0 :: T) = C at hr ⊢
  unfold ofV sumTo at hC ⊢
  rw [ws_at h] at hC ⊢
  generalize ws false H = a at *
  generalize ws false T = b at *
  unfold cn at *
  split at hC <;> split <;> omega
/-- Where the checksum is 0, the sum in its place is the sum of what is around, but that 65535 is 0. -/
theorem ofV_got {H T : List Int} {x y : Int} (h : H.length = 10) (hH : bytesB H = true) (hT : bytesB T = true) (hx : 0 ≤ x ∧ x ≤ 255) (hy : 0 ≤ y ∧ y ≤ 255) (hp : 0 < gb H 0) (h0 : ofV (H ++ x :: y :: T) = 0) :
    ofV (H ++ 0 :: 0 :: T) = if x = 255 ∧ y = 255 then 0 else x * 256 + y := by
  have a0 := (ws_nonneg false H (bytesB_iff.1 hH)).1
  have t0 := (ws_nonneg false T (bytesB_iff.1 hT)).1
  have a1 : 0 < ws false H := by
    cases H with
    | nil => simp at h
    | cons z H =>
      have hb := bytesB_iff.1 hH
      have := (ws_nonneg true H (fun x hx => hb x (List.mem_cons_of_mem _ hx))).1
      have : gb (z :: H) 0 = z := rfl
      simp only [ws]
      omega
  unfold ofV sumTo at h0 ⊢
  rw [ws_at h] at h0 ⊢
  generalize ws false H = a at *
  generalize ws false T = b at *
  unfold cn at *
  by_cases q : x = 255 ∧ y = 255
  · rw [if_pos q]; obtain ⟨rfl, rfl⟩ := q
    split at h0 <;> split <;> omega
  · rw [if_neg q]
    split at h0 <;> split <;> omega
theorem ad4_self {ss : List Int} (h : ss.length = 16) (h4 : ss.drop 4 = zero12) : ad4 ss = ss := by
  match ss, h with
  | [a, b, c, d, e, f, g, i, j, k, l, m, n, o, p, q], _ =>
    simp [zero12] at h4
    obtain ⟨rfl, rfl, rfl, rfl, rfl, rfl, rfl, rfl, rfl, rfl, rfl, rfl⟩ := h4
    rfl
theorem ad4_gb (l s : List Int) (h0 : gb l 0 = gb s 0) (h1 : gb l 1 = gb s 1) (h2 : gb l 2 = gb s 2) (h3 : gb l 3 = gb s 3) : ad4 l = ad4 s := by
  unfold ad4; rw [h0, h1, h2, h3]
section
variable {tos id : Int} {df : Bool} {ttl pr : Int} {ss ds os ps rest : List Int}
theorem head4_len {T : Int} : (head4 tos id df ttl pr ss ds os T).length = 20 + os.length := by simp [head4]; omega
theorem head4_bytes {T : Int} (hg : good4 tos id ttl pr ss ds os) (ho : os.length ≤ 40) (T0 : 0 ≤ T) : bytesB (head4 tos id df ttl pr ss ds os T) = true := by
  obtain ⟨c0, c1, d0, d1, t0, t1, p0, p1, hs, hd, bs, bd, bo, hol⟩ := hg
  have q0 := gb_range bs 0
  have q1 := gb_range bs 1
  have q2 := gb_range bs 2
  have q3 := gb_range bs 3
  have r0 := gb_range bd 0
  have r1 := gb_range bd 1
  have r2 := gb_range bd 2
  have r3 := gb_range bd 3
  unfold head4
  simp only [bytesB_cons, Bool.and_eq_true, decide_eq_true_eq]
  refine ⟨⟨by omega, by omega⟩, ⟨by omega, by omega⟩, ⟨by omega, by omega⟩, ⟨by omega, by omega⟩, ⟨by omega, by omega⟩, ⟨by omega, by omega⟩, ⟨by split <;> omega, by split <;> omega⟩, ⟨by omega, by omega⟩, ⟨by omega, by omega⟩, ⟨by omega, by omega⟩, ⟨by omega, by omega⟩, ⟨by omega, by omega⟩, q0, q1, q2, q3, r0, r1, r2, r3, bo⟩
theorem ip4_back (hg : good4 tos id ttl pr ss ds os) (ho : optE os = 0) (hb : ¬ bad4 ss ds) (hl : 20 + os.length + ps.length ≤ 1660) (hp : bytesB ps = true) (hrest : bytesB rest = true) :
    ip4V ((putS (head4 tos id df ttl pr ss ds os (20 + (os.length : Int) + (ps.length : Int))) (ofV (head4 tos id df ttl pr ss ds os (20 + (os.length : Int) + (ps.length : Int)))) ++ ps) ++ rest) =
      (.tup [ip4A tos id df ttl pr ss ds (.own 0 0 0 os.length 1 (.whole 5)), .own 1 0 0 ps.length 1 (.whole 5), .v (.int .i64 0)], [B8 os, B8 ps]) ∧
    ofV (putS (head4 tos id df ttl pr ss ds os (20 + (os.length : Int) + (ps.length : Int))) (ofV (head4 tos id df ttl pr ss ds os (20 + (os.length : Int) + (ps.length : Int))))) = 0 := by
  obtain ⟨ol, o4⟩ := optE_len ho
  have hZb := head4_bytes (df := df) (T := 20 + (os.length : Int) + (ps.length : Int)) hg ol (by omega)
  have hr := ofV_range hZb
  unfold bad4 at hb
  simp only [not_or, Decidable.not_not] at hb
  obtain ⟨hs4, hd4⟩ := hb
  obtain ⟨c0, c1, d0, d1, t0, t1, p0, p1, hs, hd, bs, bd, bo, hol⟩ := hg
  obtain ⟨H, T', hH, hHl⟩ := head4_at (tos := tos) (id := id) (df := df) (ttl := ttl) (pr := pr) (ss := ss) (ds := ds) (os := os) (T := 20 + (os.length : Int) + (ps.length : Int))
  have hzero : ofV (putS (head4 tos id df ttl pr ss ds os (20 + (os.length : Int) + (ps.length : Int))) (ofV (head4 tos id df ttl pr ss ds os (20 + (os.length : Int) + (ps.length : Int))))) = 0 := by
    rw [hH] at hZb ⊢
    rw [bytesB_append, bytesB_cons, bytesB_cons] at hZb
    simp only [Bool.and_eq_true] at hZb
    exact ofV_put hHl hZb.1 hZb.2.2.2
  refine ⟨?_, hzero⟩
  generalize hC : ofV (head4 tos id df ttl pr ss ds os (20 + (os.length : Int) + (ps.length : Int))) = C at *
  obtain ⟨Z, hZ⟩ : ∃ Z, (putS (head4 tos id df ttl pr ss ds os (20 + (os.length : Int) + (ps.length : Int))) C ++ ps) ++ rest = Z := ⟨_, rfl⟩
  have hPl : (putS (head4 tos id df ttl pr ss ds os (20 + (os.length : Int) + (ps.length : Int))) C).length = 20 + os.length := by
    have := head4_len (tos := tos) (id := id) (df := df) (ttl := ttl) (pr := pr) (ss := ss) (ds := ds) (os := os) (T := 20 + (os.length : Int) + (ps.length : Int))
    unfold putS; simp; omega
  have zl : Z.length = 20 + os.length + ps.length + rest.length := by rw [← hZ]; simp; omega
  have g0 : gb Z 0 = 64 + (20 + (os.length : Int)) / 4 := by rw [← hZ]; rfl
  have g1 : gb Z 1 = tos := by rw [← hZ]; rfl
  have g2 : gb Z 2 = (20 + (os.length : Int) + (ps.length : Int)) / 256 % 256 := by rw [← hZ]; rfl
  have g3 : gb Z 3 = (20 + (os.length : Int) + (ps.length : Int)) % 256 := by rw [← hZ]; rfl
  have g4 : gb Z 4 = id / 256 % 256 := by rw [← hZ]; rfl
  have g5 : gb Z 5 = id % 256 := by rw [← hZ]; rfl
  have g6 : gb Z 6 = if df = true then 64 else 0 := by rw [← hZ]; rfl
  have g7 : gb Z 7 = 0 := by rw [← hZ]; rfl
  have g8 : gb Z 8 = ttl := by rw [← hZ]; rfl
  have g9 : gb Z 9 = pr := by rw [← hZ]; rfl
  have e20 : Z.drop 20 = os ++ (ps ++ rest) := by rw [← hZ]; simp [putS, head4]
  have w2 : w16 Z 2 = 20 + (os.length : Int) + (ps.length : Int) := by
    show gb Z 2 * 256 + gb Z 3 = _
    rw [g2, g3]; omega
  have w4 : w16 Z 4 = id := by
    show gb Z 4 * 256 + gb Z 5 = _
    rw [g4, g5]; omega
  have w6 : w16 Z 6 = if df = true then 16384 else 0 := by
    show gb Z 6 * 256 + gb Z 7 = _
    rw [g6, g7]; split <;> omega
  have hn : hl4 Z = 20 + os.length := by unfold hl4; rw [g0]; omega
  have et : Z.take (20 + os.length) = putS (head4 tos id df ttl pr ss ds os (20 + (os.length : Int) + (ps.length : Int))) C := by rw [← hZ, List.append_assoc, List.take_left' hPl]
  have eo : (Z.drop 20).take (20 + os.length - 20) = os := by rw [e20, show 20 + os.length - 20 = os.length by omega, List.take_left' rfl]
  have ep : (Z.drop (20 + os.length)).take ps.length = ps := by rw [← List.drop_drop, e20, List.drop_left' rfl, List.take_left' rfl]
  have hk : chk4 Z = 0 := ok4_chk ⟨by omega, by rw [g0]; omega, by omega, by omega, by rw [hn, et]; exact hzero, by rw [hn, w2]; omega, by rw [w2]; omega, by rw [w6]; split <;> omega, by rw [hn, eo]; exact ho, by rw [w6]; split <;> omega⟩
  have eS : ad4 (Z.drop 12) = ss := by
    refine (ad4_gb _ ss ?_ ?_ ?_ ?_).trans (ad4_self hs hs4) <;> (rw [gb_drop, ← hZ]; rfl)
  have eD : ad4 (Z.drop 16) = ds := by
    refine (ad4_gb _ ds ?_ ?_ ?_ ?_).trans (ad4_self hd hd4) <;> (rw [gb_drop, ← hZ]; rfl)
  rw [hZ]
  unfold ip4V
  rw [if_pos hk, hn]
  unfold ip4R
  rw [eS, eD, eo, g1, g8, g9, w4, w2, show (20 + (os.length : Int) + (ps.length : Int)).toNat - (20 + os.length) = ps.length by omega, ep, w6, show 20 + os.length - 20 = os.length by omega]
  cases df <;> rfl
end
theorem take10_eq {zs : List Int} (h : 10 ≤ zs.length) : zs.take 10 = [gb zs 0, gb zs 1, gb zs 2, gb zs 3, gb zs 4, gb zs 5, gb zs 6, gb zs 7, gb zs 8, gb zs 9] := by
  match zs, h with
  | a :: b :: c :: d :: e :: f :: g :: i :: j :: k :: r, _ => rfl
theorem take8_eq' {zs : List Int} (h : 8 ≤ zs.length) : zs.take 8 = [gb zs 0, gb zs 1, gb zs 2, gb zs 3, gb zs 4, gb zs 5, gb zs 6, gb zs 7] := by
  match zs, h with
  | a :: b :: c :: d :: e :: f :: g :: i :: r, _ => rfl
theorem split_at {bs : List Int} {n : Nat} (h : 12 ≤ n) (hl : n ≤ bs.length) : bs.take n = bs.take 10 ++ gb bs 10 :: gb bs 11 :: (bs.drop 12).take (n - 12) := by
  have h2 : (bs.drop 10).take 2 = [gb bs 10, gb bs 11] := by
    have : 2 ≤ (bs.drop 10).length := by simp; omega
    match hb : bs.drop 10, this with
    | a :: b :: r, _ =>
      have e0 := gb_drop bs 10 0
      have e1 := gb_drop bs 10 1
      rw [hb] at e0 e1
      show [a, b] = _
      rw [← e0, ← e1]; rfl
  obtain ⟨m, rfl⟩ : ∃ m, n = 12 + m := ⟨n - 12, by omega⟩
  rw [show 12 + m - 12 = m by omega, show 12 + m = 10 + (2 + m) by omega, List.take_add, List.take_add (l := bs.drop 10), h2, List.drop_drop]
  rfl
def got4 (bs : List Int) (T : Nat) : List Int := if gb bs 10 = 255 ∧ gb bs 11 = 255 then bs.take 10 ++ 0 :: 0 :: (bs.drop 12).take (T - 12) else bs.take T
theorem ip4_again {bs : List Int} {T : Nat} (hz : bytesB bs = true) (h : chk4 bs = 0) (hT : w16 bs 2 = (T : Int)) :
    good4 (gb bs 1) (w16 bs 4) (gb bs 8) (gb bs 9) (ad4 (bs.drop 12)) (ad4 (bs.drop 16)) ((bs.drop 20).take (hl4 bs - 20)) ∧
    w4V (gb bs 1) (w16 bs 4) (decide (16384 ≤ w16 bs 6)) (gb bs 8) (gb bs 9) (ad4 (bs.drop 12)) (ad4 (bs.drop 16)) ((bs.drop 20).take (hl4 bs - 20)) ((bs.drop (hl4 bs)).take (T - hl4 bs)) = if 1660 < T then errC 3 else wC (got4 bs T) := by
  obtain ⟨h20, h4, hn, hnl, hof, hTn, hTl, h6, hop, hfr⟩ := chk4_ok h
  obtain ⟨e1, e2⟩ := hl4_range hz
  have g0 := gb_range hz 0
  have g1 := gb_range hz 1
  have g2 := gb_range hz 2
  have g3 := gb_range hz 3
  have g4 := gb_range hz 4
  have g5 := gb_range hz 5
  have g6 := gb_range hz 6
  have g7 := gb_range hz 7
  have g8 := gb_range hz 8
  have g9 := gb_range hz 9
  have g10 := gb_range hz 10
  have g11 := gb_range hz 11
  have r4 := w16_range (bytesB_iff.1 hz) 4
  have x2 : w16 bs 2 = gb bs 2 * 256 + gb bs 3 := rfl
  have x4 : w16 bs 4 = gb bs 4 * 256 + gb bs 5 := rfl
  have x6 : w16 bs 6 = gb bs 6 * 256 + gb bs 7 := rfl
  rw [hT] at hTn hTl x2
  generalize hl4 bs = n at *
  have cl : ((bs.drop 20).take (n - 20)).length = n - 20 := by simp; omega
  have ql : ((bs.drop n).take (T - n)).length = T - n := by simp; omega
  have b12 : bytesB (bs.drop 12) = true := bytesB_drop hz _
  have b16 : bytesB (bs.drop 16) = true := bytesB_drop hz _
  have hab : ∀ l : List Int, bytesB l = true → bytesB (ad4 l) = true := fun l hl => by
    have q0 := gb_range hl 0
    have q1 := gb_range hl 1
    have q2 := gb_range hl 2
    have q3 := gb_range hl 3
    unfold ad4
    simp only [bytesB_cons, Bool.and_eq_true, decide_eq_true_eq]
    refine ⟨q0, q1, q2, q3, ?_⟩
    decide
  refine ⟨⟨g1.1, g1.2, r4.1, r4.2, g8.1, g8.2, g9.1, g9.2, rfl, rfl, hab _ b12, hab _ b16, bytesB_take (bytesB_drop hz _) _, by omega⟩, ?_⟩
  unfold w4V
  rw [if_neg (by simpa using hop), if_neg (by unfold bad4; simp [ad4, zero12]), cl, ql, show 20 + (n - 20) + (T - n) = T by omega]
  congr 1
  have hH : head4 (gb bs 1) (w16 bs 4) (decide (16384 ≤ w16 bs 6)) (gb bs 8) (gb bs 9) (ad4 (bs.drop 12)) (ad4 (bs.drop 16)) ((bs.drop 20).take (n - 20)) (20 + ((n - 20 : Nat) : Int) + ((T - n : Nat) : Int)) = bs.take 10 ++ 0 :: 0 :: (bs.drop 12).take (n - 12) := by
    have t8 : (bs.drop 12).take 8 = [gb bs 12, gb bs 13, gb bs 14, gb bs 15, gb bs 16, gb bs 17, gb bs 18, gb bs 19] := by
      rw [take8_eq' (by simp; omega)]
      simp only [gb_drop]
    rw [take10_eq (by omega), show n - 12 = 8 + (n - 20) by omega, List.take_add, t8, List.drop_drop]
    have eS : ∀ i, i < 4 → gb (ad4 (bs.drop 12)) i = gb bs (12 + i) := fun i hi => by
      match i, hi with
      | 0, _ => exact gb_drop bs 12 0
      | 1, _ => exact gb_drop bs 12 1
      | 2, _ => exact gb_drop bs 12 2
      | 3, _ => exact gb_drop bs 12 3
    have eD : ∀ i, i < 4 → gb (ad4 (bs.drop 16)) i = gb bs (16 + i) := fun i hi => by
      match i, hi with
      | 0, _ => exact gb_drop bs 16 0
      | 1, _ => exact gb_drop bs 16 1
      | 2, _ => exact gb_drop bs 16 2
      | 3, _ => exact gb_drop bs 16 3
    unfold head4
    rw [cl, eS 0 (by omega), eS 1 (by omega), eS 2 (by omega), eS 3 (by omega), eD 0 (by omega), eD 1 (by omega), eD 2 (by omega), eD 3 (by omega)]
    simp only [List.cons_append, List.nil_append, List.cons.injEq, and_true, true_and]
    refine ⟨by omega, by omega, by omega, by omega, by omega, ?_, by omega⟩
    by_cases q : 16384 ≤ w16 bs 6
    · rw [if_pos (by simpa using q)]; omega
    · rw [if_neg (by simpa using q)]; omega
  rw [hH]
  have hsp := split_at (bs := bs) (n := n) (by omega) hnl
  have h10 : (bs.take 10).length = 10 := by simp; omega
  have hgot := ofV_got (H := bs.take 10) (T := (bs.drop 12).take (n - 12)) (x := gb bs 10) (y := gb bs 11) h10 (bytesB_take hz _) (bytesB_take (bytesB_drop hz _) _) g10 g11 (by
    have : gb (bs.take 10) 0 = gb bs 0 := by unfold gb; rw [List.getD_eq_getElem?_getD, List.getD_eq_getElem?_getD, List.getElem?_take_of_lt (by omega)]
    rw [this]; omega) (by rw [← hsp]; exact hof)
  rw [hgot, putS_at h10]
  unfold got4
  by_cases q : gb bs 10 = 255 ∧ gb bs 11 = 255
  · rw [if_pos q, if_pos q, show T - 12 = (n - 12) + (T - n) by omega, List.take_add, List.drop_drop, show 12 + (n - 12) = n by omega]
    simp
  · rw [if_neg q, if_neg q, show (gb bs 10 * 256 + gb bs 11) / 256 % 256 = gb bs 10 by omega, show (gb bs 10 * 256 + gb bs 11) % 256 = gb bs 11 by omega, ← hsp, ← List.take_add, show n + (T - n) = T by omega]
end Go.Proofs.Ytcbjjkpjbdcakaa
