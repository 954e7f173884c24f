/- The law Ip4Back: the walk. -/
import Derived.Test.YtcbjjkpjbdcakaaJm
namespace Go.Proofs.Ytcbjjkpjbdcakaa
open Go.ChangeShapes Go.WideShapes Go.ChangeAt Go.RowKit Go.Wb Go.Pm
set_option linter.unusedVariables false
set_option linter.unusedSimpArgs false
set_option maxHeartbeats 8000000 in
set_option maxRecDepth 1000000 in
theorem ip4b_long (tos id : Int) (df : Bool) (ttl pr : Int) (ss ds cs bs rs : List Int) (hn bn rn : Bool) (hc bc rc : Option Nat) (hs : ss.length = 16) (hd : ds.length = 16) (h : 2000 < bs.length ∨ 2000 < rs.length ∨ 2000 < cs.length) :
    (pvCall Try.prog KH Dm 100000 1 0 7 [ip4A tos id df ttl pr ss ds (.sl hn (B8 cs) cs.length hc), .sl bn (B8 bs) bs.length bc, .sl rn (B8 rs) rs.length rc] (fun _ => none)).map (·.1) = some (.v (.bool true)) := by
  rw [pvCall_own (fn := Try.f7) rfl Try.func7 rfl (by decide) rfl rfl (by simp)]
  by_cases hb : (2000 : Int) < (bs.length : Int)
  · simp -implicitDefEqProofs [ip4A, hb, fKnown3, hs, hd]
  by_cases hr : (2000 : Int) < (rs.length : Int)
  · simp -implicitDefEqProofs [ip4A, hb, hr, fKnown3, hs, hd]
  · have hcl : (2000 : Int) < (cs.length : Int) := by omega
    simp -implicitDefEqProofs [ip4A, hb, hr, hcl, fKnown3, hs, hd, B8d32 hs, B8g32 hs, B8g16 hd, B8g16 hs, B8d16 hs, B8d16 hd]
def OkZ (X Y V : List Int) : Prop := X.length = V.length ∧ Y.length = V.length ∧ gb X 10 = 255 ∧ gb X 11 = 255 ∧ X.take 10 ++ 0 :: X.drop 11 = Y ∧ Y.take 11 ++ 0 :: Y.drop 12 = V
theorem gb_take {l : List Int} {i m : Nat} (h : i < m) : gb (l.take m) i = gb l i := by
  unfold gb; rw [List.getD_eq_getElem?_getD, List.getD_eq_getElem?_getD, List.getElem?_take_of_lt h]
theorem back4_cases {bs : List Int} (hz : bytesB bs = true) (hl : bs.length ≤ 2000) : (∃ e : Int, ¬ e = 0 ∧ ip4V bs = err4 e) ∨ ∃ S E C Q tos id df ttl pr, OkR4 bs S E C Q tos id df ttl pr ∧ good4 tos id ttl pr S E C ∧
    ((w4V tos id df ttl pr S E C Q = errC 3 ∧ 1660 < 20 + C.length + Q.length) ∨ ∃ V, w4V tos id df ttl pr S E C Q = wC V ∧ 20 ≤ V.length ∧ V.length ≤ bs.length ∧ ((bs.take V.length = V ∧ ¬ (gb V 10 = 255 ∧ gb V 11 = 255)) ∨ ∃ Y, OkZ (bs.take V.length) Y V)) := by
  unfold OkR4 ip4V
  by_cases h : chk4 bs = 0
  case neg => rw [if_neg h]; exact .inl ⟨_, h, rfl⟩
  rw [if_pos h]
  obtain ⟨h20, h4, hn, hnl, hof, hT, hTl, h6, hop, hfr⟩ := chk4_ok h
  obtain ⟨e1, e2⟩ := hl4_range hz
  have r2 := w16_range (bytesB_iff.1 hz) 2
  obtain ⟨T, hTe⟩ := Int.eq_ofNat_of_zero_le r2.1
  obtain ⟨a1, a2⟩ := ip4_again hz h hTe
  rw [hTe] at hT hTl ⊢
  simp only [Int.toNat_natCast]
  have c1 : ((bs.drop 20).take (hl4 bs - 20)).length = hl4 bs - 20 := by simp; omega
  have c2 : ((bs.drop (hl4 bs)).take (T - hl4 bs)).length = T - hl4 bs := by simp; omega
  refine .inr ⟨ad4 (bs.drop 12), ad4 (bs.drop 16), (bs.drop 20).take (hl4 bs - 20), (bs.drop (hl4 bs)).take (T - hl4 bs), gb bs 1, w16 bs 4, decide (16384 ≤ w16 bs 6), gb bs 8, gb bs 9, ⟨?_, rfl, rfl, by simp; omega, by simp; omega⟩, a1, ?_⟩
  · rw [c1, c2]
    rfl
  rw [a2, c1, c2]
  by_cases hq : 1660 < T
  · rw [if_pos hq]; exact .inl ⟨rfl, by omega⟩
  rw [if_neg hq]
  right
  unfold got4
  by_cases q : gb bs 10 = 255 ∧ gb bs 11 = 255
  · rw [if_pos q]
    have hsp := split_at (bs := bs) (n := T) (by omega) (by omega)
    generalize hU : (bs.drop 12).take (T - 12) = U at *
    have h10 : (bs.take 10).length = 10 := by simp; omega
    generalize hHH : bs.take 10 = H at *
    have hVl : (H ++ 0 :: 0 :: U).length = T := by
      have : (bs.take T).length = T := by simp; omega
      rw [hsp] at this
      simpa using this
    refine ⟨_, rfl, by omega, by omega, .inr ⟨H ++ 0 :: gb bs 11 :: U, ?_⟩⟩
    rw [hVl]
    have g10 : gb (bs.take T) 10 = gb bs 10 := gb_take (by omega)
    have g11 : gb (bs.take T) 11 = gb bs 11 := gb_take (by omega)
    refine ⟨by rw [hVl]; simp; omega, by simp, by rw [g10]; exact q.1, by rw [g11]; exact q.2, ?_, ?_⟩
    · rw [hsp, List.take_left' h10, show H ++ gb bs 10 :: gb bs 11 :: U = (H ++ [gb bs 10]) ++ gb bs 11 :: U by simp, List.drop_left' (by simp [h10])]
    · rw [show H ++ 0 :: gb bs 11 :: U = (H ++ [0]) ++ gb bs 11 :: U by simp, List.take_left' (by simp [h10]), show (H ++ [0]) ++ gb bs 11 :: U = (H ++ [0, gb bs 11]) ++ U by simp, List.drop_left' (by simp [h10])]
      simp
  · rw [if_neg q]
    have hVl : (bs.take T).length = T := by simp; omega
    exact ⟨_, rfl, by omega, by omega, .inl ⟨by rw [hVl], by rw [gb_take (by omega), gb_take (by omega)]; exact q⟩⟩
theorem ip4Back_walk (w : World) (v0 : Value) (o0 : InIp4 w v0) (v1 : Value) (o1 : In8 w v1) (v2 : Value) (o2 : In8 w v2) :
    Calls Try.prog 7 #[v0, v1, v2] w fun e w' => e = .returned (.bool true) ∧ Below w.heap.size w w' := by
  obtain ⟨tos, id, df, ttl, pr, ss, ds, a, len, cap, cs, rfl, ro, c0, c1, l0, l1, p0, p1, q0, q1, hs, hd, bs', bd⟩ := o0
  obtain ⟨b, blen, bcap, bs, rfl, rb⟩ := o1
  obtain ⟨r, rlen, rcap, rs, rfl, rr⟩ := o2
  have hol : cs.length = len := ro.1
  have hbl : bs.length = blen := rb.1
  have hrl : rs.length = rlen := rr.1
  subst hol hbl hrl
  have ra : RelL (noneAt w) [ip4A tos id df ttl pr ss ds (.sl false (B8 cs) cs.length none), .sl false (B8 bs) bs.length none, .sl false (B8 rs) rs.length none] (#[.agg (v4 tos id df ttl pr ss ds (.slice a cs.length cap)).toArray, .slice b bs.length bcap, .slice r rs.length rcap] : Array Value).toList :=
    .cons (rel_ip4 ro) (.cons (rel_row rb) (.cons (rel_row rr) (.nil _)))
  have key : (pvCall Try.prog KH Dm 100000 1 0 7 [ip4A tos id df ttl pr ss ds (.sl false (B8 cs) cs.length none), .sl false (B8 bs) bs.length none, .sl false (B8 rs) rs.length none] (fun _ => none)).map (·.1) = some (.v (.bool true)) := by
    by_cases hlong : 2000 < bs.length ∨ 2000 < rs.length ∨ 2000 < cs.length
    · exact ip4b_long _ _ _ _ _ _ _ _ _ _ _ _ _ _ _ _ hs hd hlong
    have hb : bs.length ≤ 2000 := by omega
    have hr : rs.length ≤ 2000 := by omega
    have hc : cs.length ≤ 2000 := by omega
    have hz : bytesB bs = true := bytesB_iff.2 rb.5
    have hrz : bytesB rs = true := bytesB_iff.2 rr.5
    have hg : good4 tos id ttl pr ss ds cs := ⟨c0, c1, l0, l1, p0, p1, q0, q1, hs, hd, bs', bd, bytesB_iff.2 ro.5, by omega⟩
    have hA : (∃ e : Int, ¬ e = 0 ∧ w4V tos id df ttl pr ss ds cs bs = errC e) ∨ ∃ W, w4V tos id df ttl pr ss ds cs bs = wC W ∧ W.length ≤ 5000 ∧ bs.length + 20 ≤ W.length ∧ bytesB W = true ∧ ofV (W.take (W.length - bs.length)) = 0 ∧ ip4V (W ++ rs) = (.tup [ip4A tos id df ttl pr ss ds (.own 0 0 0 cs.length 1 (.whole 5)), .own 1 0 0 bs.length 1 (.whole 5), .v (.int .i64 0)], [B8 cs, B8 bs]) := by
      unfold w4V
      by_cases h1 : optE cs = 0
      case neg => rw [if_pos h1]; exact .inl ⟨_, h1, rfl⟩
      rw [if_neg (by simpa using h1)]
      by_cases h2 : bad4 ss ds
      · rw [if_pos h2]; exact .inl ⟨2, by omega, rfl⟩
      rw [if_neg h2]
      by_cases h3 : 1660 < 20 + cs.length + bs.length
      · rw [if_pos h3]; exact .inl ⟨3, by omega, rfl⟩
      rw [if_neg h3]
      obtain ⟨k1, k2⟩ := ip4_back (df := df) (ps := bs) (rest := rs) hg h1 h2 (by omega) hz hrz
      have ol := (optE_len h1).1
      have hZb := head4_bytes (df := df) (T := 20 + (cs.length : Int) + (bs.length : Int)) hg ol (by omega)
      have hZl := head4_len (tos := tos) (id := id) (df := df) (ttl := ttl) (pr := pr) (ss := ss) (ds := ds) (os := cs) (T := 20 + (cs.length : Int) + (bs.length : Int))
      have hCr := ofV_range hZb
      generalize head4 tos id df ttl pr ss ds cs (20 + (cs.length : Int) + (bs.length : Int)) = Z at *
      generalize ofV Z = K at *
      have hPl : (putS Z K).length = 20 + cs.length := by unfold putS; simp; omega
      have hPb : bytesB (putS Z K) = true := by
        unfold putS
        rw [bytesB_append, bytesB_cons, bytesB_cons, bytesB_take hZb, bytesB_drop hZb]
        simp only [Bool.and_true, Bool.true_and, Bool.and_eq_true, decide_eq_true_eq]
        omega
      refine .inr ⟨_, rfl, by simp; omega, by simp; omega, by rw [bytesB_append, hPb, hz]; rfl, ?_, k1⟩
      rw [List.length_append, Nat.add_sub_cancel, List.take_left' rfl]
      exact k2
    rcases hA with ⟨e2, ne2, hW⟩ | ⟨W, hW, hWl, hWg, hWb, hWs, hWr⟩ <;> rcases back4_cases hz (by omega) with ⟨e1, ne1, hR⟩ | ⟨S, E, C, Q, tos2, id2, df2, ttl2, pr2, hR, hg2, ⟨hV, hq⟩ | ⟨V, hV, hV1, hV2, ⟨hV3, hq⟩ | ⟨Y, y1, y2, y3, y4, y5, y6⟩⟩⟩
    · exact ip4b_ee tos id df ttl pr ss ds cs bs rs _ _ _ _ _ _ hb hr hz hrz hg hc e2 ne2 hW e1 ne1 hR
    · exact ip4b_el tos id df ttl pr ss ds cs bs rs _ _ _ _ _ _ hb hr hz hrz hg hc e2 ne2 hW S E C Q _ _ _ _ _ hR hg2 hV hq
    · by_cases q10 : gb V 10 = 255
      · exact ip4b_ev tos id df ttl pr ss ds cs bs rs _ _ _ _ _ _ hb hr hz hrz hg hc e2 ne2 hW S E C Q _ _ _ _ _ hR hg2 V hV hV1 hV2 hV3 q10 (fun h => hq ⟨q10, h⟩)
      · exact ip4b_ew tos id df ttl pr ss ds cs bs rs _ _ _ _ _ _ hb hr hz hrz hg hc e2 ne2 hW S E C Q _ _ _ _ _ hR hg2 V hV hV1 hV2 hV3 q10
    · exact ip4b_ez tos id df ttl pr ss ds cs bs rs _ _ _ _ _ _ hb hr hz hrz hg hc e2 ne2 hW S E C Q _ _ _ _ _ hR hg2 V hV hV1 hV2 _ Y rfl y1 y2 y3 y4 y5 y6
    · exact ip4b_oe tos id df ttl pr ss ds cs bs rs _ _ _ _ _ _ hb hr hz hrz hg hc W hW hWl hWg hWb hWs hWr e1 ne1 hR
    · exact ip4b_ol tos id df ttl pr ss ds cs bs rs _ _ _ _ _ _ hb hr hz hrz hg hc W hW hWl hWg hWb hWs hWr S E C Q _ _ _ _ _ hR hg2 hV hq
    · by_cases q10 : gb V 10 = 255
      · exact ip4b_ov tos id df ttl pr ss ds cs bs rs _ _ _ _ _ _ hb hr hz hrz hg hc W hW hWl hWg hWb hWs hWr S E C Q _ _ _ _ _ hR hg2 V hV hV1 hV2 hV3 q10 (fun h => hq ⟨q10, h⟩)
      · exact ip4b_ow tos id df ttl pr ss ds cs bs rs _ _ _ _ _ _ hb hr hz hrz hg hc W hW hWl hWg hWb hWs hWr S E C Q _ _ _ _ _ hR hg2 V hV hV1 hV2 hV3 q10
    · exact ip4b_oz tos id df ttl pr ss ds cs bs rs _ _ _ _ _ _ hb hr hz hrz hg hc W hW hWl hWg hWb hWs hWr S E C Q _ _ _ _ _ hR hg2 V hV hV1 hV2 _ Y rfl y1 y2 y3 y4 y5 y6
  obtain ⟨⟨x, m'⟩, k1, k2⟩ := Option.map_eq_some_iff.1 key
  simp only at k2
  subst k2
  exact law_of_run kh_ok follows_mixed dm_ok k1 ra
end Go.Proofs.Ytcbjjkpjbdcakaa
