/- The law Ip6Back: the walk. -/
import Derived.Test.YtcbjjkpjbdcakaaGk
namespace Go.Proofs.Ytcbjjkpjbdcakaa
open Go.ChangeShapes Go.WideShapes Go.ChangeAt Go.RowKit Go.Wb Go.Pm
set_option linter.unusedVariables false
set_option linter.unusedSimpArgs false
theorem head6_bytes {cl la nx ho L : Int} (c0 : 0 ≤ cl) (c1 : cl ≤ 255) (l0 : 0 ≤ la) (l1 : la < 1048576) (n0 : 0 ≤ nx) (n1 : nx ≤ 255) (h0 : 0 ≤ ho) (h1 : ho ≤ 255) (L0 : 0 ≤ L) (L1 : L ≤ 65535) : bytesB (head6 cl la nx ho L) = true := by
  unfold head6
  simp only [bytesB_cons, Bool.and_eq_true, decide_eq_true_eq]
  refine ⟨⟨by omega, by omega⟩, ⟨by omega, by omega⟩, ⟨by omega, by omega⟩, ⟨by omega, by omega⟩, ⟨by omega, by omega⟩, ⟨by omega, by omega⟩, ⟨by omega, by omega⟩, ⟨by omega, by omega⟩, rfl⟩
set_option maxHeartbeats 8000000 in
set_option maxRecDepth 1000000 in
theorem ip6b_long (cl la nx pr ho : Int) (ss ds cs bs rs : List Int) (hn bn rn : Bool) (hc bc rc : Option Nat) (hs : ss.length = 16) (hd : ds.length = 16) (h : 2000 < bs.length ∨ 2000 < rs.length ∨ 4000 < cs.length) :
    (pvCall Try.prog KD Dm 100000 1 0 10 [ip6A cl la nx pr ho ss ds (.sl hn (B8 cs) cs.length hc), .sl bn (B8 bs) bs.length bc, .sl rn (B8 rs) rs.length rc] (fun _ => none)).map (·.1) = some (.v (.bool true)) := by
  rw [pvCall_own (fn := Try.f10) rfl Try.func10 rfl (by decide) rfl rfl (by simp)]
  by_cases hb : (2000 : Int) < (bs.length : Int)
  · simp -implicitDefEqProofs [ip6A, hb, fKnown4, hs, hd]
  by_cases hr : (2000 : Int) < (rs.length : Int)
  · simp -implicitDefEqProofs [ip6A, hb, hr, fKnown4, hs, hd]
  · have hcl : (4000 : Int) < (cs.length : Int) := by omega
    simp -implicitDefEqProofs [ip6A, hb, hr, hcl, fKnown4, hs, hd, B8d32 hs, B8g32 hs, B8g16 hd, B8g16 hs, B8d16 hs, B8d16 hd]
theorem back_cases {bs : List Int} (hz : bytesB bs = true) (hl : bs.length ≤ 2000) : (∃ e : Int, ¬ e = 0 ∧ ip6V bs = err6 e) ∨ ∃ S E C Q cl la nx pr ho, OkR bs S E C Q cl la nx pr ho ∧ good6 cl la nx pr ho S E C ∧
    ((w6V cl la nx pr ho S E C Q = errB 3 ∧ 1620 < C.length + Q.length) ∨ ∃ V, w6V cl la nx pr ho S E C Q = wB V ∧ 40 ≤ V.length ∧ V.length ≤ bs.length ∧ bs.take V.length = V) := by
  unfold OkR ip6V
  split
  · exact .inl ⟨4, by omega, rfl⟩
  split
  · exact .inl ⟨5, by omega, rfl⟩
  split
  · exact .inl ⟨4, by omega, rfl⟩
  rename_i h1 h2 h3
  have hL := len6_le hz
  rcases chain6_out hz (by omega) _ rfl with ⟨a, b⟩ | ⟨a, n, b, c, d⟩
  · rw [b]; exact .inl ⟨_, a, rfl⟩
  · rw [d]
    have e1 : ((bs.drop 40).take n).length = n := by simp; omega
    have e2 : ((bs.drop (40 + n)).take (len6 bs - n)).length = len6 bs - n := by simp; omega
    obtain ⟨a1, a2⟩ := ip6_again hz (by omega) (by omega) (by omega) c (show _ = (_, (n : Int), 0) from Prod.ext rfl (Prod.ext b a))
    refine .inr ⟨(bs.drop 8).take 16, (bs.drop 24).take 16, (bs.drop 40).take n, (bs.drop (40 + n)).take (len6 bs - n), gb bs 0 % 16 * 16 + gb bs 1 / 16, gb bs 1 % 16 * 65536 + gb bs 2 * 256 + gb bs 3, gb bs 6, (chainF 9 (gb bs 6) ((bs.drop 40).take (len6 bs)) 0 0).1, gb bs 7, ⟨?_, by simp; omega, by simp; omega, by simp; omega, by simp; omega⟩, a1, ?_⟩
    · rw [e1, e2]
      rfl
    · rw [a2, e1, e2]
      by_cases hq : 1620 < len6 bs
      · rw [if_pos hq]; exact .inl ⟨rfl, by omega⟩
      · rw [if_neg hq]
        have : (bs.take (40 + len6 bs)).length = 40 + len6 bs := by simp; omega
        exact .inr ⟨_, rfl, by omega, by omega, by rw [this]⟩
theorem ip6Back_walk (w : World) (v0 : Value) (o0 : InIp6 w v0) (v1 : Value) (o1 : In8 w v1) (v2 : Value) (o2 : In8 w v2) :
    Calls Try.prog 10 #[v0, v1, v2] w fun e w' => e = .returned (.bool true) ∧ Below w.heap.size w w' := by
  obtain ⟨cl, la, nx, pr, ho, ss, ds, a, len, cap, cs, rfl, ro, c0, c1, l0, l1, n0, n1, p0, p1, q0, q1, hs, hd, bs', bd⟩ := o0
  obtain ⟨b, blen, bcap, bs, rfl, rb⟩ := o1
  obtain ⟨r, rlen, rcap, rs, rfl, rr⟩ := o2
  have hol : cs.length = len := ro.1
  have hbl : bs.length = blen := rb.1
  have hrl : rs.length = rlen := rr.1
  subst hol hbl hrl
  have ra : RelL (noneAt w) [ip6A cl la nx pr ho ss ds (.sl false (B8 cs) cs.length none), .sl false (B8 bs) bs.length none, .sl false (B8 rs) rs.length none] (#[.agg (v6 cl la nx pr ho ss ds (.slice a cs.length cap)).toArray, .slice b bs.length bcap, .slice r rs.length rcap] : Array Value).toList :=
    .cons (rel_ip6 ro) (.cons (rel_row rb) (.cons (rel_row rr) (.nil _)))
  have key : (pvCall Try.prog KD Dm 100000 1 0 10 [ip6A cl la nx pr ho ss ds (.sl false (B8 cs) cs.length none), .sl false (B8 bs) bs.length none, .sl false (B8 rs) rs.length none] (fun _ => none)).map (·.1) = some (.v (.bool true)) := by
    by_cases hlong : 2000 < bs.length ∨ 2000 < rs.length ∨ 4000 < cs.length
    · exact ip6b_long _ _ _ _ _ _ _ _ _ _ _ _ _ _ _ _ hs hd hlong
    have hb : bs.length ≤ 2000 := by omega
    have hr : rs.length ≤ 2000 := by omega
    have hc : cs.length ≤ 4000 := by omega
    have hz : bytesB bs = true := bytesB_iff.2 rb.5
    have hrz : bytesB rs = true := bytesB_iff.2 rr.5
    have hcz : bytesB cs = true := bytesB_iff.2 ro.5
    have hg : good6 cl la nx pr ho ss ds cs := ⟨c0, c1, l0, l1, n0, n1, p0, p1, q0, q1, hs, hd, bs', bd, hcz, by omega⟩
    have hA : (∃ e : Int, ¬ e = 0 ∧ w6V cl la nx pr ho ss ds cs bs = errB e) ∨ ∃ W, w6V cl la nx pr ho ss ds cs bs = wB W ∧ W.length ≤ 5000 ∧ bytesB W = true ∧ ip6V (W ++ rs) = (.tup [ip6A cl la nx pr ho ss ds (.own 0 0 0 cs.length 1 (.whole 5)), .own 1 0 0 bs.length 1 (.whole 5), .v (.int .i64 0)], [B8 cs, B8 bs]) := by
      unfold w6V
      by_cases h1 : bad6 la nx pr cs
      · rw [if_pos h1]; exact .inl ⟨2, by omega, rfl⟩
      rw [if_neg h1]
      by_cases h2 : 1620 < cs.length + bs.length
      · rw [if_pos h2]; exact .inl ⟨3, by omega, rfl⟩
      rw [if_neg h2]
      refine .inr ⟨_, rfl, by simp [head6, hs, hd]; omega, ?_, ip6_back hg h1 (by omega) hz⟩
      rw [bytesB_append, bytesB_append, bytesB_append, bytesB_append, bs', bd, hz, hcz, head6_bytes c0 c1 l0 (bad6_not h1).1 n0 n1 q0 q1 (by omega) (by omega)]
      rfl
    rcases hA with ⟨e2, ne2, hW⟩ | ⟨W, hW, hWl, hWb, hWr⟩ <;> rcases back_cases hz (by omega) with ⟨e1, ne1, hR⟩ | ⟨S, E, C, Q, cl2, la2, nx2, pr2, ho2, hR, hg2, ⟨hV, hq⟩ | ⟨V, hV, hV1, hV2, hV3⟩⟩
    · exact ip6b_ee cl la nx pr ho ss ds cs bs rs _ _ _ _ _ _ hb hr hz hrz hg hc e2 ne2 hW e1 ne1 hR
    · exact ip6b_el cl la nx pr ho ss ds cs bs rs _ _ _ _ _ _ hb hr hz hrz hg hc e2 ne2 hW S E C Q _ _ _ _ _ hR hg2 hV hq
    · exact ip6b_ew cl la nx pr ho ss ds cs bs rs _ _ _ _ _ _ hb hr hz hrz hg hc e2 ne2 hW S E C Q _ _ _ _ _ hR hg2 V hV hV1 hV2 hV3
    · exact ip6b_oe cl la nx pr ho ss ds cs bs rs _ _ _ _ _ _ hb hr hz hrz hg hc W hW hWl hWb hWr e1 ne1 hR
    · exact ip6b_ol cl la nx pr ho ss ds cs bs rs _ _ _ _ _ _ hb hr hz hrz hg hc W hW hWl hWb hWr S E C Q _ _ _ _ _ hR hg2 hV hq
    · exact ip6b_ow cl la nx pr ho ss ds cs bs rs _ _ _ _ _ _ hb hr hz hrz hg hc W hW hWl hWb hWr S E C Q _ _ _ _ _ hR hg2 V hV hV1 hV2 hV3
  obtain ⟨⟨x, m'⟩, k1, k2⟩ := Option.map_eq_some_iff.1 key
  simp only at k2
  subst k2
  exact law_of_run kd_ok follows_mixed dm_ok k1 ra
end Go.Proofs.Ytcbjjkpjbdcakaa
