/- A header of IPv6 that comes in; the law Ip6Packets' walk. -/
import Derived.Test.YtcbjjkpjbdcakaaGh
import Derived.Test.YtcbjjkpjbdcakaaLr
namespace Go.Proofs.Ytcbjjkpjbdcakaa
open Go.ChangeShapes Go.WideShapes Go.ChangeAt Go.RowKit Go.Wb Go.Pm
set_option linter.unusedVariables false
set_option linter.unusedSimpArgs false
def v6 (cl la nx pr ho : Int) (ss ds : List Int) (x : Value) : List Value := .int .u8 cl :: .int .u32 la :: .int .u8 nx :: .int .u8 pr :: .int .u8 ho :: (ss.map (Value.int .u8) ++ (ds.map (Value.int .u8) ++ [x]))
def InIp6 (w : World) (v : Value) : Prop := ∃ cl la nx pr ho ss ds a len cap cs, v = .agg (v6 cl la nx pr ho ss ds (.slice a len cap)).toArray ∧ Row8 w a len cap cs ∧ 0 ≤ cl ∧ cl ≤ 255 ∧ 0 ≤ la ∧ la < 4294967296 ∧ 0 ≤ nx ∧ nx ≤ 255 ∧ 0 ≤ pr ∧ pr ≤ 255 ∧ 0 ≤ ho ∧ ho ≤ 255 ∧ ss.length = 16 ∧ ds.length = 16 ∧ bytesB ss = true ∧ bytesB ds = true
theorem flat59 : flat Try.prog 4 59 = some (5 :: 26 :: 5 :: 5 :: 5 :: (List.replicate 16 5 ++ (List.replicate 16 5 ++ [23]))) := by kernel_rfl
set_option maxRecDepth 1000000 in
theorem openT59 {H : Type} {enc : TypeId × Value → H} {w : World} {base b0 : Nat} {spare : Nat → Bool} {held : Bool} {r : Reach} {v : Value} {d : DataW H} {p : List MemPlace} (hv : Value.okWide Try.prog w r b0 59 v) (h : DataW.Trod enc Try.prog w base spare held 59 v d p) : InIp6 w v := by
  obtain ⟨cs, rfl, hl⟩ := open_flat flat59 (agg_struct Try.underlying59 hv) h
  obtain ⟨cl, v1, rfl, e0, hl⟩ := leaves_int Try.underlying5 hl
  obtain ⟨la, v2, rfl, e1, hl⟩ := leaves_int Try.underlying26 hl
  obtain ⟨nx, v3, rfl, e2, hl⟩ := leaves_int Try.underlying5 hl
  obtain ⟨pr, v4, rfl, e3, hl⟩ := leaves_int Try.underlying5 hl
  obtain ⟨ho, v5, rfl, e4, hl⟩ := leaves_int Try.underlying5 hl
  obtain ⟨ss, us, hn, rfl, hw, hl⟩ := leaves_ints Try.underlying5 16 hl
  obtain ⟨ds, us, hn2, rfl, hw2, hl⟩ := leaves_ints Try.underlying5 16 hl
  obtain ⟨s, v9, rfl, ⟨k, y, hy⟩, hl⟩ := Wb.leaves_cons hl
  obtain rfl := Wb.leaves_nil hl
  obtain ⟨zs, hz⟩ := leaf_row2 Try.underlying23 Try.underlying5 Try.cells5 hy
  obtain ⟨a, len, cap, os, rfl, hrow⟩ := in8_of_row hz
  have b0 := bounds_u8 e0
  have b1 := b32 e1
  have b2 := bounds_u8 e2
  have b3 := bounds_u8 e3
  have b4 := bounds_u8 e4
  exact ⟨cl, la, nx, pr, ho, ss, ds, a, len, cap, os, rfl, hrow, b0.1, b0.2, b1.1, b1.2, b2.1, b2.2, b3.1, b3.2, b4.1, b4.2, hn, hn2, bytesB_iff.2 fun x hx => bounds_u8 (hw x hx), bytesB_iff.2 fun x hx => bounds_u8 (hw2 x hx)⟩
theorem rel_ip6 {w : World} {cl la nx pr ho : Int} {ss ds : List Int} {a : Option Addr} {len cap : Nat} {cs : List Int} (h : Row8 w a len cap cs) : Rel (noneAt w) (ip6A cl la nx pr ho ss ds (.sl false (B8 cs) len none)) (.agg (v6 cl la nx pr ho ss ds (.slice a len cap)).toArray) := by
  refine .mkAgg ?_
  show RelL _ _ (v6 cl la nx pr ho ss ds (.slice a len cap))
  exact .cons .v (.cons .v (.cons .v (.cons .v (.cons .v ((relL_ints _ ss).append ((relL_ints _ ds).append (.cons (rel_row h) (.nil _))))))))
theorem len6_le {zs : List Int} (hz : bytesB zs = true) : len6 zs ≤ 65535 := by
  have g4 := gb_range hz 4
  have g5 := gb_range hz 5
  unfold len6; omega
theorem ip6V_cases {bs : List Int} (hz : bytesB bs = true) (hl : bs.length ≤ 5000) : (∃ e : Int, ¬ e = 0 ∧ ip6V bs = err6 e) ∨ ∃ S E C Q cl la nx pr ho, OkR bs S E C Q cl la nx pr ho := by
  unfold OkR ip6V
  split
  · exact .inl ⟨4, by omega, rfl⟩
  split
  · exact .inl ⟨5, by omega, rfl⟩
  split
  · exact .inl ⟨4, by omega, rfl⟩
  rename_i h1 h2 h3
  have hL := len6_le hz
  rcases chain6_out hz (by omega) _ rfl with ⟨a, b⟩ | ⟨a, n, b, c, d⟩
  · rw [b]; exact .inl ⟨_, a, rfl⟩
  · rw [d]
    have e1 : ((bs.drop 40).take n).length = n := by simp; omega
    have e2 : ((bs.drop (40 + n)).take (len6 bs - n)).length = len6 bs - n := by simp; omega
    refine .inr ⟨(bs.drop 8).take 16, (bs.drop 24).take 16, (bs.drop 40).take n, (bs.drop (40 + n)).take (len6 bs - n), gb bs 0 % 16 * 16 + gb bs 1 / 16, gb bs 1 % 16 * 65536 + gb bs 2 * 256 + gb bs 3, gb bs 6, (chainF 9 (gb bs 6) ((bs.drop 40).take (len6 bs)) 0 0).1, gb bs 7, ?_, by simp; omega, by simp; omega, by simp; omega, by simp; omega⟩
    rw [e1, e2]
    rfl
theorem w6V_cases (cl la nx pr ho : Int) (ss ds cs bs : List Int) (hs : ss.length = 16) (hd : ds.length = 16) : (∃ e : Int, ¬ e = 0 ∧ w6V cl la nx pr ho ss ds cs bs = errB e) ∨ ∃ W, w6V cl la nx pr ho ss ds cs bs = wB W ∧ W.length ≤ 5000 := by
  unfold w6V
  split
  · exact .inl ⟨2, by omega, rfl⟩
  split
  · exact .inl ⟨3, by omega, rfl⟩
  · refine .inr ⟨_, rfl, ?_⟩
    simp [head6, hs, hd]; omega
set_option maxHeartbeats 8000000 in
set_option maxRecDepth 1000000 in
theorem ip6p_long (cl la nx pr ho : Int) (ss ds cs bs : List Int) (hn bn : Bool) (hc bc : Option Nat) (next : Int) (hs : ss.length = 16) (hd : ds.length = 16) (h : 4000 < bs.length ∨ 4000 < cs.length) :
    (pvCall Try.prog KD Dm 100000 1 0 9 [ip6A cl la nx pr ho ss ds (.sl hn (B8 cs) cs.length hc), .sl bn (B8 bs) bs.length bc, .v (.int .u8 next)] (fun _ => none)).map (·.1) = some (.v (.bool true)) := by
  rw [pvCall_own (fn := Try.f9) rfl Try.func9 rfl (by decide) rfl rfl (by simp)]
  by_cases hb : (4000 : Int) < (bs.length : Int)
  · simp -implicitDefEqProofs [ip6A, hb, fKnown4, hs, hd, B8d32 hs, B8g32 hs, B8g16 hd, B8g16 hs, B8d16 hs, B8d16 hd]
  · have hcl : (4000 : Int) < (cs.length : Int) := by omega
    simp -implicitDefEqProofs [ip6A, hb, hcl, fKnown4, hs, hd, B8d32 hs, B8g32 hs, B8g16 hd, B8g16 hs, B8d16 hs, B8d16 hd]
theorem ip6Packets_walk (w : World) (v0 : Value) (o0 : InIp6 w v0) (v1 : Value) (o1 : In8 w v1) (next : Int) (h2 : (Lit.int .u8 next).wf = true) :
    Calls Try.prog 9 #[v0, v1, .int .u8 next] w fun e w' => e = .returned (.bool true) ∧ Below w.heap.size w w' := by
  obtain ⟨cl, la, nx, pr, ho, ss, ds, a, len, cap, cs, rfl, ro, c0, c1, l0, l1, n0, n1, p0, p1, q0, q1, hs, hd, bs', bd⟩ := o0
  obtain ⟨b, blen, bcap, bs, rfl, rb⟩ := o1
  have hol : cs.length = len := ro.1
  have hbl : bs.length = blen := rb.1
  subst hol hbl
  have hx := bounds_u8 h2
  have ra : RelL (noneAt w) [ip6A cl la nx pr ho ss ds (.sl false (B8 cs) cs.length none), .sl false (B8 bs) bs.length none, .v (.int .u8 next)] (#[.agg (v6 cl la nx pr ho ss ds (.slice a cs.length cap)).toArray, .slice b bs.length bcap, .int .u8 next] : Array Value).toList :=
    .cons (rel_ip6 ro) (.cons (rel_row rb) (.cons .v (.nil _)))
  have key : (pvCall Try.prog KD Dm 100000 1 0 9 [ip6A cl la nx pr ho ss ds (.sl false (B8 cs) cs.length none), .sl false (B8 bs) bs.length none, .v (.int .u8 next)] (fun _ => none)).map (·.1) = some (.v (.bool true)) := by
    by_cases hlong : 4000 < bs.length ∨ 4000 < cs.length
    · exact ip6p_long _ _ _ _ _ _ _ _ _ _ _ _ _ _ hs hd hlong
    have hb : bs.length ≤ 4000 := by omega
    have hc : cs.length ≤ 4000 := by omega
    have hz : bytesB bs = true := bytesB_iff.2 rb.5
    have hg : good6 cl la nx pr ho ss ds cs := ⟨c0, c1, l0, l1, n0, n1, p0, p1, q0, q1, hs, hd, bs', bd, bytesB_iff.2 ro.5, by omega⟩
    rcases ip6V_cases hz (by omega) with ⟨e1, ne1, hR⟩ | ⟨S, E, C, Q, cl2, la2, nx2, pr2, ho2, hR⟩ <;> rcases w6V_cases cl la nx pr ho ss ds cs bs hs hd with ⟨e2, ne2, hW⟩ | ⟨W, hW, hWl⟩
    · exact ip6p_ee cl la nx pr ho ss ds cs bs _ _ _ _ next hb hz hg hc hx.1 hx.2 e1 ne1 hR e2 hW
    · exact ip6p_eo cl la nx pr ho ss ds cs bs _ _ _ _ next hb hz hg hc hx.1 hx.2 e1 ne1 hR W hW hWl
    · exact ip6p_oe cl la nx pr ho ss ds cs bs _ _ _ _ next hb hz hg hc hx.1 hx.2 S E C Q _ _ _ _ _ hR e2 hW
    · exact ip6p_oo cl la nx pr ho ss ds cs bs _ _ _ _ next hb hz hg hc hx.1 hx.2 S E C Q _ _ _ _ _ hR W hW hWl
  obtain ⟨⟨x, m'⟩, k1, k2⟩ := Option.map_eq_some_iff.1 key
  simp only at k2
  subst k2
  exact law_of_run kd_ok follows_mixed dm_ok k1 ra
end Go.Proofs.Ytcbjjkpjbdcakaa
