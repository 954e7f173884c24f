/- A header of IPv4 that comes in; the law Ip4Packets' walk. -/
import Derived.Test.YtcbjjkpjbdcakaaJj
import Derived.Test.YtcbjjkpjbdcakaaLr
namespace Go.Proofs.Ytcbjjkpjbdcakaa
open Go.ChangeShapes Go.WideShapes Go.ChangeAt Go.RowKit Go.Wb Go.Pm
set_option linter.unusedVariables false
set_option linter.unusedSimpArgs false
def v4 (tos id : Int) (df : Bool) (ttl pr : Int) (ss ds : List Int) (x : Value) : List Value := .int .u8 tos :: .int .u16 id :: .bool df :: .int .u8 ttl :: .int .u8 pr :: (ss.map (Value.int .u8) ++ (ds.map (Value.int .u8) ++ [x]))
def InIp4 (w : World) (v : Value) : Prop := ∃ tos id df ttl pr ss ds a len cap cs, v = .agg (v4 tos id df ttl pr ss ds (.slice a len cap)).toArray ∧ Row8 w a len cap cs ∧ 0 ≤ tos ∧ tos ≤ 255 ∧ 0 ≤ id ∧ id ≤ 65535 ∧ 0 ≤ ttl ∧ ttl ≤ 255 ∧ 0 ≤ pr ∧ pr ≤ 255 ∧ ss.length = 16 ∧ ds.length = 16 ∧ bytesB ss = true ∧ bytesB ds = true
theorem flat48 : flat Try.prog 4 48 = some (5 :: 25 :: 4 :: 5 :: 5 :: (List.replicate 16 5 ++ (List.replicate 16 5 ++ [23]))) := by kernel_rfl
set_option maxRecDepth 1000000 in
theorem openT48 {H : Type} {enc : TypeId × Value → H} {w : World} {base b0 : Nat} {spare : Nat → Bool} {held : Bool} {r : Reach} {v : Value} {d : DataW H} {p : List MemPlace} (hv : Value.okWide Try.prog w r b0 48 v) (h : DataW.Trod enc Try.prog w base spare held 48 v d p) : InIp4 w v := by
  obtain ⟨cs, rfl, hl⟩ := open_flat flat48 (agg_struct Try.underlying48 hv) h
  obtain ⟨tos, v1, rfl, e0, hl⟩ := leaves_int Try.underlying5 hl
  obtain ⟨id, v2, rfl, e1, hl⟩ := leaves_int Try.underlying25 hl
  obtain ⟨df, v3, rfl, hl3⟩ := Wb.leaves_bool Try.underlying4 hl
  obtain ⟨ttl, v4, rfl, e3, hl⟩ := leaves_int Try.underlying5 hl3
  obtain ⟨pr, v5, rfl, e4, hl⟩ := leaves_int Try.underlying5 hl
  obtain ⟨ss, us, hn, rfl, hw, hl⟩ := leaves_ints Try.underlying5 16 hl
  obtain ⟨ds, us, hn2, rfl, hw2, hl⟩ := leaves_ints Try.underlying5 16 hl
  obtain ⟨s, v9, rfl, ⟨k, y, hy⟩, hl⟩ := Wb.leaves_cons hl
  obtain rfl := Wb.leaves_nil hl
  obtain ⟨zs, hz⟩ := leaf_row2 Try.underlying23 Try.underlying5 Try.cells5 hy
  obtain ⟨a, len, cap, os, rfl, hrow⟩ := in8_of_row hz
  have b0 := bounds_u8 e0
  have b1 := bounds_u16 e1
  have b3 := bounds_u8 e3
  have b4 := bounds_u8 e4
  exact ⟨tos, id, df, ttl, pr, ss, ds, a, len, cap, os, rfl, hrow, b0.1, b0.2, b1.1, b1.2, b3.1, b3.2, b4.1, b4.2, hn, hn2, bytesB_iff.2 fun x hx => bounds_u8 (hw x hx), bytesB_iff.2 fun x hx => bounds_u8 (hw2 x hx)⟩
theorem rel_ip4 {w : World} {tos id : Int} {df : Bool} {ttl pr : Int} {ss ds : List Int} {a : Option Addr} {len cap : Nat} {cs : List Int} (h : Row8 w a len cap cs) : Rel (noneAt w) (ip4A tos id df ttl pr ss ds (.sl false (B8 cs) len none)) (.agg (v4 tos id df ttl pr ss ds (.slice a len cap)).toArray) := by
  refine .mkAgg ?_
  show RelL _ _ (v4 tos id df ttl pr ss ds (.slice a len cap))
  exact .cons .v (.cons .v (.cons .v (.cons .v (.cons .v ((relL_ints _ ss).append ((relL_ints _ ds).append (.cons (rel_row h) (.nil _))))))))
theorem ad4_len (zs : List Int) : (ad4 zs).length = 16 := rfl
theorem ip4V_cases {bs : List Int} (hz : bytesB bs = true) (hl : bs.length ≤ 5000) : (∃ e : Int, ¬ e = 0 ∧ ip4V bs = err4 e) ∨ ∃ S E C Q tos id df ttl pr, OkR4 bs S E C Q tos id df ttl pr := by
  unfold OkR4 ip4V
  by_cases h : chk4 bs = 0
  · rw [if_pos h]
    obtain ⟨h20, h4, hn, hnl, hof, hT, hTl, h6, hop, hfr⟩ := chk4_ok h
    obtain ⟨e1, e2⟩ := hl4_range hz
    have r2 := w16_range (bytesB_iff.1 hz) 2
    obtain ⟨T, hTe⟩ := Int.eq_ofNat_of_zero_le r2.1
    rw [hTe] at hT hTl ⊢
    simp only [Int.toNat_natCast]
    have c1 : ((bs.drop 20).take (hl4 bs - 20)).length = hl4 bs - 20 := by simp; omega
    have c2 : ((bs.drop (hl4 bs)).take (T - hl4 bs)).length = T - hl4 bs := by simp; omega
    refine .inr ⟨ad4 (bs.drop 12), ad4 (bs.drop 16), (bs.drop 20).take (hl4 bs - 20), (bs.drop (hl4 bs)).take (T - hl4 bs), gb bs 1, w16 bs 4, decide (16384 ≤ w16 bs 6), gb bs 8, gb bs 9, ?_, rfl, rfl, by simp; omega, by simp; omega⟩
    rw [c1, c2]
    rfl
  · rw [if_neg h]; exact .inl ⟨_, h, rfl⟩
theorem w4V_cases (tos id : Int) (df : Bool) (ttl pr : Int) (ss ds cs bs : List Int) : (∃ e : Int, ¬ e = 0 ∧ w4V tos id df ttl pr ss ds cs bs = errC e) ∨ ∃ W, w4V tos id df ttl pr ss ds cs bs = wC W ∧ W.length ≤ 5000 := by
  unfold w4V
  split
  · exact .inl ⟨_, by assumption, rfl⟩
  split
  · exact .inl ⟨2, by omega, rfl⟩
  split
  · exact .inl ⟨3, by omega, rfl⟩
  · refine .inr ⟨_, rfl, ?_⟩
    simp [head4, putS]; omega
set_option maxHeartbeats 8000000 in
set_option maxRecDepth 1000000 in
theorem ip4p_long (tos id : Int) (df : Bool) (ttl pr : Int) (ss ds cs bs : List Int) (hn bn : Bool) (hc bc : Option Nat) (hs : ss.length = 16) (hd : ds.length = 16) (h : 2000 < bs.length ∨ 2000 < cs.length) :
    (pvCall Try.prog KH Dm 100000 1 0 6 [ip4A tos id df ttl pr ss ds (.sl hn (B8 cs) cs.length hc), .sl bn (B8 bs) bs.length bc] (fun _ => none)).map (·.1) = some (.v (.bool true)) := by
  rw [pvCall_own (fn := Try.f6) rfl Try.func6 rfl (by decide) rfl rfl (by simp)]
  by_cases hb : (2000 : Int) < (bs.length : Int)
  · simp -implicitDefEqProofs [ip4A, hb, fKnown3, hs, hd]
  · have hcl : (2000 : Int) < (cs.length : Int) := by omega
    simp -implicitDefEqProofs [ip4A, hb, hcl, fKnown3, hs, hd, B8d32 hs, B8g32 hs, B8g16 hd, B8g16 hs, B8d16 hs, B8d16 hd]
theorem ip4Packets_walk (w : World) (v0 : Value) (o0 : InIp4 w v0) (v1 : Value) (o1 : In8 w v1) :
    Calls Try.prog 6 #[v0, v1] w fun e w' => e = .returned (.bool true) ∧ Below w.heap.size w w' := by
  obtain ⟨tos, id, df, ttl, pr, ss, ds, a, len, cap, cs, rfl, ro, c0, c1, l0, l1, p0, p1, q0, q1, hs, hd, bs', bd⟩ := o0
  obtain ⟨b, blen, bcap, bs, rfl, rb⟩ := o1
  have hol : cs.length = len := ro.1
  have hbl : bs.length = blen := rb.1
  subst hol hbl
  have ra : RelL (noneAt w) [ip4A tos id df ttl pr ss ds (.sl false (B8 cs) cs.length none), .sl false (B8 bs) bs.length none] (#[.agg (v4 tos id df ttl pr ss ds (.slice a cs.length cap)).toArray, .slice b bs.length bcap] : Array Value).toList :=
    .cons (rel_ip4 ro) (.cons (rel_row rb) (.nil _))
  have key : (pvCall Try.prog KH Dm 100000 1 0 6 [ip4A tos id df ttl pr ss ds (.sl false (B8 cs) cs.length none), .sl false (B8 bs) bs.length none] (fun _ => none)).map (·.1) = some (.v (.bool true)) := by
    by_cases hlong : 2000 < bs.length ∨ 2000 < cs.length
    · exact ip4p_long _ _ _ _ _ _ _ _ _ _ _ _ _ hs hd hlong
    have hb : bs.length ≤ 2000 := by omega
    have hc : cs.length ≤ 2000 := by omega
    have hz : bytesB bs = true := bytesB_iff.2 rb.5
    have hg : good4 tos id ttl pr ss ds cs := ⟨c0, c1, l0, l1, p0, p1, q0, q1, hs, hd, bs', bd, bytesB_iff.2 ro.5, by omega⟩
    rcases ip4V_cases hz (by omega) with ⟨e1, ne1, hR⟩ | ⟨S, E, C, Q, tos2, id2, df2, ttl2, pr2, hR⟩ <;> rcases w4V_cases tos id df ttl pr ss ds cs bs with ⟨e2, ne2, hW⟩ | ⟨W, hW, hWl⟩
    · exact ip4p_ee tos id df ttl pr ss ds cs bs _ _ _ _ hb hz hg hc e1 ne1 hR e2 hW
    · exact ip4p_eo tos id df ttl pr ss ds cs bs _ _ _ _ hb hz hg hc e1 ne1 hR W hW hWl
    · exact ip4p_oe tos id df ttl pr ss ds cs bs _ _ _ _ hb hz hg hc S E C Q _ _ _ _ _ hR e2 hW
    · exact ip4p_oo tos id df ttl pr ss ds cs bs _ _ _ _ hb hz hg hc S E C Q _ _ _ _ _ hR W hW hWl
  obtain ⟨⟨x, m'⟩, k1, k2⟩ := Option.map_eq_some_iff.1 key
  simp only at k2
  subst k2
  exact law_of_run kh_ok follows_mixed dm_ok k1 ra
end Go.Proofs.Ytcbjjkpjbdcakaa
