/- The law Ip6Back as a function of values. -/
import Derived.Test.YtcbjjkpjbdcakaaGj
namespace Go.Proofs.Ytcbjjkpjbdcakaa
open Go.Pm Go.Wb
set_option linter.unusedVariables false
set_option linter.unusedSimpArgs false
set_option maxRecDepth 1000000
set_option maxHeartbeats 16000000 in
theorem ip6b_ee (cl la nx pr ho : Int) (ss ds cs bs rs : List Int) (hn bn rn : Bool) (hc bc rc : Option Nat) (hb : bs.length ≤ 2000) (hrl : rs.length ≤ 2000) (hz : bytesB bs = true) (hrz : bytesB rs = true) (hg : good6 cl la nx pr ho ss ds cs) (hcs : cs.length ≤ 4000) (e2 : Int) (ne2 : ¬ e2 = 0) (hW : w6V cl la nx pr ho ss ds cs bs = errB e2)
    (e1 : Int) (ne1 : ¬ e1 = 0) (hR : ip6V bs = err6 e1) : (pvCall Try.prog KD Dm 100000 1 0 10 [ip6A cl la nx pr ho ss ds (.sl hn (B8 cs) cs.length hc), .sl bn (B8 bs) bs.length bc, .sl rn (B8 rs) rs.length rc] (fun _ => none)).map (·.1) = some (.v (.bool true)) := by
  obtain ⟨_, _, _, _, _, _, _, _, _, _, hs, hd, bS, bD, bC, _⟩ := id hg
  have b1 : ¬ (2000 : Int) < (bs.length : Int) := by omega
  have b2 : ¬ (2000 : Int) < (rs.length : Int) := by omega
  have b3 : ¬ (4000 : Int) < (cs.length : Int) := by omega
  have b4 : bs.length ≤ 500000 := by omega
  have b5 : bs.length ≤ 549755813888 := by omega
  have b6 : bs.take bs.length = bs := List.take_length
  have b7 : bs.length ≤ 9223372036854775807 := by omega
  have b8 : cs.length ≤ 500000 := by omega
  have b9 : cs.take cs.length = cs := List.take_length
  have a1 := asI6_at (cl := cl) (la := la) (nx := nx) (pr := pr) (ho := ho) (cs := cs) (len := cs.length) hs hd rfl
  have be2 : (e2 == 0) = false := by simp [ne2]
  have be1 : (e1 != 0) = true := by simp [ne1]
  rw [pvCall_own (fn := Try.f10) rfl Try.func10 rfl (by decide) rfl rfl (by simp)]
  simp -implicitDefEqProofs [b1, b2, b3, b4, b5, b6, b7, b8, b9, a1, hz, hrz, hg, hs, hd, fKnown4, fIP6, fW6, fSame6, hW, ip6A, splice, B8t16 hs, B8d16 hs, B8t16 hd, B8d16 hd, B8t33 hs, B8t17 hd, B8d32 hs, B8g32 hs, B8g16 hd, B8g16 hs, Nat.testBit_eq_decide_div_mod_eq, asB8_nil'', errB, ne2, be2, err6, noH6, hR, ne1, be1, B8t16 z16_len, B8d16 z16_len, B8t33 z16_len, B8t17 z16_len, B8d32 z16_len, B8g32 z16_len, B8g16 z16_len]
set_option maxHeartbeats 16000000 in
theorem ip6b_el (cl la nx pr ho : Int) (ss ds cs bs rs : List Int) (hn bn rn : Bool) (hc bc rc : Option Nat) (hb : bs.length ≤ 2000) (hrl : rs.length ≤ 2000) (hz : bytesB bs = true) (hrz : bytesB rs = true) (hg : good6 cl la nx pr ho ss ds cs) (hcs : cs.length ≤ 4000) (e2 : Int) (ne2 : ¬ e2 = 0) (hW : w6V cl la nx pr ho ss ds cs bs = errB e2)
    (S E C Q : List Int) (cl2 la2 nx2 pr2 ho2 : Int) (hR : OkR bs S E C Q cl2 la2 nx2 pr2 ho2) (hg2 : good6 cl2 la2 nx2 pr2 ho2 S E C) (hV : w6V cl2 la2 nx2 pr2 ho2 S E C Q = errB 3) (hq : 1620 < C.length + Q.length) : (pvCall Try.prog KD Dm 100000 1 0 10 [ip6A cl la nx pr ho ss ds (.sl hn (B8 cs) cs.length hc), .sl bn (B8 bs) bs.length bc, .sl rn (B8 rs) rs.length rc] (fun _ => none)).map (·.1) = some (.v (.bool true)) := by
  obtain ⟨_, _, _, _, _, _, _, _, _, _, hs, hd, bS, bD, bC, _⟩ := id hg
  have b1 : ¬ (2000 : Int) < (bs.length : Int) := by omega
  have b2 : ¬ (2000 : Int) < (rs.length : Int) := by omega
  have b3 : ¬ (4000 : Int) < (cs.length : Int) := by omega
  have b4 : bs.length ≤ 500000 := by omega
  have b5 : bs.length ≤ 549755813888 := by omega
  have b6 : bs.take bs.length = bs := List.take_length
  have b7 : bs.length ≤ 9223372036854775807 := by omega
  have b8 : cs.length ≤ 500000 := by omega
  have b9 : cs.take cs.length = cs := List.take_length
  have a1 := asI6_at (cl := cl) (la := la) (nx := nx) (pr := pr) (ho := ho) (cs := cs) (len := cs.length) hs hd rfl
  have be2 : (e2 == 0) = false := by simp [ne2]
  obtain ⟨r1, Sl, El, Cl, Ql⟩ := hR
  have k1 : C.length ≤ 500000 := by omega
  have k2 : C.take C.length = C := List.take_length
  have k3 : Q.take Q.length = Q := List.take_length
  have k4 := asI6_at (cl := cl2) (la := la2) (nx := nx2) (pr := pr2) (ho := ho2) (cs := C) (len := C.length) Sl El rfl
  have k5 : Q.length ≤ 500000 := by omega
  have q1 : IntKind.i64.wrap ((C.length : Int) + (Q.length : Int)) = (C.length : Int) + (Q.length : Int) := wrap64_id (by omega) (by omega)
  have q2 : IntKind.i64.wrap ((C.length : Int) + (Q.length : Int) + 40) = (C.length : Int) + (Q.length : Int) + 40 := wrap64_id (by omega) (by omega)
  have q3 : (1660 : Int) < (C.length : Int) + (Q.length : Int) + 40 := by omega
  rw [pvCall_own (fn := Try.f10) rfl Try.func10 rfl (by decide) rfl rfl (by simp)]
  simp -implicitDefEqProofs [b1, b2, b3, b4, b5, b6, b7, b8, b9, a1, hz, hrz, hg, hs, hd, fKnown4, fIP6, fW6, fSame6, hW, ip6A, splice, B8t16 hs, B8d16 hs, B8t16 hd, B8d16 hd, B8t33 hs, B8t17 hd, B8d32 hs, B8g32 hs, B8g16 hd, B8g16 hs, Nat.testBit_eq_decide_div_mod_eq, asB8_nil'', errB, ne2, be2, r1, hg2, hV, k1, k2, k3, k4, k5, Sl, El, B8t16 Sl, B8d16 Sl, B8t16 El, B8d16 El, B8t33 Sl, B8t17 El, B8d32 Sl, B8g32 Sl, B8g16 El, B8g16 Sl, errB, q1, q2, q3]
set_option maxHeartbeats 16000000 in
theorem ip6b_ew (cl la nx pr ho : Int) (ss ds cs bs rs : List Int) (hn bn rn : Bool) (hc bc rc : Option Nat) (hb : bs.length ≤ 2000) (hrl : rs.length ≤ 2000) (hz : bytesB bs = true) (hrz : bytesB rs = true) (hg : good6 cl la nx pr ho ss ds cs) (hcs : cs.length ≤ 4000) (e2 : Int) (ne2 : ¬ e2 = 0) (hW : w6V cl la nx pr ho ss ds cs bs = errB e2)
    (S E C Q : List Int) (cl2 la2 nx2 pr2 ho2 : Int) (hR : OkR bs S E C Q cl2 la2 nx2 pr2 ho2) (hg2 : good6 cl2 la2 nx2 pr2 ho2 S E C) (V : List Int) (hV : w6V cl2 la2 nx2 pr2 ho2 S E C Q = wB V) (hV1 : 40 ≤ V.length) (hV2 : V.length ≤ bs.length) (hV3 : bs.take V.length = V) : (pvCall Try.prog KD Dm 100000 1 0 10 [ip6A cl la nx pr ho ss ds (.sl hn (B8 cs) cs.length hc), .sl bn (B8 bs) bs.length bc, .sl rn (B8 rs) rs.length rc] (fun _ => none)).map (·.1) = some (.v (.bool true)) := by
  obtain ⟨_, _, _, _, _, _, _, _, _, _, hs, hd, bS, bD, bC, _⟩ := id hg
  have b1 : ¬ (2000 : Int) < (bs.length : Int) := by omega
  have b2 : ¬ (2000 : Int) < (rs.length : Int) := by omega
  have b3 : ¬ (4000 : Int) < (cs.length : Int) := by omega
  have b4 : bs.length ≤ 500000 := by omega
  have b5 : bs.length ≤ 549755813888 := by omega
  have b6 : bs.take bs.length = bs := List.take_length
  have b7 : bs.length ≤ 9223372036854775807 := by omega
  have b8 : cs.length ≤ 500000 := by omega
  have b9 : cs.take cs.length = cs := List.take_length
  have a1 := asI6_at (cl := cl) (la := la) (nx := nx) (pr := pr) (ho := ho) (cs := cs) (len := cs.length) hs hd rfl
  have be2 : (e2 == 0) = false := by simp [ne2]
  obtain ⟨r1, Sl, El, Cl, Ql⟩ := hR
  have k1 : C.length ≤ 500000 := by omega
  have k2 : C.take C.length = C := List.take_length
  have k3 : Q.take Q.length = Q := List.take_length
  have k4 := asI6_at (cl := cl2) (la := la2) (nx := nx2) (pr := pr2) (ho := ho2) (cs := C) (len := C.length) Sl El rfl
  have k5 : Q.length ≤ 500000 := by omega
  have q1 : (40 : Int) ≤ (V.length : Int) := by omega
  have q2 : (V.length : Int) ≤ (bs.length : Int) := by omega
  have q3 : V.length ≤ 9223372036854775807 := by omega
  have q4 : V.take V.length = V := List.take_length
  rw [pvCall_own (fn := Try.f10) rfl Try.func10 rfl (by decide) rfl rfl (by simp)]
  simp -implicitDefEqProofs [b1, b2, b3, b4, b5, b6, b7, b8, b9, a1, hz, hrz, hg, hs, hd, fKnown4, fIP6, fW6, fSame6, hW, ip6A, splice, B8t16 hs, B8d16 hs, B8t16 hd, B8d16 hd, B8t33 hs, B8t17 hd, B8d32 hs, B8g32 hs, B8g16 hd, B8g16 hs, Nat.testBit_eq_decide_div_mod_eq, asB8_nil'', errB, ne2, be2, r1, hg2, hV, k1, k2, k3, k4, k5, Sl, El, B8t16 Sl, B8d16 Sl, B8t16 El, B8d16 El, B8t33 Sl, B8t17 El, B8d32 Sl, B8g32 Sl, B8g16 El, B8g16 Sl, wB, q1, q2, q3, q4, hV1, hV2, hV3]
set_option maxHeartbeats 16000000 in
theorem ip6b_oe (cl la nx pr ho : Int) (ss ds cs bs rs : List Int) (hn bn rn : Bool) (hc bc rc : Option Nat) (hb : bs.length ≤ 2000) (hrl : rs.length ≤ 2000) (hz : bytesB bs = true) (hrz : bytesB rs = true) (hg : good6 cl la nx pr ho ss ds cs) (hcs : cs.length ≤ 4000) (W : List Int) (hW : w6V cl la nx pr ho ss ds cs bs = wB W) (hWl : W.length ≤ 5000) (hWb : bytesB W = true) (hWr : ip6V (W ++ rs) = (.tup [ip6A cl la nx pr ho ss ds (.own 0 0 0 cs.length 1 (.whole 5)), .own 1 0 0 bs.length 1 (.whole 5), .v (.int .i64 0)], [B8 cs, B8 bs]))
    (e1 : Int) (ne1 : ¬ e1 = 0) (hR : ip6V bs = err6 e1) : (pvCall Try.prog KD Dm 100000 1 0 10 [ip6A cl la nx pr ho ss ds (.sl hn (B8 cs) cs.length hc), .sl bn (B8 bs) bs.length bc, .sl rn (B8 rs) rs.length rc] (fun _ => none)).map (·.1) = some (.v (.bool true)) := by
  obtain ⟨_, _, _, _, _, _, _, _, _, _, hs, hd, bS, bD, bC, _⟩ := id hg
  have b1 : ¬ (2000 : Int) < (bs.length : Int) := by omega
  have b2 : ¬ (2000 : Int) < (rs.length : Int) := by omega
  have b3 : ¬ (4000 : Int) < (cs.length : Int) := by omega
  have b4 : bs.length ≤ 500000 := by omega
  have b5 : bs.length ≤ 549755813888 := by omega
  have b6 : bs.take bs.length = bs := List.take_length
  have b7 : bs.length ≤ 9223372036854775807 := by omega
  have b8 : cs.length ≤ 500000 := by omega
  have b9 : cs.take cs.length = cs := List.take_length
  have a1 := asI6_at (cl := cl) (la := la) (nx := nx) (pr := pr) (ho := ho) (cs := cs) (len := cs.length) hs hd rfl
  have w1 : W.length ≤ 549755813888 := by omega
  have w2 : W.take W.length = W := List.take_length
  have w3 : W.length + rs.length ≤ 549755813888 := by omega
  have w4 : (W ++ rs).take (W.length + rs.length) = W ++ rs := List.take_of_length_le (by simp)
  have w5 : (W ++ rs).length = W.length + rs.length := by simp
  have w6 : W.length + rs.length ≤ 500000 := by omega
  have w7 : bytesB (W ++ rs) = true := by rw [bytesB_append, hWb, hrz]; rfl
  have be1 : (e1 != 0) = true := by simp [ne1]
  rw [pvCall_own (fn := Try.f10) rfl Try.func10 rfl (by decide) rfl rfl (by simp)]
  simp -implicitDefEqProofs [b1, b2, b3, b4, b5, b6, b7, b8, b9, a1, hz, hrz, hg, hs, hd, fKnown4, fIP6, fW6, fSame6, hW, ip6A, splice, B8t16 hs, B8d16 hs, B8t16 hd, B8d16 hd, B8t33 hs, B8t17 hd, B8d32 hs, B8g32 hs, B8g16 hd, B8g16 hs, Nat.testBit_eq_decide_div_mod_eq, asB8_nil'', wB, hWr, w1, w2, w3, w4, w5, w6, w7, err6, noH6, hR, ne1, be1, B8t16 z16_len, B8d16 z16_len, B8t33 z16_len, B8t17 z16_len, B8d32 z16_len, B8g32 z16_len, B8g16 z16_len]
set_option maxHeartbeats 16000000 in
theorem ip6b_ol (cl la nx pr ho : Int) (ss ds cs bs rs : List Int) (hn bn rn : Bool) (hc bc rc : Option Nat) (hb : bs.length ≤ 2000) (hrl : rs.length ≤ 2000) (hz : bytesB bs = true) (hrz : bytesB rs = true) (hg : good6 cl la nx pr ho ss ds cs) (hcs : cs.length ≤ 4000) (W : List Int) (hW : w6V cl la nx pr ho ss ds cs bs = wB W) (hWl : W.length ≤ 5000) (hWb : bytesB W = true) (hWr : ip6V (W ++ rs) = (.tup [ip6A cl la nx pr ho ss ds (.own 0 0 0 cs.length 1 (.whole 5)), .own 1 0 0 bs.length 1 (.whole 5), .v (.int .i64 0)], [B8 cs, B8 bs]))
    (S E C Q : List Int) (cl2 la2 nx2 pr2 ho2 : Int) (hR : OkR bs S E C Q cl2 la2 nx2 pr2 ho2) (hg2 : good6 cl2 la2 nx2 pr2 ho2 S E C) (hV : w6V cl2 la2 nx2 pr2 ho2 S E C Q = errB 3) (hq : 1620 < C.length + Q.length) : (pvCall Try.prog KD Dm 100000 1 0 10 [ip6A cl la nx pr ho ss ds (.sl hn (B8 cs) cs.length hc), .sl bn (B8 bs) bs.length bc, .sl rn (B8 rs) rs.length rc] (fun _ => none)).map (·.1) = some (.v (.bool true)) := by
  obtain ⟨_, _, _, _, _, _, _, _, _, _, hs, hd, bS, bD, bC, _⟩ := id hg
  have b1 : ¬ (2000 : Int) < (bs.length : Int) := by omega
  have b2 : ¬ (2000 : Int) < (rs.length : Int) := by omega
  have b3 : ¬ (4000 : Int) < (cs.length : Int) := by omega
  have b4 : bs.length ≤ 500000 := by omega
  have b5 : bs.length ≤ 549755813888 := by omega
  have b6 : bs.take bs.length = bs := List.take_length
  have b7 : bs.length ≤ 9223372036854775807 := by omega
  have b8 : cs.length ≤ 500000 := by omega
  have b9 : cs.take cs.length = cs := List.take_length
  have a1 := asI6_at (cl := cl) (la := la) (nx := nx) (pr := pr) (ho := ho) (cs := cs) (len := cs.length) hs hd rfl
  have w1 : W.length ≤ 549755813888 := by omega
  have w2 : W.take W.length = W := List.take_length
  have w3 : W.length + rs.length ≤ 549755813888 := by omega
  have w4 : (W ++ rs).take (W.length + rs.length) = W ++ rs := List.take_of_length_le (by simp)
  have w5 : (W ++ rs).length = W.length + rs.length := by simp
  have w6 : W.length + rs.length ≤ 500000 := by omega
  have w7 : bytesB (W ++ rs) = true := by rw [bytesB_append, hWb, hrz]; rfl
  obtain ⟨r1, Sl, El, Cl, Ql⟩ := hR
  have k1 : C.length ≤ 500000 := by omega
  have k2 : C.take C.length = C := List.take_length
  have k3 : Q.take Q.length = Q := List.take_length
  have k4 := asI6_at (cl := cl2) (la := la2) (nx := nx2) (pr := pr2) (ho := ho2) (cs := C) (len := C.length) Sl El rfl
  have k5 : Q.length ≤ 500000 := by omega
  have q1 : IntKind.i64.wrap ((C.length : Int) + (Q.length : Int)) = (C.length : Int) + (Q.length : Int) := wrap64_id (by omega) (by omega)
  have q2 : IntKind.i64.wrap ((C.length : Int) + (Q.length : Int) + 40) = (C.length : Int) + (Q.length : Int) + 40 := wrap64_id (by omega) (by omega)
  have q3 : (1660 : Int) < (C.length : Int) + (Q.length : Int) + 40 := by omega
  rw [pvCall_own (fn := Try.f10) rfl Try.func10 rfl (by decide) rfl rfl (by simp)]
  simp -implicitDefEqProofs [b1, b2, b3, b4, b5, b6, b7, b8, b9, a1, hz, hrz, hg, hs, hd, fKnown4, fIP6, fW6, fSame6, hW, ip6A, splice, B8t16 hs, B8d16 hs, B8t16 hd, B8d16 hd, B8t33 hs, B8t17 hd, B8d32 hs, B8g32 hs, B8g16 hd, B8g16 hs, Nat.testBit_eq_decide_div_mod_eq, asB8_nil'', wB, hWr, w1, w2, w3, w4, w5, w6, w7, r1, hg2, hV, k1, k2, k3, k4, k5, Sl, El, B8t16 Sl, B8d16 Sl, B8t16 El, B8d16 El, B8t33 Sl, B8t17 El, B8d32 Sl, B8g32 Sl, B8g16 El, B8g16 Sl, errB, q1, q2, q3]
set_option maxHeartbeats 16000000 in
theorem ip6b_ow (cl la nx pr ho : Int) (ss ds cs bs rs : List Int) (hn bn rn : Bool) (hc bc rc : Option Nat) (hb : bs.length ≤ 2000) (hrl : rs.length ≤ 2000) (hz : bytesB bs = true) (hrz : bytesB rs = true) (hg : good6 cl la nx pr ho ss ds cs) (hcs : cs.length ≤ 4000) (W : List Int) (hW : w6V cl la nx pr ho ss ds cs bs = wB W) (hWl : W.length ≤ 5000) (hWb : bytesB W = true) (hWr : ip6V (W ++ rs) = (.tup [ip6A cl la nx pr ho ss ds (.own 0 0 0 cs.length 1 (.whole 5)), .own 1 0 0 bs.length 1 (.whole 5), .v (.int .i64 0)], [B8 cs, B8 bs]))
    (S E C Q : List Int) (cl2 la2 nx2 pr2 ho2 : Int) (hR : OkR bs S E C Q cl2 la2 nx2 pr2 ho2) (hg2 : good6 cl2 la2 nx2 pr2 ho2 S E C) (V : List Int) (hV : w6V cl2 la2 nx2 pr2 ho2 S E C Q = wB V) (hV1 : 40 ≤ V.length) (hV2 : V.length ≤ bs.length) (hV3 : bs.take V.length = V) : (pvCall Try.prog KD Dm 100000 1 0 10 [ip6A cl la nx pr ho ss ds (.sl hn (B8 cs) cs.length hc), .sl bn (B8 bs) bs.length bc, .sl rn (B8 rs) rs.length rc] (fun _ => none)).map (·.1) = some (.v (.bool true)) := by
  obtain ⟨_, _, _, _, _, _, _, _, _, _, hs, hd, bS, bD, bC, _⟩ := id hg
  have b1 : ¬ (2000 : Int) < (bs.length : Int) := by omega
  have b2 : ¬ (2000 : Int) < (rs.length : Int) := by omega
  have b3 : ¬ (4000 : Int) < (cs.length : Int) := by omega
  have b4 : bs.length ≤ 500000 := by omega
  have b5 : bs.length ≤ 549755813888 := by omega
  have b6 : bs.take bs.length = bs := List.take_length
  have b7 : bs.length ≤ 9223372036854775807 := by omega
  have b8 : cs.length ≤ 500000 := by omega
  have b9 : cs.take cs.length = cs := List.take_length
  have a1 := asI6_at (cl := cl) (la := la) (nx := nx) (pr := pr) (ho := ho) (cs := cs) (len := cs.length) hs hd rfl
  have w1 : W.length ≤ 549755813888 := by omega
  have w2 : W.take W.length = W := List.take_length
  have w3 : W.length + rs.length ≤ 549755813888 := by omega
  have w4 : (W ++ rs).take (W.length + rs.length) = W ++ rs := List.take_of_length_le (by simp)
  have w5 : (W ++ rs).length = W.length + rs.length := by simp
  have w6 : W.length + rs.length ≤ 500000 := by omega
  have w7 : bytesB (W ++ rs) = true := by rw [bytesB_append, hWb, hrz]; rfl
  obtain ⟨r1, Sl, El, Cl, Ql⟩ := hR
  have k1 : C.length ≤ 500000 := by omega
  have k2 : C.take C.length = C := List.take_length
  have k3 : Q.take Q.length = Q := List.take_length
  have k4 := asI6_at (cl := cl2) (la := la2) (nx := nx2) (pr := pr2) (ho := ho2) (cs := C) (len := C.length) Sl El rfl
  have k5 : Q.length ≤ 500000 := by omega
  have q1 : (40 : Int) ≤ (V.length : Int) := by omega
  have q2 : (V.length : Int) ≤ (bs.length : Int) := by omega
  have q3 : V.length ≤ 9223372036854775807 := by omega
  have q4 : V.take V.length = V := List.take_length
  rw [pvCall_own (fn := Try.f10) rfl Try.func10 rfl (by decide) rfl rfl (by simp)]
  simp -implicitDefEqProofs [b1, b2, b3, b4, b5, b6, b7, b8, b9, a1, hz, hrz, hg, hs, hd, fKnown4, fIP6, fW6, fSame6, hW, ip6A, splice, B8t16 hs, B8d16 hs, B8t16 hd, B8d16 hd, B8t33 hs, B8t17 hd, B8d32 hs, B8g32 hs, B8g16 hd, B8g16 hs, Nat.testBit_eq_decide_div_mod_eq, asB8_nil'', wB, hWr, w1, w2, w3, w4, w5, w6, w7, r1, hg2, hV, k1, k2, k3, k4, k5, Sl, El, B8t16 Sl, B8d16 Sl, B8t16 El, B8d16 El, B8t33 Sl, B8t17 El, B8d32 Sl, B8g32 Sl, B8g16 El, B8g16 Sl, wB, q1, q2, q3, q4, hV1, hV2, hV3]
end Go.Proofs.Ytcbjjkpjbdcakaa
