/- The law Ip4Back as a function of values. -/
import Derived.Test.YtcbjjkpjbdcakaaJl
namespace Go.Proofs.Ytcbjjkpjbdcakaa
open Go.Pm Go.Wb
set_option linter.unusedVariables false
set_option linter.unusedSimpArgs false
set_option maxRecDepth 1000000
set_option maxHeartbeats 16000000 in
theorem ip4b_ee (tos id : Int) (df : Bool) (ttl pr : Int) (ss ds cs bs rs : List Int) (hn bn rn : Bool) (hc bc rc : Option Nat) (hb : bs.length ≤ 2000) (hrl : rs.length ≤ 2000) (hz : bytesB bs = true) (hrz : bytesB rs = true) (hg : good4 tos id ttl pr ss ds cs) (hcs : cs.length ≤ 2000) (e2 : Int) (ne2 : ¬ e2 = 0) (hW : w4V tos id df ttl pr ss ds cs bs = errC e2)
    (e1 : Int) (ne1 : ¬ e1 = 0) (hR : ip4V bs = err4 e1) : (pvCall Try.prog KH Dm 100000 1 0 7 [ip4A tos id df ttl pr ss ds (.sl hn (B8 cs) cs.length hc), .sl bn (B8 bs) bs.length bc, .sl rn (B8 rs) rs.length rc] (fun _ => none)).map (·.1) = some (.v (.bool true)) := by
  obtain ⟨_, _, _, _, _, _, _, _, hs, hd, bS, bD, bC, _⟩ := id_of hg
  have b1 : ¬ (2000 : Int) < (bs.length : Int) := by omega
  have b2 : ¬ (2000 : Int) < (rs.length : Int) := by omega
  have b3 : ¬ (2000 : Int) < (cs.length : Int) := by omega
  have b4 : bs.length ≤ 500000 := by omega
  have b5 : bs.length ≤ 549755813888 := by omega
  have b6 : bs.take bs.length = bs := List.take_length
  have b7 : bs.length ≤ 9223372036854775807 := by omega
  have b8 : cs.length ≤ 500000 := by omega
  have b9 : cs.take cs.length = cs := List.take_length
  have a1 := asI4_at (tos := tos) (id := id) (df := df) (ttl := ttl) (pr := pr) (cs := cs) (len := cs.length) hs hd rfl
  have be2 : (e2 == 0) = false := by simp [ne2]
  have be1 : (e1 != 0) = true := by simp [ne1]
  rw [pvCall_own (fn := Try.f7) rfl Try.func7 rfl (by decide) rfl rfl (by simp)]
  simp -implicitDefEqProofs [b1, b2, b3, b4, b5, b6, b7, b8, b9, a1, hz, hrz, hg, hs, hd, fKnown3, fIP4, fW4, fSame4, fOf, hW, ip4A, splice, B8t16 hs, B8d16 hs, B8t16 hd, B8d16 hd, B8t33 hs, B8t17 hd, B8d32 hs, B8g32 hs, B8g16 hd, B8g16 hs, Nat.testBit_eq_decide_div_mod_eq, asB8_nil'', errC, ne2, be2, err4, noH4, hR, ne1, be1, zz_len, B8t16 zz_len, B8d16 zz_len, B8t33 zz_len, B8t17 zz_len, B8d32 zz_len, B8g32 zz_len, B8g16 zz_len]
set_option maxHeartbeats 16000000 in
theorem ip4b_el (tos id : Int) (df : Bool) (ttl pr : Int) (ss ds cs bs rs : List Int) (hn bn rn : Bool) (hc bc rc : Option Nat) (hb : bs.length ≤ 2000) (hrl : rs.length ≤ 2000) (hz : bytesB bs = true) (hrz : bytesB rs = true) (hg : good4 tos id ttl pr ss ds cs) (hcs : cs.length ≤ 2000) (e2 : Int) (ne2 : ¬ e2 = 0) (hW : w4V tos id df ttl pr ss ds cs bs = errC e2)
    (S E C Q : List Int) (tos2 id2 : Int) (df2 : Bool) (ttl2 pr2 : Int) (hR : OkR4 bs S E C Q tos2 id2 df2 ttl2 pr2) (hg2 : good4 tos2 id2 ttl2 pr2 S E C) (hV : w4V tos2 id2 df2 ttl2 pr2 S E C Q = errC 3) (hq : 1660 < 20 + C.length + Q.length) : (pvCall Try.prog KH Dm 100000 1 0 7 [ip4A tos id df ttl pr ss ds (.sl hn (B8 cs) cs.length hc), .sl bn (B8 bs) bs.length bc, .sl rn (B8 rs) rs.length rc] (fun _ => none)).map (·.1) = some (.v (.bool true)) := by
  obtain ⟨_, _, _, _, _, _, _, _, hs, hd, bS, bD, bC, _⟩ := id_of hg
  have b1 : ¬ (2000 : Int) < (bs.length : Int) := by omega
  have b2 : ¬ (2000 : Int) < (rs.length : Int) := by omega
  have b3 : ¬ (2000 : Int) < (cs.length : Int) := by omega
  have b4 : bs.length ≤ 500000 := by omega
  have b5 : bs.length ≤ 549755813888 := by omega
  have b6 : bs.take bs.length = bs := List.take_length
  have b7 : bs.length ≤ 9223372036854775807 := by omega
  have b8 : cs.length ≤ 500000 := by omega
  have b9 : cs.take cs.length = cs := List.take_length
  have a1 := asI4_at (tos := tos) (id := id) (df := df) (ttl := ttl) (pr := pr) (cs := cs) (len := cs.length) hs hd rfl
  have be2 : (e2 == 0) = false := by simp [ne2]
  obtain ⟨r1, Sl, El, Cl, Ql⟩ := hR
  have k1 : C.length ≤ 500000 := by omega
  have k2 : C.take C.length = C := List.take_length
  have k3 : Q.take Q.length = Q := List.take_length
  have k4 := asI4_at (tos := tos2) (id := id2) (df := df2) (ttl := ttl2) (pr := pr2) (cs := C) (len := C.length) Sl El rfl
  have k5 : Q.length ≤ 9223372036854775807 := by omega
  have q1 : IntKind.i64.wrap ((C.length : Int) + (Q.length : Int)) = (C.length : Int) + (Q.length : Int) := wrap64_id (by omega) (by omega)
  have q2 : IntKind.i64.wrap ((C.length : Int) + (Q.length : Int) + 20) = (C.length : Int) + (Q.length : Int) + 20 := wrap64_id (by omega) (by omega)
  have q3 : (1660 : Int) < (C.length : Int) + (Q.length : Int) + 20 := by omega
  rw [pvCall_own (fn := Try.f7) rfl Try.func7 rfl (by decide) rfl rfl (by simp)]
  simp -implicitDefEqProofs [b1, b2, b3, b4, b5, b6, b7, b8, b9, a1, hz, hrz, hg, hs, hd, fKnown3, fIP4, fW4, fSame4, fOf, hW, ip4A, splice, B8t16 hs, B8d16 hs, B8t16 hd, B8d16 hd, B8t33 hs, B8t17 hd, B8d32 hs, B8g32 hs, B8g16 hd, B8g16 hs, Nat.testBit_eq_decide_div_mod_eq, asB8_nil'', errC, ne2, be2, r1, hg2, hV, k1, k2, k3, k4, k5, Sl, El, B8t16 Sl, B8d16 Sl, B8t16 El, B8d16 El, B8t33 Sl, B8t17 El, B8d32 Sl, B8g32 Sl, B8g16 El, B8g16 Sl, errC, q1, q2, q3]
set_option maxHeartbeats 16000000 in
theorem ip4b_ew (tos id : Int) (df : Bool) (ttl pr : Int) (ss ds cs bs rs : List Int) (hn bn rn : Bool) (hc bc rc : Option Nat) (hb : bs.length ≤ 2000) (hrl : rs.length ≤ 2000) (hz : bytesB bs = true) (hrz : bytesB rs = true) (hg : good4 tos id ttl pr ss ds cs) (hcs : cs.length ≤ 2000) (e2 : Int) (ne2 : ¬ e2 = 0) (hW : w4V tos id df ttl pr ss ds cs bs = errC e2)
    (S E C Q : List Int) (tos2 id2 : Int) (df2 : Bool) (ttl2 pr2 : Int) (hR : OkR4 bs S E C Q tos2 id2 df2 ttl2 pr2) (hg2 : good4 tos2 id2 ttl2 pr2 S E C) (V : List Int) (hV : w4V tos2 id2 df2 ttl2 pr2 S E C Q = wC V) (hV1 : 20 ≤ V.length) (hV2 : V.length ≤ bs.length) (hV3 : bs.take V.length = V) (q10 : ¬ gb V 10 = 255) : (pvCall Try.prog KH Dm 100000 1 0 7 [ip4A tos id df ttl pr ss ds (.sl hn (B8 cs) cs.length hc), .sl bn (B8 bs) bs.length bc, .sl rn (B8 rs) rs.length rc] (fun _ => none)).map (·.1) = some (.v (.bool true)) := by
  obtain ⟨_, _, _, _, _, _, _, _, hs, hd, bS, bD, bC, _⟩ := id_of hg
  have b1 : ¬ (2000 : Int) < (bs.length : Int) := by omega
  have b2 : ¬ (2000 : Int) < (rs.length : Int) := by omega
  have b3 : ¬ (2000 : Int) < (cs.length : Int) := by omega
  have b4 : bs.length ≤ 500000 := by omega
  have b5 : bs.length ≤ 549755813888 := by omega
  have b6 : bs.take bs.length = bs := List.take_length
  have b7 : bs.length ≤ 9223372036854775807 := by omega
  have b8 : cs.length ≤ 500000 := by omega
  have b9 : cs.take cs.length = cs := List.take_length
  have a1 := asI4_at (tos := tos) (id := id) (df := df) (ttl := ttl) (pr := pr) (cs := cs) (len := cs.length) hs hd rfl
  have be2 : (e2 == 0) = false := by simp [ne2]
  obtain ⟨r1, Sl, El, Cl, Ql⟩ := hR
  have k1 : C.length ≤ 500000 := by omega
  have k2 : C.take C.length = C := List.take_length
  have k3 : Q.take Q.length = Q := List.take_length
  have k4 := asI4_at (tos := tos2) (id := id2) (df := df2) (ttl := ttl2) (pr := pr2) (cs := C) (len := C.length) Sl El rfl
  have k5 : Q.length ≤ 9223372036854775807 := by omega
  have q1 : ¬ (V.length : Int) < 20 := by omega
  have q2 : ¬ (bs.length : Int) < (V.length : Int) := by omega
  have q3 : V.length ≤ 9223372036854775807 := by omega
  have q4 : V.take V.length = V := List.take_length
  have q5 : V.length ≤ 549755813888 := by omega
  have q6 : (10 : Int) < (V.length : Int) := by omega
  have q7 : (11 : Int) < (V.length : Int) := by omega
  have q8 : 10 ≤ V.length := by omega
  have q9 : 11 ≤ V.length := by omega
  have p0 : 10 < V.length := by omega
  have p1 : 11 < V.length := by omega
  have p2 : 12 ≤ V.length := by omega
  have p3 : (V.length : Int) ≤ (bs.length : Int) := by omega
  have p4 : min V.length bs.length = V.length := by omega
  have a10 := B8_at0 V 10 (by omega)
  have a11 := B8_at0 V 11 (by omega)
  have q10e : (gb V 10 == 255) = false := by simp [q10]
  rw [pvCall_own (fn := Try.f7) rfl Try.func7 rfl (by decide) rfl rfl (by simp)]
  simp -implicitDefEqProofs [b1, b2, b3, b4, b5, b6, b7, b8, b9, a1, hz, hrz, hg, hs, hd, fKnown3, fIP4, fW4, fSame4, fOf, hW, ip4A, splice, B8t16 hs, B8d16 hs, B8t16 hd, B8d16 hd, B8t33 hs, B8t17 hd, B8d32 hs, B8g32 hs, B8g16 hd, B8g16 hs, Nat.testBit_eq_decide_div_mod_eq, asB8_nil'', errC, ne2, be2, r1, hg2, hV, k1, k2, k3, k4, k5, Sl, El, B8t16 Sl, B8d16 Sl, B8t16 El, B8d16 El, B8t33 Sl, B8t17 El, B8d32 Sl, B8g32 Sl, B8g16 El, B8g16 Sl, wC, q1, q2, q3, q4, q5, q6, q7, q8, q9, p0, p1, p2, p3, p4, hV1, hV2, hV3, q10, a10, a11, q10e]
set_option maxHeartbeats 16000000 in
theorem ip4b_ev (tos id : Int) (df : Bool) (ttl pr : Int) (ss ds cs bs rs : List Int) (hn bn rn : Bool) (hc bc rc : Option Nat) (hb : bs.length ≤ 2000) (hrl : rs.length ≤ 2000) (hz : bytesB bs = true) (hrz : bytesB rs = true) (hg : good4 tos id ttl pr ss ds cs) (hcs : cs.length ≤ 2000) (e2 : Int) (ne2 : ¬ e2 = 0) (hW : w4V tos id df ttl pr ss ds cs bs = errC e2)
    (S E C Q : List Int) (tos2 id2 : Int) (df2 : Bool) (ttl2 pr2 : Int) (hR : OkR4 bs S E C Q tos2 id2 df2 ttl2 pr2) (hg2 : good4 tos2 id2 ttl2 pr2 S E C) (V : List Int) (hV : w4V tos2 id2 df2 ttl2 pr2 S E C Q = wC V) (hV1 : 20 ≤ V.length) (hV2 : V.length ≤ bs.length) (hV3 : bs.take V.length = V) (q10 : gb V 10 = 255) (q11 : ¬ gb V 11 = 255) : (pvCall Try.prog KH Dm 100000 1 0 7 [ip4A tos id df ttl pr ss ds (.sl hn (B8 cs) cs.length hc), .sl bn (B8 bs) bs.length bc, .sl rn (B8 rs) rs.length rc] (fun _ => none)).map (·.1) = some (.v (.bool true)) := by
  obtain ⟨_, _, _, _, _, _, _, _, hs, hd, bS, bD, bC, _⟩ := id_of hg
  have b1 : ¬ (2000 : Int) < (bs.length : Int) := by omega
  have b2 : ¬ (2000 : Int) < (rs.length : Int) := by omega
  have b3 : ¬ (2000 : Int) < (cs.length : Int) := by omega
  have b4 : bs.length ≤ 500000 := by omega
  have b5 : bs.length ≤ 549755813888 := by omega
  have b6 : bs.take bs.length = bs := List.take_length
  have b7 : bs.length ≤ 9223372036854775807 := by omega
  have b8 : cs.length ≤ 500000 := by omega
  have b9 : cs.take cs.length = cs := List.take_length
  have a1 := asI4_at (tos := tos) (id := id) (df := df) (ttl := ttl) (pr := pr) (cs := cs) (len := cs.length) hs hd rfl
  have be2 : (e2 == 0) = false := by simp [ne2]
  obtain ⟨r1, Sl, El, Cl, Ql⟩ := hR
  have k1 : C.length ≤ 500000 := by omega
  have k2 : C.take C.length = C := List.take_length
  have k3 : Q.take Q.length = Q := List.take_length
  have k4 := asI4_at (tos := tos2) (id := id2) (df := df2) (ttl := ttl2) (pr := pr2) (cs := C) (len := C.length) Sl El rfl
  have k5 : Q.length ≤ 9223372036854775807 := by omega
  have q1 : ¬ (V.length : Int) < 20 := by omega
  have q2 : ¬ (bs.length : Int) < (V.length : Int) := by omega
  have q3 : V.length ≤ 9223372036854775807 := by omega
  have q4 : V.take V.length = V := List.take_length
  have q5 : V.length ≤ 549755813888 := by omega
  have q6 : (10 : Int) < (V.length : Int) := by omega
  have q7 : (11 : Int) < (V.length : Int) := by omega
  have q8 : 10 ≤ V.length := by omega
  have q9 : 11 ≤ V.length := by omega
  have p0 : 10 < V.length := by omega
  have p1 : 11 < V.length := by omega
  have p2 : 12 ≤ V.length := by omega
  have p3 : (V.length : Int) ≤ (bs.length : Int) := by omega
  have p4 : min V.length bs.length = V.length := by omega
  have a10 := B8_at0 V 10 (by omega)
  have a11 := B8_at0 V 11 (by omega)
  have q11e : (gb V 11 == 255) = false := by simp [q11]
  rw [pvCall_own (fn := Try.f7) rfl Try.func7 rfl (by decide) rfl rfl (by simp)]
  simp -implicitDefEqProofs [b1, b2, b3, b4, b5, b6, b7, b8, b9, a1, hz, hrz, hg, hs, hd, fKnown3, fIP4, fW4, fSame4, fOf, hW, ip4A, splice, B8t16 hs, B8d16 hs, B8t16 hd, B8d16 hd, B8t33 hs, B8t17 hd, B8d32 hs, B8g32 hs, B8g16 hd, B8g16 hs, Nat.testBit_eq_decide_div_mod_eq, asB8_nil'', errC, ne2, be2, r1, hg2, hV, k1, k2, k3, k4, k5, Sl, El, B8t16 Sl, B8d16 Sl, B8t16 El, B8d16 El, B8t33 Sl, B8t17 El, B8d32 Sl, B8g32 Sl, B8g16 El, B8g16 Sl, wC, q1, q2, q3, q4, q5, q6, q7, q8, q9, p0, p1, p2, p3, p4, hV1, hV2, hV3, q10, a10, a11, q11, q11e]
set_option maxHeartbeats 16000000 in
theorem ip4b_ez (tos id : Int) (df : Bool) (ttl pr : Int) (ss ds cs bs rs : List Int) (hn bn rn : Bool) (hc bc rc : Option Nat) (hb : bs.length ≤ 2000) (hrl : rs.length ≤ 2000) (hz : bytesB bs = true) (hrz : bytesB rs = true) (hg : good4 tos id ttl pr ss ds cs) (hcs : cs.length ≤ 2000) (e2 : Int) (ne2 : ¬ e2 = 0) (hW : w4V tos id df ttl pr ss ds cs bs = errC e2)
    (S E C Q : List Int) (tos2 id2 : Int) (df2 : Bool) (ttl2 pr2 : Int) (hR : OkR4 bs S E C Q tos2 id2 df2 ttl2 pr2) (hg2 : good4 tos2 id2 ttl2 pr2 S E C) (V : List Int) (hV : w4V tos2 id2 df2 ttl2 pr2 S E C Q = wC V) (hV1 : 20 ≤ V.length) (hV2 : V.length ≤ bs.length) (X Y : List Int) (hX : bs.take V.length = X) (hXl : X.length = V.length) (hYl : Y.length = V.length) (q10 : gb X 10 = 255) (q11 : gb X 11 = 255) (hX1 : X.take 10 ++ 0 :: X.drop 11 = Y) (hX2 : Y.take 11 ++ 0 :: Y.drop 12 = V) : (pvCall Try.prog KH Dm 100000 1 0 7 [ip4A tos id df ttl pr ss ds (.sl hn (B8 cs) cs.length hc), .sl bn (B8 bs) bs.length bc, .sl rn (B8 rs) rs.length rc] (fun _ => none)).map (·.1) = some (.v (.bool true)) := by
  obtain ⟨_, _, _, _, _, _, _, _, hs, hd, bS, bD, bC, _⟩ := id_of hg
  have b1 : ¬ (2000 : Int) < (bs.length : Int) := by omega
  have b2 : ¬ (2000 : Int) < (rs.length : Int) := by omega
  have b3 : ¬ (2000 : Int) < (cs.length : Int) := by omega
  have b4 : bs.length ≤ 500000 := by omega
  have b5 : bs.length ≤ 549755813888 := by omega
  have b6 : bs.take bs.length = bs := List.take_length
  have b7 : bs.length ≤ 9223372036854775807 := by omega
  have b8 : cs.length ≤ 500000 := by omega
  have b9 : cs.take cs.length = cs := List.take_length
  have a1 := asI4_at (tos := tos) (id := id) (df := df) (ttl := ttl) (pr := pr) (cs := cs) (len := cs.length) hs hd rfl
  have be2 : (e2 == 0) = false := by simp [ne2]
  obtain ⟨r1, Sl, El, Cl, Ql⟩ := hR
  have k1 : C.length ≤ 500000 := by omega
  have k2 : C.take C.length = C := List.take_length
  have k3 : Q.take Q.length = Q := List.take_length
  have k4 := asI4_at (tos := tos2) (id := id2) (df := df2) (ttl := ttl2) (pr := pr2) (cs := C) (len := C.length) Sl El rfl
  have k5 : Q.length ≤ 9223372036854775807 := by omega
  have q1 : ¬ (V.length : Int) < 20 := by omega
  have q2 : ¬ (bs.length : Int) < (V.length : Int) := by omega
  have q3 : V.length ≤ 9223372036854775807 := by omega
  have q4 : V.take V.length = V := List.take_length
  have q5 : V.length ≤ 549755813888 := by omega
  have q6 : (10 : Int) < (V.length : Int) := by omega
  have q7 : (11 : Int) < (V.length : Int) := by omega
  have q8 : 10 ≤ V.length := by omega
  have q9 : 11 ≤ V.length := by omega
  have p0 : 10 < V.length := by omega
  have p1 : 11 < V.length := by omega
  have p2 : 12 ≤ V.length := by omega
  have p3 : (V.length : Int) ≤ (bs.length : Int) := by omega
  have p4 : min V.length bs.length = V.length := by omega
  have a10 := B8_at0 X 10 (by omega)
  have a11 := B8_at0 X 11 (by omega)
  have xt : X.take V.length = X := List.take_of_length_le (by omega)
  have zm := fun (X Y : List Int) (y : Int) => B8_mid' X Y y
  rw [pvCall_own (fn := Try.f7) rfl Try.func7 rfl (by decide) rfl rfl (by simp)]
  simp -implicitDefEqProofs [b1, b2, b3, b4, b5, b6, b7, b8, b9, a1, hz, hrz, hg, hs, hd, fKnown3, fIP4, fW4, fSame4, fOf, hW, ip4A, splice, B8t16 hs, B8d16 hs, B8t16 hd, B8d16 hd, B8t33 hs, B8t17 hd, B8d32 hs, B8g32 hs, B8g16 hd, B8g16 hs, Nat.testBit_eq_decide_div_mod_eq, asB8_nil'', errC, ne2, be2, r1, hg2, hV, k1, k2, k3, k4, k5, Sl, El, B8t16 Sl, B8d16 Sl, B8t16 El, B8d16 El, B8t33 Sl, B8t17 El, B8d32 Sl, B8g32 Sl, B8g16 El, B8g16 Sl, wC, q1, q2, q3, q4, q5, q6, q7, q8, q9, p0, p1, p2, p3, p4, hV1, hV2, hX, hXl, hYl, q10, q11, hX1, hX2, a10, a11, xt, zm]
set_option maxHeartbeats 16000000 in
theorem ip4b_oe (tos id : Int) (df : Bool) (ttl pr : Int) (ss ds cs bs rs : List Int) (hn bn rn : Bool) (hc bc rc : Option Nat) (hb : bs.length ≤ 2000) (hrl : rs.length ≤ 2000) (hz : bytesB bs = true) (hrz : bytesB rs = true) (hg : good4 tos id ttl pr ss ds cs) (hcs : cs.length ≤ 2000) (W : List Int) (hW : w4V tos id df ttl pr ss ds cs bs = wC W) (hWl : W.length ≤ 5000) (hWg : bs.length + 20 ≤ W.length) (hWb : bytesB W = true) (hWs : ofV (W.take (W.length - bs.length)) = 0) (hWr : ip4V (W ++ rs) = (.tup [ip4A tos id df ttl pr ss ds (.own 0 0 0 cs.length 1 (.whole 5)), .own 1 0 0 bs.length 1 (.whole 5), .v (.int .i64 0)], [B8 cs, B8 bs]))
    (e1 : Int) (ne1 : ¬ e1 = 0) (hR : ip4V bs = err4 e1) : (pvCall Try.prog KH Dm 100000 1 0 7 [ip4A tos id df ttl pr ss ds (.sl hn (B8 cs) cs.length hc), .sl bn (B8 bs) bs.length bc, .sl rn (B8 rs) rs.length rc] (fun _ => none)).map (·.1) = some (.v (.bool true)) := by
  obtain ⟨_, _, _, _, _, _, _, _, hs, hd, bS, bD, bC, _⟩ := id_of hg
  have b1 : ¬ (2000 : Int) < (bs.length : Int) := by omega
  have b2 : ¬ (2000 : Int) < (rs.length : Int) := by omega
  have b3 : ¬ (2000 : Int) < (cs.length : Int) := by omega
  have b4 : bs.length ≤ 500000 := by omega
  have b5 : bs.length ≤ 549755813888 := by omega
  have b6 : bs.take bs.length = bs := List.take_length
  have b7 : bs.length ≤ 9223372036854775807 := by omega
  have b8 : cs.length ≤ 500000 := by omega
  have b9 : cs.take cs.length = cs := List.take_length
  have a1 := asI4_at (tos := tos) (id := id) (df := df) (ttl := ttl) (pr := pr) (cs := cs) (len := cs.length) hs hd rfl
  have w1 : W.length ≤ 549755813888 := by omega
  have w2 : W.take W.length = W := List.take_length
  have w3 : W.length + rs.length ≤ 549755813888 := by omega
  have w4 : (W ++ rs).take (W.length + rs.length) = W ++ rs := List.take_of_length_le (by simp)
  have w5 : (W ++ rs).length = W.length + rs.length := by simp
  have w6 : W.length + rs.length ≤ 500000 := by omega
  have w7 : bytesB (W ++ rs) = true := by rw [bytesB_append, hWb, hrz]; rfl
  have w8 : IntKind.i64.wrap ((bs.length : Int) + 20) = (bs.length : Int) + 20 := wrap64_id (by omega) (by omega)
  have w9 : ¬ (W.length : Int) < (bs.length : Int) + 20 := by omega
  have w10 : IntKind.i64.wrap ((W.length : Int) - (bs.length : Int)) = ((W.length - bs.length : Nat) : Int) := by rw [wrap64_id (by omega) (by omega)]; omega
  generalize hM : W.length - bs.length = M at *
  have w11 : (M : Int) ≤ (W.length : Int) := by omega
  have w12 : M ≤ W.length := by omega
  have w13 : bytesB (W.take M) = true := bytesB_take hWb M
  have w14 : M ≤ 1099511627776 := by omega
  have w15 : min M W.length = M := by omega
  have be1 : (e1 != 0) = true := by simp [ne1]
  rw [pvCall_own (fn := Try.f7) rfl Try.func7 rfl (by decide) rfl rfl (by simp)]
  simp -implicitDefEqProofs [b1, b2, b3, b4, b5, b6, b7, b8, b9, a1, hz, hrz, hg, hs, hd, fKnown3, fIP4, fW4, fSame4, fOf, hW, ip4A, splice, B8t16 hs, B8d16 hs, B8t16 hd, B8d16 hd, B8t33 hs, B8t17 hd, B8d32 hs, B8g32 hs, B8g16 hd, B8g16 hs, Nat.testBit_eq_decide_div_mod_eq, asB8_nil'', wC, hWr, hWs, w1, w2, w3, w4, w5, w6, w7, w8, w9, w10, w11, w12, w13, w14, w15, err4, noH4, hR, ne1, be1, zz_len, B8t16 zz_len, B8d16 zz_len, B8t33 zz_len, B8t17 zz_len, B8d32 zz_len, B8g32 zz_len, B8g16 zz_len]
set_option maxHeartbeats 16000000 in
theorem ip4b_ol (tos id : Int) (df : Bool) (ttl pr : Int) (ss ds cs bs rs : List Int) (hn bn rn : Bool) (hc bc rc : Option Nat) (hb : bs.length ≤ 2000) (hrl : rs.length ≤ 2000) (hz : bytesB bs = true) (hrz : bytesB rs = true) (hg : good4 tos id ttl pr ss ds cs) (hcs : cs.length ≤ 2000) (W : List Int) (hW : w4V tos id df ttl pr ss ds cs bs = wC W) (hWl : W.length ≤ 5000) (hWg : bs.length + 20 ≤ W.length) (hWb : bytesB W = true) (hWs : ofV (W.take (W.length - bs.length)) = 0) (hWr : ip4V (W ++ rs) = (.tup [ip4A tos id df ttl pr ss ds (.own 0 0 0 cs.length 1 (.whole 5)), .own 1 0 0 bs.length 1 (.whole 5), .v (.int .i64 0)], [B8 cs, B8 bs]))
    (S E C Q : List Int) (tos2 id2 : Int) (df2 : Bool) (ttl2 pr2 : Int) (hR : OkR4 bs S E C Q tos2 id2 df2 ttl2 pr2) (hg2 : good4 tos2 id2 ttl2 pr2 S E C) (hV : w4V tos2 id2 df2 ttl2 pr2 S E C Q = errC 3) (hq : 1660 < 20 + C.length + Q.length) : (pvCall Try.prog KH Dm 100000 1 0 7 [ip4A tos id df ttl pr ss ds (.sl hn (B8 cs) cs.length hc), .sl bn (B8 bs) bs.length bc, .sl rn (B8 rs) rs.length rc] (fun _ => none)).map (·.1) = some (.v (.bool true)) := by
  obtain ⟨_, _, _, _, _, _, _, _, hs, hd, bS, bD, bC, _⟩ := id_of hg
  have b1 : ¬ (2000 : Int) < (bs.length : Int) := by omega
  have b2 : ¬ (2000 : Int) < (rs.length : Int) := by omega
  have b3 : ¬ (2000 : Int) < (cs.length : Int) := by omega
  have b4 : bs.length ≤ 500000 := by omega
  have b5 : bs.length ≤ 549755813888 := by omega
  have b6 : bs.take bs.length = bs := List.take_length
  have b7 : bs.length ≤ 9223372036854775807 := by omega
  have b8 : cs.length ≤ 500000 := by omega
  have b9 : cs.take cs.length = cs := List.take_length
  have a1 := asI4_at (tos := tos) (id := id) (df := df) (ttl := ttl) (pr := pr) (cs := cs) (len := cs.length) hs hd rfl
  have w1 : W.length ≤ 549755813888 := by omega
  have w2 : W.take W.length = W := List.take_length
  have w3 : W.length + rs.length ≤ 549755813888 := by omega
  have w4 : (W ++ rs).take (W.length + rs.length) = W ++ rs := List.take_of_length_le (by simp)
  have w5 : (W ++ rs).length = W.length + rs.length := by simp
  have w6 : W.length + rs.length ≤ 500000 := by omega
  have w7 : bytesB (W ++ rs) = true := by rw [bytesB_append, hWb, hrz]; rfl
  have w8 : IntKind.i64.wrap ((bs.length : Int) + 20) = (bs.length : Int) + 20 := wrap64_id (by omega) (by omega)
  have w9 : ¬ (W.length : Int) < (bs.length : Int) + 20 := by omega
  have w10 : IntKind.i64.wrap ((W.length : Int) - (bs.length : Int)) = ((W.length - bs.length : Nat) : Int) := by rw [wrap64_id (by omega) (by omega)]; omega
  generalize hM : W.length - bs.length = M at *
  have w11 : (M : Int) ≤ (W.length : Int) := by omega
  have w12 : M ≤ W.length := by omega
  have w13 : bytesB (W.take M) = true := bytesB_take hWb M
  have w14 : M ≤ 1099511627776 := by omega
  have w15 : min M W.length = M := by omega
  obtain ⟨r1, Sl, El, Cl, Ql⟩ := hR
  have k1 : C.length ≤ 500000 := by omega
  have k2 : C.take C.length = C := List.take_length
  have k3 : Q.take Q.length = Q := List.take_length
  have k4 := asI4_at (tos := tos2) (id := id2) (df := df2) (ttl := ttl2) (pr := pr2) (cs := C) (len := C.length) Sl El rfl
  have k5 : Q.length ≤ 9223372036854775807 := by omega
  have q1 : IntKind.i64.wrap ((C.length : Int) + (Q.length : Int)) = (C.length : Int) + (Q.length : Int) := wrap64_id (by omega) (by omega)
  have q2 : IntKind.i64.wrap ((C.length : Int) + (Q.length : Int) + 20) = (C.length : Int) + (Q.length : Int) + 20 := wrap64_id (by omega) (by omega)
  have q3 : (1660 : Int) < (C.length : Int) + (Q.length : Int) + 20 := by omega
  rw [pvCall_own (fn := Try.f7) rfl Try.func7 rfl (by decide) rfl rfl (by simp)]
  simp -implicitDefEqProofs [b1, b2, b3, b4, b5, b6, b7, b8, b9, a1, hz, hrz, hg, hs, hd, fKnown3, fIP4, fW4, fSame4, fOf, hW, ip4A, splice, B8t16 hs, B8d16 hs, B8t16 hd, B8d16 hd, B8t33 hs, B8t17 hd, B8d32 hs, B8g32 hs, B8g16 hd, B8g16 hs, Nat.testBit_eq_decide_div_mod_eq, asB8_nil'', wC, hWr, hWs, w1, w2, w3, w4, w5, w6, w7, w8, w9, w10, w11, w12, w13, w14, w15, r1, hg2, hV, k1, k2, k3, k4, k5, Sl, El, B8t16 Sl, B8d16 Sl, B8t16 El, B8d16 El, B8t33 Sl, B8t17 El, B8d32 Sl, B8g32 Sl, B8g16 El, B8g16 Sl, errC, q1, q2, q3]
set_option maxHeartbeats 16000000 in
theorem ip4b_ow (tos id : Int) (df : Bool) (ttl pr : Int) (ss ds cs bs rs : List Int) (hn bn rn : Bool) (hc bc rc : Option Nat) (hb : bs.length ≤ 2000) (hrl : rs.length ≤ 2000) (hz : bytesB bs = true) (hrz : bytesB rs = true) (hg : good4 tos id ttl pr ss ds cs) (hcs : cs.length ≤ 2000) (W : List Int) (hW : w4V tos id df ttl pr ss ds cs bs = wC W) (hWl : W.length ≤ 5000) (hWg : bs.length + 20 ≤ W.length) (hWb : bytesB W = true) (hWs : ofV (W.take (W.length - bs.length)) = 0) (hWr : ip4V (W ++ rs) = (.tup [ip4A tos id df ttl pr ss ds (.own 0 0 0 cs.length 1 (.whole 5)), .own 1 0 0 bs.length 1 (.whole 5), .v (.int .i64 0)], [B8 cs, B8 bs]))
    (S E C Q : List Int) (tos2 id2 : Int) (df2 : Bool) (ttl2 pr2 : Int) (hR : OkR4 bs S E C Q tos2 id2 df2 ttl2 pr2) (hg2 : good4 tos2 id2 ttl2 pr2 S E C) (V : List Int) (hV : w4V tos2 id2 df2 ttl2 pr2 S E C Q = wC V) (hV1 : 20 ≤ V.length) (hV2 : V.length ≤ bs.length) (hV3 : bs.take V.length = V) (q10 : ¬ gb V 10 = 255) : (pvCall Try.prog KH Dm 100000 1 0 7 [ip4A tos id df ttl pr ss ds (.sl hn (B8 cs) cs.length hc), .sl bn (B8 bs) bs.length bc, .sl rn (B8 rs) rs.length rc] (fun _ => none)).map (·.1) = some (.v (.bool true)) := by
  obtain ⟨_, _, _, _, _, _, _, _, hs, hd, bS, bD, bC, _⟩ := id_of hg
  have b1 : ¬ (2000 : Int) < (bs.length : Int) := by omega
  have b2 : ¬ (2000 : Int) < (rs.length : Int) := by omega
  have b3 : ¬ (2000 : Int) < (cs.length : Int) := by omega
  have b4 : bs.length ≤ 500000 := by omega
  have b5 : bs.length ≤ 549755813888 := by omega
  have b6 : bs.take bs.length = bs := List.take_length
  have b7 : bs.length ≤ 9223372036854775807 := by omega
  have b8 : cs.length ≤ 500000 := by omega
  have b9 : cs.take cs.length = cs := List.take_length
  have a1 := asI4_at (tos := tos) (id := id) (df := df) (ttl := ttl) (pr := pr) (cs := cs) (len := cs.length) hs hd rfl
  have w1 : W.length ≤ 549755813888 := by omega
  have w2 : W.take W.length = W := List.take_length
  have w3 : W.length + rs.length ≤ 549755813888 := by omega
  have w4 : (W ++ rs).take (W.length + rs.length) = W ++ rs := List.take_of_length_le (by simp)
  have w5 : (W ++ rs).length = W.length + rs.length := by simp
  have w6 : W.length + rs.length ≤ 500000 := by omega
  have w7 : bytesB (W ++ rs) = true := by rw [bytesB_append, hWb, hrz]; rfl
  have w8 : IntKind.i64.wrap ((bs.length : Int) + 20) = (bs.length : Int) + 20 := wrap64_id (by omega) (by omega)
  have w9 : ¬ (W.length : Int) < (bs.length : Int) + 20 := by omega
  have w10 : IntKind.i64.wrap ((W.length : Int) - (bs.length : Int)) = ((W.length - bs.length : Nat) : Int) := by rw [wrap64_id (by omega) (by omega)]; omega
  generalize hM : W.length - bs.length = M at *
  have w11 : (M : Int) ≤ (W.length : Int) := by omega
  have w12 : M ≤ W.length := by omega
  have w13 : bytesB (W.take M) = true := bytesB_take hWb M
  have w14 : M ≤ 1099511627776 := by omega
  have w15 : min M W.length = M := by omega
  obtain ⟨r1, Sl, El, Cl, Ql⟩ := hR
  have k1 : C.length ≤ 500000 := by omega
  have k2 : C.take C.length = C := List.take_length
  have k3 : Q.take Q.length = Q := List.take_length
  have k4 := asI4_at (tos := tos2) (id := id2) (df := df2) (ttl := ttl2) (pr := pr2) (cs := C) (len := C.length) Sl El rfl
  have k5 : Q.length ≤ 9223372036854775807 := by omega
  have q1 : ¬ (V.length : Int) < 20 := by omega
  have q2 : ¬ (bs.length : Int) < (V.length : Int) := by omega
  have q3 : V.length ≤ 9223372036854775807 := by omega
  have q4 : V.take V.length = V := List.take_length
  have q5 : V.length ≤ 549755813888 := by omega
  have q6 : (10 : Int) < (V.length : Int) := by omega
  have q7 : (11 : Int) < (V.length : Int) := by omega
  have q8 : 10 ≤ V.length := by omega
  have q9 : 11 ≤ V.length := by omega
  have p0 : 10 < V.length := by omega
  have p1 : 11 < V.length := by omega
  have p2 : 12 ≤ V.length := by omega
  have p3 : (V.length : Int) ≤ (bs.length : Int) := by omega
  have p4 : min V.length bs.length = V.length := by omega
  have a10 := B8_at0 V 10 (by omega)
  have a11 := B8_at0 V 11 (by omega)
  have q10e : (gb V 10 == 255) = false := by simp [q10]
  rw [pvCall_own (fn := Try.f7) rfl Try.func7 rfl (by decide) rfl rfl (by simp)]
  simp -implicitDefEqProofs [b1, b2, b3, b4, b5, b6, b7, b8, b9, a1, hz, hrz, hg, hs, hd, fKnown3, fIP4, fW4, fSame4, fOf, hW, ip4A, splice, B8t16 hs, B8d16 hs, B8t16 hd, B8d16 hd, B8t33 hs, B8t17 hd, B8d32 hs, B8g32 hs, B8g16 hd, B8g16 hs, Nat.testBit_eq_decide_div_mod_eq, asB8_nil'', wC, hWr, hWs, w1, w2, w3, w4, w5, w6, w7, w8, w9, w10, w11, w12, w13, w14, w15, r1, hg2, hV, k1, k2, k3, k4, k5, Sl, El, B8t16 Sl, B8d16 Sl, B8t16 El, B8d16 El, B8t33 Sl, B8t17 El, B8d32 Sl, B8g32 Sl, B8g16 El, B8g16 Sl, wC, q1, q2, q3, q4, q5, q6, q7, q8, q9, p0, p1, p2, p3, p4, hV1, hV2, hV3, q10, a10, a11, q10e]
set_option maxHeartbeats 16000000 in
theorem ip4b_ov (tos id : Int) (df : Bool) (ttl pr : Int) (ss ds cs bs rs : List Int) (hn bn rn : Bool) (hc bc rc : Option Nat) (hb : bs.length ≤ 2000) (hrl : rs.length ≤ 2000) (hz : bytesB bs = true) (hrz : bytesB rs = true) (hg : good4 tos id ttl pr ss ds cs) (hcs : cs.length ≤ 2000) (W : List Int) (hW : w4V tos id df ttl pr ss ds cs bs = wC W) (hWl : W.length ≤ 5000) (hWg : bs.length + 20 ≤ W.length) (hWb : bytesB W = true) (hWs : ofV (W.take (W.length - bs.length)) = 0) (hWr : ip4V (W ++ rs) = (.tup [ip4A tos id df ttl pr ss ds (.own 0 0 0 cs.length 1 (.whole 5)), .own 1 0 0 bs.length 1 (.whole 5), .v (.int .i64 0)], [B8 cs, B8 bs]))
    (S E C Q : List Int) (tos2 id2 : Int) (df2 : Bool) (ttl2 pr2 : Int) (hR : OkR4 bs S E C Q tos2 id2 df2 ttl2 pr2) (hg2 : good4 tos2 id2 ttl2 pr2 S E C) (V : List Int) (hV : w4V tos2 id2 df2 ttl2 pr2 S E C Q = wC V) (hV1 : 20 ≤ V.length) (hV2 : V.length ≤ bs.length) (hV3 : bs.take V.length = V) (q10 : gb V 10 = 255) (q11 : ¬ gb V 11 = 255) : (pvCall Try.prog KH Dm 100000 1 0 7 [ip4A tos id df ttl pr ss ds (.sl hn (B8 cs) cs.length hc), .sl bn (B8 bs) bs.length bc, .sl rn (B8 rs) rs.length rc] (fun _ => none)).map (·.1) = some (.v (.bool true)) := by
  obtain ⟨_, _, _, _, _, _, _, _, hs, hd, bS, bD, bC, _⟩ := id_of hg
  have b1 : ¬ (2000 : Int) < (bs.length : Int) := by omega
  have b2 : ¬ (2000 : Int) < (rs.length : Int) := by omega
  have b3 : ¬ (2000 : Int) < (cs.length : Int) := by omega
  have b4 : bs.length ≤ 500000 := by omega
  have b5 : bs.length ≤ 549755813888 := by omega
  have b6 : bs.take bs.length = bs := List.take_length
  have b7 : bs.length ≤ 9223372036854775807 := by omega
  have b8 : cs.length ≤ 500000 := by omega
  have b9 : cs.take cs.length = cs := List.take_length
  have a1 := asI4_at (tos := tos) (id := id) (df := df) (ttl := ttl) (pr := pr) (cs := cs) (len := cs.length) hs hd rfl
  have w1 : W.length ≤ 549755813888 := by omega
  have w2 : W.take W.length = W := List.take_length
  have w3 : W.length + rs.length ≤ 549755813888 := by omega
  have w4 : (W ++ rs).take (W.length + rs.length) = W ++ rs := List.take_of_length_le (by simp)
  have w5 : (W ++ rs).length = W.length + rs.length := by simp
  have w6 : W.length + rs.length ≤ 500000 := by omega
  have w7 : bytesB (W ++ rs) = true := by rw [bytesB_append, hWb, hrz]; rfl
  have w8 : IntKind.i64.wrap ((bs.length : Int) + 20) = (bs.length : Int) + 20 := wrap64_id (by omega) (by omega)
  have w9 : ¬ (W.length : Int) < (bs.length : Int) + 20 := by omega
  have w10 : IntKind.i64.wrap ((W.length : Int) - (bs.length : Int)) = ((W.length - bs.length : Nat) : Int) := by rw [wrap64_id (by omega) (by omega)]; omega
  generalize hM : W.length - bs.length = M at *
  have w11 : (M : Int) ≤ (W.length : Int) := by omega
  have w12 : M ≤ W.length := by omega
  have w13 : bytesB (W.take M) = true := bytesB_take hWb M
  have w14 : M ≤ 1099511627776 := by omega
  have w15 : min M W.length = M := by omega
  obtain ⟨r1, Sl, El, Cl, Ql⟩ := hR
  have k1 : C.length ≤ 500000 := by omega
  have k2 : C.take C.length = C := List.take_length
  have k3 : Q.take Q.length = Q := List.take_length
  have k4 := asI4_at (tos := tos2) (id := id2) (df := df2) (ttl := ttl2) (pr := pr2) (cs := C) (len := C.length) Sl El rfl
  have k5 : Q.length ≤ 9223372036854775807 := by omega
  have q1 : ¬ (V.length : Int) < 20 := by omega
  have q2 : ¬ (bs.length : Int) < (V.length : Int) := by omega
  have q3 : V.length ≤ 9223372036854775807 := by omega
  have q4 : V.take V.length = V := List.take_length
  have q5 : V.length ≤ 549755813888 := by omega
  have q6 : (10 : Int) < (V.length : Int) := by omega
  have q7 : (11 : Int) < (V.length : Int) := by omega
  have q8 : 10 ≤ V.length := by omega
  have q9 : 11 ≤ V.length := by omega
  have p0 : 10 < V.length := by omega
  have p1 : 11 < V.length := by omega
  have p2 : 12 ≤ V.length := by omega
  have p3 : (V.length : Int) ≤ (bs.length : Int) := by omega
  have p4 : min V.length bs.length = V.length := by omega
  have a10 := B8_at0 V 10 (by omega)
  have a11 := B8_at0 V 11 (by omega)
  have q11e : (gb V 11 == 255) = false := by simp [q11]
  rw [pvCall_own (fn := Try.f7) rfl Try.func7 rfl (by decide) rfl rfl (by simp)]
  simp -implicitDefEqProofs [b1, b2, b3, b4, b5, b6, b7, b8, b9, a1, hz, hrz, hg, hs, hd, fKnown3, fIP4, fW4, fSame4, fOf, hW, ip4A, splice, B8t16 hs, B8d16 hs, B8t16 hd, B8d16 hd, B8t33 hs, B8t17 hd, B8d32 hs, B8g32 hs, B8g16 hd, B8g16 hs, Nat.testBit_eq_decide_div_mod_eq, asB8_nil'', wC, hWr, hWs, w1, w2, w3, w4, w5, w6, w7, w8, w9, w10, w11, w12, w13, w14, w15, r1, hg2, hV, k1, k2, k3, k4, k5, Sl, El, B8t16 Sl, B8d16 Sl, B8t16 El, B8d16 El, B8t33 Sl, B8t17 El, B8d32 Sl, B8g32 Sl, B8g16 El, B8g16 Sl, wC, q1, q2, q3, q4, q5, q6, q7, q8, q9, p0, p1, p2, p3, p4, hV1, hV2, hV3, q10, a10, a11, q11, q11e]
set_option maxHeartbeats 16000000 in
theorem ip4b_oz (tos id : Int) (df : Bool) (ttl pr : Int) (ss ds cs bs rs : List Int) (hn bn rn : Bool) (hc bc rc : Option Nat) (hb : bs.length ≤ 2000) (hrl : rs.length ≤ 2000) (hz : bytesB bs = true) (hrz : bytesB rs = true) (hg : good4 tos id ttl pr ss ds cs) (hcs : cs.length ≤ 2000) (W : List Int) (hW : w4V tos id df ttl pr ss ds cs bs = wC W) (hWl : W.length ≤ 5000) (hWg : bs.length + 20 ≤ W.length) (hWb : bytesB W = true) (hWs : ofV (W.take (W.length - bs.length)) = 0) (hWr : ip4V (W ++ rs) = (.tup [ip4A tos id df ttl pr ss ds (.own 0 0 0 cs.length 1 (.whole 5)), .own 1 0 0 bs.length 1 (.whole 5), .v (.int .i64 0)], [B8 cs, B8 bs]))
    (S E C Q : List Int) (tos2 id2 : Int) (df2 : Bool) (ttl2 pr2 : Int) (hR : OkR4 bs S E C Q tos2 id2 df2 ttl2 pr2) (hg2 : good4 tos2 id2 ttl2 pr2 S E C) (V : List Int) (hV : w4V tos2 id2 df2 ttl2 pr2 S E C Q = wC V) (hV1 : 20 ≤ V.length) (hV2 : V.length ≤ bs.length) (X Y : List Int) (hX : bs.take V.length = X) (hXl : X.length = V.length) (hYl : Y.length = V.length) (q10 : gb X 10 = 255) (q11 : gb X 11 = 255) (hX1 : X.take 10 ++ 0 :: X.drop 11 = Y) (hX2 : Y.take 11 ++ 0 :: Y.drop 12 = V) : (pvCall Try.prog KH Dm 100000 1 0 7 [ip4A tos id df ttl pr ss ds (.sl hn (B8 cs) cs.length hc), .sl bn (B8 bs) bs.length bc, .sl rn (B8 rs) rs.length rc] (fun _ => none)).map (·.1) = some (.v (.bool true)) := by
  obtain ⟨_, _, _, _, _, _, _, _, hs, hd, bS, bD, bC, _⟩ := id_of hg
  have b1 : ¬ (2000 : Int) < (bs.length : Int) := by omega
  have b2 : ¬ (2000 : Int) < (rs.length : Int) := by omega
  have b3 : ¬ (2000 : Int) < (cs.length : Int) := by omega
  have b4 : bs.length ≤ 500000 := by omega
  have b5 : bs.length ≤ 549755813888 := by omega
  have b6 : bs.take bs.length = bs := List.take_length
  have b7 : bs.length ≤ 9223372036854775807 := by omega
  have b8 : cs.length ≤ 500000 := by omega
  have b9 : cs.take cs.length = cs := List.take_length
  have a1 := asI4_at (tos := tos) (id := id) (df := df) (ttl := ttl) (pr := pr) (cs := cs) (len := cs.length) hs hd rfl
  have w1 : W.length ≤ 549755813888 := by omega
  have w2 : W.take W.length = W := List.take_length
  have w3 : W.length + rs.length ≤ 549755813888 := by omega
  have w4 : (W ++ rs).take (W.length + rs.length) = W ++ rs := List.take_of_length_le (by simp)
  have w5 : (W ++ rs).length = W.length + rs.length := by simp
  have w6 : W.length + rs.length ≤ 500000 := by omega
  have w7 : bytesB (W ++ rs) = true := by rw [bytesB_append, hWb, hrz]; rfl
  have w8 : IntKind.i64.wrap ((bs.length : Int) + 20) = (bs.length : Int) + 20 := wrap64_id (by omega) (by omega)
  have w9 : ¬ (W.length : Int) < (bs.length : Int) + 20 := by omega
  have w10 : IntKind.i64.wrap ((W.length : Int) - (bs.length : Int)) = ((W.length - bs.length : Nat) : Int) := by rw [wrap64_id (by omega) (by omega)]; omega
  generalize hM : W.length - bs.length = M at *
  have w11 : (M : Int) ≤ (W.length : Int) := by omega
  have w12 : M ≤ W.length := by omega
  have w13 : bytesB (W.take M) = true := bytesB_take hWb M
  have w14 : M ≤ 1099511627776 := by omega
  have w15 : min M W.length = M := by omega
  obtain ⟨r1, Sl, El, Cl, Ql⟩ := hR
  have k1 : C.length ≤ 500000 := by omega
  have k2 : C.take C.length = C := List.take_length
  have k3 : Q.take Q.length = Q := List.take_length
  have k4 := asI4_at (tos := tos2) (id := id2) (df := df2) (ttl := ttl2) (pr := pr2) (cs := C) (len := C.length) Sl El rfl
  have k5 : Q.length ≤ 9223372036854775807 := by omega
  have q1 : ¬ (V.length : Int) < 20 := by omega
  have q2 : ¬ (bs.length : Int) < (V.length : Int) := by omega
  have q3 : V.length ≤ 9223372036854775807 := by omega
  have q4 : V.take V.length = V := List.take_length
  have q5 : V.length ≤ 549755813888 := by omega
  have q6 : (10 : Int) < (V.length : Int) := by omega
  have q7 : (11 : Int) < (V.length : Int) := by omega
  have q8 : 10 ≤ V.length := by omega
  have q9 : 11 ≤ V.length := by omega
  have p0 : 10 < V.length := by omega
  have p1 : 11 < V.length := by omega
  have p2 : 12 ≤ V.length := by omega
  have p3 : (V.length : Int) ≤ (bs.length : Int) := by omega
  have p4 : min V.length bs.length = V.length := by omega
  have a10 := B8_at0 X 10 (by omega)
  have a11 := B8_at0 X 11 (by omega)
  have xt : X.take V.length = X := List.take_of_length_le (by omega)
  have zm := fun (X Y : List Int) (y : Int) => B8_mid' X Y y
  rw [pvCall_own (fn := Try.f7) rfl Try.func7 rfl (by decide) rfl rfl (by simp)]
  simp -implicitDefEqProofs [b1, b2, b3, b4, b5, b6, b7, b8, b9, a1, hz, hrz, hg, hs, hd, fKnown3, fIP4, fW4, fSame4, fOf, hW, ip4A, splice, B8t16 hs, B8d16 hs, B8t16 hd, B8d16 hd, B8t33 hs, B8t17 hd, B8d32 hs, B8g32 hs, B8g16 hd, B8g16 hs, Nat.testBit_eq_decide_div_mod_eq, asB8_nil'', wC, hWr, hWs, w1, w2, w3, w4, w5, w6, w7, w8, w9, w10, w11, w12, w13, w14, w15, r1, hg2, hV, k1, k2, k3, k4, k5, Sl, El, B8t16 Sl, B8d16 Sl, B8t16 El, B8d16 El, B8t33 Sl, B8t17 El, B8d32 Sl, B8g32 Sl, B8g16 El, B8g16 Sl, wC, q1, q2, q3, q4, q5, q6, q7, q8, q9, p0, p1, p2, p3, p4, hV1, hV2, hX, hXl, hYl, q10, q11, hX1, hX2, a10, a11, xt, zm]
end Go.Proofs.Ytcbjjkpjbdcakaa

