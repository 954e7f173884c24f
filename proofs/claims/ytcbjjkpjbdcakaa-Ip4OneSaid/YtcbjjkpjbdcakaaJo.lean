/- The law Ip4One as a function of values. -/
import Derived.Test.YtcbjjkpjbdcakaaJn
namespace Go.Proofs.Ytcbjjkpjbdcakaa
open Go.Pm Go.Wb
set_option linter.unusedVariables false
set_option linter.unusedSimpArgs false
set_option maxRecDepth 1000000
set_option maxHeartbeats 16000000 in
theorem ip4o_e (tos id : Int) (df : Bool) (ttl pr : Int) (ss ds cs bs : List Int) (hn bn : Bool) (hc bc : Option Nat) (at_ : Int) (hb : bs.length ≤ 9223372036854775807) (hg : good4 tos id ttl pr ss ds cs) (e : Int) (ne : ¬ e = 0) (hW : w4V tos id df ttl pr ss ds cs bs = errC e) : (pvCall Try.prog KH Dm 100000 1 0 8 [ip4A tos id df ttl pr ss ds (.sl hn (B8 cs) cs.length hc), .sl bn (B8 bs) bs.length bc, .v (.int .i64 at_)] (fun _ => none)).map (·.1) = some (.v (.bool true)) := by
  obtain ⟨_, _, _, _, _, _, _, _, hs, hd, bS, bD, bC, hcl⟩ := id_of hg
  have b9 : cs.take cs.length = cs := List.take_length
  have a1 := asI4_at (tos := tos) (id := id) (df := df) (ttl := ttl) (pr := pr) (cs := cs) (len := cs.length) hs hd rfl
  have be : (e != 0) = true := by simp [ne]
  have be2 : (e == 0) = false := by simp [ne]
  rw [pvCall_own (fn := Try.f8) rfl Try.func8 rfl (by decide) rfl rfl (by simp)]
  simp -implicitDefEqProofs [hb, b9, a1, hg, hs, hd, fKnown3, fIP4, fW4, hW, ip4A, splice, B8t16 hs, B8d16 hs, B8t16 hd, B8d16 hd, B8t33 hs, B8t17 hd, B8d32 hs, B8g32 hs, B8g16 hd, B8g16 hs, Nat.testBit_eq_decide_div_mod_eq, errC, ne, be, be2]
set_option maxHeartbeats 16000000 in
theorem ip4o_l (tos id : Int) (df : Bool) (ttl pr : Int) (ss ds cs bs : List Int) (hn bn : Bool) (hc bc : Option Nat) (at_ : Int) (hb : bs.length ≤ 9223372036854775807) (hg : good4 tos id ttl pr ss ds cs) (W : List Int) (hW : w4V tos id df ttl pr ss ds cs bs = wC W) (hlb : 1500 < bs.length) : (pvCall Try.prog KH Dm 100000 1 0 8 [ip4A tos id df ttl pr ss ds (.sl hn (B8 cs) cs.length hc), .sl bn (B8 bs) bs.length bc, .v (.int .i64 at_)] (fun _ => none)).map (·.1) = some (.v (.bool true)) := by
  obtain ⟨_, _, _, _, _, _, _, _, hs, hd, bS, bD, bC, hcl⟩ := id_of hg
  have b9 : cs.take cs.length = cs := List.take_length
  have a1 := asI4_at (tos := tos) (id := id) (df := df) (ttl := ttl) (pr := pr) (cs := cs) (len := cs.length) hs hd rfl
  have q : (1500 : Int) < (bs.length : Int) := by omega
  rw [pvCall_own (fn := Try.f8) rfl Try.func8 rfl (by decide) rfl rfl (by simp)]
  simp -implicitDefEqProofs [hb, b9, a1, hg, hs, hd, fKnown3, fIP4, fW4, hW, ip4A, splice, B8t16 hs, B8d16 hs, B8t16 hd, B8d16 hd, B8t33 hs, B8t17 hd, B8d32 hs, B8g32 hs, B8g16 hd, B8g16 hs, Nat.testBit_eq_decide_div_mod_eq, wC, q]
set_option maxHeartbeats 16000000 in
theorem ip4o_o (tos id : Int) (df : Bool) (ttl pr : Int) (ss ds cs bs : List Int) (hn bn : Bool) (hc bc : Option Nat) (at_ : Int) (hb : bs.length ≤ 9223372036854775807) (hg : good4 tos id ttl pr ss ds cs) (W : List Int) (hW : w4V tos id df ttl pr ss ds cs bs = wC W) (hlb : bs.length ≤ 1500) (n i k : Nat) (hWl : W.length = n + bs.length) (hWm : W.length ≤ 1660) (hWb : bytesB W = true) (h20 : 20 ≤ n) (hk : k < 8) (hi : i < n) (hat : 8 + (IntKind.u64.wrap at_).tmod (8 * (n : Int) - 8) = ((8 * i + k : Nat) : Int)) (U : List Int) (hU : W.set i (bits .xor .u8 (gb W i) (2 ^ k)) = U) (hUb : bytesB U = true) (hV : ip4V U = err4 6) : (pvCall Try.prog KH Dm 100000 1 0 8 [ip4A tos id df ttl pr ss ds (.sl hn (B8 cs) cs.length hc), .sl bn (B8 bs) bs.length bc, .v (.int .i64 at_)] (fun _ => none)).map (·.1) = some (.v (.bool true)) := by
  obtain ⟨_, _, _, _, _, _, _, _, hs, hd, bS, bD, bC, hcl⟩ := id_of hg
  have b9 : cs.take cs.length = cs := List.take_length
  have a1 := asI4_at (tos := tos) (id := id) (df := df) (ttl := ttl) (pr := pr) (cs := cs) (len := cs.length) hs hd rfl
  have q1 : ¬ (1500 : Int) < (bs.length : Int) := by omega
  have q2 : IntKind.i64.wrap ((W.length : Int) - (bs.length : Int)) = (n : Int) := by rw [wrap64_id (by omega) (by omega)]; omega
  rw [hWl] at hWm
  have q2' : IntKind.i64.wrap ((n : Int) + (bs.length : Int) - (bs.length : Int)) = (n : Int) := by rw [wrap64_id (by omega) (by omega)]; omega
  have q3 : ¬ (n : Int) + (bs.length : Int) < 20 := by omega
  have q4 : ¬ (n : Int) < 20 := by omega
  have q5 : IntKind.i64.wrap (8 * (n : Int)) = 8 * (n : Int) := wrap64_id (by omega) (by omega)
  have q6 : IntKind.i64.wrap (8 * (n : Int) - 8) = 8 * (n : Int) - 8 := wrap64_id (by omega) (by omega)
  have q7 : IntKind.u64.wrap (8 * (n : Int) - 8) = 8 * (n : Int) - 8 := by simp [IntKind.wrap, IntKind.signed, IntKind.bits]; omega
  have m0 : 0 ≤ IntKind.u64.wrap at_ := by simp [IntKind.wrap, IntKind.signed, IntKind.bits]; omega
  have m1 := Int.tmod_nonneg (8 * (n : Int) - 8) m0
  have m2 := Int.tmod_lt_of_pos (IntKind.u64.wrap at_) (show (0 : Int) < 8 * (n : Int) - 8 by omega)
  obtain ⟨m, hm⟩ : ∃ m, (IntKind.u64.wrap at_).tmod (8 * (n : Int) - 8) = m := ⟨_, rfl⟩
  rw [hm] at hat m1 m2
  have q8 : IntKind.i64.wrap m = m := wrap64_id (by omega) (by omega)
  have q7u : IntKind.u64.wrap m = m := by simp [IntKind.wrap, IntKind.signed, IntKind.bits]; omega
  have q9 : IntKind.i64.wrap (8 + m) = ((8 * i + k : Nat) : Int) := by rw [wrap64_id (by omega) (by omega)]; omega
  have q9' : IntKind.i64.wrap (8 + m) = 8 * (i : Int) + (k : Int) := by rw [wrap64_id (by omega) (by omega)]; omega
  have q10 : (8 * (i : Int) + (k : Int)).tdiv 8 = (i : Int) := by rw [Int.tdiv_eq_ediv_of_nonneg (by omega)]; omega
  have q11 : (8 * (i : Int) + (k : Int)).tmod 8 = (k : Int) := by rw [Int.tmod_eq_emod_of_nonneg (by omega)]; omega
  have q12 : IntKind.i64.wrap (i : Int) = (i : Int) := wrap64_id (by omega) (by omega)
  have q13 : IntKind.i64.wrap (k : Int) = (k : Int) := wrap64_id (by omega) (by omega)
  have q14 : (i : Int) < (n : Int) + (bs.length : Int) := by omega
  have q15 : i ≤ n + bs.length := by omega
  have q16 : i < n + bs.length := by omega
  have q17 : i + 1 ≤ n + bs.length := by omega
  have q18 : n + bs.length ≤ 500000 := by omega
  have a10 := B8_at0 W i (by omega)
  have zm := fun (X Y : List Int) (y : Int) => B8_mid' X Y y
  have hU2 : W.take i ++ bits .xor .u8 (gb W i) (2 ^ k) :: W.drop (i + 1) = U := by
    rw [← hU, List.set_eq_take_append_cons_drop, if_pos (by omega)]
  have hUl : U.length = n + bs.length := by rw [← hU, List.length_set]; exact hWl
  have hUt : U.take (n + bs.length) = U := List.take_of_length_le (by omega)
  have hWt : W.take (n + bs.length) = W := List.take_of_length_le (by omega)
  have q0 : IntKind.i64.wrap (n : Int) = (n : Int) := wrap64_id (by omega) (by omega)
  have k8 : min k 8 = k := by omega
  have kp : (2 : Int) ^ k ≤ 128 ∧ 0 < (2 : Int) ^ k := by
    match k, hk with
    | 0, _ => decide
    | 1, _ => decide
    | 2, _ => decide
    | 3, _ => decide
    | 4, _ => decide
    | 5, _ => decide
    | 6, _ => decide
    | 7, _ => decide
  have k9 : IntKind.u8.wrap ((2 : Int) ^ k) = (2 : Int) ^ k := wrapu8_id (by omega) (by omega)
  have q19 : ¬ 8 * (n : Int) - 8 = 0 := by omega
  rw [pvCall_own (fn := Try.f8) rfl Try.func8 rfl (by decide) rfl rfl (by simp)]
  simp -implicitDefEqProofs [hb, b9, a1, hg, hs, hd, fKnown3, fIP4, fW4, hW, ip4A, splice, B8t16 hs, B8d16 hs, B8t16 hd, B8d16 hd, B8t33 hs, B8t17 hd, B8d32 hs, B8g32 hs, B8g16 hd, B8g16 hs, Nat.testBit_eq_decide_div_mod_eq, wC, IntKind.bits, q0, k8, k9, hWl, q1, q2, q2', q3, q4, q5, q6, q7, q8, q7u, q9', q10, q11, q12, q13, q14, q15, q16, q17, q18, q19, a10, zm, hm, hU2, hUl, hUt, hWt, hUb, hV, err4, noH4, zz_len, B8t16 zz_len, B8d16 zz_len, B8t33 zz_len, B8t17 zz_len, B8d32 zz_len, B8g32 zz_len, B8g16 zz_len]
end Go.Proofs.Ytcbjjkpjbdcakaa

