/- The law Ip6Packets as a function of values. -/
import Derived.Test.YtcbjjkpjbdcakaaGg
namespace Go.Proofs.Ytcbjjkpjbdcakaa
open Go.Pm Go.Wb
set_option linter.unusedVariables false
set_option linter.unusedSimpArgs false
set_option maxRecDepth 1000000
def fChainN : Fun := fun args => fChain (args.map AV.norm)
def KD0 : Nat → Option Con
  | 41 => some fChainN
  | _ => none
theorem kd0_ok : KOk Try.prog KD0 := fun f F h => by
  unfold KD0 at h
  split at h
  · cases h; exact ⟨chain_pure.norm, _, Try.func41, rfl, by decide⟩
  · cases h
theorem cd0_chain {D : FuncId → Nat → List Nat} {L d px : Nat} {args : List AV} {m : Mem} : pvCall Try.prog KD0 D L d px 41 args m = callBy fChainN m px args := pvCall_by rfl
theorem kd0_chain : KD0 41 = some (.pure fChainN) := rfl
theorem kn1 : chainF 9 17 [] 0 0 = (17, 0, 0) := by decide
theorem kn2 : chainF 9 60 [17, 0, 0, 0, 0, 0, 0, 0] 0 0 = (17, 8, 0) := by decide
theorem kn3 : chainF 9 44 [6, 0, 0, 1, 0, 0, 0, 0] 0 0 = (0, 0, 11) := by decide
set_option maxHeartbeats 8000000 in
theorem known4_run : runF Try.prog KD0 Dm 100000 1 35 [] = some (.v (.bool true), []) := by
  unfold runF
  rw [pvCall_own (fn := Try.f35) rfl Try.func35 rfl (by decide) rfl rfl (by simp)]
  simp -implicitDefEqProofs [cd0_chain, kd0_chain, fChainN, fChain, asB8_nil'', asB8_cons'', splice, bytesB, chainV, kn1, kn2, kn3, List.replicate_succ, Nat.testBit_eq_decide_div_mod_eq]
def fKnown4 : Fun
  | [] => some (.v (.bool true), [])
  | _ => none
theorem known4_pure : Pure Try.prog 35 fKnown4 := (runF_pure kd0_ok follows_mixed dm_ok 100000 1 35).weaken fun args r h => by
  unfold fKnown4 at h
  split at h
  · rw [← h]; exact known4_run
  · cases h
noncomputable def KD : Nat → Option Con
  | 41 => some fChainN
  | 42 => some fChainN
  | 36 => some fIP6
  | 37 => some fIP6
  | 39 => some fW6
  | 40 => some fW6
  | 38 => some fSame6
  | 35 => some fKnown4
  | _ => none
theorem kd_ok : KOk Try.prog KD := fun f F h => by
  unfold KD at h
  split at h
  · cases h; exact ⟨chain_pure.norm, _, Try.func41, rfl, by decide⟩
  · cases h; exact ⟨rchain_pure.norm, _, Try.func42, rfl, by decide⟩
  · cases h; exact ⟨ip6_pure, _, Try.func36, rfl, by decide⟩
  · cases h; exact ⟨rip6_pure, _, Try.func37, rfl, by decide⟩
  · cases h; exact ⟨w6_pure, _, Try.func39, rfl, by decide⟩
  · cases h; exact ⟨rw6_pure, _, Try.func40, rfl, by decide⟩
  · cases h; exact ⟨same6_pure, _, Try.func38, rfl, by decide⟩
  · cases h; exact ⟨known4_pure, _, Try.func35, rfl, by decide⟩
  · cases h
section
variable {D : FuncId → Nat → List Nat} {L d px : Nat} {args : List AV} {m : Mem}
theorem cd_chain : pvCall Try.prog KD D L d px 41 args m = callBy fChainN m px args := pvCall_by rfl
theorem cd_rchain : pvCall Try.prog KD D L d px 42 args m = callBy fChainN m px args := pvCall_by rfl
theorem cd_read : pvCall Try.prog KD D L d px 36 args m = callBy fIP6 m px args := pvCall_by rfl
theorem cd_rread : pvCall Try.prog KD D L d px 37 args m = callBy fIP6 m px args := pvCall_by rfl
theorem cd_write : pvCall Try.prog KD D L d px 39 args m = callBy fW6 m px args := pvCall_by rfl
theorem cd_rwrite : pvCall Try.prog KD D L d px 40 args m = callBy fW6 m px args := pvCall_by rfl
theorem cd_same : pvCall Try.prog KD D L d px 38 args m = callBy fSame6 m px args := pvCall_by rfl
theorem cd_known : pvCall Try.prog KD D L d px 35 args m = callBy fKnown4 m px args := pvCall_by rfl
end
theorem kd_chain : KD 41 = some (.pure fChainN) := rfl
theorem kd_rchain : KD 42 = some (.pure fChainN) := rfl
theorem kd_read : KD 36 = some (.pure fIP6) := rfl
theorem kd_rread : KD 37 = some (.pure fIP6) := rfl
theorem kd_write : KD 39 = some (.pure fW6) := rfl
theorem kd_rwrite : KD 40 = some (.pure fW6) := rfl
theorem kd_same : KD 38 = some (.pure fSame6) := rfl
theorem kd_known : KD 35 = some (.pure fKnown4) := rfl
attribute [simp] cd_chain cd_rchain cd_read cd_rread cd_write cd_rwrite cd_same cd_known kd_chain kd_rchain kd_read kd_rread kd_write kd_rwrite kd_same kd_known
@[simp] theorem z16_len : z16.length = 16 := rfl
theorem B8_mid (X Y : List Int) (y : Int) : B8 X ++ (AV.v (.int .u8 y) :: B8 Y) = B8 (X ++ y :: Y) := by simp [B8]
def OkR (bs S E C Q : List Int) (cl la nx pr ho : Int) : Prop := ip6V bs = (.tup [ip6A cl la nx pr ho S E (.own 0 0 0 C.length 1 (.whole 5)), .own 1 0 0 Q.length 1 (.whole 5), .v (.int .i64 0)], [B8 C, B8 Q]) ∧ S.length = 16 ∧ E.length = 16 ∧ C.length ≤ 5000 ∧ Q.length ≤ 5000
set_option maxHeartbeats 16000000 in
theorem ip6p_ee (cl la nx pr ho : Int) (ss ds cs bs : List Int) (hn bn : Bool) (hc bc : Option Nat) (next : Int) (hb : bs.length ≤ 4000) (hz : bytesB bs = true) (hg : good6 cl la nx pr ho ss ds cs) (hcs : cs.length ≤ 4000) (x0 : 0 ≤ next) (x1 : next ≤ 255) (e1 : Int) (ne1 : ¬ e1 = 0) (hR : ip6V bs = err6 e1)
    (e2 : Int) (hW : w6V cl la nx pr ho ss ds cs bs = errB e2) : (pvCall Try.prog KD Dm 100000 1 0 9 [ip6A cl la nx pr ho ss ds (.sl hn (B8 cs) cs.length hc), .sl bn (B8 bs) bs.length bc, .v (.int .u8 next)] (fun _ => none)).map (·.1) = some (.v (.bool true)) := by
  have r1 := hR
  have be1 : (e1 != 0) = true := by simp [ne1]
  have k4 := asI6_at (cl := 0) (la := 0) (nx := 0) (pr := 0) (ho := 0) (cs := []) (len := 0) z16_len z16_len rfl
  simp only [B8_nil] at k4
  obtain ⟨_, _, _, _, _, _, _, _, _, _, hs, hd, bS, bD, bC, _⟩ := id hg
  have b1 : ¬ (4000 : Int) < (bs.length : Int) := by omega
  have b2 : ¬ (4000 : Int) < (cs.length : Int) := by omega
  have b3 : bs.length ≤ 500000 := by omega
  have b4 : bs.length ≤ 1099511627776 := by omega
  have b5 : bs.length ≤ 549755813888 := by omega
  have b6 : bs.take bs.length = bs := List.take_length
  have b7 : bs.length ≤ 9223372036854775807 := by omega
  have a1 := asI6_at (cl := cl) (la := la) (nx := nx) (pr := pr) (ho := ho) (cs := cs) (len := cs.length) hs hd rfl
  rw [pvCall_own (fn := Try.f9) rfl Try.func9 rfl (by decide) rfl rfl (by simp)]
  simp -implicitDefEqProofs [b1, b2, b3, b4, b5, b6, b7, a1, hz, hg, x0, x1, hs, hd, fKnown4, fIP6, fW6, fSame6, fChainN, fChain, chainV, r1, hW, k4, ip6A, splice, B8t16 hs, B8d16 hs, B8t16 hd, B8d16 hd, B8t33 hs, B8t17 hd, B8d32 hs, B8g32 hs, B8g16 hd, B8g16 hs, Nat.testBit_eq_decide_div_mod_eq, asB8_nil'', err6, noH6, ne1, be1, B8t16 z16_len, B8d16 z16_len, B8t33 z16_len, B8t17 z16_len, B8d32 z16_len, B8g32 z16_len, B8g16 z16_len, loopK_pos, errB, asB8_nil'']
set_option maxHeartbeats 16000000 in
theorem ip6p_eo (cl la nx pr ho : Int) (ss ds cs bs : List Int) (hn bn : Bool) (hc bc : Option Nat) (next : Int) (hb : bs.length ≤ 4000) (hz : bytesB bs = true) (hg : good6 cl la nx pr ho ss ds cs) (hcs : cs.length ≤ 4000) (x0 : 0 ≤ next) (x1 : next ≤ 255) (e1 : Int) (ne1 : ¬ e1 = 0) (hR : ip6V bs = err6 e1)
    (W : List Int) (hW : w6V cl la nx pr ho ss ds cs bs = wB W) (hWl : W.length ≤ 5000) : (pvCall Try.prog KD Dm 100000 1 0 9 [ip6A cl la nx pr ho ss ds (.sl hn (B8 cs) cs.length hc), .sl bn (B8 bs) bs.length bc, .v (.int .u8 next)] (fun _ => none)).map (·.1) = some (.v (.bool true)) := by
  have r1 := hR
  have be1 : (e1 != 0) = true := by simp [ne1]
  have k4 := asI6_at (cl := 0) (la := 0) (nx := 0) (pr := 0) (ho := 0) (cs := []) (len := 0) z16_len z16_len rfl
  simp only [B8_nil] at k4
  obtain ⟨_, _, _, _, _, _, _, _, _, _, hs, hd, bS, bD, bC, _⟩ := id hg
  have b1 : ¬ (4000 : Int) < (bs.length : Int) := by omega
  have b2 : ¬ (4000 : Int) < (cs.length : Int) := by omega
  have b3 : bs.length ≤ 500000 := by omega
  have b4 : bs.length ≤ 1099511627776 := by omega
  have b5 : bs.length ≤ 549755813888 := by omega
  have b6 : bs.take bs.length = bs := List.take_length
  have b7 : bs.length ≤ 9223372036854775807 := by omega
  have a1 := asI6_at (cl := cl) (la := la) (nx := nx) (pr := pr) (ho := ho) (cs := cs) (len := cs.length) hs hd rfl
  have w1 : W.length ≤ 9223372036854775807 := by omega
  have w2 : W.take W.length = W := List.take_length
  rw [pvCall_own (fn := Try.f9) rfl Try.func9 rfl (by decide) rfl rfl (by simp)]
  simp -implicitDefEqProofs [b1, b2, b3, b4, b5, b6, b7, a1, hz, hg, x0, x1, hs, hd, fKnown4, fIP6, fW6, fSame6, fChainN, fChain, chainV, r1, hW, k4, ip6A, splice, B8t16 hs, B8d16 hs, B8t16 hd, B8d16 hd, B8t33 hs, B8t17 hd, B8d32 hs, B8g32 hs, B8g16 hd, B8g16 hs, Nat.testBit_eq_decide_div_mod_eq, asB8_nil'', err6, noH6, ne1, be1, B8t16 z16_len, B8d16 z16_len, B8t33 z16_len, B8t17 z16_len, B8d32 z16_len, B8g32 z16_len, B8g16 z16_len, loopK_pos, wB, w1, w2]
set_option maxHeartbeats 16000000 in
theorem ip6p_oe (cl la nx pr ho : Int) (ss ds cs bs : List Int) (hn bn : Bool) (hc bc : Option Nat) (next : Int) (hb : bs.length ≤ 4000) (hz : bytesB bs = true) (hg : good6 cl la nx pr ho ss ds cs) (hcs : cs.length ≤ 4000) (x0 : 0 ≤ next) (x1 : next ≤ 255) (S E C Q : List Int) (cl2 la2 nx2 pr2 ho2 : Int) (hR : OkR bs S E C Q cl2 la2 nx2 pr2 ho2)
    (e2 : Int) (hW : w6V cl la nx pr ho ss ds cs bs = errB e2) : (pvCall Try.prog KD Dm 100000 1 0 9 [ip6A cl la nx pr ho ss ds (.sl hn (B8 cs) cs.length hc), .sl bn (B8 bs) bs.length bc, .v (.int .u8 next)] (fun _ => none)).map (·.1) = some (.v (.bool true)) := by
  obtain ⟨r1, Sl, El, Cl, Ql⟩ := hR
  have k1 : C.length ≤ 500000 := by omega
  have k2 : C.take C.length = C := List.take_length
  have k3 : Q.take Q.length = Q := List.take_length
  have k4 := asI6_at (cl := cl2) (la := la2) (nx := nx2) (pr := pr2) (ho := ho2) (cs := C) (len := C.length) Sl El rfl
  have k5 : Q.length ≤ 9223372036854775807 := by omega
  obtain ⟨_, _, _, _, _, _, _, _, _, _, hs, hd, bS, bD, bC, _⟩ := id hg
  have b1 : ¬ (4000 : Int) < (bs.length : Int) := by omega
  have b2 : ¬ (4000 : Int) < (cs.length : Int) := by omega
  have b3 : bs.length ≤ 500000 := by omega
  have b4 : bs.length ≤ 1099511627776 := by omega
  have b5 : bs.length ≤ 549755813888 := by omega
  have b6 : bs.take bs.length = bs := List.take_length
  have b7 : bs.length ≤ 9223372036854775807 := by omega
  have a1 := asI6_at (cl := cl) (la := la) (nx := nx) (pr := pr) (ho := ho) (cs := cs) (len := cs.length) hs hd rfl
  rw [pvCall_own (fn := Try.f9) rfl Try.func9 rfl (by decide) rfl rfl (by simp)]
  simp -implicitDefEqProofs [b1, b2, b3, b4, b5, b6, b7, a1, hz, hg, x0, x1, hs, hd, fKnown4, fIP6, fW6, fSame6, fChainN, fChain, chainV, r1, hW, k4, ip6A, splice, B8t16 hs, B8d16 hs, B8t16 hd, B8d16 hd, B8t33 hs, B8t17 hd, B8d32 hs, B8g32 hs, B8g16 hd, B8g16 hs, Nat.testBit_eq_decide_div_mod_eq, k1, k2, k3, k5, Sl, El, B8t16 Sl, B8d16 Sl, B8t16 El, B8d16 El, B8t33 Sl, B8t17 El, B8d32 Sl, B8g32 Sl, B8g16 El, B8g16 Sl, errB, asB8_nil'']
  generalize hL : loopK _ _ _ _ _ _ _ _ _ ⟨_, _⟩ = Rp
  obtain ⟨e, t', m', rfl, hkp, hmp, rfl, Zp, fmp, flp⟩ := loop_met5 hL [118, 24, 118, 119, 120, 121, 122, 123, 124, 125, 126, 127] [673]
    (fun j t m => t 118 = .v (.int .i64 (j : Int)) ∧ ∃ Z : List Int, m 673 = some ⟨0, B8 Z⟩ ∧ Z.length = Q.length)
    (fun e t m => e = .exit 0 ∧ ∃ Z : List Int, m 673 = some ⟨0, B8 Z⟩ ∧ Z.length = Q.length) Q.length (by omega) ⟨by simp, Q, by simp, rfl⟩
    (fun j t m hj hk hm ⟨ec, Z, em, hZ⟩ => by
      have e9 := hk 9 (by decide)
      have e117 := hk 117 (by decide)
      simp at e9 e117
      by_cases hq : j = Q.length
      · left
        refine ⟨.exit 0, ?t0p, m, by simp, ?a0p, ?b0p, hm, rfl, Z, em, hZ⟩
        case a0p =>
          simp -implicitDefEqProofs [ec, e9, e117, hq]
          exact rfl
        case b0p =>
          repeat' refine Kept.upd ?_ (by decide) _
          exact hk
      · right
        have j1 : (j : Int) < (Q.length : Int) := by omega
        have j2 : j ≤ Q.length := by omega
        have j3 : j < Z.length := by omega
        have j4 := B8_at0 Z j j3
        have j5 : j < Q.length := by omega
        have j7 : j + 1 ≤ Q.length := by omega
        have j8 := B8_mid (Z.take j) (Z.drop (j + 1))
        have j6 : IntKind.i64.wrap ((j : Int) + 1) = ((j + 1 : Nat) : Int) := by rw [wrap64_id (by omega) (by omega)]; omega
        refine ⟨by omega, ?t1p, ?m1p, ?a1p, ?b1p, ?c1p, ?d1p⟩
        case a1p =>
          simp -implicitDefEqProofs [ec, e9, e117, em, hZ, j1, j2, j4, j5, j6, j7, j8, splice]
          constructor
          · exact rfl
          · exact rfl
        case b1p =>
          repeat' refine Kept.upd ?_ (by decide) _
          exact hk
        case c1p =>
          repeat' refine KeptM.upd ?_ (by decide) _
          exact hm
        case d1p => exact ⟨by simp, Z.take j ++ IntKind.u8.wrap (gb Z j + 1) :: Z.drop (j + 1), by simp, by simp; omega⟩)
  have f0 := hkp 0 (by decide)
  have f1 := hkp 1 (by decide)
  have f2 := hkp 2 (by decide)
  have f3 := hkp 3 (by decide)
  have f6 := hkp 6 (by decide)
  have f7 := hkp 7 (by decide)
  have f8 := hkp 8 (by decide)
  have fm36 := hmp 36 (by decide)
  have fm8 := hmp 8 (by decide)
  have fm672 := hmp 672 (by decide)
  simp at f0 f1 f2 f3 f6 f7 f8 fm36 fm8 fm672
  simp -implicitDefEqProofs [f0, f1, f2, f3, f6, f7, f8, fm36, fm8, fm672, Sl, El, B8d32 Sl, B8g32 Sl, B8g16 El, B8d16 Sl, B8d16 El, splice]
  generalize hL : loopK _ _ _ _ _ _ _ _ _ ⟨_, _⟩ = Rq
  obtain ⟨e, t', m', rfl, hkq, hmq, rfl, Zq, fmq, flq⟩ := loop_met5 hL [131, 25, 131, 132, 133, 134, 135, 136, 137, 138, 139, 140, 141] [672]
    (fun j t m => t 131 = .v (.int .i64 (j : Int)) ∧ ∃ Z : List Int, m 672 = some ⟨0, B8 Z⟩ ∧ Z.length = C.length)
    (fun e t m => e = .exit 2 ∧ ∃ Z : List Int, m 672 = some ⟨0, B8 Z⟩ ∧ Z.length = C.length) C.length (by omega) ⟨by simp, C, by simp [fm672], rfl⟩
    (fun j t m hj hk hm ⟨ec, Z, em, hZ⟩ => by
      have e8 := hk 8 (by decide)
      have e130 := hk 130 (by decide)
      have em8 := hm 8 (by decide)
      simp [f8, fm8] at e8 e130 em8
      by_cases hq : j = C.length
      · left
        refine ⟨.exit 2, ?t0q, m, by simp, ?a0q, ?b0q, hm, rfl, Z, em, hZ⟩
        case a0q =>
          simp -implicitDefEqProofs [ec, e8, e130, em8, hq, Sl, El, B8d32 Sl, B8g32 Sl, B8g16 El, B8d16 Sl, B8d16 El]
          exact rfl
        case b0q =>
          repeat' refine Kept.upd ?_ (by decide) _
          exact hk
      · right
        have j1 : (j : Int) < (C.length : Int) := by omega
        have j2 : j ≤ C.length := by omega
        have j3 : j < Z.length := by omega
        have j4 := B8_at0 Z j j3
        have j5 : j < C.length := by omega
        have j7 : j + 1 ≤ C.length := by omega
        have j8 := B8_mid (Z.take j) (Z.drop (j + 1))
        have j6 : IntKind.i64.wrap ((j : Int) + 1) = ((j + 1 : Nat) : Int) := by rw [wrap64_id (by omega) (by omega)]; omega
        refine ⟨by omega, ?t1q, ?m1q, ?a1q, ?b1q, ?c1q, ?d1q⟩
        case a1q =>
          simp -implicitDefEqProofs [ec, e8, e130, em8, em, hZ, j1, j2, j4, j5, j6, j7, j8, splice, Sl, El, B8d32 Sl, B8g32 Sl, B8g16 El, B8d16 Sl, B8d16 El]
          constructor
          · exact rfl
          · exact rfl
        case b1q =>
          repeat' refine Kept.upd ?_ (by decide) _
          exact hk
        case c1q =>
          repeat' refine KeptM.upd ?_ (by decide) _
          exact hm
        case d1q => exact ⟨by simp, Z.take j ++ IntKind.u8.wrap (gb Z j + 1) :: Z.drop (j + 1), by simp, by simp; omega⟩)
  have g1 := hkq 1 (by decide)
  have g7 := hkq 7 (by decide)
  have gm36 := hmq 36 (by decide)
  simp [f1, f7, fm36] at g1 g7 gm36
  simp -implicitDefEqProofs [g1, g7, gm36, b6, b7, fKnown4]
set_option maxHeartbeats 16000000 in
theorem ip6p_oo (cl la nx pr ho : Int) (ss ds cs bs : List Int) (hn bn : Bool) (hc bc : Option Nat) (next : Int) (hb : bs.length ≤ 4000) (hz : bytesB bs = true) (hg : good6 cl la nx pr ho ss ds cs) (hcs : cs.length ≤ 4000) (x0 : 0 ≤ next) (x1 : next ≤ 255) (S E C Q : List Int) (cl2 la2 nx2 pr2 ho2 : Int) (hR : OkR bs S E C Q cl2 la2 nx2 pr2 ho2)
    (W : List Int) (hW : w6V cl la nx pr ho ss ds cs bs = wB W) (hWl : W.length ≤ 5000) : (pvCall Try.prog KD Dm 100000 1 0 9 [ip6A cl la nx pr ho ss ds (.sl hn (B8 cs) cs.length hc), .sl bn (B8 bs) bs.length bc, .v (.int .u8 next)] (fun _ => none)).map (·.1) = some (.v (.bool true)) := by
  obtain ⟨r1, Sl, El, Cl, Ql⟩ := hR
  have k1 : C.length ≤ 500000 := by omega
  have k2 : C.take C.length = C := List.take_length
  have k3 : Q.take Q.length = Q := List.take_length
  have k4 := asI6_at (cl := cl2) (la := la2) (nx := nx2) (pr := pr2) (ho := ho2) (cs := C) (len := C.length) Sl El rfl
  have k5 : Q.length ≤ 9223372036854775807 := by omega
  obtain ⟨_, _, _, _, _, _, _, _, _, _, hs, hd, bS, bD, bC, _⟩ := id hg
  have b1 : ¬ (4000 : Int) < (bs.length : Int) := by omega
  have b2 : ¬ (4000 : Int) < (cs.length : Int) := by omega
  have b3 : bs.length ≤ 500000 := by omega
  have b4 : bs.length ≤ 1099511627776 := by omega
  have b5 : bs.length ≤ 549755813888 := by omega
  have b6 : bs.take bs.length = bs := List.take_length
  have b7 : bs.length ≤ 9223372036854775807 := by omega
  have a1 := asI6_at (cl := cl) (la := la) (nx := nx) (pr := pr) (ho := ho) (cs := cs) (len := cs.length) hs hd rfl
  have w1 : W.length ≤ 9223372036854775807 := by omega
  have w2 : W.take W.length = W := List.take_length
  rw [pvCall_own (fn := Try.f9) rfl Try.func9 rfl (by decide) rfl rfl (by simp)]
  simp -implicitDefEqProofs [b1, b2, b3, b4, b5, b6, b7, a1, hz, hg, x0, x1, hs, hd, fKnown4, fIP6, fW6, fSame6, fChainN, fChain, chainV, r1, hW, k4, ip6A, splice, B8t16 hs, B8d16 hs, B8t16 hd, B8d16 hd, B8t33 hs, B8t17 hd, B8d32 hs, B8g32 hs, B8g16 hd, B8g16 hs, Nat.testBit_eq_decide_div_mod_eq, k1, k2, k3, k5, Sl, El, B8t16 Sl, B8d16 Sl, B8t16 El, B8d16 El, B8t33 Sl, B8t17 El, B8d32 Sl, B8g32 Sl, B8g16 El, B8g16 Sl, wB, w1, w2]
  generalize hL : loopK _ _ _ _ _ _ _ _ _ ⟨_, _⟩ = Rp
  obtain ⟨e, t', m', rfl, hkp, hmp, rfl, Zp, fmp, flp⟩ := loop_met5 hL [118, 24, 118, 119, 120, 121, 122, 123, 124, 125, 126, 127] [673]
    (fun j t m => t 118 = .v (.int .i64 (j : Int)) ∧ ∃ Z : List Int, m 673 = some ⟨0, B8 Z⟩ ∧ Z.length = Q.length)
    (fun e t m => e = .exit 0 ∧ ∃ Z : List Int, m 673 = some ⟨0, B8 Z⟩ ∧ Z.length = Q.length) Q.length (by omega) ⟨by simp, Q, by simp, rfl⟩
    (fun j t m hj hk hm ⟨ec, Z, em, hZ⟩ => by
      have e9 := hk 9 (by decide)
      have e117 := hk 117 (by decide)
      simp at e9 e117
      by_cases hq : j = Q.length
      · left
        refine ⟨.exit 0, ?t0p, m, by simp, ?a0p, ?b0p, hm, rfl, Z, em, hZ⟩
        case a0p =>
          simp -implicitDefEqProofs [ec, e9, e117, hq]
          exact rfl
        case b0p =>
          repeat' refine Kept.upd ?_ (by decide) _
          exact hk
      · right
        have j1 : (j : Int) < (Q.length : Int) := by omega
        have j2 : j ≤ Q.length := by omega
        have j3 : j < Z.length := by omega
        have j4 := B8_at0 Z j j3
        have j5 : j < Q.length := by omega
        have j7 : j + 1 ≤ Q.length := by omega
        have j8 := B8_mid (Z.take j) (Z.drop (j + 1))
        have j6 : IntKind.i64.wrap ((j : Int) + 1) = ((j + 1 : Nat) : Int) := by rw [wrap64_id (by omega) (by omega)]; omega
        refine ⟨by omega, ?t1p, ?m1p, ?a1p, ?b1p, ?c1p, ?d1p⟩
        case a1p =>
          simp -implicitDefEqProofs [ec, e9, e117, em, hZ, j1, j2, j4, j5, j6, j7, j8, splice]
          constructor
          · exact rfl
          · exact rfl
        case b1p =>
          repeat' refine Kept.upd ?_ (by decide) _
          exact hk
        case c1p =>
          repeat' refine KeptM.upd ?_ (by decide) _
          exact hm
        case d1p => exact ⟨by simp, Z.take j ++ IntKind.u8.wrap (gb Z j + 1) :: Z.drop (j + 1), by simp, by simp; omega⟩)
  have f0 := hkp 0 (by decide)
  have f1 := hkp 1 (by decide)
  have f2 := hkp 2 (by decide)
  have f3 := hkp 3 (by decide)
  have f6 := hkp 6 (by decide)
  have f7 := hkp 7 (by decide)
  have f8 := hkp 8 (by decide)
  have fm36 := hmp 36 (by decide)
  have fm8 := hmp 8 (by decide)
  have fm672 := hmp 672 (by decide)
  simp at f0 f1 f2 f3 f6 f7 f8 fm36 fm8 fm672
  simp -implicitDefEqProofs [f0, f1, f2, f3, f6, f7, f8, fm36, fm8, fm672, Sl, El, B8d32 Sl, B8g32 Sl, B8g16 El, B8d16 Sl, B8d16 El, splice]
  generalize hL : loopK _ _ _ _ _ _ _ _ _ ⟨_, _⟩ = Rq
  obtain ⟨e, t', m', rfl, hkq, hmq, rfl, Zq, fmq, flq⟩ := loop_met5 hL [131, 25, 131, 132, 133, 134, 135, 136, 137, 138, 139, 140, 141] [672]
    (fun j t m => t 131 = .v (.int .i64 (j : Int)) ∧ ∃ Z : List Int, m 672 = some ⟨0, B8 Z⟩ ∧ Z.length = C.length)
    (fun e t m => e = .exit 2 ∧ ∃ Z : List Int, m 672 = some ⟨0, B8 Z⟩ ∧ Z.length = C.length) C.length (by omega) ⟨by simp, C, by simp [fm672], rfl⟩
    (fun j t m hj hk hm ⟨ec, Z, em, hZ⟩ => by
      have e8 := hk 8 (by decide)
      have e130 := hk 130 (by decide)
      have em8 := hm 8 (by decide)
      simp [f8, fm8] at e8 e130 em8
      by_cases hq : j = C.length
      · left
        refine ⟨.exit 2, ?t0q, m, by simp, ?a0q, ?b0q, hm, rfl, Z, em, hZ⟩
        case a0q =>
          simp -implicitDefEqProofs [ec, e8, e130, em8, hq, Sl, El, B8d32 Sl, B8g32 Sl, B8g16 El, B8d16 Sl, B8d16 El]
          exact rfl
        case b0q =>
          repeat' refine Kept.upd ?_ (by decide) _
          exact hk
      · right
        have j1 : (j : Int) < (C.length : Int) := by omega
        have j2 : j ≤ C.length := by omega
        have j3 : j < Z.length := by omega
        have j4 := B8_at0 Z j j3
        have j5 : j < C.length := by omega
        have j7 : j + 1 ≤ C.length := by omega
        have j8 := B8_mid (Z.take j) (Z.drop (j + 1))
        have j6 : IntKind.i64.wrap ((j : Int) + 1) = ((j + 1 : Nat) : Int) := by rw [wrap64_id (by omega) (by omega)]; omega
        refine ⟨by omega, ?t1q, ?m1q, ?a1q, ?b1q, ?c1q, ?d1q⟩
        case a1q =>
          simp -implicitDefEqProofs [ec, e8, e130, em8, em, hZ, j1, j2, j4, j5, j6, j7, j8, splice, Sl, El, B8d32 Sl, B8g32 Sl, B8g16 El, B8d16 Sl, B8d16 El]
          constructor
          · exact rfl
          · exact rfl
        case b1q =>
          repeat' refine Kept.upd ?_ (by decide) _
          exact hk
        case c1q =>
          repeat' refine KeptM.upd ?_ (by decide) _
          exact hm
        case d1q => exact ⟨by simp, Z.take j ++ IntKind.u8.wrap (gb Z j + 1) :: Z.drop (j + 1), by simp, by simp; omega⟩)
  have g1 := hkq 1 (by decide)
  have g7 := hkq 7 (by decide)
  have gm36 := hmq 36 (by decide)
  simp [f1, f7, fm36] at g1 g7 gm36
  simp -implicitDefEqProofs [g1, g7, gm36, b6, b7, fKnown4]
end Go.Proofs.Ytcbjjkpjbdcakaa
