/- The law Ip4Packets as a function of values. -/
import Derived.Test.YtcbjjkpjbdcakaaJi
namespace Go.Proofs.Ytcbjjkpjbdcakaa
open Go.Pm Go.Wb
set_option linter.unusedVariables false
set_option linter.unusedSimpArgs false
set_option maxRecDepth 1000000
noncomputable def KH0 : Nat → Option Con
  | 27 => some fIP4
  | 30 => some fW4
  | 32 => some fOpt
  | _ => none
theorem kh0_ok : KOk Try.prog KH0 := fun f F h => by
  unfold KH0 at h
  split at h
  · cases h; exact ⟨ip4_pure, _, Try.func27, rfl, by decide⟩
  · cases h; exact ⟨w4_pure, _, Try.func30, rfl, by decide⟩
  · cases h; exact ⟨opt_pure, _, Try.func32, rfl, by decide⟩
  · cases h
section
variable {D : FuncId → Nat → List Nat} {L d px : Nat} {args : List AV} {m : Mem}
theorem ckh0_read : pvCall Try.prog KH0 D L d px 27 args m = callBy fIP4 m px args := pvCall_by rfl
theorem ckh0_write : pvCall Try.prog KH0 D L d px 30 args m = callBy fW4 m px args := pvCall_by rfl
theorem ckh0_opt : pvCall Try.prog KH0 D L d px 32 args m = callBy fOpt m px args := pvCall_by rfl
end
theorem ekh0_read : KH0 27 = some (.pure fIP4) := rfl
theorem ekh0_write : KH0 30 = some (.pure fW4) := rfl
theorem ekh0_opt : KH0 32 = some (.pure fOpt) := rfl
attribute [simp] ckh0_read ekh0_read ckh0_write ekh0_write ckh0_opt ekh0_opt
def W0k : List Int := [69, 0, 0, 20, 0, 0, 0, 0, 64, 17, 122, 218, 0, 0, 0, 0, 0, 0, 0, 0]
theorem kw1 : w4V 0 0 false 64 17 zz16 zz16 [] [] = wC W0k := by kernel_rfl
theorem kw2 : ip4V [69, 0, 0, 20, 0, 0, 0, 0, 64, 17, 122, 218, 0, 0, 0, 0, 0, 0, 0, 0] = (.tup [ip4A 0 0 false 64 17 zz16 zz16 (.own 0 0 0 0 1 (.whole 5)), .own 1 0 0 0 1 (.whole 5), .v (.int .i64 0)], [[], []]) := by kernel_rfl
theorem kw3 : optE [131, 3, 0, 0] = 12 := by decide
theorem kg4 : good4 0 0 64 17 zz16 zz16 [] := by decide
theorem zz_len : zz16.length = 16 := rfl
theorem zzA (a b : Int) : AV.agg [.v (.int .u8 0), .v (.int .u16 0), .v (.bool false), .v (.int .u8 a), .v (.int .u8 b), .v (.int .u8 0), .v (.int .u8 0), .v (.int .u8 0), .v (.int .u8 0), .v (.int .u8 0), .v (.int .u8 0), .v (.int .u8 0), .v (.int .u8 0), .v (.int .u8 0), .v (.int .u8 0), .v (.int .u8 0), .v (.int .u8 0), .v (.int .u8 0), .v (.int .u8 0), .v (.int .u8 0), .v (.int .u8 0), .v (.int .u8 0), .v (.int .u8 0), .v (.int .u8 0), .v (.int .u8 0), .v (.int .u8 0), .v (.int .u8 0), .v (.int .u8 0), .v (.int .u8 0), .v (.int .u8 0), .v (.int .u8 0), .v (.int .u8 0), .v (.int .u8 0), .v (.int .u8 0), .v (.int .u8 0), .v (.int .u8 0), .v (.int .u8 0), .v (.slice none 0 0)] = ip4A 0 0 false a b zz16 zz16 (.v (.slice none 0 0)) := rfl
set_option maxHeartbeats 8000000 in
theorem known3_run : runF Try.prog KH0 Dm 100000 1 26 [] = some (.v (.bool true), []) := by
  have k4 := asI4_at (tos := 0) (id := 0) (df := false) (ttl := 64) (pr := 17) (cs := []) (len := 0) zz_len zz_len rfl
  simp only [B8n] at k4
  unfold runF
  rw [pvCall_own (fn := Try.f26) rfl Try.func26 rfl (by decide) rfl rfl (by simp)]
  simp -implicitDefEqProofs [zz_len, zzA, ip4A, fW4, fIP4, fOpt, kw1, kw2, kw3, kg4, k4, wC, W0k, asB8_nil'', asB8_cons'', splice, bytesB, B8c, B8n, List.replicate_succ, Nat.testBit_eq_decide_div_mod_eq]
def fKnown3 : Fun
  | [] => some (.v (.bool true), [])
  | _ => none
theorem known3_pure : Pure Try.prog 26 fKnown3 := (runF_pure kh0_ok follows_mixed dm_ok 100000 1 26).weaken fun args r h => by
  unfold fKnown3 at h
  split at h
  · rw [← h]; exact known3_run
  · cases h
noncomputable def KH : Nat → Option Con
  | 27 => some fIP4
  | 28 => some fIP4
  | 30 => some fW4
  | 31 => some fRW4
  | 29 => some fSame4
  | 26 => some fKnown3
  | 32 => some fOpt
  | 33 => some fOpt
  | 34 => some fOf
  | _ => none
theorem kh_ok : KOk Try.prog KH := fun f F h => by
  unfold KH at h
  split at h
  · cases h; exact ⟨ip4_pure, _, Try.func27, rfl, by decide⟩
  · cases h; exact ⟨rip4_pure, _, Try.func28, rfl, by decide⟩
  · cases h; exact ⟨w4_pure, _, Try.func30, rfl, by decide⟩
  · cases h; exact ⟨rw4_pure, _, Try.func31, rfl, by decide⟩
  · cases h; exact ⟨same4_pure, _, Try.func29, rfl, by decide⟩
  · cases h; exact ⟨known3_pure, _, Try.func26, rfl, by decide⟩
  · cases h; exact ⟨opt_pure, _, Try.func32, rfl, by decide⟩
  · cases h; exact ⟨ropt_pure, _, Try.func33, rfl, by decide⟩
  · cases h; exact ⟨of_pure, _, Try.func34, rfl, by decide⟩
  · cases h
section
variable {D : FuncId → Nat → List Nat} {L d px : Nat} {args : List AV} {m : Mem}
theorem ckh_read : pvCall Try.prog KH D L d px 27 args m = callBy fIP4 m px args := pvCall_by rfl
theorem ckh_rread : pvCall Try.prog KH D L d px 28 args m = callBy fIP4 m px args := pvCall_by rfl
theorem ckh_write : pvCall Try.prog KH D L d px 30 args m = callBy fW4 m px args := pvCall_by rfl
theorem ckh_rwrite : pvCall Try.prog KH D L d px 31 args m = callBy fRW4 m px args := pvCall_by rfl
theorem ckh_same : pvCall Try.prog KH D L d px 29 args m = callBy fSame4 m px args := pvCall_by rfl
theorem ckh_known : pvCall Try.prog KH D L d px 26 args m = callBy fKnown3 m px args := pvCall_by rfl
theorem ckh_opt : pvCall Try.prog KH D L d px 32 args m = callBy fOpt m px args := pvCall_by rfl
theorem ckh_ropt : pvCall Try.prog KH D L d px 33 args m = callBy fOpt m px args := pvCall_by rfl
theorem ckh_of : pvCall Try.prog KH D L d px 34 args m = callBy fOf m px args := pvCall_by rfl
end
theorem ekh_read : KH 27 = some (.pure fIP4) := rfl
theorem ekh_rread : KH 28 = some (.pure fIP4) := rfl
theorem ekh_write : KH 30 = some (.pure fW4) := rfl
theorem ekh_rwrite : KH 31 = some (.pure fRW4) := rfl
theorem ekh_same : KH 29 = some (.pure fSame4) := rfl
theorem ekh_known : KH 26 = some (.pure fKnown3) := rfl
theorem ekh_opt : KH 32 = some (.pure fOpt) := rfl
theorem ekh_ropt : KH 33 = some (.pure fOpt) := rfl
theorem ekh_of : KH 34 = some (.pure fOf) := rfl
attribute [simp] ckh_read ekh_read ckh_rread ekh_rread ckh_write ekh_write ckh_rwrite ekh_rwrite ckh_same ekh_same ckh_known ekh_known ckh_opt ekh_opt ckh_ropt ekh_ropt ckh_of ekh_of
theorem B8_mid (X Y : List Int) (y : Int) : B8 X ++ (AV.v (.int .u8 y) :: B8 Y) = B8 (X ++ y :: Y) := by simp [B8]
theorem id_of {p : Prop} (h : p) : p := h
def OkR4 (bs S E C Q : List Int) (tos id : Int) (df : Bool) (ttl pr : Int) : Prop := ip4V bs = (.tup [ip4A tos id df ttl pr S E (.own 0 0 0 C.length 1 (.whole 5)), .own 1 0 0 Q.length 1 (.whole 5), .v (.int .i64 0)], [B8 C, B8 Q]) ∧ S.length = 16 ∧ E.length = 16 ∧ C.length ≤ 5000 ∧ Q.length ≤ 70000
set_option maxHeartbeats 16000000 in
theorem ip4p_ee (tos id : Int) (df : Bool) (ttl pr : Int) (ss ds cs bs : List Int) (hn bn : Bool) (hc bc : Option Nat) (hb : bs.length ≤ 2000) (hz : bytesB bs = true) (hg : good4 tos id ttl pr ss ds cs) (hcs : cs.length ≤ 2000) (e1 : Int) (ne1 : ¬ e1 = 0) (hR : ip4V bs = err4 e1)
    (e2 : Int) (hW : w4V tos id df ttl pr ss ds cs bs = errC e2) : (pvCall Try.prog KH Dm 100000 1 0 6 [ip4A tos id df ttl pr ss ds (.sl hn (B8 cs) cs.length hc), .sl bn (B8 bs) bs.length bc] (fun _ => none)).map (·.1) = some (.v (.bool true)) := by
  have r1 := hR
  have be1 : (e1 != 0) = true := by simp [ne1]
  have k4 := asI4_at (tos := 0) (id := 0) (df := false) (ttl := 0) (pr := 0) (cs := []) (len := 0) zz_len zz_len rfl
  simp only [B8n] at k4
  obtain ⟨_, _, _, _, _, _, _, _, hs, hd, bS, bD, bC, _⟩ := id_of hg
  have b1 : ¬ (2000 : Int) < (bs.length : Int) := by omega
  have b2 : ¬ (2000 : Int) < (cs.length : Int) := by omega
  have b3 : bs.length ≤ 500000 := by omega
  have b4 : bs.length ≤ 9223372036854775807 := by omega
  have b5 : bs.length ≤ 549755813888 := by omega
  have b6 : bs.take bs.length = bs := List.take_length
  have b8 : cs.length ≤ 9223372036854775807 := by omega
  have a1 := asI4_at (tos := tos) (id := id) (df := df) (ttl := ttl) (pr := pr) (cs := cs) (len := cs.length) hs hd rfl
  rw [pvCall_own (fn := Try.f6) rfl Try.func6 rfl (by decide) rfl rfl (by simp)]
  simp -implicitDefEqProofs [b1, b2, b3, b4, b5, b6, b8, a1, hz, hg, bC, fKnown3, fIP4, fW4, fRW4, fSame4, fOpt, r1, hW, k4, ip4A, splice, hs, hd, B8t16 hs, B8d16 hs, B8t16 hd, B8d16 hd, B8t33 hs, B8t17 hd, B8d32 hs, B8g32 hs, B8g16 hd, B8g16 hs, Nat.testBit_eq_decide_div_mod_eq, asB8_nil'', err4, noH4, ne1, be1, zz_len, B8t16 zz_len, B8d16 zz_len, B8t33 zz_len, B8t17 zz_len, B8d32 zz_len, B8g32 zz_len, B8g16 zz_len, errC]
  rw [loopK_pos _ 100000 (by omega)]
  simp -implicitDefEqProofs [b6, b4, fKnown3, splice, zz_len, B8d32 zz_len, B8g32 zz_len, B8g16 zz_len, B8d16 zz_len]
  rw [loopK_pos _ 100000 (by omega)]
  simp -implicitDefEqProofs [b6, b4, fKnown3, splice, zz_len, B8d32 zz_len, B8g32 zz_len, B8g16 zz_len, B8d16 zz_len]
  rw [loopK_pos _ 100000 (by omega)]
  simp -implicitDefEqProofs [b6, b4, fKnown3, splice, zz_len, B8d32 zz_len, B8g32 zz_len, B8g16 zz_len, B8d16 zz_len]
set_option maxHeartbeats 16000000 in
theorem ip4p_eo (tos id : Int) (df : Bool) (ttl pr : Int) (ss ds cs bs : List Int) (hn bn : Bool) (hc bc : Option Nat) (hb : bs.length ≤ 2000) (hz : bytesB bs = true) (hg : good4 tos id ttl pr ss ds cs) (hcs : cs.length ≤ 2000) (e1 : Int) (ne1 : ¬ e1 = 0) (hR : ip4V bs = err4 e1)
    (W : List Int) (hW : w4V tos id df ttl pr ss ds cs bs = wC W) (hWl : W.length ≤ 5000) : (pvCall Try.prog KH Dm 100000 1 0 6 [ip4A tos id df ttl pr ss ds (.sl hn (B8 cs) cs.length hc), .sl bn (B8 bs) bs.length bc] (fun _ => none)).map (·.1) = some (.v (.bool true)) := by
  have r1 := hR
  have be1 : (e1 != 0) = true := by simp [ne1]
  have k4 := asI4_at (tos := 0) (id := 0) (df := false) (ttl := 0) (pr := 0) (cs := []) (len := 0) zz_len zz_len rfl
  simp only [B8n] at k4
  obtain ⟨_, _, _, _, _, _, _, _, hs, hd, bS, bD, bC, _⟩ := id_of hg
  have b1 : ¬ (2000 : Int) < (bs.length : Int) := by omega
  have b2 : ¬ (2000 : Int) < (cs.length : Int) := by omega
  have b3 : bs.length ≤ 500000 := by omega
  have b4 : bs.length ≤ 9223372036854775807 := by omega
  have b5 : bs.length ≤ 549755813888 := by omega
  have b6 : bs.take bs.length = bs := List.take_length
  have b8 : cs.length ≤ 9223372036854775807 := by omega
  have a1 := asI4_at (tos := tos) (id := id) (df := df) (ttl := ttl) (pr := pr) (cs := cs) (len := cs.length) hs hd rfl
  have w1 : W.length ≤ 9223372036854775807 := by omega
  have w2 : W.take W.length = W := List.take_length
  rw [pvCall_own (fn := Try.f6) rfl Try.func6 rfl (by decide) rfl rfl (by simp)]
  simp -implicitDefEqProofs [b1, b2, b3, b4, b5, b6, b8, a1, hz, hg, bC, fKnown3, fIP4, fW4, fRW4, fSame4, fOpt, r1, hW, k4, ip4A, splice, hs, hd, B8t16 hs, B8d16 hs, B8t16 hd, B8d16 hd, B8t33 hs, B8t17 hd, B8d32 hs, B8g32 hs, B8g16 hd, B8g16 hs, Nat.testBit_eq_decide_div_mod_eq, asB8_nil'', err4, noH4, ne1, be1, zz_len, B8t16 zz_len, B8d16 zz_len, B8t33 zz_len, B8t17 zz_len, B8d32 zz_len, B8g32 zz_len, B8g16 zz_len, wC, w1, w2]
  rw [loopK_pos _ 100000 (by omega)]
  simp -implicitDefEqProofs [b6, b4, fKnown3, splice, zz_len, B8d32 zz_len, B8g32 zz_len, B8g16 zz_len, B8d16 zz_len]
  generalize hL : loopK _ _ _ _ _ _ _ _ _ ⟨_, _⟩ = Ru
  obtain ⟨e, t', m', rfl, hku, hmu, rfl, Zu, fmu, flu⟩ := loop_met5 hL [105, 17, 105, 106, 107, 108, 109, 110, 111, 112, 113, 114] [1024]
    (fun j t m => t 105 = .v (.int .i64 (j : Int)) ∧ ∃ Z : List Int, m 1024 = some ⟨0, B8 Z⟩ ∧ Z.length = W.length)
    (fun e t m => e = .exit 2 ∧ ∃ Z : List Int, m 1024 = some ⟨0, B8 Z⟩ ∧ Z.length = W.length) W.length (by omega) ⟨by simp, W, by simp, rfl⟩
    (fun j t m hj hk hm ⟨ec, Z, em, hZ⟩ => by
      have e12 := hk 12 (by decide)
      have e104 := hk 104 (by decide)
      simp at e12 e104
      by_cases hq : j = W.length
      · left
        refine ⟨.exit 2, ?t0u, m, by simp, ?a0u, ?b0u, hm, rfl, Z, em, hZ⟩
        case a0u =>
          simp -implicitDefEqProofs [ec, e12, e104, hq]
          exact rfl
        case b0u =>
          repeat' refine Kept.upd ?_ (by decide) _
          exact hk
      · right
        have j1 : (j : Int) < (W.length : Int) := by omega
        have j2 : j ≤ W.length := by omega
        have j3 : j < Z.length := by omega
        have j4 := B8_at0 Z j j3
        have j5 : j < W.length := by omega
        have j7 : j + 1 ≤ W.length := by omega
        have j8 := B8_mid (Z.take j) (Z.drop (j + 1))
        have j6 : IntKind.i64.wrap ((j : Int) + 1) = ((j + 1 : Nat) : Int) := by rw [wrap64_id (by omega) (by omega)]; omega
        refine ⟨by omega, ?t1u, ?m1u, ?a1u, ?b1u, ?c1u, ?d1u⟩
        case a1u =>
          simp -implicitDefEqProofs [ec, e12, e104, em, hZ, j1, j2, j4, j5, j6, j7, j8, splice]
          constructor
          · exact rfl
          · exact rfl
        case b1u =>
          repeat' refine Kept.upd ?_ (by decide) _
          exact hk
        case c1u =>
          repeat' refine KeptM.upd ?_ (by decide) _
          exact hm
        case d1u => exact ⟨by simp, Z.take j ++ IntKind.u8.wrap (gb Z j + 1) :: Z.drop (j + 1), by simp, by simp; omega⟩)
  have fu0 := hku 0 (by decide)
  have fu1 := hku 1 (by decide)
  have fu2 := hku 2 (by decide)
  have fu4 := hku 4 (by decide)
  have fu5 := hku 5 (by decide)
  have fu6 := hku 6 (by decide)
  have fu7 := hku 7 (by decide)
  have fu12 := hku 12 (by decide)
  have fmu29 := hmu 29 (by decide)
  have fmu6 := hmu 6 (by decide)
  simp at fu0 fu1 fu2 fu4 fu5 fu6 fu7 fu12 fmu29 fmu6
  simp -implicitDefEqProofs [fu0, fu1, fu2, fu4, fu5, fu6, fu7, fu12, fmu29, fmu6, zz_len, B8d32 zz_len, B8g32 zz_len, B8g16 zz_len, B8d16 zz_len, b6, b4, fKnown3, splice]
  rw [loopK_pos _ 100000 (by omega)]
  simp -implicitDefEqProofs [fu0, fu1, fu2, fu4, fu5, fu6, fu7, fu12, fmu29, fmu6, b6, b4, fKnown3, splice, zz_len, B8d32 zz_len, B8g32 zz_len, B8g16 zz_len, B8d16 zz_len]
set_option maxHeartbeats 16000000 in
theorem ip4p_oe (tos id : Int) (df : Bool) (ttl pr : Int) (ss ds cs bs : List Int) (hn bn : Bool) (hc bc : Option Nat) (hb : bs.length ≤ 2000) (hz : bytesB bs = true) (hg : good4 tos id ttl pr ss ds cs) (hcs : cs.length ≤ 2000) (S E C Q : List Int) (tos2 id2 : Int) (df2 : Bool) (ttl2 pr2 : Int) (hR : OkR4 bs S E C Q tos2 id2 df2 ttl2 pr2)
    (e2 : Int) (hW : w4V tos id df ttl pr ss ds cs bs = errC e2) : (pvCall Try.prog KH Dm 100000 1 0 6 [ip4A tos id df ttl pr ss ds (.sl hn (B8 cs) cs.length hc), .sl bn (B8 bs) bs.length bc] (fun _ => none)).map (·.1) = some (.v (.bool true)) := by
  obtain ⟨r1, Sl, El, Cl, Ql⟩ := hR
  have k1 : C.length ≤ 500000 := by omega
  have k2 : C.take C.length = C := List.take_length
  have k3 : Q.take Q.length = Q := List.take_length
  have k4 := asI4_at (tos := tos2) (id := id2) (df := df2) (ttl := ttl2) (pr := pr2) (cs := C) (len := C.length) Sl El rfl
  have k5 : Q.length ≤ 9223372036854775807 := by omega
  obtain ⟨_, _, _, _, _, _, _, _, hs, hd, bS, bD, bC, _⟩ := id_of hg
  have b1 : ¬ (2000 : Int) < (bs.length : Int) := by omega
  have b2 : ¬ (2000 : Int) < (cs.length : Int) := by omega
  have b3 : bs.length ≤ 500000 := by omega
  have b4 : bs.length ≤ 9223372036854775807 := by omega
  have b5 : bs.length ≤ 549755813888 := by omega
  have b6 : bs.take bs.length = bs := List.take_length
  have b8 : cs.length ≤ 9223372036854775807 := by omega
  have a1 := asI4_at (tos := tos) (id := id) (df := df) (ttl := ttl) (pr := pr) (cs := cs) (len := cs.length) hs hd rfl
  rw [pvCall_own (fn := Try.f6) rfl Try.func6 rfl (by decide) rfl rfl (by simp)]
  simp -implicitDefEqProofs [b1, b2, b3, b4, b5, b6, b8, a1, hz, hg, bC, fKnown3, fIP4, fW4, fRW4, fSame4, fOpt, r1, hW, k4, ip4A, splice, hs, hd, B8t16 hs, B8d16 hs, B8t16 hd, B8d16 hd, B8t33 hs, B8t17 hd, B8d32 hs, B8g32 hs, B8g16 hd, B8g16 hs, Nat.testBit_eq_decide_div_mod_eq, asB8_nil'', k1, k2, k3, k5, Sl, El, B8t16 Sl, B8d16 Sl, B8t16 El, B8d16 El, B8t33 Sl, B8t17 El, B8d32 Sl, B8g32 Sl, B8g16 El, B8g16 Sl, errC]
  generalize hL : loopK _ _ _ _ _ _ _ _ _ ⟨_, _⟩ = Rp
  obtain ⟨e, t', m', rfl, hkp, hmp, rfl, Zp, fmp, flp⟩ := loop_met5 hL [93, 16, 93, 94, 95, 96, 97, 98, 99, 100, 101, 102] [561]
    (fun j t m => t 93 = .v (.int .i64 (j : Int)) ∧ ∃ Z : List Int, m 561 = some ⟨0, B8 Z⟩ ∧ Z.length = Q.length)
    (fun e t m => e = .exit 0 ∧ ∃ Z : List Int, m 561 = some ⟨0, B8 Z⟩ ∧ Z.length = Q.length) Q.length (by omega) ⟨by simp, Q, by simp, rfl⟩
    (fun j t m hj hk hm ⟨ec, Z, em, hZ⟩ => by
      have e7 := hk 7 (by decide)
      have e92 := hk 92 (by decide)
      simp at e7 e92
      by_cases hq : j = Q.length
      · left
        refine ⟨.exit 0, ?t0p, m, by simp, ?a0p, ?b0p, hm, rfl, Z, em, hZ⟩
        case a0p =>
          simp -implicitDefEqProofs [ec, e7, e92, hq]
          exact rfl
        case b0p =>
          repeat' refine Kept.upd ?_ (by decide) _
          exact hk
      · right
        have j1 : (j : Int) < (Q.length : Int) := by omega
        have j2 : j ≤ Q.length := by omega
        have j3 : j < Z.length := by omega
        have j4 := B8_at0 Z j j3
        have j5 : j < Q.length := by omega
        have j7 : j + 1 ≤ Q.length := by omega
        have j8 := B8_mid (Z.take j) (Z.drop (j + 1))
        have j6 : IntKind.i64.wrap ((j : Int) + 1) = ((j + 1 : Nat) : Int) := by rw [wrap64_id (by omega) (by omega)]; omega
        refine ⟨by omega, ?t1p, ?m1p, ?a1p, ?b1p, ?c1p, ?d1p⟩
        case a1p =>
          simp -implicitDefEqProofs [ec, e7, e92, em, hZ, j1, j2, j4, j5, j6, j7, j8, splice]
          constructor
          · exact rfl
          · exact rfl
        case b1p =>
          repeat' refine Kept.upd ?_ (by decide) _
          exact hk
        case c1p =>
          repeat' refine KeptM.upd ?_ (by decide) _
          exact hm
        case d1p => exact ⟨by simp, Z.take j ++ IntKind.u8.wrap (gb Z j + 1) :: Z.drop (j + 1), by simp, by simp; omega⟩)
  have fp0 := hkp 0 (by decide)
  have fp1 := hkp 1 (by decide)
  have fp2 := hkp 2 (by decide)
  have fp4 := hkp 4 (by decide)
  have fp5 := hkp 5 (by decide)
  have fp6 := hkp 6 (by decide)
  have fp7 := hkp 7 (by decide)
  have fp12 := hkp 12 (by decide)
  have fmp29 := hmp 29 (by decide)
  have fmp6 := hmp 6 (by decide)
  have fmp560 := hmp 560 (by decide)
  simp at fp0 fp1 fp2 fp4 fp5 fp6 fp7 fp12 fmp29 fmp6 fmp560
  simp -implicitDefEqProofs [fp0, fp1, fp2, fp4, fp5, fp6, fp7, fp12, fmp29, fmp6, fmp560, Sl, El, B8d32 Sl, B8g32 Sl, B8g16 El, B8d16 Sl, B8d16 El, b6, b4, fKnown3, splice]
  rw [loopK_pos _ 100000 (by omega)]
  simp -implicitDefEqProofs [fp0, fp1, fp2, fp4, fp5, fp6, fp7, fp12, fmp29, fmp6, fmp560, b6, b4, fKnown3, splice, Sl, El, B8d32 Sl, B8g32 Sl, B8g16 El, B8d16 Sl, B8d16 El]
  generalize hL : loopK _ _ _ _ _ _ _ _ _ ⟨_, _⟩ = Rq
  obtain ⟨e, t', m', rfl, hkq, hmq, rfl, Zq, fmq, flq⟩ := loop_met5 hL [118, 18, 118, 119, 120, 121, 122, 123, 124, 125, 126, 127, 128] [560]
    (fun j t m => t 118 = .v (.int .i64 (j : Int)) ∧ ∃ Z : List Int, m 560 = some ⟨0, B8 Z⟩ ∧ Z.length = C.length)
    (fun e t m => e = .exit 4 ∧ ∃ Z : List Int, m 560 = some ⟨0, B8 Z⟩ ∧ Z.length = C.length) C.length (by omega) ⟨by simp, C, by simp [fmp29, fmp6, fmp560], rfl⟩
    (fun j t m hj hk hm ⟨ec, Z, em, hZ⟩ => by
      have e6 := hk 6 (by decide)
      have e117 := hk 117 (by decide)
      have em6 := hm 6 (by decide)
      simp [fp0, fp1, fp2, fp4, fp5, fp6, fp7, fp12, fmp29, fmp6, fmp560] at e6 e117 em6
      by_cases hq : j = C.length
      · left
        refine ⟨.exit 4, ?t0q, m, by simp, ?a0q, ?b0q, hm, rfl, Z, em, hZ⟩
        case a0q =>
          simp -implicitDefEqProofs [ec, e6, e117, em6, hq, Sl, El, B8d32 Sl, B8g32 Sl, B8g16 El, B8d16 Sl, B8d16 El]
          exact rfl
        case b0q =>
          repeat' refine Kept.upd ?_ (by decide) _
          exact hk
      · right
        have j1 : (j : Int) < (C.length : Int) := by omega
        have j2 : j ≤ C.length := by omega
        have j3 : j < Z.length := by omega
        have j4 := B8_at0 Z j j3
        have j5 : j < C.length := by omega
        have j7 : j + 1 ≤ C.length := by omega
        have j8 := B8_mid (Z.take j) (Z.drop (j + 1))
        have j6 : IntKind.i64.wrap ((j : Int) + 1) = ((j + 1 : Nat) : Int) := by rw [wrap64_id (by omega) (by omega)]; omega
        refine ⟨by omega, ?t1q, ?m1q, ?a1q, ?b1q, ?c1q, ?d1q⟩
        case a1q =>
          simp -implicitDefEqProofs [ec, e6, e117, em6, em, hZ, j1, j2, j4, j5, j6, j7, j8, splice, Sl, El, B8d32 Sl, B8g32 Sl, B8g16 El, B8d16 Sl, B8d16 El]
          constructor
          · exact rfl
          · exact rfl
        case b1q =>
          repeat' refine Kept.upd ?_ (by decide) _
          exact hk
        case c1q =>
          repeat' refine KeptM.upd ?_ (by decide) _
          exact hm
        case d1q => exact ⟨by simp, Z.take j ++ IntKind.u8.wrap (gb Z j + 1) :: Z.drop (j + 1), by simp, by simp; omega⟩)
  have fq0 := hkq 0 (by decide)
  have fq1 := hkq 1 (by decide)
  have fq2 := hkq 2 (by decide)
  have fq4 := hkq 4 (by decide)
  have fq5 := hkq 5 (by decide)
  have fq6 := hkq 6 (by decide)
  have fq7 := hkq 7 (by decide)
  have fq12 := hkq 12 (by decide)
  have fmq29 := hmq 29 (by decide)
  have fmq6 := hmq 6 (by decide)
  simp [fp0, fp1, fp2, fp4, fp5, fp6, fp7, fp12, fmp29, fmp6, fmp560] at fq0 fq1 fq2 fq4 fq5 fq6 fq7 fq12 fmq29 fmq6
  simp -implicitDefEqProofs [fq0, fq1, fq2, fq4, fq5, fq6, fq7, fq12, fmq29, fmq6, Sl, El, B8d32 Sl, B8g32 Sl, B8g16 El, B8d16 Sl, B8d16 El, b6, b4, fKnown3, splice]
set_option maxHeartbeats 16000000 in
theorem ip4p_oo (tos id : Int) (df : Bool) (ttl pr : Int) (ss ds cs bs : List Int) (hn bn : Bool) (hc bc : Option Nat) (hb : bs.length ≤ 2000) (hz : bytesB bs = true) (hg : good4 tos id ttl pr ss ds cs) (hcs : cs.length ≤ 2000) (S E C Q : List Int) (tos2 id2 : Int) (df2 : Bool) (ttl2 pr2 : Int) (hR : OkR4 bs S E C Q tos2 id2 df2 ttl2 pr2)
    (W : List Int) (hW : w4V tos id df ttl pr ss ds cs bs = wC W) (hWl : W.length ≤ 5000) : (pvCall Try.prog KH Dm 100000 1 0 6 [ip4A tos id df ttl pr ss ds (.sl hn (B8 cs) cs.length hc), .sl bn (B8 bs) bs.length bc] (fun _ => none)).map (·.1) = some (.v (.bool true)) := by
  obtain ⟨r1, Sl, El, Cl, Ql⟩ := hR
  have k1 : C.length ≤ 500000 := by omega
  have k2 : C.take C.length = C := List.take_length
  have k3 : Q.take Q.length = Q := List.take_length
  have k4 := asI4_at (tos := tos2) (id := id2) (df := df2) (ttl := ttl2) (pr := pr2) (cs := C) (len := C.length) Sl El rfl
  have k5 : Q.length ≤ 9223372036854775807 := by omega
  obtain ⟨_, _, _, _, _, _, _, _, hs, hd, bS, bD, bC, _⟩ := id_of hg
  have b1 : ¬ (2000 : Int) < (bs.length : Int) := by omega
  have b2 : ¬ (2000 : Int) < (cs.length : Int) := by omega
  have b3 : bs.length ≤ 500000 := by omega
  have b4 : bs.length ≤ 9223372036854775807 := by omega
  have b5 : bs.length ≤ 549755813888 := by omega
  have b6 : bs.take bs.length = bs := List.take_length
  have b8 : cs.length ≤ 9223372036854775807 := by omega
  have a1 := asI4_at (tos := tos) (id := id) (df := df) (ttl := ttl) (pr := pr) (cs := cs) (len := cs.length) hs hd rfl
  have w1 : W.length ≤ 9223372036854775807 := by omega
  have w2 : W.take W.length = W := List.take_length
  rw [pvCall_own (fn := Try.f6) rfl Try.func6 rfl (by decide) rfl rfl (by simp)]
  simp -implicitDefEqProofs [b1, b2, b3, b4, b5, b6, b8, a1, hz, hg, bC, fKnown3, fIP4, fW4, fRW4, fSame4, fOpt, r1, hW, k4, ip4A, splice, hs, hd, B8t16 hs, B8d16 hs, B8t16 hd, B8d16 hd, B8t33 hs, B8t17 hd, B8d32 hs, B8g32 hs, B8g16 hd, B8g16 hs, Nat.testBit_eq_decide_div_mod_eq, asB8_nil'', k1, k2, k3, k5, Sl, El, B8t16 Sl, B8d16 Sl, B8t16 El, B8d16 El, B8t33 Sl, B8t17 El, B8d32 Sl, B8g32 Sl, B8g16 El, B8g16 Sl, wC, w1, w2]
  generalize hL : loopK _ _ _ _ _ _ _ _ _ ⟨_, _⟩ = Rp
  obtain ⟨e, t', m', rfl, hkp, hmp, rfl, Zp, fmp, flp⟩ := loop_met5 hL [93, 16, 93, 94, 95, 96, 97, 98, 99, 100, 101, 102] [561]
    (fun j t m => t 93 = .v (.int .i64 (j : Int)) ∧ ∃ Z : List Int, m 561 = some ⟨0, B8 Z⟩ ∧ Z.length = Q.length)
    (fun e t m => e = .exit 0 ∧ ∃ Z : List Int, m 561 = some ⟨0, B8 Z⟩ ∧ Z.length = Q.length) Q.length (by omega) ⟨by simp, Q, by simp, rfl⟩
    (fun j t m hj hk hm ⟨ec, Z, em, hZ⟩ => by
      have e7 := hk 7 (by decide)
      have e92 := hk 92 (by decide)
      simp at e7 e92
      by_cases hq : j = Q.length
      · left
        refine ⟨.exit 0, ?t0p, m, by simp, ?a0p, ?b0p, hm, rfl, Z, em, hZ⟩
        case a0p =>
          simp -implicitDefEqProofs [ec, e7, e92, hq]
          exact rfl
        case b0p =>
          repeat' refine Kept.upd ?_ (by decide) _
          exact hk
      · right
        have j1 : (j : Int) < (Q.length : Int) := by omega
        have j2 : j ≤ Q.length := by omega
        have j3 : j < Z.length := by omega
        have j4 := B8_at0 Z j j3
        have j5 : j < Q.length := by omega
        have j7 : j + 1 ≤ Q.length := by omega
        have j8 := B8_mid (Z.take j) (Z.drop (j + 1))
        have j6 : IntKind.i64.wrap ((j : Int) + 1) = ((j + 1 : Nat) : Int) := by rw [wrap64_id (by omega) (by omega)]; omega
        refine ⟨by omega, ?t1p, ?m1p, ?a1p, ?b1p, ?c1p, ?d1p⟩
        case a1p =>
          simp -implicitDefEqProofs [ec, e7, e92, em, hZ, j1, j2, j4, j5, j6, j7, j8, splice]
          constructor
          · exact rfl
          · exact rfl
        case b1p =>
          repeat' refine Kept.upd ?_ (by decide) _
          exact hk
        case c1p =>
          repeat' refine KeptM.upd ?_ (by decide) _
          exact hm
        case d1p => exact ⟨by simp, Z.take j ++ IntKind.u8.wrap (gb Z j + 1) :: Z.drop (j + 1), by simp, by simp; omega⟩)
  have fp0 := hkp 0 (by decide)
  have fp1 := hkp 1 (by decide)
  have fp2 := hkp 2 (by decide)
  have fp4 := hkp 4 (by decide)
  have fp5 := hkp 5 (by decide)
  have fp6 := hkp 6 (by decide)
  have fp7 := hkp 7 (by decide)
  have fp12 := hkp 12 (by decide)
  have fmp29 := hmp 29 (by decide)
  have fmp6 := hmp 6 (by decide)
  have fmp560 := hmp 560 (by decide)
  have fmp1024 := hmp 1024 (by decide)
  simp at fp0 fp1 fp2 fp4 fp5 fp6 fp7 fp12 fmp29 fmp6 fmp560 fmp1024
  simp -implicitDefEqProofs [fp0, fp1, fp2, fp4, fp5, fp6, fp7, fp12, fmp29, fmp6, fmp560, fmp1024, Sl, El, B8d32 Sl, B8g32 Sl, B8g16 El, B8d16 Sl, B8d16 El, b6, b4, fKnown3, splice]
  generalize hL : loopK _ _ _ _ _ _ _ _ _ ⟨_, _⟩ = Ru
  obtain ⟨e, t', m', rfl, hku, hmu, rfl, Zu, fmu, flu⟩ := loop_met5 hL [105, 17, 105, 106, 107, 108, 109, 110, 111, 112, 113, 114] [1024]
    (fun j t m => t 105 = .v (.int .i64 (j : Int)) ∧ ∃ Z : List Int, m 1024 = some ⟨0, B8 Z⟩ ∧ Z.length = W.length)
    (fun e t m => e = .exit 2 ∧ ∃ Z : List Int, m 1024 = some ⟨0, B8 Z⟩ ∧ Z.length = W.length) W.length (by omega) ⟨by simp, W, by simp [fmp29, fmp6, fmp560, fmp1024], rfl⟩
    (fun j t m hj hk hm ⟨ec, Z, em, hZ⟩ => by
      have e12 := hk 12 (by decide)
      have e104 := hk 104 (by decide)
      simp [fp0, fp1, fp2, fp4, fp5, fp6, fp7, fp12, fmp29, fmp6, fmp560, fmp1024] at e12 e104
      by_cases hq : j = W.length
      · left
        refine ⟨.exit 2, ?t0u, m, by simp, ?a0u, ?b0u, hm, rfl, Z, em, hZ⟩
        case a0u =>
          simp -implicitDefEqProofs [ec, e12, e104, hq]
          exact rfl
        case b0u =>
          repeat' refine Kept.upd ?_ (by decide) _
          exact hk
      · right
        have j1 : (j : Int) < (W.length : Int) := by omega
        have j2 : j ≤ W.length := by omega
        have j3 : j < Z.length := by omega
        have j4 := B8_at0 Z j j3
        have j5 : j < W.length := by omega
        have j7 : j + 1 ≤ W.length := by omega
        have j8 := B8_mid (Z.take j) (Z.drop (j + 1))
        have j6 : IntKind.i64.wrap ((j : Int) + 1) = ((j + 1 : Nat) : Int) := by rw [wrap64_id (by omega) (by omega)]; omega
        refine ⟨by omega, ?t1u, ?m1u, ?a1u, ?b1u, ?c1u, ?d1u⟩
        case a1u =>
          simp -implicitDefEqProofs [ec, e12, e104, em, hZ, j1, j2, j4, j5, j6, j7, j8, splice]
          constructor
          · exact rfl
          · exact rfl
        case b1u =>
          repeat' refine Kept.upd ?_ (by decide) _
          exact hk
        case c1u =>
          repeat' refine KeptM.upd ?_ (by decide) _
          exact hm
        case d1u => exact ⟨by simp, Z.take j ++ IntKind.u8.wrap (gb Z j + 1) :: Z.drop (j + 1), by simp, by simp; omega⟩)
  have fu0 := hku 0 (by decide)
  have fu1 := hku 1 (by decide)
  have fu2 := hku 2 (by decide)
  have fu4 := hku 4 (by decide)
  have fu5 := hku 5 (by decide)
  have fu6 := hku 6 (by decide)
  have fu7 := hku 7 (by decide)
  have fu12 := hku 12 (by decide)
  have fmu29 := hmu 29 (by decide)
  have fmu6 := hmu 6 (by decide)
  have fmu560 := hmu 560 (by decide)
  simp [fp0, fp1, fp2, fp4, fp5, fp6, fp7, fp12, fmp29, fmp6, fmp560, fmp1024] at fu0 fu1 fu2 fu4 fu5 fu6 fu7 fu12 fmu29 fmu6 fmu560
  simp -implicitDefEqProofs [fu0, fu1, fu2, fu4, fu5, fu6, fu7, fu12, fmu29, fmu6, fmu560, Sl, El, B8d32 Sl, B8g32 Sl, B8g16 El, B8d16 Sl, B8d16 El, b6, b4, fKnown3, splice]
  generalize hL : loopK _ _ _ _ _ _ _ _ _ ⟨_, _⟩ = Rq
  obtain ⟨e, t', m', rfl, hkq, hmq, rfl, Zq, fmq, flq⟩ := loop_met5 hL [118, 18, 118, 119, 120, 121, 122, 123, 124, 125, 126, 127, 128] [560]
    (fun j t m => t 118 = .v (.int .i64 (j : Int)) ∧ ∃ Z : List Int, m 560 = some ⟨0, B8 Z⟩ ∧ Z.length = C.length)
    (fun e t m => e = .exit 4 ∧ ∃ Z : List Int, m 560 = some ⟨0, B8 Z⟩ ∧ Z.length = C.length) C.length (by omega) ⟨by simp, C, by simp [fmu29, fmu6, fmu560], rfl⟩
    (fun j t m hj hk hm ⟨ec, Z, em, hZ⟩ => by
      have e6 := hk 6 (by decide)
      have e117 := hk 117 (by decide)
      have em6 := hm 6 (by decide)
      simp [fu0, fu1, fu2, fu4, fu5, fu6, fu7, fu12, fmu29, fmu6, fmu560] at e6 e117 em6
      by_cases hq : j = C.length
      · left
        refine ⟨.exit 4, ?t0q, m, by simp, ?a0q, ?b0q, hm, rfl, Z, em, hZ⟩
        case a0q =>
          simp -implicitDefEqProofs [ec, e6, e117, em6, hq, Sl, El, B8d32 Sl, B8g32 Sl, B8g16 El, B8d16 Sl, B8d16 El]
          exact rfl
        case b0q =>
          repeat' refine Kept.upd ?_ (by decide) _
          exact hk
      · right
        have j1 : (j : Int) < (C.length : Int) := by omega
        have j2 : j ≤ C.length := by omega
        have j3 : j < Z.length := by omega
        have j4 := B8_at0 Z j j3
        have j5 : j < C.length := by omega
        have j7 : j + 1 ≤ C.length := by omega
        have j8 := B8_mid (Z.take j) (Z.drop (j + 1))
        have j6 : IntKind.i64.wrap ((j : Int) + 1) = ((j + 1 : Nat) : Int) := by rw [wrap64_id (by omega) (by omega)]; omega
        refine ⟨by omega, ?t1q, ?m1q, ?a1q, ?b1q, ?c1q, ?d1q⟩
        case a1q =>
          simp -implicitDefEqProofs [ec, e6, e117, em6, em, hZ, j1, j2, j4, j5, j6, j7, j8, splice, Sl, El, B8d32 Sl, B8g32 Sl, B8g16 El, B8d16 Sl, B8d16 El]
          constructor
          · exact rfl
          · exact rfl
        case b1q =>
          repeat' refine Kept.upd ?_ (by decide) _
          exact hk
        case c1q =>
          repeat' refine KeptM.upd ?_ (by decide) _
          exact hm
        case d1q => exact ⟨by simp, Z.take j ++ IntKind.u8.wrap (gb Z j + 1) :: Z.drop (j + 1), by simp, by simp; omega⟩)
  have fq0 := hkq 0 (by decide)
  have fq1 := hkq 1 (by decide)
  have fq2 := hkq 2 (by decide)
  have fq4 := hkq 4 (by decide)
  have fq5 := hkq 5 (by decide)
  have fq6 := hkq 6 (by decide)
  have fq7 := hkq 7 (by decide)
  have fq12 := hkq 12 (by decide)
  have fmq29 := hmq 29 (by decide)
  have fmq6 := hmq 6 (by decide)
  have fmq1024 := hmq 1024 (by decide)
  simp [fu0, fu1, fu2, fu4, fu5, fu6, fu7, fu12, fmu29, fmu6, fmu560] at fq0 fq1 fq2 fq4 fq5 fq6 fq7 fq12 fmq29 fmq6 fmq1024
  simp -implicitDefEqProofs [fq0, fq1, fq2, fq4, fq5, fq6, fq7, fq12, fmq29, fmq6, fmq1024, Sl, El, B8d32 Sl, B8g32 Sl, B8g16 El, B8d16 Sl, B8d16 El, b6, b4, fKnown3, splice]
end Go.Proofs.Ytcbjjkpjbdcakaa

