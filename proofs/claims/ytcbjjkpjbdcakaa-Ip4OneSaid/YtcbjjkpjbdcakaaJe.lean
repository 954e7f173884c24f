/- ip4.Read as a function of values. -/
import Derived.Test.YtcbjjkpjbdcakaaJd
namespace Go.Proofs.Ytcbjjkpjbdcakaa
open Go.Pm Go.Wb
set_option linter.unusedVariables false
set_option linter.unusedSimpArgs false
set_option maxRecDepth 1000000
def fCheck : Fun
  | [.sl nn b len cap] => (asB8 b).bind fun zs => if zs.length = len ∧ len ≤ 500000 ∧ bytesB zs = true then some (.v (.int .i64 (chk4 zs)), []) else none
  | _ => none
theorem check_pure : Pure Try.prog 60 fCheck := (runF_pure ke_ok follows_mixed dm_ok 100000 1 60).weaken fun args r h => by
  unfold fCheck at h
  split at h
  · rename_i nn b len cap
    obtain ⟨zs, hz, he⟩ := Option.bind_eq_some_iff.1 h
    clear h
    split at he
    case isFalse => cases he
    rename_i hh
    obtain ⟨rfl, h1, h2⟩ := hh
    obtain rfl := asB8_eq hz
    rw [← he]
    exact check_run zs nn cap h2 h1
  · cases h
def KG : Nat → Option Con
  | 60 => some fCheck
  | 32 => some fOpt
  | 33 => some fOpt
  | 34 => some fOf
  | 62 => some fOf
  | 61 => some fWord4
  | 63 => some fWord4
  | 64 => some fAddr
  | 56 => some fClone
  | _ => none
theorem kg_ok : KOk Try.prog KG := fun f F h => by
  unfold KG at h
  split at h
  · cases h; exact ⟨check_pure, _, Try.func60, rfl, by decide⟩
  · cases h; exact ⟨opt_pure, _, Try.func32, rfl, by decide⟩
  · cases h; exact ⟨ropt_pure, _, Try.func33, rfl, by decide⟩
  · cases h; exact ⟨of_pure, _, Try.func34, rfl, by decide⟩
  · cases h; exact ⟨rof_pure, _, Try.func62, rfl, by decide⟩
  · cases h; exact ⟨word4_pure, _, Try.func61, rfl, by decide⟩
  · cases h; exact ⟨two4_pure, _, Try.func63, rfl, by decide⟩
  · cases h; exact ⟨addr_pure, _, Try.func64, rfl, by decide⟩
  · cases h; exact ⟨clone_pure, _, Try.func56, rfl, by decide⟩
  · cases h
section
variable {D : FuncId → Nat → List Nat} {L d px : Nat} {args : List AV} {m : Mem}
theorem cg_check : pvCall Try.prog KG D L d px 60 args m = callBy fCheck m px args := pvCall_by rfl
theorem cg_opt : pvCall Try.prog KG D L d px 32 args m = callBy fOpt m px args := pvCall_by rfl
theorem cg_ropt : pvCall Try.prog KG D L d px 33 args m = callBy fOpt m px args := pvCall_by rfl
theorem cg_of : pvCall Try.prog KG D L d px 34 args m = callBy fOf m px args := pvCall_by rfl
theorem cg_rof : pvCall Try.prog KG D L d px 62 args m = callBy fOf m px args := pvCall_by rfl
theorem cg_word : pvCall Try.prog KG D L d px 61 args m = callBy fWord4 m px args := pvCall_by rfl
theorem cg_two : pvCall Try.prog KG D L d px 63 args m = callBy fWord4 m px args := pvCall_by rfl
theorem cg_addr : pvCall Try.prog KG D L d px 64 args m = callBy fAddr m px args := pvCall_by rfl
theorem cg_clone : pvCall Try.prog KG D L d px 56 args m = callBy fClone m px args := pvCall_by rfl
end
theorem kg_check : KG 60 = some (.pure fCheck) := rfl
theorem kg_opt : KG 32 = some (.pure fOpt) := rfl
theorem kg_ropt : KG 33 = some (.pure fOpt) := rfl
theorem kg_of : KG 34 = some (.pure fOf) := rfl
theorem kg_rof : KG 62 = some (.pure fOf) := rfl
theorem kg_word : KG 61 = some (.pure fWord4) := rfl
theorem kg_two : KG 63 = some (.pure fWord4) := rfl
theorem kg_addr : KG 64 = some (.pure fAddr) := rfl
theorem kg_clone : KG 56 = some (.pure fClone) := rfl
attribute [simp] cg_check kg_check cg_opt kg_opt cg_ropt kg_ropt cg_of kg_of cg_rof kg_rof cg_word kg_word cg_two kg_two cg_addr kg_addr cg_clone kg_clone
def ip4A (tos id : Int) (df : Bool) (ttl pr : Int) (ss ds : List Int) (c : AV) : AV := .agg (.v (.int .u8 tos) :: .v (.int .u16 id) :: .v (.bool df) :: .v (.int .u8 ttl) :: .v (.int .u8 pr) :: (B8 ss ++ (B8 ds ++ [c])))
def zz16 : List Int := [0, 0, 0, 0, 0, 0, 0, 0, 0, 0, 0, 0, 0, 0, 0, 0]
def noH4 : AV := ip4A 0 0 false 0 0 zz16 zz16 (.v (.slice none 0 0))
def err4 (e : Int) : AV × List (List AV) := (.tup [noH4, .v (.slice none 0 0), .v (.int .i64 e)], [])
def ip4R (zs : List Int) (n T : Nat) : AV × List (List AV) :=
  (.tup [ip4A (gb zs 1) (w16 zs 4) (decide (16384 ≤ w16 zs 6)) (gb zs 8) (gb zs 9) (ad4 (zs.drop 12)) (ad4 (zs.drop 16)) (.own 0 0 0 (n - 20) 1 (.whole 5)), .own 1 0 0 (T - n) 1 (.whole 5), .v (.int .i64 0)],
    [B8 ((zs.drop 20).take (n - 20)), B8 ((zs.drop n).take (T - n))])
def Ok4 (zs : List Int) : Prop := 20 ≤ zs.length ∧ gb zs 0 / 16 = 4 ∧ 20 ≤ hl4 zs ∧ hl4 zs ≤ zs.length ∧ ofV (zs.take (hl4 zs)) = 0 ∧ (hl4 zs : Int) ≤ w16 zs 2 ∧ w16 zs 2 ≤ (zs.length : Int) ∧ w16 zs 6 < 32768 ∧ optE ((zs.drop 20).take (hl4 zs - 20)) = 0 ∧ w16 zs 6 % 16384 = 0
theorem chk4_ok {zs : List Int} (h : chk4 zs = 0) : Ok4 zs := by
  unfold chk4 at h
  split at h
  · simp at h
  split at h
  · simp at h
  split at h
  · simp at h
  split at h
  · simp at h
  split at h
  · simp at h
  split at h
  · simp at h
  split at h
  · simp at h
  split at h
  · rename_i q; exact absurd h q
  split at h
  · simp at h
  rename_i q1 q2 q3 q4 q5 q6 q7 q8 q9
  exact ⟨by omega, by omega, by omega, by omega, by simpa using q4, by omega, by omega, by omega, by simpa using q8, by simpa using q9⟩
theorem ok4_chk {zs : List Int} (h : Ok4 zs) : chk4 zs = 0 := by
  obtain ⟨h1, h2, h3, h4, h5, h6, h7, h8, h9, h10⟩ := h
  unfold chk4
  rw [if_neg (by omega), if_neg (by omega), if_neg (by omega), if_neg (by simpa using h5), if_neg (by omega), if_neg (by omega), if_neg (by omega), if_neg (by simpa using h9), if_neg (by simpa using h10)]
theorem take4_eq {zs : List Int} (h : 4 ≤ zs.length) : zs.take 4 = [gb zs 0, gb zs 1, gb zs 2, gb zs 3] := by
  match zs, h with
  | a :: b :: c :: d :: r, _ => rfl
theorem B8c (z : Int) (zs : List Int) : B8 (z :: zs) = .v (.int .u8 z) :: B8 zs := rfl
theorem B8n : B8 [] = [] := rfl
set_option maxHeartbeats 16000000 in
theorem pip4_err (zs : List Int) (nn : Bool) (cap : Option Nat) (hz : bytesB zs = true) (hl : zs.length ≤ 500000) (h : ¬ chk4 zs = 0) : runF Try.prog KG Dm 100000 1 27 [.sl nn (B8 zs) zs.length cap] = some (err4 (chk4 zs)) := by
  have hn : (chk4 zs != 0) = true := by simp [h]
  unfold runF err4 noH4 ip4A zz16
  rw [pvCall_own (fn := Try.f27) rfl Try.func27 rfl (by decide) rfl rfl (by simp)]
  simp -implicitDefEqProofs [h, hn, hz, hl, fCheck, splice, B8c, B8n]
set_option maxHeartbeats 16000000 in
theorem pip4_ok (zs : List Int) (nn : Bool) (cap : Option Nat) (hz : bytesB zs = true) (hl : zs.length ≤ 500000) (h : chk4 zs = 0) : runF Try.prog KG Dm 100000 1 27 [.sl nn (B8 zs) zs.length cap] = some (ip4R zs (hl4 zs) (w16 zs 2).toNat) := by
  obtain ⟨h20, h4, hn, hnl, hof, hT, hTl, h6, hop, hfr⟩ := chk4_ok h
  have r2 := w16_range (bytesB_iff.1 hz) 2
  have r6 := w16_range (bytesB_iff.1 hz) 6
  have r4 := w16_range (bytesB_iff.1 hz) 4
  obtain ⟨e1, e2⟩ := hl4_range hz
  have g0 := gb_range hz 0
  have n4 := and15v (gb zs 0) g0.1 g0.2
  have w0 : IntKind.i64.wrap (gb zs 0 % 16) = gb zs 0 % 16 := wrap64_id (by omega) (by omega)
  have w1 : IntKind.i64.wrap (4 * (gb zs 0 % 16)) = (hl4 zs : Int) := by rw [wrap64_id (by omega) (by omega)]; omega
  have w1' : IntKind.i64.wrap (gb zs 0 % 16 * 4) = (hl4 zs : Int) := by rw [wrap64_id (by omega) (by omega)]; omega
  have s1 : (gb zs 0).fdiv 16 = gb zs 0 / 16 := Int.fdiv_eq_ediv_of_nonneg _ (by omega)
  have w4 : IntKind.u16.wrap (w16 zs 4) = w16 zs 4 := wrapu16_id (by omega) (by omega)
  obtain ⟨T, hTe⟩ := Int.eq_ofNat_of_zero_le r2.1
  generalize hl4 zs = n at *
  rw [hTe] at hT hTl ⊢
  simp only [Int.toNat_natCast]
  have hT' : n ≤ T := by omega
  have hTl' : T ≤ zs.length := by omega
  have a0 := B8_at00 zs (by omega)
  have a1 := B8_at0 zs 1 (by omega)
  have a8 := B8_at0 zs 8 (by omega)
  have a9 := B8_at0 zs 9 (by omega)
  have l0 : 0 < zs.length := by omega
  have l1 : 1 < zs.length := by omega
  have l8 : 8 < zs.length := by omega
  have l9 : 9 < zs.length := by omega
  have i0 : (0 : Int) < (zs.length : Int) := by omega
  have i1 : (1 : Int) < (zs.length : Int) := by omega
  have i8 : (8 : Int) < (zs.length : Int) := by omega
  have i9 : (9 : Int) < (zs.length : Int) := by omega
  have i3 : (3 : Int) < (zs.length : Int) := by omega
  have i5 : (5 : Int) < (zs.length : Int) := by omega
  have i7 : (7 : Int) < (zs.length : Int) := by omega
  have k1 : zs.length ≤ 1099511627776 := by omega
  have k2 : (12 : Int) ≤ (zs.length : Int) := by omega
  have k3 : (16 : Int) ≤ (zs.length : Int) := by omega
  have k4 : (20 : Int) ≤ (n : Int) := by omega
  have k5 : (n : Int) ≤ (zs.length : Int) := by omega
  have k6 : (n : Int) ≤ (T : Int) := by omega
  have k7 : (T : Int) ≤ (zs.length : Int) := by omega
  have k8 : 12 ≤ zs.length := by omega
  have k9 : 16 ≤ zs.length := by omega
  have k10 : min (n - 20) (zs.length - 20) = n - 20 := by omega
  have k11 : min (T - n) (zs.length - n) = T - n := by omega
  have k12 : n - 20 ≤ 549755813888 := by omega
  have k13 : T - n ≤ 549755813888 := by omega
  have k14 : n ≤ 549755813908 := by omega
  have k15 : T ≤ 549755813888 + n := by omega
  have k16 : n - 20 ≤ zs.length - 20 := by omega
  have k17 : T - n ≤ zs.length - n := by omega
  have k18 : min 4 (zs.length - 12) = 4 := by omega
  have k19 : min 4 (zs.length - 16) = 4 := by omega
  have k20 : 4 ≤ zs.length - 12 := by omega
  have k21 : 4 ≤ zs.length - 16 := by omega
  have k22 : 20 ≤ n := hn
  have k23 : n ≤ zs.length := hnl
  have x1 : (zs.drop 12).take 4 = [gb zs 12, gb zs 13, gb zs 14, gb zs 15] := by rw [take4_eq (by simp; omega), gb_drop, gb_drop, gb_drop, gb_drop]
  have x2 : (zs.drop 16).take 4 = [gb zs 16, gb zs 17, gb zs 18, gb zs 19] := by rw [take4_eq (by simp; omega), gb_drop, gb_drop, gb_drop, gb_drop]
  have x3 : (zs.drop 12).take (zs.length - 12) = zs.drop 12 := List.take_of_length_le (by simp)
  have x4 : (zs.drop 16).take (zs.length - 16) = zs.drop 16 := List.take_of_length_le (by simp)
  have x5 : ((zs.drop 20).take (n - 20)).take (n - 20) = (zs.drop 20).take (n - 20) := List.take_of_length_le (by simp; omega)
  have x6 : ((zs.drop n).take (T - n)).take (T - n) = (zs.drop n).take (T - n) := List.take_of_length_le (by simp; omega)
  have m4 := and14 (w16 zs 6) r6.1 r6.2
  have m5 : (if 16384 ≤ w16 zs 6 % 32768 then (16384 : Int) else 0) = if 16384 ≤ w16 zs 6 then 16384 else 0 := by
    by_cases q : 16384 ≤ w16 zs 6
    · rw [if_pos q, if_pos (by omega)]
    · rw [if_neg q, if_neg (by omega)]
  rw [m5] at m4
  unfold runF ip4R ip4A
  rw [pvCall_own (fn := Try.f27) rfl Try.func27 rfl (by decide) rfl rfl (by simp)]
  by_cases q : 16384 ≤ w16 zs 6
  · rw [if_pos q] at m4
    simp -implicitDefEqProofs [h, hz, hl, fCheck, fWord4, fClone, fAddr, n4, w0, w1, w1', s1, w4, hTe, hT', hTl', a0, a1, a8, a9, l0, l1, l8, l9, i0, i1, i8, i9, i3, i5, i7, k1, k2, k3, k4, k5, k6, k7, k8, k9, k10, k11, k12, k13, k14, k15, k16, k17, k18, k19, k20, k21, k22, k23, x1, x2, x3, x4, x5, x6, ad4, gb_drop, B8c, B8n, splice, IntKind.bits, Nat.testBit_eq_decide_div_mod_eq, m4, q]
  · rw [if_neg q] at m4
    simp -implicitDefEqProofs [h, hz, hl, fCheck, fWord4, fClone, fAddr, n4, w0, w1, w1', s1, w4, hTe, hT', hTl', a0, a1, a8, a9, l0, l1, l8, l9, i0, i1, i8, i9, i3, i5, i7, k1, k2, k3, k4, k5, k6, k7, k8, k9, k10, k11, k12, k13, k14, k15, k16, k17, k18, k19, k20, k21, k22, k23, x1, x2, x3, x4, x5, x6, ad4, gb_drop, B8c, B8n, splice, IntKind.bits, Nat.testBit_eq_decide_div_mod_eq, m4, q]
end Go.Proofs.Ytcbjjkpjbdcakaa
