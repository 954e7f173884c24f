/- The law IcmpReads as a function of values. -/
import Derived.Test.YtcbjjkpjbdcakaaVg
import Derived.Test.YtcbjjkpjbdcakaaGz
namespace Go.Proofs.Ytcbjjkpjbdcakaa
open Go.Pm Go.Wb
set_option linter.unusedVariables false
set_option linter.unusedSimpArgs false
set_option maxRecDepth 1000000
noncomputable def KS0 : Nat → Option Con
  | 43 => some fWithin
  | _ => none
theorem ks0_ok : KOk Try.prog KS0 := fun f F h => by
  unfold KS0 at h
  split at h
  · cases h; exact ⟨within_pure, _, Try.func43, rfl, by decide⟩
  · cases h
section
variable {D : FuncId → Nat → List Nat} {L d px : Nat} {args : List AV} {m : Mem}
theorem cks0_within : pvCall Try.prog KS0 D L d px 43 args m = callBy fWithin m px args := pvCall_by rfl
end
theorem eks0_within : KS0 43 = some (.pure fWithin) := rfl
attribute [simp] cks0_within eks0_within
def X0k : List Int := [69, 0, 0, 0, 0, 0, 0, 0, 0, 6, 0, 0, 10, 0, 0, 9, 1, 2, 3, 4, 0, 80, 21, 179]
theorem kx1 : wiE false [69, 0, 0, 0, 0, 0, 0, 0, 0, 6, 0, 0, 10, 0, 0, 9, 1, 2, 3, 4, 0, 80, 21, 179] = 0 := by kernel_rfl
theorem kx2 : wiT false [69, 0, 0, 0, 0, 0, 0, 0, 0, 6, 0, 0, 10, 0, 0, 9, 1, 2, 3, 4, 0, 80, 21, 179] = tupA false 6 [1, 2, 3, 4, 0, 0, 0, 0, 0, 0, 0, 0, 0, 0, 0, 0] [10, 0, 0, 9, 0, 0, 0, 0, 0, 0, 0, 0, 0, 0, 0, 0] 5555 80 := by kernel_rfl
theorem eqV_ci (k : IntKind) (a : Int) (x y : List Value) : eqV (.int k a :: x) (.int k a :: y) = eqV x y := by
  show (decide _ && eqV x y) = _
  simp
theorem eqV_cb (a : Bool) (x y : List Value) : eqV (.bool a :: x) (.bool a :: y) = eqV x y := by
  show (decide _ && eqV x y) = _
  simp
theorem eqV_n : eqV [] [] = true := rfl
theorem eqV_m (S : List Int) (x y : List Value) : eqV (S.map (Value.int .u8) ++ x) (S.map (Value.int .u8) ++ y) = eqV x y := by
  induction S with
  | nil => rfl
  | cons z S ih => show eqV (.int .u8 z :: (S.map (Value.int .u8) ++ x)) (.int .u8 z :: (S.map (Value.int .u8) ++ y)) = _; rw [eqV_ci, ih]
theorem pairOk_app {S : List Int} {ks : List LK} {x : List Value} : pairOk ((S.map fun _ => LK.int) ++ ks) (S.map (Value.int .u8) ++ x) (S.map (Value.int .u8) ++ x) = pairOk ks x x := by
  induction S with
  | nil => rfl
  | cons z S ih => simp only [List.map_cons, List.cons_append, pairOk, leafOk, decide_true, Bool.true_and]; exact ih
theorem pairOk34 {S E : List Int} (hS : S.length = 16) (hE : E.length = 16) (sp dp : Int) : pairOk [.int, .int, .int, .int, .int, .int, .int, .int, .int, .int, .int, .int, .int, .int, .int, .int, .int, .int, .int, .int, .int, .int, .int, .int, .int, .int, .int, .int, .int, .int, .int, .int, .int, .int] (S.map (Value.int .u8) ++ (E.map (Value.int .u8) ++ [Value.int .u16 sp, Value.int .u16 dp])) (S.map (Value.int .u8) ++ (E.map (Value.int .u8) ++ [Value.int .u16 sp, Value.int .u16 dp])) = true := by
  have e : ([.int, .int, .int, .int, .int, .int, .int, .int, .int, .int, .int, .int, .int, .int, .int, .int, .int, .int, .int, .int, .int, .int, .int, .int, .int, .int, .int, .int, .int, .int, .int, .int, .int, .int] : List LK) = (S.map fun _ => LK.int) ++ ((E.map fun _ => LK.int) ++ [.int, .int]) := by rw [kinds_of hS, kinds_of hE]; rfl
  rw [e, pairOk_app, pairOk_app]; rfl
set_option maxHeartbeats 8000000 in
theorem known6_run : runF Try.prog KS0 Dm 100000 1 44 [] = some (.v (.bool true), []) := by
  unfold runF
  rw [pvCall_own (fn := Try.f44) rfl Try.func44 rfl (by decide) rfl rfl (by simp)]
  simp -implicitDefEqProofs [fWithin, kx1, kx2, tupA, asB8_nil'', asB8_cons'', splice, bytesB, B8vc, B8vn, List.replicate_succ, eqV_ci, eqV_cb, eqV_n, Nat.testBit_eq_decide_div_mod_eq]
def fKnown6 : Fun
  | [] => some (.v (.bool true), [])
  | _ => none
theorem known6_pure : Pure Try.prog 44 fKnown6 := (runF_pure ks0_ok follows_mixed dm_ok 100000 1 44).weaken fun args r h => by
  unfold fKnown6 at h
  split at h
  · rw [← h]; exact known6_run
  · cases h
noncomputable def KS : Nat → Option Con
  | 43 => some fWithin
  | 45 => some fWithin
  | 46 => some fRead
  | 47 => some fRead
  | 48 => some fIse
  | 49 => some fIse
  | 44 => some fKnown6
  | _ => none
theorem ks_ok : KOk Try.prog KS := fun f F h => by
  unfold KS at h
  split at h
  · cases h; exact ⟨within_pure, _, Try.func43, rfl, by decide⟩
  · cases h; exact ⟨rwithin_pure, _, Try.func45, rfl, by decide⟩
  · cases h; exact ⟨read_pure, _, Try.func46, rfl, by decide⟩
  · cases h; exact ⟨rread_pure, _, Try.func47, rfl, by decide⟩
  · cases h; exact ⟨ise_pure, _, Try.func48, rfl, by decide⟩
  · cases h; exact ⟨rise_pure, _, Try.func49, rfl, by decide⟩
  · cases h; exact ⟨known6_pure, _, Try.func44, rfl, by decide⟩
  · cases h
section
variable {D : FuncId → Nat → List Nat} {L d px : Nat} {args : List AV} {m : Mem}
theorem cks_within : pvCall Try.prog KS D L d px 43 args m = callBy fWithin m px args := pvCall_by rfl
theorem cks_rwithin : pvCall Try.prog KS D L d px 45 args m = callBy fWithin m px args := pvCall_by rfl
theorem cks_read : pvCall Try.prog KS D L d px 46 args m = callBy fRead m px args := pvCall_by rfl
theorem cks_rread : pvCall Try.prog KS D L d px 47 args m = callBy fRead m px args := pvCall_by rfl
theorem cks_ise : pvCall Try.prog KS D L d px 48 args m = callBy fIse m px args := pvCall_by rfl
theorem cks_rise : pvCall Try.prog KS D L d px 49 args m = callBy fIse m px args := pvCall_by rfl
theorem cks_known : pvCall Try.prog KS D L d px 44 args m = callBy fKnown6 m px args := pvCall_by rfl
end
theorem eks_within : KS 43 = some (.pure fWithin) := rfl
theorem eks_rwithin : KS 45 = some (.pure fWithin) := rfl
theorem eks_read : KS 46 = some (.pure fRead) := rfl
theorem eks_rread : KS 47 = some (.pure fRead) := rfl
theorem eks_ise : KS 48 = some (.pure fIse) := rfl
theorem eks_rise : KS 49 = some (.pure fIse) := rfl
theorem eks_known : KS 44 = some (.pure fKnown6) := rfl
attribute [simp] cks_within eks_within cks_rwithin eks_rwithin cks_read eks_read cks_rread eks_rread cks_ise eks_ise cks_rise eks_rise cks_known eks_known
theorem valsOf_B8app (zs : List Int) (T : List AV) : valsOf (B8 zs ++ T) = (valsOf T).map (zs.map (Value.int .u8) ++ ·) := by
  induction zs with
  | nil => show valsOf T = _; cases valsOf T <;> rfl
  | cons z zs ih =>
    show (valsOf (B8 zs ++ T)).map _ = _
    rw [ih]; cases valsOf T <;> rfl
theorem wiT_eq (v6 : Bool) (zs : List Int) : ∃ (b : Bool) (p : Int) (S E : List Int) (sp dp : Int), S.length = 16 ∧ E.length = 16 ∧ wiT v6 zs = tupA b p S E sp dp := by
  by_cases h : wiE v6 zs = 0
  · exact ⟨v6, hdP v6 zs, hdS v6 zs, hdD v6 zs, _, _, (hdSD_len (wiE_hd h)).1, (hdSD_len (wiE_hd h)).2, by unfold wiT; rw [if_pos h]⟩
  · exact ⟨false, 0, t16, t16, 0, 0, rfl, rfl, by unfold wiT; rw [if_neg h]; rfl⟩
theorem rdT_eq (v6 : Bool) (ss ds zs : List Int) : ∃ (k c : Int) (b : Bool) (p : Int) (S E : List Int) (sp dp : Int), S.length = 16 ∧ E.length = 16 ∧ rdT v6 ss ds zs = repA k c b p S E sp dp := by
  by_cases h : rdE v6 ss ds zs = 0
  · have hw : wiE v6 (zs.drop 8) = 0 := by
      unfold rdE at h
      split at h
      · cases h
      split at h
      · cases h
      split at h
      · cases h
      · exact h
    exact ⟨_, _, v6, _, _, _, _, _, (hdSD_len (wiE_hd hw)).1, (hdSD_len (wiE_hd hw)).2, by unfold rdT; rw [if_pos h]⟩
  · exact ⟨0, 0, false, 0, t16, t16, 0, 0, rfl, rfl, by unfold rdT; rw [if_neg h]; rfl⟩
set_option maxHeartbeats 16000000 in
theorem icmpReads_run (v6 : Bool) (ss ds zs : List Int) (nn : Bool) (cap : Option Nat) (hl : zs.length ≤ 9223372036854775807) (hs : ss.length = 16) (hd : ds.length = 16) (hz : bytesB zs = true) (bs : bytesB ss = true) (bd : bytesB ds = true) : (pvCall Try.prog KS Dm 100000 1 0 12 [.v (.bool v6), .agg (B8 ss), .agg (B8 ds), .sl nn (B8 zs) zs.length cap] (fun _ => none)).map (·.1) = some (.v (.bool true)) := by
  have t1 : ss.take 16 = ss := List.take_of_length_le (by omega)
  have t2 : ds.take 16 = ds := List.take_of_length_le (by omega)
  rw [pvCall_own (fn := Try.f12) rfl Try.func12 rfl (by decide) rfl rfl (by simp)]
  by_cases h1 : 1700 < zs.length
  · have i1 : (1700 : Int) < (zs.length : Int) := by omega
    simp -implicitDefEqProofs [i1, fKnown6, splice, hs, hd]
  have i1 : ¬ (1700 : Int) < (zs.length : Int) := by omega
  have l5 : zs.length ≤ 500000 := by omega
  have l6 : zs.length ≤ 549755813888 := by omega
  have l7 : zs.take zs.length = zs := List.take_length
  have hg : goodM ss ds zs zs.length := ⟨rfl, l5, hs, hd, hz, bs, bd⟩
  have u0 : 0 ≤ IntKind.u8.wrap (zs.length : Int) := by simp [IntKind.wrap, IntKind.signed, IntKind.bits]; omega
  obtain ⟨b, p, S, E, sp, dp, hS, hE, hT⟩ := wiT_eq v6 zs
  obtain ⟨k2, c2, b2, p2, S2, E2, sp2, dp2, hS2, hE2, hR⟩ := rdT_eq v6 ss ds zs
  simp -implicitDefEqProofs [i1, l5, l6, l7, hg, hz, u0, t1, t2, hs, hd, hT, hR, tupA, repA, rdV, fKnown6, fWithin, fRead, fIse, splice, hS, hE, hS2, hE2, B8t16 hS, B8d16 hS, B8t16 hE, B8d16 hE, B8t33 hS, B8t17 hE, B8d32 hS, B8d32 hE, B8t32 hS, B8d33 hS, B8d17 hE, B8d34 hS, B8d18 hE, B8t34 hS, B8t18 hE, B8t16 hS2, B8d16 hS2, B8t16 hE2, B8d16 hE2, B8t33 hS2, B8t17 hE2, B8d32 hS2, B8d32 hE2, B8t32 hS2, B8d33 hS2, B8d17 hE2, B8d34 hS2, B8d18 hE2, B8t34 hS2, B8t18 hE2, Nat.testBit_eq_decide_div_mod_eq, valsOf_B8app, eqV_ci, eqV_cb, eqV_n, eqV_m, pairOk34 hS hE, pairOk34 hS2 hE2, -B8_append]
end Go.Proofs.Ytcbjjkpjbdcakaa

