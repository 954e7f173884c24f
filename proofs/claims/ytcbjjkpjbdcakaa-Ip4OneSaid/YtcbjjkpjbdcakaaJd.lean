/- ip4.check and ip4.Read as functions of values. -/
import Derived.Test.YtcbjjkpjbdcakaaMe
namespace Go.Proofs.Ytcbjjkpjbdcakaa
open Go.Pm Go.Wb
set_option linter.unusedVariables false
set_option linter.unusedSimpArgs false
set_option maxRecDepth 1000000
theorem runF_plain {P : Program} {K : FuncId → Option Con} {D : FuncId → Nat → List Nat} {L d : Nat} {f : FuncId} {args : List AV} {x : Value} (h : (pvCall P K D L d 0 f args (fun _ => none)).map (·.1) = some (.v x)) : runF P K D L d f args = some (.v x, []) := by
  obtain ⟨⟨y, m'⟩, h1, h2⟩ := Option.map_eq_some_iff.1 h
  simp only at h2
  subst h2
  unfold runF
  rw [h1]
  simp
def fOpt : Fun := fun args => match args.map AV.norm with
  | [.sl nn b len cap] => (asB8 b).bind fun zs => if zs.length = len ∧ len ≤ 9223372036854775807 ∧ bytesB zs = true then some (.v (.int .i64 (optE zs)), []) else none
  | _ => none
theorem opt_pure : Pure Try.prog 32 fOpt := ((runF_pure k0_ok follows_mixed dm_ok 100000 1 32).norm).weaken fun args r h => by
  unfold fOpt at h
  generalize args.map AV.norm = args at h ⊢
  split at h
  · rename_i nn b len cap
    obtain ⟨zs, hz, he⟩ := Option.bind_eq_some_iff.1 h
    clear h
    split at he
    case isFalse => cases he
    rename_i hh
    obtain ⟨rfl, h1, h2⟩ := hh
    obtain rfl := asB8_eq hz
    rw [← he]
    exact opt_run zs nn cap h2 h1
  · cases h
theorem ropt_pure : Pure Try.prog 33 fOpt := ((runF_pure k0_ok follows_mixed dm_ok 100000 1 33).norm).weaken fun args r h => by
  unfold fOpt at h
  generalize args.map AV.norm = args at h ⊢
  split at h
  · rename_i nn b len cap
    obtain ⟨zs, hz, he⟩ := Option.bind_eq_some_iff.1 h
    clear h
    split at he
    case isFalse => cases he
    rename_i hh
    obtain ⟨rfl, h1, h2⟩ := hh
    obtain rfl := asB8_eq hz
    rw [← he]
    exact runF_plain (ropt_run zs nn cap h2 h1)
  · cases h
def KE : Nat → Option Con
  | 32 => some fOpt
  | 33 => some fOpt
  | 34 => some fOf
  | 62 => some fOf
  | 61 => some fWord4
  | 63 => some fWord4
  | 64 => some fAddr
  | 56 => some fClone
  | _ => none
theorem ke_ok : KOk Try.prog KE := fun f F h => by
  unfold KE at h
  split at h
  · cases h; exact ⟨opt_pure, _, Try.func32, rfl, by decide⟩
  · cases h; exact ⟨ropt_pure, _, Try.func33, rfl, by decide⟩
  · cases h; exact ⟨of_pure, _, Try.func34, rfl, by decide⟩
  · cases h; exact ⟨rof_pure, _, Try.func62, rfl, by decide⟩
  · cases h; exact ⟨word4_pure, _, Try.func61, rfl, by decide⟩
  · cases h; exact ⟨two4_pure, _, Try.func63, rfl, by decide⟩
  · cases h; exact ⟨addr_pure, _, Try.func64, rfl, by decide⟩
  · cases h; exact ⟨clone_pure, _, Try.func56, rfl, by decide⟩
  · cases h
section
variable {D : FuncId → Nat → List Nat} {L d px : Nat} {args : List AV} {m : Mem}
theorem ce_opt : pvCall Try.prog KE D L d px 32 args m = callBy fOpt m px args := pvCall_by rfl
theorem ce_ropt : pvCall Try.prog KE D L d px 33 args m = callBy fOpt m px args := pvCall_by rfl
theorem ce_of : pvCall Try.prog KE D L d px 34 args m = callBy fOf m px args := pvCall_by rfl
theorem ce_rof : pvCall Try.prog KE D L d px 62 args m = callBy fOf m px args := pvCall_by rfl
theorem ce_word : pvCall Try.prog KE D L d px 61 args m = callBy fWord4 m px args := pvCall_by rfl
theorem ce_two : pvCall Try.prog KE D L d px 63 args m = callBy fWord4 m px args := pvCall_by rfl
theorem ce_addr : pvCall Try.prog KE D L d px 64 args m = callBy fAddr m px args := pvCall_by rfl
theorem ce_clone : pvCall Try.prog KE D L d px 56 args m = callBy fClone m px args := pvCall_by rfl
end
theorem ke_opt : KE 32 = some (.pure fOpt) := rfl
theorem ke_ropt : KE 33 = some (.pure fOpt) := rfl
theorem ke_of : KE 34 = some (.pure fOf) := rfl
theorem ke_rof : KE 62 = some (.pure fOf) := rfl
theorem ke_word : KE 61 = some (.pure fWord4) := rfl
theorem ke_two : KE 63 = some (.pure fWord4) := rfl
theorem ke_addr : KE 64 = some (.pure fAddr) := rfl
theorem ke_clone : KE 56 = some (.pure fClone) := rfl
attribute [simp] ce_opt ke_opt ce_ropt ke_ropt ce_of ke_of ce_rof ke_rof ce_word ke_word ce_two ke_two ce_addr ke_addr ce_clone ke_clone
theorem and_pow (a i : Nat) : a &&& 2 ^ i = if a.testBit i = true then 2 ^ i else 0 := by
  apply Nat.eq_of_testBit_eq
  intro j
  rw [Nat.testBit_and, Nat.testBit_two_pow]
  by_cases h : i = j
  · subst h
    by_cases h2 : a.testBit i = true
    · rw [if_pos h2, Nat.testBit_two_pow]; simp [h2]
    · rw [if_neg h2]; simp [h2]
  · by_cases h2 : a.testBit i = true
    · rw [if_pos h2, Nat.testBit_two_pow]; simp [h]
    · rw [if_neg h2]; simp [h]
theorem and15 (z : Int) (h0 : 0 ≤ z) (h1 : z ≤ 65535) : bits .and .i64 z 32768 = if 32768 ≤ z then 32768 else 0 := by
  obtain ⟨a, rfl⟩ := Int.eq_ofNat_of_zero_le h0
  rw [show (32768 : Int) = ((2 ^ 15 : Nat) : Int) from rfl, i64_and_nat _ _ (by omega) (by omega), and_pow, Nat.testBit_eq_decide_div_mod_eq]
  by_cases h : a / 2 ^ 15 % 2 = 1
  · rw [decide_eq_true h, if_pos rfl, if_pos (by omega)]
  · rw [decide_eq_false h, if_neg (by simp), if_neg (by omega)]; rfl
theorem and14 (z : Int) (h0 : 0 ≤ z) (h1 : z ≤ 65535) : bits .and .i64 z 16384 = if 16384 ≤ z % 32768 then 16384 else 0 := by
  obtain ⟨a, rfl⟩ := Int.eq_ofNat_of_zero_le h0
  rw [show (16384 : Int) = ((2 ^ 14 : Nat) : Int) from rfl, i64_and_nat _ _ (by omega) (by omega), and_pow, Nat.testBit_eq_decide_div_mod_eq]
  by_cases h : a / 2 ^ 14 % 2 = 1
  · rw [decide_eq_true h, if_pos rfl, if_pos (by omega)]
  · rw [decide_eq_false h, if_neg (by simp), if_neg (by omega)]; rfl
theorem and13 (z : Int) (h0 : 0 ≤ z) (h1 : z ≤ 65535) : bits .and .i64 z 16383 = z % 16384 := by
  obtain ⟨a, rfl⟩ := Int.eq_ofNat_of_zero_le h0
  rw [show (16383 : Int) = ((2 ^ 14 - 1 : Nat) : Int) from rfl, i64_and_nat _ _ (by omega) (by omega), Nat.and_two_pow_sub_one_eq_mod]
  omega
/-- A header's length by its first byte. -/
def hl4 (zs : List Int) : Nat := (4 * (gb zs 0 % 16)).toNat
/-- What is wrong with a packet's bytes: 0 if nothing is. -/
def chk4 (zs : List Int) : Int :=
  if zs.length < 20 then 4 else if ¬ gb zs 0 / 16 = 4 ∨ hl4 zs < 20 then 5 else if zs.length < hl4 zs then 4 else if ¬ ofV (zs.take (hl4 zs)) = 0 then 6 else
  if w16 zs 2 < hl4 zs then 5 else if (zs.length : Int) < w16 zs 2 then 4 else if 32768 ≤ w16 zs 6 then 5 else if ¬ optE ((zs.drop 20).take (hl4 zs - 20)) = 0 then optE ((zs.drop 20).take (hl4 zs - 20)) else if ¬ w16 zs 6 % 16384 = 0 then 11 else 0
theorem hl4_range {zs : List Int} (hz : bytesB zs = true) : (hl4 zs : Int) = 4 * (gb zs 0 % 16) ∧ hl4 zs ≤ 60 := by
  have := gb_range hz 0
  unfold hl4; omega
set_option maxHeartbeats 32000000 in
theorem check_run (zs : List Int) (nn : Bool) (cap : Option Nat) (hz : bytesB zs = true) (hl : zs.length ≤ 500000) : runF Try.prog KE Dm 100000 1 60 [.sl nn (B8 zs) zs.length cap] = some (.v (.int .i64 (chk4 zs)), []) := by
  unfold runF chk4
  rw [pvCall_own (fn := Try.f60) rfl Try.func60 rfl (by decide) rfl rfl (by simp)]
  by_cases h20 : zs.length < 20
  · have i20 : (zs.length : Int) < 20 := by omega
    rw [if_pos h20]
    simp -implicitDefEqProofs [i20]
  rw [if_neg h20]
  have i20 : ¬ (zs.length : Int) < 20 := by omega
  have a0 := B8_at00 zs (by omega)
  have l0 : 0 < zs.length := by omega
  have i0 : (0 : Int) < (zs.length : Int) := by omega
  have g0 := gb_range hz 0
  have n4 := and15v (gb zs 0) g0.1 g0.2
  have w0 : IntKind.i64.wrap (gb zs 0 % 16) = gb zs 0 % 16 := wrap64_id (by omega) (by omega)
  obtain ⟨e1, e2⟩ := hl4_range hz
  have w1 : IntKind.i64.wrap (4 * (gb zs 0 % 16)) = (hl4 zs : Int) := by rw [wrap64_id (by omega) (by omega)]; omega
  have s1 : (gb zs 0).fdiv 16 = gb zs 0 / 16 := Int.fdiv_eq_ediv_of_nonneg _ (by omega)
  generalize hl4 zs = n at *
  by_cases h1 : gb zs 0 / 16 = 4
  case neg =>
    have h1n : (gb zs 0 / 16 != 4) = true := by simp [h1]
    have h1e : (gb zs 0 / 16 == 4) = false := by simp [h1]
    rw [if_pos (.inl h1)]
    simp -implicitDefEqProofs [i20, a0, l0, i0, n4, w0, w1, s1, h1, h1n, h1e, IntKind.bits]
  by_cases h2 : n < 20
  · have h2i : (n : Int) < 20 := by omega
    rw [if_pos (.inr h2)]
    simp -implicitDefEqProofs [i20, a0, l0, i0, n4, w0, w1, s1, h1, h2, h2i, IntKind.bits]
  rw [if_neg (by omega)]
  have h2i : ¬ (n : Int) < 20 := by omega
  by_cases h3 : zs.length < n
  · have h3i : (zs.length : Int) < (n : Int) := by omega
    rw [if_pos h3]
    simp -implicitDefEqProofs [i20, a0, l0, i0, n4, w0, w1, s1, h1, h2, h2i, h3i, IntKind.bits]
  rw [if_neg h3]
  have h3i : ¬ (zs.length : Int) < (n : Int) := by omega
  have r1 : (n : Int) ≤ (zs.length : Int) := by omega
  have r2 : n ≤ zs.length := by omega
  have r3 : n ≤ 1099511627776 := by omega
  have r4 : bytesB (zs.take n) = true := bytesB_take hz n
  have r5 : min n zs.length = n := by omega
  have r6 := w16_range (bytesB_iff.1 hz) 2
  have r7 := w16_range (bytesB_iff.1 hz) 6
  have r8 : zs.length ≤ 1099511627776 := by omega
  have r9 : (2 : Int) + 1 < (zs.length : Int) := by omega
  have r10 : (6 : Int) + 1 < (zs.length : Int) := by omega
  have r11 : (3 : Int) < (zs.length : Int) := by omega
  have r12 : (7 : Int) < (zs.length : Int) := by omega
  have r13 : (20 : Int) ≤ (n : Int) := by omega
  have r14 : ((zs.drop 20).take (n - 20)).length = n - 20 := by simp; omega
  have r15 : n - 20 ≤ 9223372036854775807 := by omega
  have r16 : bytesB ((zs.drop 20).take (n - 20)) = true := bytesB_take (bytesB_drop hz _) _
  have r17 : 20 ≤ n := by omega
  have c15 := and15 (w16 zs 6) r7.1 r7.2
  have c13 := and13 (w16 zs 6) r7.1 r7.2
  by_cases h4 : ofV (zs.take n) = 0
  case neg =>
    have h4n : (ofV (zs.take n) != 0) = true := by simp [h4]
    have h4e : (ofV (zs.take n) == 0) = false := by simp [h4]
    rw [if_pos h4]
    simp -implicitDefEqProofs [i20, a0, l0, i0, n4, w0, w1, s1, h1, h2, h2i, h3i, r1, r2, r3, r4, r5, r8, r9, r10, r11, r12, r13, r14, r15, r16, r17, hz, fOf, fWord4, fOpt, IntKind.bits, h4, h4n, h4e]
  rw [if_neg (by simpa using h4)]
  by_cases h5 : w16 zs 2 < (n : Int)
  · rw [if_pos h5]
    simp -implicitDefEqProofs [i20, a0, l0, i0, n4, w0, w1, s1, h1, h2, h2i, h3i, r1, r2, r3, r4, r5, r8, r9, r10, r11, r12, r13, r14, r15, r16, r17, hz, fOf, fWord4, fOpt, IntKind.bits, h4, h5]
  rw [if_neg h5]
  by_cases h6 : (zs.length : Int) < w16 zs 2
  · rw [if_pos h6]
    simp -implicitDefEqProofs [i20, a0, l0, i0, n4, w0, w1, s1, h1, h2, h2i, h3i, r1, r2, r3, r4, r5, r8, r9, r10, r11, r12, r13, r14, r15, r16, r17, hz, fOf, fWord4, fOpt, IntKind.bits, h4, h5, h6]
  rw [if_neg h6]
  by_cases h7 : 32768 ≤ w16 zs 6
  · rw [if_pos h7]
    rw [if_pos h7] at c15
    simp -implicitDefEqProofs [i20, a0, l0, i0, n4, w0, w1, s1, h1, h2, h2i, h3i, r1, r2, r3, r4, r5, r8, r9, r10, r11, r12, r13, r14, r15, r16, r17, hz, fOf, fWord4, fOpt, IntKind.bits, h4, h5, h6, c15]
  rw [if_neg h7]
  rw [if_neg h7] at c15
  by_cases h8 : optE ((zs.drop 20).take (n - 20)) = 0
  case neg =>
    have h8n : (optE ((zs.drop 20).take (n - 20)) != 0) = true := by simp [h8]
    have h8e : (optE ((zs.drop 20).take (n - 20)) == 0) = false := by simp [h8]
    rw [if_pos h8]
    simp -implicitDefEqProofs [i20, a0, l0, i0, n4, w0, w1, s1, h1, h2, h2i, h3i, r1, r2, r3, r4, r5, r8, r9, r10, r11, r12, r13, r14, r15, r16, r17, hz, fOf, fWord4, fOpt, IntKind.bits, h4, h5, h6, c15, h8, h8n, h8e]
  rw [if_neg (by simpa using h8)]
  by_cases h9 : w16 zs 6 % 16384 = 0
  case neg =>
    have h9n : (w16 zs 6 % 16384 != 0) = true := by simp [h9]
    have h9e : (w16 zs 6 % 16384 == 0) = false := by simp [h9]
    rw [if_pos h9]
    simp -implicitDefEqProofs [i20, a0, l0, i0, n4, w0, w1, s1, h1, h2, h2i, h3i, r1, r2, r3, r4, r5, r8, r9, r10, r11, r12, r13, r14, r15, r16, r17, hz, fOf, fWord4, fOpt, IntKind.bits, h4, h5, h6, c15, c13, h8, h9, h9n, h9e]
  rw [if_neg (by simpa using h9)]
  simp -implicitDefEqProofs [i20, a0, l0, i0, n4, w0, w1, s1, h1, h2, h2i, h3i, r1, r2, r3, r4, r5, r8, r9, r10, r11, r12, r13, r14, r15, r16, r17, hz, fOf, fWord4, fOpt, IntKind.bits, h4, h5, h6, c15, c13, h8, h9]
end Go.Proofs.Ytcbjjkpjbdcakaa
