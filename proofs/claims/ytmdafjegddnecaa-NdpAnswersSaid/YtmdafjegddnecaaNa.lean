/- Neighbours' messages: an advertisement's bytes, by both writers. -/
import Derived.Test.YtmdafjegddnecaaTx
import Derived.Test.YtmdafjegddnecaaMg
import Derived.Test.YtmdafjegddnecaaVb
namespace Go.Proofs.Ytmdafjegddnecaa
open Go.Pm Go.Wb
set_option linter.unusedVariables false
set_option linter.unusedSimpArgs false
set_option maxRecDepth 1000000
set_option maxHeartbeats 4000000 in
theorem nseal_run (ss ds zs : List Int) (nn : Bool) (cap : Option Nat) (hg : goodM ss ds zs zs.length) : runF Try.prog KN Dm 100000 1 55 [.agg (B8 ss), .agg (B8 ds), .sl nn (B8 zs) zs.length cap] = some (.v (.int .u16 (skV true ss ds zs)), []) := by
  obtain ⟨_, hl, hs, hd, hz, bs, bd⟩ := hg
  have l40 : zs.length ≤ 1099511627776 := by omega
  have l64 : (zs.length : Int) ≤ 9223372036854775807 := by omega
  have t1 : ss.take 16 = ss := List.take_of_length_le (by omega)
  have t2 : ds.take 16 = ds := List.take_of_length_le (by omega)
  have p := sumTo_range (s := 0) (o := false) (Int.le_refl 0) (phead_b (v6 := true) (pr := 58) (n := (zs.length : Int)) (bytesB_iff.1 bs) (bytesB_iff.1 bd) (by omega) (by omega))
  have r := sumTo_range (o := false) p.1 (bytesB_iff.1 hz)
  unfold runF skV ck ofV
  rw [pvCall_own (fn := Try.f55) rfl Try.func55 rfl (by decide) rfl rfl (by simp)]
  simp -implicitDefEqProofs [fPse, fAdd, fEnd, hs, hd, hz, bs, bd, l40, l64, t1, t2, p, r, splice]
def fNSeal : Fun
  | [.agg a, .agg b, .sl nn c len cap] => (asB8 a).bind fun ss => (asB8 b).bind fun ds => (asB8 c).bind fun zs => if goodM ss ds zs len then some (.v (.int .u16 (skV true ss ds zs)), []) else none
  | _ => none
theorem nseal_pure : Pure Try.prog 55 fNSeal := (runF_pure kn_ok follows_mixed dm_ok 100000 1 55).weaken fun args r h => by
  unfold fNSeal at h
  split at h
  · rename_i a b nn c len cap
    obtain ⟨ss, e1, h1⟩ := Option.bind_eq_some_iff.1 h
    obtain ⟨ds, e2, h2⟩ := Option.bind_eq_some_iff.1 h1
    obtain ⟨zs, e3, he⟩ := Option.bind_eq_some_iff.1 h2
    clear h h1 h2
    split at he
    case isFalse => cases he
    rename_i hh
    obtain rfl := hh.1
    obtain rfl := asB8_eq e1
    obtain rfl := asB8_eq e2
    obtain rfl := asB8_eq e3
    rw [← he]
    exact nseal_run ss ds zs nn cap hh
  · cases h
theorem nmany_run (S : List Int) (hS : S.length = 16) : runF Try.prog KN Dm 100000 1 58 [.agg (B8 S)] = some (.v (.bool (decide (gb S 0 = 255))), []) := by
  have s0 := B8_at00 S (by omega)
  unfold runF
  rw [pvCall_own (fn := Try.f58) rfl Try.func58 rfl (by decide) rfl rfl (by simp)]
  by_cases h : gb S 0 = 255
  · simp -implicitDefEqProofs [s0, h, hS, splice]
  · have hb : (gb S 0 == 255) = false := by simp [h]
    simp -implicitDefEqProofs [s0, h, hb, hS, splice]
def fNMany : Fun
  | [.agg a] => (asB8 a).bind fun S => if S.length = 16 then some (.v (.bool (decide (gb S 0 = 255))), []) else none
  | _ => none
theorem nmany_pure : Pure Try.prog 58 fNMany := (runF_pure kn_ok follows_mixed dm_ok 100000 1 58).weaken fun args r h => by
  unfold fNMany at h
  split at h
  · obtain ⟨zs, hz, he⟩ := Option.bind_eq_some_iff.1 h
    clear h
    split at he
    case isFalse => cases he
    rename_i hh
    obtain rfl := asB8_eq hz
    rw [← he]
    exact nmany_run zs hh
  · cases h
noncomputable def KNW : Nat → Option Con
  | 55 => some fNSeal
  | 58 => some fNMany
  | 59 => some fSealed
  | _ => none
theorem knw_ok : KOk Try.prog KNW := fun f F h => by
  unfold KNW at h
  split at h
  · cases h; exact ⟨nseal_pure, _, Try.func55, rfl, by decide⟩
  · cases h; exact ⟨nmany_pure, _, Try.func58, rfl, by decide⟩
  · cases h; exact ⟨right_pure, _, Try.func59, rfl, by decide⟩
  · cases h
section
variable {D : FuncId → Nat → List Nat} {L d px : Nat} {args : List AV} {m : Mem}
theorem cknw_nseal : pvCall Try.prog KNW D L d px 55 args m = callBy fNSeal m px args := pvCall_by rfl
theorem cknw_nmany : pvCall Try.prog KNW D L d px 58 args m = callBy fNMany m px args := pvCall_by rfl
theorem cknw_sright : pvCall Try.prog KNW D L d px 59 args m = callBy fSealed m px args := pvCall_by rfl
end
theorem eknw_nseal : KNW 55 = some (.pure fNSeal) := rfl
theorem eknw_nmany : KNW 58 = some (.pure fNMany) := rfl
theorem eknw_sright : KNW 59 = some (.pure fSealed) := rfl
attribute [simp] cknw_nseal eknw_nseal cknw_nmany eknw_nmany cknw_sright eknw_sright
def ndA (ad ro so ov : Bool) (T : List Int) (hm : Bool) (mac : List Int) : AV := .agg (.v (.bool ad) :: .v (.bool ro) :: .v (.bool so) :: .v (.bool ov) :: (B8 T ++ (.v (.bool hm) :: B8 mac)))
/-- An advertisement behind its checksum. -/
def nwX (s : Bool) (T mac : List Int) : List Int := (if s = true then 96 else 32) :: 0 :: 0 :: 0 :: (T ++ (2 :: 1 :: mac))
def nwM (K : Int) (X : List Int) : List Int := 136 :: 0 :: K / 256 :: K % 256 :: X
def nwV (S D : List Int) (s : Bool) (T mac : List Int) : AV × List (List AV) := if gb T 0 = 255 then ewE 5 else ewC (nwM (skV true S D (136 :: 0 :: 0 :: 0 :: nwX s T mac)) (nwX s T mac))
set_option maxHeartbeats 32000000 in
theorem nwrite_run (S D : List Int) (s : Bool) (q0 q1 q2 q3 q4 q5 q6 q7 q8 q9 q10 q11 q12 q13 q14 q15 m0 m1 m2 m3 m4 m5 : Int) (hS : S.length = 16) (hD : D.length = 16) (bS : bytesB S = true) (bD : bytesB D = true) (bT : bytesB [q0, q1, q2, q3, q4, q5, q6, q7, q8, q9, q10, q11, q12, q13, q14, q15] = true) (bM : bytesB [m0, m1, m2, m3, m4, m5] = true) : runF Try.prog KNW Dm 100000 1 18 [.agg (B8 S), .agg (B8 D), ndA true false s true [q0, q1, q2, q3, q4, q5, q6, q7, q8, q9, q10, q11, q12, q13, q14, q15] true [m0, m1, m2, m3, m4, m5]] = some (nwV S D s [q0, q1, q2, q3, q4, q5, q6, q7, q8, q9, q10, q11, q12, q13, q14, q15] [m0, m1, m2, m3, m4, m5]) := by
  have t1 : S.take 16 = S := List.take_of_length_le (by omega)
  have t2 : D.take 16 = D := List.take_of_length_le (by omega)
  have k1 : IntKind.u8.wrap 1 = 1 := by decide
  have k2 : IntKind.u8.wrap 2 = 2 := by decide
  have k3 : IntKind.u8.wrap 32 = 32 := by decide
  have k4 : IntKind.u8.wrap 64 = 64 := by decide
  have k5 : IntKind.u8.wrap 96 = 96 := by decide
  have o1 : bits .or .u8 0 64 = 64 := by decide
  have o2 : bits .or .u8 64 32 = 96 := by decide
  have o3 : bits .or .u8 0 32 = 32 := by decide
  unfold runF nwV
  rw [pvCall_own (fn := Try.f18) rfl Try.func18 rfl (by decide) rfl rfl (by simp)]
  by_cases h : q0 = 255
  · subst h
    have h1 : gb [255, q1, q2, q3, q4, q5, q6, q7, q8, q9, q10, q11, q12, q13, q14, q15] 0 = 255 := rfl
    simp -implicitDefEqProofs [h1, ndA, fNMany, asB8_nil'', asB8_cons'', B8vc, B8vn, hS, hD, t1, t2, ewE, splice]
  have h1 : ¬ gb [q0, q1, q2, q3, q4, q5, q6, q7, q8, q9, q10, q11, q12, q13, q14, q15] 0 = 255 := h
  have h2 : (q0 == 255) = false := by simp [h]
  have hgm : ∀ b : Int, 0 ≤ b → b ≤ 255 → goodM S D (136 :: 0 :: 0 :: 0 :: b :: 0 :: 0 :: 0 :: ([q0, q1, q2, q3, q4, q5, q6, q7, q8, q9, q10, q11, q12, q13, q14, q15] ++ (2 :: 1 :: [m0, m1, m2, m3, m4, m5]))) 32 := fun b b0 b1 => ⟨rfl, by decide, hS, hD, by simp only [bytesB_cons, bytesB_append, bT, bM]; simp [b0, b1], bS, bD⟩
  have bz : ∀ b : Int, 0 ≤ b → b ≤ 255 → bytesB (136 :: 0 :: 0 :: 0 :: b :: 0 :: 0 :: 0 :: ([q0, q1, q2, q3, q4, q5, q6, q7, q8, q9, q10, q11, q12, q13, q14, q15] ++ (2 :: 1 :: [m0, m1, m2, m3, m4, m5]))) = true := fun b b0 b1 => (hgm b b0 b1).2.2.2.2.1
  simp only [List.cons_append, List.nil_append] at hgm bz
  cases s with
  | true =>
    have hgk := hgm 96 (by decide) (by decide)
    have hbk := bz 96 (by decide) (by decide)
    have hK := eskV_range (v6 := true) hgk.2.2.2.2.1 bS bD
    have hX : nwX true [q0, q1, q2, q3, q4, q5, q6, q7, q8, q9, q10, q11, q12, q13, q14, q15] [m0, m1, m2, m3, m4, m5] = 96 :: 0 :: 0 :: 0 :: ([q0, q1, q2, q3, q4, q5, q6, q7, q8, q9, q10, q11, q12, q13, q14, q15] ++ (2 :: 1 :: [m0, m1, m2, m3, m4, m5])) := rfl
    rw [hX]
    simp only [List.cons_append, List.nil_append] at hK ⊢
    generalize hKe : skV true S D [136, 0, 0, 0, 96, 0, 0, 0, q0, q1, q2, q3, q4, q5, q6, q7, q8, q9, q10, q11, q12, q13, q14, q15, 2, 1, m0, m1, m2, m3, m4, m5] = K at *
    have hKc : ck true S D 58 [136, 0, 0, 0, 96, 0, 0, 0, q0, q1, q2, q3, q4, q5, q6, q7, q8, q9, q10, q11, q12, q13, q14, q15, 2, 1, m0, m1, m2, m3, m4, m5] = K := hKe
    have r1 : K.fdiv 256 = K / 256 := Int.fdiv_eq_ediv_of_nonneg _ (by omega)
    have r2 : K.tdiv 256 = K / 256 := Int.tdiv_eq_ediv_of_nonneg (by omega)
    have r3 : K.tmod 256 = K % 256 := Int.tmod_eq_emod_of_nonneg (by omega)
    have r4 : IntKind.u8.wrap (K / 256) = K / 256 := wrapu8_id (by omega) (by omega)
    have r5 : IntKind.u8.wrap (K % 256) = K % 256 := wrapu8_id (by omega) (by omega)
    have r6 : IntKind.u8.wrap K = K % 256 := by simp [IntKind.wrap, IntKind.signed, IntKind.bits]
    have r7 : IntKind.u16.wrap (K / 256) = K / 256 := wrapu16_id (by omega) (by omega)
    have r8 : IntKind.u16.wrap (K % 256) = K % 256 := wrapu16_id (by omega) (by omega)
    simp -implicitDefEqProofs [k1, k2, k3, k4, k5, o1, o2, o3, h, h1, h2, hgk, hbk, hKe, hKc, r1, r2, r3, r4, r5, r6, r7, r8, ndA, nwM, fNMany, fNSeal, fSealed, fCk, hS, hD, bS, bD, t1, t2, loopK_pos, asB8_nil'', asB8_cons'', B8vc, B8vn, ewC, IntKind.bits, Nat.testBit_eq_decide_div_mod_eq, List.replicate_succ, splice]
  | false =>
    have hgk := hgm 32 (by decide) (by decide)
    have hbk := bz 32 (by decide) (by decide)
    have hK := eskV_range (v6 := true) hgk.2.2.2.2.1 bS bD
    have hX : nwX false [q0, q1, q2, q3, q4, q5, q6, q7, q8, q9, q10, q11, q12, q13, q14, q15] [m0, m1, m2, m3, m4, m5] = 32 :: 0 :: 0 :: 0 :: ([q0, q1, q2, q3, q4, q5, q6, q7, q8, q9, q10, q11, q12, q13, q14, q15] ++ (2 :: 1 :: [m0, m1, m2, m3, m4, m5])) := rfl
    rw [hX]
    simp only [List.cons_append, List.nil_append] at hK ⊢
    generalize hKe : skV true S D [136, 0, 0, 0, 32, 0, 0, 0, q0, q1, q2, q3, q4, q5, q6, q7, q8, q9, q10, q11, q12, q13, q14, q15, 2, 1, m0, m1, m2, m3, m4, m5] = K at *
    have hKc : ck true S D 58 [136, 0, 0, 0, 32, 0, 0, 0, q0, q1, q2, q3, q4, q5, q6, q7, q8, q9, q10, q11, q12, q13, q14, q15, 2, 1, m0, m1, m2, m3, m4, m5] = K := hKe
    have r1 : K.fdiv 256 = K / 256 := Int.fdiv_eq_ediv_of_nonneg _ (by omega)
    have r2 : K.tdiv 256 = K / 256 := Int.tdiv_eq_ediv_of_nonneg (by omega)
    have r3 : K.tmod 256 = K % 256 := Int.tmod_eq_emod_of_nonneg (by omega)
    have r4 : IntKind.u8.wrap (K / 256) = K / 256 := wrapu8_id (by omega) (by omega)
    have r5 : IntKind.u8.wrap (K % 256) = K % 256 := wrapu8_id (by omega) (by omega)
    have r6 : IntKind.u8.wrap K = K % 256 := by simp [IntKind.wrap, IntKind.signed, IntKind.bits]
    have r7 : IntKind.u16.wrap (K / 256) = K / 256 := wrapu16_id (by omega) (by omega)
    have r8 : IntKind.u16.wrap (K % 256) = K % 256 := wrapu16_id (by omega) (by omega)
    simp -implicitDefEqProofs [k1, k2, k3, k4, k5, o1, o2, o3, h, h1, h2, hgk, hbk, hKe, hKc, r1, r2, r3, r4, r5, r6, r7, r8, ndA, nwM, fNMany, fNSeal, fSealed, fCk, hS, hD, bS, bD, t1, t2, loopK_pos, asB8_nil'', asB8_cons'', B8vc, B8vn, ewC, IntKind.bits, Nat.testBit_eq_decide_div_mod_eq, List.replicate_succ, splice]
end Go.Proofs.Ytmdafjegddnecaa
