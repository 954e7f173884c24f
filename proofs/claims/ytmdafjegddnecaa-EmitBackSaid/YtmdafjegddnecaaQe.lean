/- seg.ReadTCP as a function of values. -/
import Derived.Test.YtmdafjegddnecaaQd
namespace Go.Proofs.Ytmdafjegddnecaa
open Go.Pm
set_option linter.unusedVariables false
set_option linter.unusedSimpArgs false
set_option maxRecDepth 1000000

@[simp] theorem drawK_made {P : Program} {K : FuncId → Option Con} {nt px : Nat} (ops : Array Oper) (masks : List Nat) (os : List Oper) (j : Nat) (hist : Hist) (dst : Option Tmp) (st : St) (x : AV) (u : Nat × Blk) (us : List (Nat × Blk)) : drawK P K nt px ops masks os j hist dst st (some (x, u :: us, [])) =
    if (hist.all (clearL (masks.getD j 0) ((u :: us).map (·.1)) ((u :: us).map (·.1)))) = true then (St.put nt ⟨st.t, applyU st.m (u :: us)⟩ dst x).bind (drawGo P K nt px ops masks os (j + 1) (hist ++ [(j, (u :: us).map (·.1), (u :: us).map (·.1))])) else none := rfl
@[simp] theorem closeL_B8 (m : Mem) (zs : List Int) : closeL m (B8 zs) = some (B8 zs) := by
  induction zs with
  | nil => rfl
  | cons z zs ih => show (closeLeaf m _).bind (fun y => (closeL m (B8 zs)).map (y :: ·)) = _; rw [ih]; rfl
theorem and15v (z : Int) (h0 : 0 ≤ z) (h1 : z ≤ 255) : bits .and .u8 z 15 = z % 16 := by
  have h : z < 256 := by omega
  go_bits2
theorem by_at {D : FuncId → Nat → List Nat} {L d px : Nat} {args : List AV} {m : Mem} : pvCall Try.prog K2 D L d px 135 args m = callBy fAt m px args := pvCall_by rfl
theorem by_four {D : FuncId → Nat → List Nat} {L d px : Nat} {args : List AV} {m : Mem} : pvCall Try.prog K2 D L d px 157 args m = callBy fFour m px args := pvCall_by rfl
theorem by_word {D : FuncId → Nat → List Nat} {L d px : Nat} {args : List AV} {m : Mem} : pvCall Try.prog K2 D L d px 156 args m = callBy fWord m px args := pvCall_by rfl
theorem by_clone {D : FuncId → Nat → List Nat} {L d px : Nat} {args : List AV} {m : Mem} : pvCall Try.prog K2 D L d px 66 args m = callBy fClone m px args := pvCall_by rfl
theorem by_sealed {D : FuncId → Nat → List Nat} {L d px : Nat} {args : List AV} {m : Mem} : pvCall Try.prog K2 D L d px 136 args m = callBy fSealed m px args := pvCall_by rfl
theorem by_right {D : FuncId → Nat → List Nat} {L d px : Nat} {args : List AV} {m : Mem} : pvCall Try.prog K2 D L d px 59 args m = callBy fSealed m px args := pvCall_by rfl
theorem k2_at : K2 135 = some (.pure fAt) := rfl
theorem k2_four : K2 157 = some (.pure fFour) := rfl
theorem k2_word : K2 156 = some (.pure fWord) := rfl
theorem k2_clone : K2 66 = some (.pure fClone) := rfl
theorem k2_sealed : K2 136 = some (.pure fSealed) := rfl
theorem k2_right : K2 59 = some (.pure fSealed) := rfl
attribute [simp] by_at by_four by_word by_clone by_sealed by_right k2_at k2_four k2_word k2_clone k2_sealed k2_right callBy callE closeArgs closeArg closeLeaf closeL AV.shut shutL place siteRen upsOf fAt fFour fWord fClone fSealed fCk


def noT : AV := .agg [.v (.int .u16 0), .v (.int .u16 0), .v (.int .u32 0), .v (.int .u32 0), .v (.int .u8 0), .v (.int .u8 0), .v (.int .u16 0), .v (.int .u16 0), .v (.slice none 0 0)]
set_option maxHeartbeats 8000000 in
theorem ptcp_short (zs : List Int) (v6 : Bool) (ss ds : List Int) (nn : Bool) (cap : Option Nat) (h : zs.length < 20) : runF Try.prog K2 Dm 100000 1 128 [.v (.bool v6), .agg (B8 ss), .agg (B8 ds), .sl nn (B8 zs) zs.length cap] = some (.tup [noT, .v (.slice none 0 0), .v (.int .i64 4)], []) := by
  have h1 : (zs.length : Int) < 20 := by omega
  unfold runF noT
  rw [pvCall_own (fn := Try.f128) rfl Try.func128 rfl (by decide) rfl rfl (by simp)]
  simp -implicitDefEqProofs [h1, splice]
def tcpH (zs : List Int) (o : AV) : AV := .agg [.v (.int .u16 (w16 zs 0)), .v (.int .u16 (w16 zs 2)), .v (.int .u32 (w32 zs 4)), .v (.int .u32 (w32 zs 8)), .v (.int .u8 (gb zs 12 % 16)), .v (.int .u8 (gb zs 13)), .v (.int .u16 (w16 zs 14)), .v (.int .u16 (w16 zs 18)), o]
def tcpR (zs : List Int) (n : Nat) : AV × List (List AV) := (.tup [tcpH zs (.own 0 0 0 (n - 20) 1 (.whole 5)), .own 1 0 0 (zs.length - n) 1 (.whole 5), .v (.int .i64 0)], [B8 ((zs.drop 20).take (n - 20)), B8 (zs.drop n)])
def errT (e : Int) : AV × List (List AV) := (.tup [noT, .v (.slice none 0 0), .v (.int .i64 e)], [])
set_option maxHeartbeats 8000000 in
theorem ptcp_ok (zs : List Int) (v6 : Bool) (ss ds : List Int) (nn : Bool) (cap : Option Nat) (n : Nat) (h20 : 20 ≤ zs.length) (hn : (n : Int) = gb zs 12 / 16 * 4) (hn1 : 20 ≤ n) (hn2 : n ≤ zs.length) (hs : ss.length = 16) (hd : ds.length = 16) (hz : bytesB zs = true) (bs : bytesB ss = true) (bd : bytesB ds = true) (hl : zs.length ≤ 500000) (hck : ck v6 ss ds 6 zs = 0) :
    runF Try.prog K2 Dm 100000 1 128 [.v (.bool v6), .agg (B8 ss), .agg (B8 ds), .sl nn (B8 zs) zs.length cap] = some (tcpR zs n) := by
  have h1 : ¬ (zs.length : Int) < 20 := by omega
  have g12 := gb_range hz 12
  have a12 := B8_at0 zs 12 (by omega)
  have a13 := B8_at0 zs 13 (by omega)
  have l12 : (12 : Nat) < zs.length := by omega
  have l13 : (13 : Nat) < zs.length := by omega
  have s1 : (gb zs 12).fdiv 16 = gb zs 12 / 16 := Int.fdiv_eq_ediv_of_nonneg _ (by omega)
  have w1 : IntKind.i64.wrap (gb zs 12 / 16) = gb zs 12 / 16 := wrap64_id (by omega) (by omega)
  have w2 : IntKind.i64.wrap (gb zs 12 / 16 * 4) = (n : Int) := by rw [← hn]; exact wrap64_id (by omega) (by omega)
  have q1 : ¬ (n : Int) < 20 := by omega
  have q2 : ¬ (zs.length : Int) < (n : Int) := by omega
  have l40 : zs.length ≤ 1099511627776 := by omega
  have and15 := and15v (gb zs 12) g12.1 g12.2
  have t1 : ss.take 16 = ss := List.take_of_length_le (by omega)
  have t2 : ds.take 16 = ds := List.take_of_length_le (by omega)
  unfold runF tcpR tcpH
  rw [pvCall_own (fn := Try.f128) rfl Try.func128 rfl (by decide) rfl rfl (by simp)]
  have k12 : (12 : Int) < (zs.length : Int) := by omega
  have k13 : (13 : Int) < (zs.length : Int) := by omega
  have k20 : (20 : Int) ≤ (zs.length : Int) := by omega
  have k1 : (1 : Int) < (zs.length : Int) := by omega
  have k3 : (3 : Int) < (zs.length : Int) := by omega
  have k7 : (7 : Int) < (zs.length : Int) := by omega
  have k11 : (11 : Int) < (zs.length : Int) := by omega
  have k15 : (15 : Int) < (zs.length : Int) := by omega
  have k19 : (19 : Int) < (zs.length : Int) := by omega
  have ht : List.take (zs.length - n) (List.drop n zs) = List.drop n zs := List.take_of_length_le (by simp)
  have m1 : min (n - 20) (zs.length - 20) = n - 20 := by omega
  have m2 : n ≤ 549755813908 := by omega
  have m3 : 0 < zs.length := by omega
  have m4 : zs.length ≤ 549755813888 + n := by omega
  simp -implicitDefEqProofs [Nat.testBit_eq_decide_div_mod_eq, ht, m1, m2, m3, m4, h1, splice, k1, k3, k7, k11, k15, k19, k12, k13, k20, hn1, hn2, a12, a13, l12, l13, s1, w1, w2, q1, q2, IntKind.bits, hs, hd, hz, bs, bd, hck, l40, and15, t1, t2]
set_option maxHeartbeats 8000000 in
theorem ptcp_form (zs : List Int) (v6 : Bool) (ss ds : List Int) (nn : Bool) (cap : Option Nat) (h20 : 20 ≤ zs.length) (hz : bytesB zs = true) (hn : gb zs 12 / 16 < 5) : runF Try.prog K2 Dm 100000 1 128 [.v (.bool v6), .agg (B8 ss), .agg (B8 ds), .sl nn (B8 zs) zs.length cap] = some (errT 5) := by
  have h1 : ¬ (zs.length : Int) < 20 := by omega
  have g12 := gb_range hz 12
  have a12 := B8_at0 zs 12 (by omega)
  have l12 : (12 : Nat) < zs.length := by omega
  have k12 : (12 : Int) < (zs.length : Int) := by omega
  have s1 : (gb zs 12).fdiv 16 = gb zs 12 / 16 := Int.fdiv_eq_ediv_of_nonneg _ (by omega)
  have w1 : IntKind.i64.wrap (gb zs 12 / 16) = gb zs 12 / 16 := wrap64_id (by omega) (by omega)
  have w2 : IntKind.i64.wrap (gb zs 12 / 16 * 4) = gb zs 12 / 16 * 4 := wrap64_id (by omega) (by omega)
  have q1 : gb zs 12 / 16 * 4 < 20 := by omega
  unfold runF errT noT
  rw [pvCall_own (fn := Try.f128) rfl Try.func128 rfl (by decide) rfl rfl (by simp)]
  simp -implicitDefEqProofs [h1, splice, k12, a12, l12, s1, w1, w2, q1, IntKind.bits]
set_option maxHeartbeats 8000000 in
theorem ptcp_short2 (zs : List Int) (v6 : Bool) (ss ds : List Int) (nn : Bool) (cap : Option Nat) (h20 : 20 ≤ zs.length) (hz : bytesB zs = true) (hn : 5 ≤ gb zs 12 / 16) (hn2 : (zs.length : Int) < gb zs 12 / 16 * 4) : runF Try.prog K2 Dm 100000 1 128 [.v (.bool v6), .agg (B8 ss), .agg (B8 ds), .sl nn (B8 zs) zs.length cap] = some (errT 4) := by
  have h1 : ¬ (zs.length : Int) < 20 := by omega
  have g12 := gb_range hz 12
  have a12 := B8_at0 zs 12 (by omega)
  have l12 : (12 : Nat) < zs.length := by omega
  have k12 : (12 : Int) < (zs.length : Int) := by omega
  have s1 : (gb zs 12).fdiv 16 = gb zs 12 / 16 := Int.fdiv_eq_ediv_of_nonneg _ (by omega)
  have w1 : IntKind.i64.wrap (gb zs 12 / 16) = gb zs 12 / 16 := wrap64_id (by omega) (by omega)
  have w2 : IntKind.i64.wrap (gb zs 12 / 16 * 4) = gb zs 12 / 16 * 4 := wrap64_id (by omega) (by omega)
  have q1 : ¬ gb zs 12 / 16 * 4 < 20 := by omega
  unfold runF errT noT
  rw [pvCall_own (fn := Try.f128) rfl Try.func128 rfl (by decide) rfl rfl (by simp)]
  simp -implicitDefEqProofs [h1, splice, k12, a12, l12, s1, w1, w2, q1, hn2, IntKind.bits]
set_option maxHeartbeats 8000000 in
theorem ptcp_sum (zs : List Int) (v6 : Bool) (ss ds : List Int) (nn : Bool) (cap : Option Nat) (h20 : 20 ≤ zs.length) (hz : bytesB zs = true) (hn : 5 ≤ gb zs 12 / 16) (hn2 : gb zs 12 / 16 * 4 ≤ (zs.length : Int)) (hs : ss.length = 16) (hd : ds.length = 16) (bs : bytesB ss = true) (bd : bytesB ds = true) (hl : zs.length ≤ 500000) (hck : ¬ ck v6 ss ds 6 zs = 0) : runF Try.prog K2 Dm 100000 1 128 [.v (.bool v6), .agg (B8 ss), .agg (B8 ds), .sl nn (B8 zs) zs.length cap] = some (errT 6) := by
  have h1 : ¬ (zs.length : Int) < 20 := by omega
  have g12 := gb_range hz 12
  have a12 := B8_at0 zs 12 (by omega)
  have l12 : (12 : Nat) < zs.length := by omega
  have k12 : (12 : Int) < (zs.length : Int) := by omega
  have s1 : (gb zs 12).fdiv 16 = gb zs 12 / 16 := Int.fdiv_eq_ediv_of_nonneg _ (by omega)
  have w1 : IntKind.i64.wrap (gb zs 12 / 16) = gb zs 12 / 16 := wrap64_id (by omega) (by omega)
  have w2 : IntKind.i64.wrap (gb zs 12 / 16 * 4) = gb zs 12 / 16 * 4 := wrap64_id (by omega) (by omega)
  have q1 : ¬ gb zs 12 / 16 * 4 < 20 := by omega
  have q2 : ¬ (zs.length : Int) < gb zs 12 / 16 * 4 := by omega
  have l40 : zs.length ≤ 1099511627776 := by omega
  have t1 : ss.take 16 = ss := List.take_of_length_le (by omega)
  have t2 : ds.take 16 = ds := List.take_of_length_le (by omega)
  unfold runF errT noT
  rw [pvCall_own (fn := Try.f128) rfl Try.func128 rfl (by decide) rfl rfl (by simp)]
  simp -implicitDefEqProofs [h1, splice, k12, a12, l12, s1, w1, w2, q1, q2, IntKind.bits, hs, hd, hz, bs, bd, hck, hl, l40, t1, t2]
end Go.Proofs.Ytmdafjegddnecaa
