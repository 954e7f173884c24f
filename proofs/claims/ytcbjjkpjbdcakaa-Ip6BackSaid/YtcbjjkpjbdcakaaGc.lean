/- ip6.Read as a function of values. -/
import Derived.Test.YtcbjjkpjbdcakaaGb
namespace Go.Proofs.Ytcbjjkpjbdcakaa
open Go.Pm Go.Wb
set_option linter.unusedVariables false
set_option linter.unusedSimpArgs false
set_option maxRecDepth 1000000

def ip6A (cl la nx pr ho : Int) (ss ds : List Int) (c : AV) : AV := .agg (.v (.int .u8 cl) :: .v (.int .u32 la) :: .v (.int .u8 nx) :: .v (.int .u8 pr) :: .v (.int .u8 ho) :: (B8 ss ++ (B8 ds ++ [c])))
def z16 : List Int := [0, 0, 0, 0, 0, 0, 0, 0, 0, 0, 0, 0, 0, 0, 0, 0]
def noH6 : AV := ip6A 0 0 0 0 0 z16 z16 (.v (.slice none 0 0))
@[simp] theorem B8_nil : B8 [] = [] := rfl
theorem B8_cons (z : Int) (zs : List Int) : B8 (z :: zs) = .v (.int .u8 z) :: B8 zs := rfl
def err6 (e : Int) : AV × List (List AV) := (.tup [noH6, .v (.slice none 0 0), .v (.int .i64 e)], [])
def ip6R (zs : List Int) (pr : Int) (n L : Nat) : AV × List (List AV) :=
  (.tup [ip6A (gb zs 0 % 16 * 16 + gb zs 1 / 16) (gb zs 1 % 16 * 65536 + gb zs 2 * 256 + gb zs 3) (gb zs 6) pr (gb zs 7) ((zs.drop 8).take 16) ((zs.drop 24).take 16) (.own 0 0 0 n 1 (.whole 5)), .own 1 0 0 (L - n) 1 (.whole 5), .v (.int .i64 0)],
    [B8 ((zs.drop 40).take n), B8 ((zs.drop (40 + n)).take (L - n))])
def KB : Nat → Option Con
  | 41 => some fChain
  | 42 => some fChain
  | 56 => some fClone
  | _ => none
theorem kb_ok : KOk Try.prog KB := fun f F h => by
  unfold KB at h
  split at h
  · cases h; exact ⟨chain_pure, _, Try.func41, rfl, by decide⟩
  · cases h; exact ⟨rchain_pure, _, Try.func42, rfl, by decide⟩
  · cases h; exact ⟨clone_pure, _, Try.func56, rfl, by decide⟩
  · cases h
section
variable {D : FuncId → Nat → List Nat} {L d px : Nat} {args : List AV} {m : Mem}
theorem cb_chain : pvCall Try.prog KB D L d px 41 args m = callBy fChain m px args := pvCall_by rfl
theorem cb_rchain : pvCall Try.prog KB D L d px 42 args m = callBy fChain m px args := pvCall_by rfl
theorem cb_clone : pvCall Try.prog KB D L d px 56 args m = callBy fClone m px args := pvCall_by rfl
end
theorem kb_chain : KB 41 = some (.pure fChain) := rfl
theorem kb_rchain : KB 42 = some (.pure fChain) := rfl
theorem kb_clone : KB 56 = some (.pure fClone) := rfl
attribute [simp] cb_chain cb_rchain cb_clone kb_chain kb_rchain kb_clone
set_option maxHeartbeats 8000000 in
theorem pip6_short (zs : List Int) (nn : Bool) (cap : Option Nat) (h : zs.length < 40) : runF Try.prog KB Dm 100000 1 36 [.sl nn (B8 zs) zs.length cap] = some (err6 4) := by
  have h1 : (zs.length : Int) < 40 := by omega
  unfold runF err6 noH6 ip6A z16
  rw [pvCall_own (fn := Try.f36) rfl Try.func36 rfl (by decide) rfl rfl (by simp)]
  simp -implicitDefEqProofs [h1, splice, B8_cons]
set_option maxHeartbeats 8000000 in
theorem pip6_form (zs : List Int) (nn : Bool) (cap : Option Nat) (h : 40 ≤ zs.length) (hz : bytesB zs = true) (h6 : ¬ gb zs 0 / 16 = 6) : runF Try.prog KB Dm 100000 1 36 [.sl nn (B8 zs) zs.length cap] = some (err6 5) := by
  have h1 : ¬ (zs.length : Int) < 40 := by omega
  have a0 := B8_at00 zs (by omega)
  have l0 : 0 < zs.length := by omega
  have i0 : (0 : Int) < (zs.length : Int) := by omega
  have s1 : (gb zs 0).fdiv 16 = gb zs 0 / 16 := Int.fdiv_eq_ediv_of_nonneg _ (by omega)
  have h6n : (gb zs 0 / 16 != 6) = true := by simp [h6]
  unfold runF err6 noH6 ip6A z16
  rw [pvCall_own (fn := Try.f36) rfl Try.func36 rfl (by decide) rfl rfl (by simp)]
  simp -implicitDefEqProofs [h1, splice, B8_cons, a0, l0, i0, s1, h6, h6n, IntKind.bits]
def len6 (zs : List Int) : Nat := (gb zs 4 * 256 + gb zs 5).toNat
set_option maxHeartbeats 8000000 in
theorem pip6_short2 (zs : List Int) (nn : Bool) (cap : Option Nat) (h : 40 ≤ zs.length) (hz : bytesB zs = true) (h6 : gb zs 0 / 16 = 6) (hL : zs.length < 40 + len6 zs) : runF Try.prog KB Dm 100000 1 36 [.sl nn (B8 zs) zs.length cap] = some (err6 4) := by
  have h1 : ¬ (zs.length : Int) < 40 := by omega
  have a0 := B8_at00 zs (by omega)
  have l0 : 0 < zs.length := by omega
  have l4 : 4 < zs.length := by omega
  have l5 : 5 < zs.length := by omega
  have i0 : (0 : Int) < (zs.length : Int) := by omega
  have i4 : (4 : Int) < (zs.length : Int) := by omega
  have i5 : (5 : Int) < (zs.length : Int) := by omega
  have a4 := B8_at0 zs 4 (by omega)
  have a5 := B8_at0 zs 5 (by omega)
  have g4 := gb_range hz 4
  have g5 := gb_range hz 5
  have s1 : (gb zs 0).fdiv 16 = gb zs 0 / 16 := Int.fdiv_eq_ediv_of_nonneg _ (by omega)
  have w4 : IntKind.i64.wrap (gb zs 4) = gb zs 4 := wrap64_id (by omega) (by omega)
  have w5 : IntKind.i64.wrap (gb zs 5) = gb zs 5 := wrap64_id (by omega) (by omega)
  have w6 : IntKind.i64.wrap (gb zs 4 * 256) = gb zs 4 * 256 := wrap64_id (by omega) (by omega)
  have w7 : IntKind.i64.wrap (40 + gb zs 4 * 256) = 40 + gb zs 4 * 256 := wrap64_id (by omega) (by omega)
  have w8 : IntKind.i64.wrap (40 + gb zs 4 * 256 + gb zs 5) = 40 + gb zs 4 * 256 + gb zs 5 := wrap64_id (by omega) (by omega)
  have q : (zs.length : Int) < 40 + gb zs 4 * 256 + gb zs 5 := by unfold len6 at hL; omega
  unfold runF err6 noH6 ip6A z16
  rw [pvCall_own (fn := Try.f36) rfl Try.func36 rfl (by decide) rfl rfl (by simp)]
  simp -implicitDefEqProofs [h1, splice, B8_cons, a0, l0, i0, s1, h6, IntKind.bits, l4, l5, i4, i5, a4, a5, w4, w5, w6, w7, w8, q]
theorem or8_16 (x y : Int) (x0 : 0 ≤ x * 16) (x1 : x ≤ 15) (y0 : 0 ≤ y) (y1 : y ≤ 15) : bits .or .u8 (x * 16) y = x * 16 + y := by
  obtain ⟨a, rfl⟩ := Int.eq_ofNat_of_zero_le (show 0 ≤ x by omega)
  obtain ⟨b, rfl⟩ := Int.eq_ofNat_of_zero_le y0
  have h := Nat.two_pow_add_eq_or_of_lt (i := 4) (b := b) (by omega) a
  rw [u8_or _ _ (by omega) (by omega) (by omega) (by omega), show ((a : Int) * 16).toNat = 2 ^ 4 * a from by omega, Int.toNat_natCast, ← h]
  omega
theorem or32_any (X y : Int) (i : Nat) (x : Int) (hX : X = x * (2 ^ i : Nat)) (x0 : 0 ≤ x) (x1 : X < 4294967296 - 2 ^ i) (y0 : 0 ≤ y) (y1 : y < (2 ^ i : Nat)) : bits .or .u32 X y = X + y := by
  obtain ⟨a, rfl⟩ := Int.eq_ofNat_of_zero_le x0
  obtain ⟨b, rfl⟩ := Int.eq_ofNat_of_zero_le y0
  have h := Nat.two_pow_add_eq_or_of_lt (i := i) (b := b) (by omega) a
  have hp : ((2 ^ i : Nat) : Int) = (2 : Int) ^ i := by simp
  have e : X = ((2 ^ i * a : Nat) : Int) := by rw [hX, Int.natCast_mul, Int.mul_comm]
  subst e
  rw [hp] at y1
  rw [u32_or _ _ (by omega) (by omega) (by omega) (by omega), Int.toNat_natCast, Int.toNat_natCast, ← h]
  omega
set_option maxHeartbeats 8000000 in
theorem pip6_chain (zs : List Int) (nn : Bool) (cap : Option Nat) (h : 40 ≤ zs.length) (hl : zs.length ≤ 500000) (hz : bytesB zs = true) (h6 : gb zs 0 / 16 = 6) (hL : 40 + len6 zs ≤ zs.length) (r1 r2 r3 : Int) (hc : chainF 9 (gb zs 6) ((zs.drop 40).take (len6 zs)) 0 0 = (r1, r2, r3)) 
    (X : AV × List (List AV)) (hX : (¬ r3 = 0 ∧ X = err6 r3) ∨ (r3 = 0 ∧ ∃ n : Nat, r2 = (n : Int) ∧ n ≤ len6 zs ∧ X = ip6R zs r1 n (len6 zs))) : runF Try.prog KB Dm 100000 1 36 [.sl nn (B8 zs) zs.length cap] = some X := by
  have h1 : ¬ (zs.length : Int) < 40 := by omega
  have a0 := B8_at00 zs (by omega)
  have l0 : 0 < zs.length := by omega
  have l1 : 1 < zs.length := by omega
  have l2 : 2 < zs.length := by omega
  have l3 : 3 < zs.length := by omega
  have l4 : 4 < zs.length := by omega
  have l5 : 5 < zs.length := by omega
  have l6 : 6 < zs.length := by omega
  have l7 : 7 < zs.length := by omega
  have i0 : (0 : Int) < (zs.length : Int) := by omega
  have i1 : (1 : Int) < (zs.length : Int) := by omega
  have i2 : (2 : Int) < (zs.length : Int) := by omega
  have i3 : (3 : Int) < (zs.length : Int) := by omega
  have i4 : (4 : Int) < (zs.length : Int) := by omega
  have i5 : (5 : Int) < (zs.length : Int) := by omega
  have i6 : (6 : Int) < (zs.length : Int) := by omega
  have i7 : (7 : Int) < (zs.length : Int) := by omega
  have a1 := B8_at0 zs 1 (by omega)
  have a2 := B8_at0 zs 2 (by omega)
  have a3 := B8_at0 zs 3 (by omega)
  have a4 := B8_at0 zs 4 (by omega)
  have a5 := B8_at0 zs 5 (by omega)
  have a6 := B8_at0 zs 6 (by omega)
  have a7 := B8_at0 zs 7 (by omega)
  have g0 := gb_range hz 0
  have g1 := gb_range hz 1
  have g2 := gb_range hz 2
  have g3 := gb_range hz 3
  have g4 := gb_range hz 4
  have g5 := gb_range hz 5
  have g6 := gb_range hz 6
  have s1 : (gb zs 0).fdiv 16 = gb zs 0 / 16 := Int.fdiv_eq_ediv_of_nonneg _ (by omega)
  have w4 : IntKind.i64.wrap (gb zs 4) = gb zs 4 := wrap64_id (by omega) (by omega)
  have w5 : IntKind.i64.wrap (gb zs 5) = gb zs 5 := wrap64_id (by omega) (by omega)
  have w6 : IntKind.i64.wrap (gb zs 4 * 256) = gb zs 4 * 256 := wrap64_id (by omega) (by omega)
  have w7 : IntKind.i64.wrap (40 + gb zs 4 * 256) = 40 + gb zs 4 * 256 := wrap64_id (by omega) (by omega)
  have w8 : IntKind.i64.wrap (40 + gb zs 4 * 256 + gb zs 5) = 40 + (len6 zs : Int) := by rw [wrap64_id (by omega) (by omega)]; unfold len6; omega
  have q : ¬ (zs.length : Int) < 40 + (len6 zs : Int) := by omega
  have q1 : 40 + (len6 zs : Int) ≤ (zs.length : Int) := by omega
  have hLb : len6 zs ≤ 65535 := by unfold len6; omega
  generalize hLe : len6 zs = L at *
  have q2 : (40 + (L : Int)).toNat = 40 + L := by omega
  have q3 : (0 : Int) ≤ 40 + (L : Int) := by omega
  have q4 : (40 : Int) ≤ 40 + (L : Int) := by omega
  have q5 : L ≤ zs.length - 40 := by omega
  have q6 : L ≤ 1099511627776 := by omega
  have q7 : ((zs.drop 40).take L).length = L := by simp; omega
  have q8 : bytesB ((zs.drop 40).take L) = true := bytesB_take (bytesB_drop hz _) _
  unfold runF
  rw [pvCall_own (fn := Try.f36) rfl Try.func36 rfl (by decide) rfl rfl (by simp)]
  simp -implicitDefEqProofs [h1, splice, B8_cons, a0, l0, i0, s1, h6, IntKind.bits, l4, l5, i4, i5, a4, a5, w4, w5, w6, w7, w8, q, l6, i6, a6, hc, q1, q2, q3, q4, q5, q6, q7, q8, g6, chainV, hL, fChain]
  rcases hX with ⟨hr, rfl⟩ | ⟨rfl, n, rfl, hn, rfl⟩
  · have hrn : (r3 != 0) = true := by simp [hr]
    unfold err6 noH6 ip6A z16
    simp -implicitDefEqProofs [hr, hrn, splice, B8_cons]
  · have u1 : IntKind.u8.wrap (gb zs 0 * 16) = gb zs 0 % 16 * 16 := by rw [wrapu8_mod]; omega
    have u2 : (gb zs 1).fdiv 16 = gb zs 1 / 16 := Int.fdiv_eq_ediv_of_nonneg _ (by omega)
    have u3 : bits .or .u8 (gb zs 0 % 16 * 16) (gb zs 1 / 16) = gb zs 0 % 16 * 16 + gb zs 1 / 16 := or8_16 _ _ (by omega) (by omega) (by omega) (by omega)
    have u4 := and15v (gb zs 1) g1.1 g1.2
    have u5 : IntKind.u32.wrap (gb zs 1 % 16) = gb zs 1 % 16 := wrapu32_id (by omega) (by omega)
    have u6 : IntKind.u32.wrap (gb zs 1 % 16 * 65536) = gb zs 1 % 16 * 65536 := wrapu32_id (by omega) (by omega)
    have u7 : IntKind.u32.wrap (gb zs 2) = gb zs 2 := wrapu32_id (by omega) (by omega)
    have u8 : IntKind.u32.wrap (gb zs 2 * 256) = gb zs 2 * 256 := wrapu32_id (by omega) (by omega)
    have u9 : IntKind.u32.wrap (gb zs 3) = gb zs 3 := wrapu32_id (by omega) (by omega)
    have u10 : bits .or .u32 (gb zs 1 % 16 * 65536) (gb zs 2 * 256) = gb zs 1 % 16 * 65536 + gb zs 2 * 256 := or32_any _ _ 16 (gb zs 1 % 16) (by omega) (by omega) (by omega) (by omega) (by omega)
    have u11 : bits .or .u32 (gb zs 1 % 16 * 65536 + gb zs 2 * 256) (gb zs 3) = gb zs 1 % 16 * 65536 + gb zs 2 * 256 + gb zs 3 := or32_any _ _ 8 (gb zs 1 % 16 * 256 + gb zs 2) (by omega) (by omega) (by omega) (by omega) (by omega)
    have c1 : IntKind.i64.wrap (40 + (n : Int)) = 40 + (n : Int) := wrap64_id (by omega) (by omega)
    obtain ⟨S, hS⟩ : ∃ S, (zs.drop 8).take 16 = S := ⟨_, rfl⟩
    obtain ⟨E, hE⟩ : ∃ E, (zs.drop 24).take 16 = E := ⟨_, rfl⟩
    have hSl : S.length = 16 := by rw [← hS]; simp; omega
    have hEl : E.length = 16 := by rw [← hE]; simp; omega
    have k1 : 8 ≤ zs.length := by omega
    have k2 : 24 ≤ zs.length := by omega
    have k3 : 16 ≤ zs.length - 8 := by omega
    have k4 : 16 ≤ zs.length - 24 := by omega
    have k5 : List.take (zs.length - 8) (List.drop 8 zs) = List.drop 8 zs := List.take_of_length_le (by simp)
    have k6 : List.take (zs.length - 24) (List.drop 24 zs) = List.drop 24 zs := List.take_of_length_le (by simp)
    have n1 : (0 : Int) ≤ 40 + (n : Int) := by omega
    have n2 : (40 + (n : Int)).toNat = 40 + n := by omega
    have n3 : (40 : Int) ≤ 40 + (n : Int) := by omega
    have n4 : 40 + (n : Int) ≤ (zs.length : Int) := by omega
    have n5 : 40 + n ≤ zs.length := by omega
    have n6 : min n (zs.length - 40) = n := by omega
    have n7 : min (L - n) (zs.length - (40 + n)) = L - n := by omega
    have n8 : n ≤ 549755813888 := by omega
    have n9 : L - n ≤ 549755813888 := by omega
    have n10 : 40 + (n : Int) ≤ 40 + (L : Int) := by omega
    have n11 : 40 + L - (40 + n) = L - n := by omega
    have n12 : n ≤ L := hn
    have n13 : n ≤ zs.length - 40 := by omega
    have n14 : L - n ≤ zs.length - (40 + n) := by omega
    unfold ip6R ip6A
    simp -implicitDefEqProofs [hL, splice, B8_cons, a0, a1, a2, a3, a4, a6, a7, l0, l1, l2, l3, l4, l6, l7, i0, i1, i2, i3, i6, i7, u1, u2, u3, u4, u5, u6, u7, u8, u9, u10, u11, IntKind.bits, c1, hS, hE, hSl, hEl, k1, k2, k3, k4, k5, k6, n1, n2, n3, n4, n5, n6, n7, n8, n9, n10, n11, n12, n13, n14, q1, q2, q3, hL, fClone, B8t16 hSl, B8d16 hSl, B8t16 hEl, B8d16 hEl, B8t33 hSl, B8t17 hEl, B8d32 hSl, B8d32 hEl, B8t32 hSl, B8d33 hSl, B8d17 hEl, B8x33 hSl hEl, Nat.testBit_eq_decide_div_mod_eq]
def ip6V (zs : List Int) : AV × List (List AV) :=
  if zs.length < 40 then err6 4 else if ¬ gb zs 0 / 16 = 6 then err6 5 else if zs.length < 40 + len6 zs then err6 4 else
  if (chainF 9 (gb zs 6) ((zs.drop 40).take (len6 zs)) 0 0).2.2 = 0 then ip6R zs (chainF 9 (gb zs 6) ((zs.drop 40).take (len6 zs)) 0 0).1 (chainF 9 (gb zs 6) ((zs.drop 40).take (len6 zs)) 0 0).2.1.toNat (len6 zs)
  else err6 (chainF 9 (gb zs 6) ((zs.drop 40).take (len6 zs)) 0 0).2.2
def fIP6 : Fun
  | [.sl nn b len cap] => (asB8 b).bind fun zs => if zs.length = len ∧ len ≤ 500000 ∧ bytesB zs = true then some (ip6V zs) else none
  | _ => none
theorem chain6_out {zs : List Int} (hz : bytesB zs = true) (h : 40 + len6 zs ≤ zs.length) : ∀ X : AV × List (List AV), X = (if (chainF 9 (gb zs 6) ((zs.drop 40).take (len6 zs)) 0 0).2.2 = 0 then ip6R zs (chainF 9 (gb zs 6) ((zs.drop 40).take (len6 zs)) 0 0).1 (chainF 9 (gb zs 6) ((zs.drop 40).take (len6 zs)) 0 0).2.1.toNat (len6 zs)
  else err6 (chainF 9 (gb zs 6) ((zs.drop 40).take (len6 zs)) 0 0).2.2) → (¬ (chainF 9 (gb zs 6) ((zs.drop 40).take (len6 zs)) 0 0).2.2 = 0 ∧ X = err6 (chainF 9 (gb zs 6) ((zs.drop 40).take (len6 zs)) 0 0).2.2) ∨ ((chainF 9 (gb zs 6) ((zs.drop 40).take (len6 zs)) 0 0).2.2 = 0 ∧ ∃ n : Nat, (chainF 9 (gb zs 6) ((zs.drop 40).take (len6 zs)) 0 0).2.1 = (n : Int) ∧ n ≤ len6 zs ∧ X = ip6R zs (chainF 9 (gb zs 6) ((zs.drop 40).take (len6 zs)) 0 0).1 n (len6 zs)) := by
  intro X hX
  have g6 := gb_range hz 6
  have hl : ((zs.drop 40).take (len6 zs)).length = len6 zs := by simp; omega
  have := chain_out 9 (gb zs 6) ((zs.drop 40).take (len6 zs)) 0 0 g6.1 g6.2 (bytesB_take (bytesB_drop hz _) _) (by omega) (by omega) (by omega)
  rw [hl] at this
  rcases this with ⟨h1, h2, h3, h4, h5⟩ | ⟨h1, h2, h3⟩
  · rw [if_pos h1] at hX
    exact .inr ⟨h1, _, (Int.toNat_of_nonneg h2).symm, by omega, hX⟩
  · rw [if_neg h1] at hX
    exact .inl ⟨h1, hX⟩
theorem ip6_pure : Pure Try.prog 36 fIP6 := (runF_pure kb_ok follows_mixed dm_ok 100000 1 36).weaken fun args r h => by
  unfold fIP6 at h
  split at h
  · rename_i nn b len cap
    obtain ⟨zs, hz, he⟩ := Option.bind_eq_some_iff.1 h
    clear h
    split at he
    case isFalse => cases he
    rename_i hh
    obtain ⟨rfl, h1, h2⟩ := hh
    obtain rfl := asB8_eq hz
    rw [← he]
    unfold ip6V
    split
    · rename_i q; exact pip6_short zs nn cap q
    split
    · rename_i q0 q; exact pip6_form zs nn cap (by omega) h2 q
    split
    · rename_i q0 q1 q; exact pip6_short2 zs nn cap (by omega) h2 (by omega) q
    · rename_i q0 q1 q2
      exact pip6_chain zs nn cap (by omega) h1 h2 (by omega) (by omega) _ _ _ rfl _ (chain6_out h2 (by omega) _ rfl)
  · cases h
end Go.Proofs.Ytcbjjkpjbdcakaa
