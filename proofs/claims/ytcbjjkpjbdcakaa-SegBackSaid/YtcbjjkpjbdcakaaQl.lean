/- The reference's WriteUDP as a function of values. -/
import Derived.Test.YtcbjjkpjbdcakaaQk
namespace Go.Proofs.Ytcbjjkpjbdcakaa
open Go.Pm
set_option linter.unusedVariables false
set_option linter.unusedSimpArgs false
set_option maxRecDepth 1000000

theorem uhead_eq {p0 p1 : Int} {ps : List Int} (hp : 8 + ps.length ≤ 1660) (a0 : 0 ≤ p0) (a1 : p0 ≤ 65535) (b0 : 0 ≤ p1) (b1 : p1 ≤ 65535) :
    [p0 / 256 % 256, p0 % 256, p1 / 256 % 256, p1 % 256, (8 + (ps.length : Int)) / 256 % 256, (8 + (ps.length : Int)) % 256] ++ 0 :: 0 :: ps = udpHead p0 p1 ps ++ ps := by
  simp only [udpHead, hl8, List.cons_append, List.nil_append, List.cons.injEq, and_true, true_and]
  refine ⟨by omega, by omega⟩
set_option maxHeartbeats 8000000 in
theorem rwu_ok (p0 p1 : Int) (ps : List Int) (v6 : Bool) (ss ds : List Int) (pn : Bool) (pc : Option Nat) (hp : 8 + ps.length ≤ 1660) (a0 : 0 ≤ p0) (a1 : p0 ≤ 65535) (b0 : 0 ≤ p1) (b1 : p1 ≤ 65535) (hs : ss.length = 16) (hd : ds.length = 16) (hz : bytesB ps = true) (bs : bytesB ss = true) (bd : bytesB ds = true) :
    runF Try.prog K4 Dm 100000 1 25 [.v (.bool v6), .agg (B8 ss), .agg (B8 ds), udpA p0 p1 false, .sl pn (B8 ps) ps.length pc] = some (wR (udpW v6 ss ds (udpHead p0 p1 ps ++ ps))) := by
  have e1 : IntKind.i64.wrap (8 + (ps.length : Int)) = 8 + (ps.length : Int) := wrap64_id (by omega) (by omega)
  have q4 : ¬ (1660 : Int) < 8 + (ps.length : Int) := by omega
  have t1 : ss.take 16 = ss := List.take_of_length_le (by omega)
  have t2 : ds.take 16 = ds := List.take_of_length_le (by omega)
  have u0 : IntKind.u32.wrap p0 = p0 := wrapu32_id (by omega) (by omega)
  have u1 : IntKind.u32.wrap p1 = p1 := wrapu32_id (by omega) (by omega)
  have u2 : IntKind.u32.wrap (8 + (ps.length : Int)) = 8 + (ps.length : Int) := wrapu32_id (by omega) (by omega)
  have x0 : p0 < 4294967296 := by omega
  have x1 : p1 < 4294967296 := by omega
  have x2 : 8 + (ps.length : Int) < 4294967296 := by omega
  have x3 : 0 ≤ 8 + (ps.length : Int) := by omega
  obtain ⟨H, hH⟩ : ∃ H : List Int, [p0 / 256 % 256, p0 % 256, p1 / 256 % 256, p1 % 256, (8 + (ps.length : Int)) / 256 % 256, (8 + (ps.length : Int)) % 256] = H := ⟨_, rfl⟩
  have hHl : H.length = 6 := by rw [← hH]; rfl
  have hHt : H.take 6 = H := List.take_of_length_le (by omega)
  have hHb : bytesB H = true := by
    rw [← hH]
    simp only [bytesB_cons, Bool.and_eq_true, decide_eq_true_eq]
    refine ⟨⟨by omega, by omega⟩, ⟨by omega, by omega⟩, ⟨by omega, by omega⟩, ⟨by omega, by omega⟩, ⟨by omega, by omega⟩, ⟨by omega, by omega⟩, rfl⟩
  have hHz : ∀ x y : Int, (H ++ [x, y]).take 8 = H ++ [x, y] := fun x y => List.take_of_length_le (by simp; omega)
  obtain ⟨Z, hZ⟩ : ∃ Z : List Int, H ++ 0 :: 0 :: ps = Z := ⟨_, rfl⟩
  have hZl : Z.length = 8 + ps.length := by rw [← hZ]; simp; omega
  have hZb : bytesB Z = true := by rw [← hZ, bytesB_append, bytesB_cons, bytesB_cons, hHb, hz]; rfl
  have hZt : Z.take (8 + ps.length) = Z := List.take_of_length_le (by omega)
  have hZe : Z = udpHead p0 p1 ps ++ ps := by rw [← hZ, ← hH]; exact uhead_eq hp a0 a1 b0 b1
  have z1 : 8 + ps.length ≤ 549755813888 := by omega
  have z6 : 8 + ps.length ≤ 1099511627776 := by omega
  have z7 : 8 + ps.length ≤ 500000 := by omega
  have z8 : ps.length ≤ 549755813880 := by omega
  obtain ⟨C, hC⟩ : ∃ C, ck v6 ss ds 17 Z = C := ⟨_, rfl⟩
  have hCr := ckB_range (v6 := v6) (pr := 17) bs bd hZb (by omega) (by omega)
  rw [hC] at hCr
  have hCw : IntKind.u32.wrap C = C := wrapu32_id (by omega) (by omega)
  have hC0 : 0 ≤ C := hCr.1
  have hC1 : C < 4294967296 := by omega
  have c65 : IntKind.u32.wrap 65535 = 65535 := by decide
  unfold udpW
  rw [← hZe, hC]
  by_cases hc : C = 0
  · have hWe : H ++ 255 :: 255 :: ps = putSum Z 6 (udpC C) := by rw [← hZ, hc]; exact putSum_eq (C := 65535) hHl
    have hWl : (putSum Z 6 (udpC C)).length = 8 + ps.length := by rw [← hWe]; simp; omega
    rw [← hWe]
    unfold runF wR
    rw [hWe, hWl, ← hWe]
    rw [pvCall_own (fn := Try.f25) rfl Try.func25 rfl (by decide) rfl rfl (by simp)]
    cases v6 <;> simp -implicitDefEqProofs [hc, c65, hC, z1, z6, z7, z8, hH, hHl, hHt, hHb, hHz, hZ, hZl, hZb, hZt, e1, q4, t1, t2, u0, u1, u2, x0, x1, x2, x3, a0, b0, Nat.testBit_eq_decide_div_mod_eq, udpA, splice, IntKind.bits, hs, hd, hz, bs, bd, fdiv_nn]
  · have hWe : H ++ C / 256 % 256 :: C % 256 :: ps = putSum Z 6 (udpC C) := by rw [← hZ, show udpC C = C from if_neg hc]; exact putSum_eq hHl
    have hWl : (putSum Z 6 (udpC C)).length = 8 + ps.length := by rw [← hWe]; simp; omega
    have hc2 : (C == 0) = false := by simp [hc]
    rw [← hWe]
    unfold runF wR
    rw [hWe, hWl, ← hWe]
    rw [pvCall_own (fn := Try.f25) rfl Try.func25 rfl (by decide) rfl rfl (by simp)]
    cases v6 <;> simp -implicitDefEqProofs [hc, hc2, hC, hCw, hC0, hC1, z1, z6, z7, z8, hH, hHl, hHt, hHb, hHz, hZ, hZl, hZb, hZt, e1, q4, t1, t2, u0, u1, u2, x0, x1, x2, x3, a0, b0, Nat.testBit_eq_decide_div_mod_eq, udpA, splice, IntKind.bits, hs, hd, hz, bs, bd, fdiv_nn]
set_option maxHeartbeats 8000000 in
theorem rwu_none (p0 p1 : Int) (ps : List Int)  (ss ds : List Int) (pn : Bool) (pc : Option Nat) (hp : 8 + ps.length ≤ 1660) (a0 : 0 ≤ p0) (a1 : p0 ≤ 65535) (b0 : 0 ≤ p1) (b1 : p1 ≤ 65535) (hs : ss.length = 16) (hd : ds.length = 16) (hz : bytesB ps = true) (bs : bytesB ss = true) (bd : bytesB ds = true) :
    runF Try.prog K4 Dm 100000 1 25 [.v (.bool false), .agg (B8 ss), .agg (B8 ds), udpA p0 p1 true, .sl pn (B8 ps) ps.length pc] = some (wR (udpHead p0 p1 ps ++ ps)) := by
  have e1 : IntKind.i64.wrap (8 + (ps.length : Int)) = 8 + (ps.length : Int) := wrap64_id (by omega) (by omega)
  have q4 : ¬ (1660 : Int) < 8 + (ps.length : Int) := by omega
  have t1 : ss.take 16 = ss := List.take_of_length_le (by omega)
  have t2 : ds.take 16 = ds := List.take_of_length_le (by omega)
  have u0 : IntKind.u32.wrap p0 = p0 := wrapu32_id (by omega) (by omega)
  have u1 : IntKind.u32.wrap p1 = p1 := wrapu32_id (by omega) (by omega)
  have u2 : IntKind.u32.wrap (8 + (ps.length : Int)) = 8 + (ps.length : Int) := wrapu32_id (by omega) (by omega)
  have x0 : p0 < 4294967296 := by omega
  have x1 : p1 < 4294967296 := by omega
  have x2 : 8 + (ps.length : Int) < 4294967296 := by omega
  have x3 : 0 ≤ 8 + (ps.length : Int) := by omega
  obtain ⟨H, hH⟩ : ∃ H : List Int, [p0 / 256 % 256, p0 % 256, p1 / 256 % 256, p1 % 256, (8 + (ps.length : Int)) / 256 % 256, (8 + (ps.length : Int)) % 256] = H := ⟨_, rfl⟩
  have hHl : H.length = 6 := by rw [← hH]; rfl
  have hHt : H.take 6 = H := List.take_of_length_le (by omega)
  have hHb : bytesB H = true := by
    rw [← hH]
    simp only [bytesB_cons, Bool.and_eq_true, decide_eq_true_eq]
    refine ⟨⟨by omega, by omega⟩, ⟨by omega, by omega⟩, ⟨by omega, by omega⟩, ⟨by omega, by omega⟩, ⟨by omega, by omega⟩, ⟨by omega, by omega⟩, rfl⟩
  have hHz : ∀ x y : Int, (H ++ [x, y]).take 8 = H ++ [x, y] := fun x y => List.take_of_length_le (by simp; omega)
  obtain ⟨Z, hZ⟩ : ∃ Z : List Int, H ++ 0 :: 0 :: ps = Z := ⟨_, rfl⟩
  have hZl : Z.length = 8 + ps.length := by rw [← hZ]; simp; omega
  have hZb : bytesB Z = true := by rw [← hZ, bytesB_append, bytesB_cons, bytesB_cons, hHb, hz]; rfl
  have hZt : Z.take (8 + ps.length) = Z := List.take_of_length_le (by omega)
  have hZe : Z = udpHead p0 p1 ps ++ ps := by rw [← hZ, ← hH]; exact uhead_eq hp a0 a1 b0 b1
  have z1 : 8 + ps.length ≤ 549755813888 := by omega
  have z6 : 8 + ps.length ≤ 1099511627776 := by omega
  have z7 : 8 + ps.length ≤ 500000 := by omega
  have z8 : ps.length ≤ 549755813880 := by omega
  have c0 : IntKind.u32.wrap 0 = 0 := by decide
  rw [← hZe]
  unfold runF wR
  rw [hZl]
  rw [pvCall_own (fn := Try.f25) rfl Try.func25 rfl (by decide) rfl rfl (by simp)]
  simp -implicitDefEqProofs [c0, z1, z6, z7, z8, hH, hHl, hHt, hHb, hHz, hZ, hZl, hZb, hZt, e1, q4, t1, t2, u0, u1, u2, x0, x1, x2, x3, a0, b0, Nat.testBit_eq_decide_div_mod_eq, udpA, splice, IntKind.bits, hs, hd, hz, bs, bd, fdiv_nn]
set_option maxHeartbeats 8000000 in
theorem rwu_arg (p0 p1 : Int) (ps : List Int)  (ss ds : List Int) (pn : Bool) (pc : Option Nat) (hpl : ps.length ≤ 1700)  :
    runF Try.prog K4 Dm 100000 1 25 [.v (.bool true), .agg (B8 ss), .agg (B8 ds), udpA p0 p1 true, .sl pn (B8 ps) ps.length pc] = some (errW 2) := by
  have e1 : IntKind.i64.wrap (8 + (ps.length : Int)) = 8 + (ps.length : Int) := wrap64_id (by omega) (by omega)
  unfold runF
  rw [pvCall_own (fn := Try.f25) rfl Try.func25 rfl (by decide) rfl rfl (by simp)]
  simp -implicitDefEqProofs [errW, udpA, splice, IntKind.bits, e1, hpl]
set_option maxHeartbeats 8000000 in
theorem rwu_long (p0 p1 : Int) (ps : List Int)  (ss ds : List Int) (pn : Bool) (pc : Option Nat) (hpl : ps.length ≤ 1700) (hp : 1660 < 8 + ps.length) :
    runF Try.prog K4 Dm 100000 1 25 [.v (.bool true), .agg (B8 ss), .agg (B8 ds), udpA p0 p1 false, .sl pn (B8 ps) ps.length pc] = some (errW 3) := by
  have e1 : IntKind.i64.wrap (8 + (ps.length : Int)) = 8 + (ps.length : Int) := wrap64_id (by omega) (by omega)
  have q4 : (1660 : Int) < 8 + (ps.length : Int) := by omega
  unfold runF
  rw [pvCall_own (fn := Try.f25) rfl Try.func25 rfl (by decide) rfl rfl (by simp)]
  simp -implicitDefEqProofs [errW, udpA, splice, IntKind.bits, e1, q4]
set_option maxHeartbeats 8000000 in
theorem rwu_long1 (p0 p1 : Int) (ps : List Int)  (ss ds : List Int) (pn : Bool) (pc : Option Nat) (hpl : ps.length ≤ 1700) (hp : 1660 < 8 + ps.length) :
    runF Try.prog K4 Dm 100000 1 25 [.v (.bool false), .agg (B8 ss), .agg (B8 ds), udpA p0 p1 false, .sl pn (B8 ps) ps.length pc] = some (errW 3) := by
  have e1 : IntKind.i64.wrap (8 + (ps.length : Int)) = 8 + (ps.length : Int) := wrap64_id (by omega) (by omega)
  have q4 : (1660 : Int) < 8 + (ps.length : Int) := by omega
  unfold runF
  rw [pvCall_own (fn := Try.f25) rfl Try.func25 rfl (by decide) rfl rfl (by simp)]
  simp -implicitDefEqProofs [errW, udpA, splice, IntKind.bits, e1, q4]
set_option maxHeartbeats 8000000 in
theorem rwu_long2 (p0 p1 : Int) (ps : List Int)  (ss ds : List Int) (pn : Bool) (pc : Option Nat) (hpl : ps.length ≤ 1700) (hp : 1660 < 8 + ps.length) :
    runF Try.prog K4 Dm 100000 1 25 [.v (.bool false), .agg (B8 ss), .agg (B8 ds), udpA p0 p1 true, .sl pn (B8 ps) ps.length pc] = some (errW 3) := by
  have e1 : IntKind.i64.wrap (8 + (ps.length : Int)) = 8 + (ps.length : Int) := wrap64_id (by omega) (by omega)
  have q4 : (1660 : Int) < 8 + (ps.length : Int) := by omega
  unfold runF
  rw [pvCall_own (fn := Try.f25) rfl Try.func25 rfl (by decide) rfl rfl (by simp)]
  simp -implicitDefEqProofs [errW, udpA, splice, IntKind.bits, e1, q4]
def fRWUDP : Fun
  | [.v (.bool v6), .agg a, .agg b, .agg [.v (.int .u16 p0), .v (.int .u16 p1), .v (.bool no)], .sl nn c len cap] => (asB8 a).bind fun ss => (asB8 b).bind fun ds => (asB8 c).bind fun ps =>
      if goodW ss ds ps len ∧ (0 ≤ p0 ∧ p0 ≤ 65535) ∧ 0 ≤ p1 ∧ p1 ≤ 65535 then some (wudpV v6 ss ds p0 p1 no ps) else none
  | _ => none
theorem rwudp_pure : Pure Try.prog 25 fRWUDP := (runF_pure k4_ok follows_mixed dm_ok 100000 1 25).weaken fun args r h => by
  unfold fRWUDP at h
  split at h
  · rename_i v6 a b p0 p1 no nn c len cap
    obtain ⟨ss, e1, h1⟩ := Option.bind_eq_some_iff.1 h
    obtain ⟨ds, e2, h2⟩ := Option.bind_eq_some_iff.1 h1
    obtain ⟨ps, e3, he⟩ := Option.bind_eq_some_iff.1 h2
    clear h h1 h2
    split at he
    case isFalse => cases he
    rename_i hh
    obtain ⟨⟨rfl, hl, h1, h2, h3, h4, h5⟩, ⟨i1, i2⟩, i3, i4⟩ := hh
    obtain rfl := asB8_eq e1
    obtain rfl := asB8_eq e2
    obtain rfl := asB8_eq e3
    rw [← he]
    unfold wudpV
    cases no with
    | true =>
      cases v6 with
      | true => rw [if_pos ⟨rfl, rfl⟩]; exact rwu_arg p0 p1 ps ss ds nn cap hl
      | false =>
        rw [if_neg (by simp)]
        split
        · rename_i q; exact rwu_long2 p0 p1 ps ss ds nn cap hl q
        · rename_i q; rw [if_pos rfl]; exact rwu_none p0 p1 ps ss ds nn cap (by omega) i1 i2 i3 i4 h1 h2 h3 h4 h5
    | false =>
      rw [if_neg (by simp)]
      split
      · rename_i q
        cases v6 with
        | true => exact rwu_long p0 p1 ps ss ds nn cap hl q
        | false => exact rwu_long1 p0 p1 ps ss ds nn cap hl q
      · rename_i q; rw [if_neg (by simp)]; exact rwu_ok p0 p1 ps v6 ss ds nn cap (by omega) i1 i2 i3 i4 h1 h2 h3 h4 h5
  · cases h
end Go.Proofs.Ytcbjjkpjbdcakaa
