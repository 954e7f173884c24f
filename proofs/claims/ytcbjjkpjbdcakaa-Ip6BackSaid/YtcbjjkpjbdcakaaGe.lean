/- IPv6's writers as functions of values. -/
import Derived.Test.YtcbjjkpjbdcakaaGd
namespace Go.Proofs.Ytcbjjkpjbdcakaa
open Go.Pm Go.Wb
set_option linter.unusedVariables false
set_option linter.unusedSimpArgs false
set_option maxRecDepth 1000000
def wB (W : List Int) : AV × List (List AV) := (.tup [.own 0 0 0 W.length 1 (.whole 5), .v (.int .i64 0)], [B8 W])
def errB (e : Int) : AV × List (List AV) := (.tup [.v (.slice none 0 0), .v (.int .i64 e)], [])
def head6 (cl la nx ho : Int) (L : Int) : List Int := [96 + cl / 16, cl % 16 * 16 + la / 65536, la / 256 % 256, la % 256, L / 256, L % 256, nx, ho]
def bad6 (la nx pr : Int) (cs : List Int) : Prop := 1048576 ≤ la ∨ ¬ (chainF 9 nx cs 0 0).2.2 = 0 ∨ ¬ (chainF 9 nx cs 0 0).1 = pr ∨ ¬ (chainF 9 nx cs 0 0).2.1 = (cs.length : Int)
instance (la nx pr : Int) (cs : List Int) : Decidable (bad6 la nx pr cs) := by unfold bad6; infer_instance
def w6V (cl la nx pr ho : Int) (ss ds cs ps : List Int) : AV × List (List AV) :=
  if bad6 la nx pr cs then errB 2 else if 1620 < cs.length + ps.length then errB 3 else wB (head6 cl la nx ho ((cs.length : Int) + (ps.length : Int)) ++ (ss ++ (ds ++ (cs ++ ps))))
def good6 (cl la nx pr ho : Int) (ss ds cs : List Int) : Prop := 0 ≤ cl ∧ cl ≤ 255 ∧ 0 ≤ la ∧ la < 4294967296 ∧ 0 ≤ nx ∧ nx ≤ 255 ∧ 0 ≤ pr ∧ pr ≤ 255 ∧ 0 ≤ ho ∧ ho ≤ 255 ∧ ss.length = 16 ∧ ds.length = 16 ∧ bytesB ss = true ∧ bytesB ds = true ∧ bytesB cs = true ∧ cs.length ≤ 500000
instance (cl la nx pr ho : Int) (ss ds cs : List Int) : Decidable (good6 cl la nx pr ho ss ds cs) := by unfold good6; infer_instance
set_option maxHeartbeats 16000000 in
theorem pw6_bad (cl la nx pr ho : Int) (ss ds cs ps : List Int) (cn pn : Bool) (cc pc : Option Nat) (hg : good6 cl la nx pr ho ss ds cs) (hp : ps.length ≤ 500000) (hb : bad6 la nx pr cs) : runF Try.prog KB Dm 100000 1 39 [ip6A cl la nx pr ho ss ds (.sl cn (B8 cs) cs.length cc), .sl pn (B8 ps) ps.length pc] = some (errB 2) := by
  obtain ⟨c0, c1, la0, la1, n0, n1, p0, p1, h0, h1, hs, hd, bs, bd, bc, hcl⟩ := hg
  have hcl2 : cs.length ≤ 1099511627776 := by omega
  have hB : fChain [.v (.int .u8 nx), .sl cn (B8 cs) cs.length cc] = some (chainV nx cs) := by simp [fChain, bc, n0, n1, hcl2]
  have e1 : IntKind.i64.wrap ((cs.length : Int) + (ps.length : Int)) = (cs.length : Int) + (ps.length : Int) := wrap64_id (by omega) (by omega)
  obtain ⟨⟨r1, r2, r3⟩, hr⟩ : ∃ r, chainF 9 nx cs 0 0 = r := ⟨_, rfl⟩
  unfold bad6 at hb
  rw [hr] at hb
  simp only at hb
  unfold errB
  unfold runF
  rw [pvCall_own (fn := Try.f39) rfl Try.func39 rfl (by decide) rfl rfl (by simp)]
  by_cases hla : 1048576 ≤ la
  · have hla2 : 1048575 < la := by omega
    simp -implicitDefEqProofs [hla, hla2, hr, e1, ip6A, splice, bc, n0, n1, hcl2, fChain, chainV, hs, hd, B8t16 hs, B8d16 hs, B8t16 hd, B8d16 hd, B8d32 hs, B8g32 hs, B8g16 hd, B8g16 hs]
  have hla2 : ¬ 1048575 < la := by omega
  by_cases h3 : r3 = 0
  · subst h3
    by_cases h1 : r1 = pr
    · subst h1
      have h2 : ¬ r2 = (cs.length : Int) := by
        rcases hb with h | h | h | h
        · exact absurd h hla
        · exact absurd rfl h
        · exact absurd rfl h
        · exact h
      simp -implicitDefEqProofs [hla, hla2, hr, e1, h2, ip6A, splice, bc, n0, n1, hcl2, fChain, chainV, hs, hd, B8t16 hs, B8d16 hs, B8t16 hd, B8d16 hd, B8d32 hs, B8g32 hs, B8g16 hd, B8g16 hs]
    · have h1n : (r1 != pr) = true := by simp [h1]
      have h1e : (r1 == pr) = false := by simp [h1]
      simp -implicitDefEqProofs [hla, hla2, hr, e1, h1, h1n, h1e, ip6A, splice, bc, n0, n1, hcl2, fChain, chainV, hs, hd, B8t16 hs, B8d16 hs, B8t16 hd, B8d16 hd, B8d32 hs, B8g32 hs, B8g16 hd, B8g16 hs]
  · have h3n : (r3 != 0) = true := by simp [h3]
    have h3e : (r3 == 0) = false := by simp [h3]
    simp -implicitDefEqProofs [hla, hla2, hr, e1, h3, h3n, h3e, ip6A, splice, bc, n0, n1, hcl2, fChain, chainV, hs, hd, B8t16 hs, B8d16 hs, B8t16 hd, B8d16 hd, B8d32 hs, B8g32 hs, B8g16 hd, B8g16 hs]
set_option maxHeartbeats 16000000 in
theorem pw6_long (cl la nx pr ho : Int) (ss ds cs ps : List Int) (cn pn : Bool) (cc pc : Option Nat) (hg : good6 cl la nx pr ho ss ds cs) (hp : ps.length ≤ 500000) (hb : ¬ bad6 la nx pr cs) (hl : 1620 < cs.length + ps.length) : runF Try.prog KB Dm 100000 1 39 [ip6A cl la nx pr ho ss ds (.sl cn (B8 cs) cs.length cc), .sl pn (B8 ps) ps.length pc] = some (errB 3) := by
  obtain ⟨c0, c1, la0, la1, n0, n1, p0, p1, h0, h1, hs, hd, bs, bd, bc, hcl⟩ := hg
  have hcl2 : cs.length ≤ 1099511627776 := by omega
  have hB : fChain [.v (.int .u8 nx), .sl cn (B8 cs) cs.length cc] = some (chainV nx cs) := by simp [fChain, bc, n0, n1, hcl2]
  have e1 : IntKind.i64.wrap ((cs.length : Int) + (ps.length : Int)) = (cs.length : Int) + (ps.length : Int) := wrap64_id (by omega) (by omega)
  have e2 : IntKind.i64.wrap (40 + ((cs.length : Int) + (ps.length : Int))) = 40 + ((cs.length : Int) + (ps.length : Int)) := wrap64_id (by omega) (by omega)
  have q1 : (1620 : Int) < (cs.length : Int) + (ps.length : Int) := by omega
  have q2 : (1660 : Int) < 40 + ((cs.length : Int) + (ps.length : Int)) := by omega
  obtain ⟨⟨r1, r2, r3⟩, hr⟩ : ∃ r, chainF 9 nx cs 0 0 = r := ⟨_, rfl⟩
  unfold bad6 at hb
  rw [hr] at hb
  simp only [not_or, Decidable.not_not] at hb
  obtain ⟨hla, rfl, rfl, rfl⟩ := hb
  have hla2 : ¬ 1048575 < la := by omega
  unfold errB
  unfold runF
  rw [pvCall_own (fn := Try.f39) rfl Try.func39 rfl (by decide) rfl rfl (by simp)]
  simp -implicitDefEqProofs [hla, hla2, hr, e1, e2, q1, q2, ip6A, splice, bc, n0, n1, hcl2, fChain, chainV, hs, hd, B8t16 hs, B8d16 hs, B8t16 hd, B8d16 hd, B8d32 hs, B8g32 hs, B8g16 hd, B8g16 hs]
set_option maxHeartbeats 16000000 in
theorem pw6_ok (cl la nx pr ho : Int) (ss ds cs ps : List Int) (cn pn : Bool) (cc pc : Option Nat) (hg : good6 cl la nx pr ho ss ds cs) (hp : ps.length ≤ 500000) (hb : ¬ bad6 la nx pr cs) (hl : cs.length + ps.length ≤ 1620) : runF Try.prog KB Dm 100000 1 39 [ip6A cl la nx pr ho ss ds (.sl cn (B8 cs) cs.length cc), .sl pn (B8 ps) ps.length pc] = some (wB (head6 cl la nx ho ((cs.length : Int) + (ps.length : Int)) ++ (ss ++ (ds ++ (cs ++ ps))))) := by
  obtain ⟨c0, c1, la0, la1, n0, n1, p0, p1, h0, h1, hs, hd, bs, bd, bc, hcl⟩ := hg
  have hcl2 : cs.length ≤ 1099511627776 := by omega
  have hB : fChain [.v (.int .u8 nx), .sl cn (B8 cs) cs.length cc] = some (chainV nx cs) := by simp [fChain, bc, n0, n1, hcl2]
  have e1 : IntKind.i64.wrap ((cs.length : Int) + (ps.length : Int)) = (cs.length : Int) + (ps.length : Int) := wrap64_id (by omega) (by omega)
  have e2 : IntKind.i64.wrap (40 + ((cs.length : Int) + (ps.length : Int))) = 40 + ((cs.length : Int) + (ps.length : Int)) := wrap64_id (by omega) (by omega)
  have q1 : ¬ (1620 : Int) < (cs.length : Int) + (ps.length : Int) := by omega
  have q2 : ¬ (1660 : Int) < 40 + ((cs.length : Int) + (ps.length : Int)) := by omega
  obtain ⟨⟨r1, r2, r3⟩, hr⟩ : ∃ r, chainF 9 nx cs 0 0 = r := ⟨_, rfl⟩
  unfold bad6 at hb
  rw [hr] at hb
  simp only [not_or, Decidable.not_not] at hb
  obtain ⟨hla, rfl, rfl, rfl⟩ := hb
  have hla2 : ¬ 1048575 < la := by omega
  have b0 : bits .or .u8 96 (cl / 16) = 96 + cl / 16 := or8_16 6 (cl / 16) (by omega) (by omega) (by omega) (by omega)
  have b1 : IntKind.u8.wrap (cl * 16) = cl % 16 * 16 := by rw [wrapu8_mod]; omega
  have b2 : IntKind.u8.wrap (la / 65536) = la / 65536 := wrapu8_id (by omega) (by omega)
  have b3 : bits .or .u8 (cl % 16 * 16) (la / 65536) = cl % 16 * 16 + la / 65536 := or8_16 _ _ (by omega) (by omega) (by omega) (by omega)
  have b4 : IntKind.u8.wrap (la / 256) = la / 256 % 256 := wrapu8_mod _
  have b5 : IntKind.u8.wrap la = la % 256 := wrapu8_mod _
  have b6 : IntKind.u8.wrap (((cs.length : Int) + (ps.length : Int)) / 256) = ((cs.length : Int) + (ps.length : Int)) / 256 := wrapu8_id (by omega) (by omega)
  have b7 : IntKind.u8.wrap ((cs.length : Int) + (ps.length : Int)) = ((cs.length : Int) + (ps.length : Int)) % 256 := wrapu8_mod _
  obtain ⟨H, hH⟩ : ∃ H, head6 cl la nx ho ((cs.length : Int) + (ps.length : Int)) = H := ⟨_, rfl⟩
  have hHl : H.length = 8 := by rw [← hH]; rfl
  have hHt : H.take 8 = H := List.take_of_length_le (by omega)
  have hHA : [AV.v (.int .u8 (96 + cl / 16)), .v (.int .u8 (cl % 16 * 16 + la / 65536)), .v (.int .u8 (la / 256 % 256)), .v (.int .u8 (la % 256)), .v (.int .u8 (((cs.length : Int) + (ps.length : Int)) / 256)), .v (.int .u8 (((cs.length : Int) + (ps.length : Int)) % 256)), .v (.int .u8 nx), .v (.int .u8 ho)] = B8 H := by rw [← hH]; rfl
  rw [hH]
  have m1 : 40 + cs.length ≤ 549755813888 := by omega
  have m2 : 40 + cs.length + ps.length ≤ 549755813888 := by omega
  have m3 : 40 + cs.length ≤ 8 + (16 + (16 + cs.length)) := by omega
  have m4 : 40 + cs.length + ps.length ≤ 8 + (16 + (16 + (cs.length + ps.length))) := by omega
  have m5 : 8 + (16 + (16 + (cs.length + ps.length))) = 40 + cs.length + ps.length := by omega
  have t1 : ss.take 16 = ss := List.take_of_length_le (by omega)
  have t2 : ds.take 16 = ds := List.take_of_length_le (by omega)
  have t3 : (H ++ ss).take 24 = H ++ ss := List.take_of_length_le (by simp; omega)
  have t4 : (H ++ (ss ++ ds)).take 40 = H ++ (ss ++ ds) := List.take_of_length_le (by simp; omega)
  have t5 : (H ++ (ss ++ (ds ++ cs))).take (40 + cs.length) = H ++ (ss ++ (ds ++ cs)) := List.take_of_length_le (by simp; omega)
  have t6 : H.length + (ss.length + (ds.length + (cs.length + ps.length))) = 40 + cs.length + ps.length := by omega
  unfold wB
  unfold runF
  rw [pvCall_own (fn := Try.f39) rfl Try.func39 rfl (by decide) rfl rfl (by simp)]
  simp -implicitDefEqProofs [hla, hla2, hr, e1, e2, q1, q2, hHA, hHl, hHt, m1, m2, m3, m4, m5, t1, t2, t3, t4, t5, t6, fdiv_nn, b0, b1, b2, b3, b4, b5, b6, b7, IntKind.bits, Nat.testBit_eq_decide_div_mod_eq, ip6A, splice, bc, n0, n1, hcl2, fChain, chainV, hs, hd, B8t16 hs, B8d16 hs, B8t16 hd, B8d16 hd, B8d32 hs, B8g32 hs, B8g16 hd, B8g16 hs]
end Go.Proofs.Ytcbjjkpjbdcakaa
