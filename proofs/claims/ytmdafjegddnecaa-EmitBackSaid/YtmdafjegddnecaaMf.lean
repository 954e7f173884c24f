import Derived.Test.YtmdafjegddnecaaMe
import Derived.Test.YtmdafjegddnecaaMx
/- IPv6's writers as functions of values. -/
namespace Go.Proofs.Ytmdafjegddnecaa
open Go.Pm Go.Wb
set_option linter.unusedVariables false
set_option linter.unusedSimpArgs false
set_option maxRecDepth 1000000
def wB (W : List Int) : AV × List (List AV) := (.tup [.own 0 0 0 W.length 1 (.whole 5), .v (.int .i64 0)], [B8 W])
def errB (e : Int) : AV × List (List AV) := (.tup [.v (.slice none 0 0), .v (.int .i64 e)], [])
def head6 (cl la nx ho : Int) (L : Int) : List Int := [96 + cl / 16, cl % 16 * 16 + la / 65536, la / 256 % 256, la % 256, L / 256, L % 256, nx, ho]
def bad6 (la nx pr : Int) (cs : List Int) : Prop := 1048576 ≤ la ∨ ¬ (chainF 9 nx cs 0 0).2.2 = 0 ∨ ¬ (chainF 9 nx cs 0 0).1 = pr ∨ ¬ (chainF 9 nx cs 0 0).2.1 = (cs.length : Int)
instance (la nx pr : Int) (cs : List Int) : Decidable (bad6 la nx pr cs) := by unfold bad6; infer_instance
def w6V (cl la nx pr ho : Int) (ss ds cs ps : List Int) : AV × List (List AV) :=
  if bad6 la nx pr cs then errB 2 else if 1620 < cs.length + ps.length then errB 3 else wB (head6 cl la nx ho ((cs.length : Int) + (ps.length : Int)) ++ (ss ++ (ds ++ (cs ++ ps))))
def good6 (cl la nx pr ho : Int) (ss ds cs : List Int) : Prop := 0 ≤ cl ∧ cl ≤ 255 ∧ 0 ≤ la ∧ la < 4294967296 ∧ 0 ≤ nx ∧ nx ≤ 255 ∧ 0 ≤ pr ∧ pr ≤ 255 ∧ 0 ≤ ho ∧ ho ≤ 255 ∧ ss.length = 16 ∧ ds.length = 16 ∧ bytesB ss = true ∧ bytesB ds = true ∧ bytesB cs = true ∧ cs.length ≤ 500000
instance (cl la nx pr ho : Int) (ss ds cs : List Int) : Decidable (good6 cl la nx pr ho ss ds cs) := by unfold good6; infer_instance
set_option maxHeartbeats 16000000 in
theorem pw6_bad (cl la nx pr ho : Int) (ss ds cs ps : List Int) (cn pn : Bool) (cc pc : Option Nat) (hg : good6 cl la nx pr ho ss ds cs) (hp : ps.length ≤ 500000) (hb : bad6 la nx pr cs) : runF Try.prog KB Dm 100000 1 44 [ip6A cl la nx pr ho ss ds (.sl cn (B8 cs) cs.length cc), .sl pn (B8 ps) ps.length pc] = some (errB 2) := by
  obtain ⟨c0, c1, la0, la1, n0, n1, p0, p1, h0, h1, hs, hd, bs, bd, bc, hcl⟩ := hg
  have hcl2 : cs.length ≤ 1099511627776 := by omega
  have hB : fChain [.v (.int .u8 nx), .sl cn (B8 cs) cs.length cc] = some (chainV nx cs) := by simp [fChain, bc, n0, n1, hcl2]
  have e1 : IntKind.i64.wrap ((cs.length : Int) + (ps.length : Int)) = (cs.length : Int) + (ps.length : Int) := wrap64_id (by omega) (by omega)
  obtain ⟨⟨r1, r2, r3⟩, hr⟩ : ∃ r, chainF 9 nx cs 0 0 = r := ⟨_, rfl⟩
  unfold bad6 at hb
  rw [hr] at hb
  simp only at hb
  unfold errB
  unfold runF
  rw [pvCall_own (fn := Try.f44) rfl Try.func44 rfl (by decide) rfl rfl (by simp)]
  by_cases hla : 1048576 ≤ la
  · have hla2 : 1048575 < la := by omega
    simp -implicitDefEqProofs [hla, hla2, hr, e1, ip6A, splice, bc, n0, n1, hcl2, fChain, chainV, hs, hd, B8t16 hs, B8d16 hs, B8t16 hd, B8d16 hd, B8d32 hs, B8g32 hs, B8g16 hd, B8g16 hs]
  have hla2 : ¬ 1048575 < la := by omega
  by_cases h3 : r3 = 0
  · subst h3
    by_cases h1 : r1 = pr
    · subst h1
      have h2 : ¬ r2 = (cs.length : Int) := by
        rcases hb with h | h | h | h
        · exact absurd h hla
        · exact absurd rfl h
        · exact absurd rfl h
        · exact h
      simp -implicitDefEqProofs [hla, hla2, hr, e1, h2, ip6A, splice, bc, n0, n1, hcl2, fChain, chainV, hs, hd, B8t16 hs, B8d16 hs, B8t16 hd, B8d16 hd, B8d32 hs, B8g32 hs, B8g16 hd, B8g16 hs]
    · have h1n : (r1 != pr) = true := by simp [h1]
      have h1e : (r1 == pr) = false := by simp [h1]
      simp -implicitDefEqProofs [hla, hla2, hr, e1, h1, h1n, h1e, ip6A, splice, bc, n0, n1, hcl2, fChain, chainV, hs, hd, B8t16 hs, B8d16 hs, B8t16 hd, B8d16 hd, B8d32 hs, B8g32 hs, B8g16 hd, B8g16 hs]
  · have h3n : (r3 != 0) = true := by simp [h3]
    have h3e : (r3 == 0) = false := by simp [h3]
    simp -implicitDefEqProofs [hla, hla2, hr, e1, h3, h3n, h3e, ip6A, splice, bc, n0, n1, hcl2, fChain, chainV, hs, hd, B8t16 hs, B8d16 hs, B8t16 hd, B8d16 hd, B8d32 hs, B8g32 hs, B8g16 hd, B8g16 hs]
set_option maxHeartbeats 16000000 in
theorem pw6_long (cl la nx pr ho : Int) (ss ds cs ps : List Int) (cn pn : Bool) (cc pc : Option Nat) (hg : good6 cl la nx pr ho ss ds cs) (hp : ps.length ≤ 500000) (hb : ¬ bad6 la nx pr cs) (hl : 1620 < cs.length + ps.length) : runF Try.prog KB Dm 100000 1 44 [ip6A cl la nx pr ho ss ds (.sl cn (B8 cs) cs.length cc), .sl pn (B8 ps) ps.length pc] = some (errB 3) := by
  obtain ⟨c0, c1, la0, la1, n0, n1, p0, p1, h0, h1, hs, hd, bs, bd, bc, hcl⟩ := hg
  have hcl2 : cs.length ≤ 1099511627776 := by omega
  have hB : fChain [.v (.int .u8 nx), .sl cn (B8 cs) cs.length cc] = some (chainV nx cs) := by simp [fChain, bc, n0, n1, hcl2]
  have e1 : IntKind.i64.wrap ((cs.length : Int) + (ps.length : Int)) = (cs.length : Int) + (ps.length : Int) := wrap64_id (by omega) (by omega)
  have e2 : IntKind.i64.wrap (40 + ((cs.length : Int) + (ps.length : Int))) = 40 + ((cs.length : Int) + (ps.length : Int)) := wrap64_id (by omega) (by omega)
  have q1 : (1620 : Int) < (cs.length : Int) + (ps.length : Int) := by omega
  have q2 : (1660 : Int) < 40 + ((cs.length : Int) + (ps.length : Int)) := by omega
  obtain ⟨⟨r1, r2, r3⟩, hr⟩ : ∃ r, chainF 9 nx cs 0 0 = r := ⟨_, rfl⟩
  unfold bad6 at hb
  rw [hr] at hb
  simp only [not_or, Decidable.not_not] at hb
  obtain ⟨hla, rfl, rfl, rfl⟩ := hb
  have hla2 : ¬ 1048575 < la := by omega
  unfold errB
  unfold runF
  rw [pvCall_own (fn := Try.f44) rfl Try.func44 rfl (by decide) rfl rfl (by simp)]
  simp -implicitDefEqProofs [hla, hla2, hr, e1, e2, q1, q2, ip6A, splice, bc, n0, n1, hcl2, fChain, chainV, hs, hd, B8t16 hs, B8d16 hs, B8t16 hd, B8d16 hd, B8d32 hs, B8g32 hs, B8g16 hd, B8g16 hs]
set_option maxHeartbeats 16000000 in
theorem pw6_ok (cl la nx pr ho : Int) (ss ds cs ps : List Int) (cn pn : Bool) (cc pc : Option Nat) (hg : good6 cl la nx pr ho ss ds cs) (hp : ps.length ≤ 500000) (hb : ¬ bad6 la nx pr cs) (hl : cs.length + ps.length ≤ 1620) : runF Try.prog KB Dm 100000 1 44 [ip6A cl la nx pr ho ss ds (.sl cn (B8 cs) cs.length cc), .sl pn (B8 ps) ps.length pc] = some (wB (head6 cl la nx ho ((cs.length : Int) + (ps.length : Int)) ++ (ss ++ (ds ++ (cs ++ ps))))) := by
  obtain ⟨c0, c1, la0, la1, n0, n1, p0, p1, h0, h1, hs, hd, bs, bd, bc, hcl⟩ := hg
  have hcl2 : cs.length ≤ 1099511627776 := by omega
  have hB : fChain [.v (.int .u8 nx), .sl cn (B8 cs) cs.length cc] = some (chainV nx cs) := by simp [fChain, bc, n0, n1, hcl2]
  have e1 : IntKind.i64.wrap ((cs.length : Int) + (ps.length : Int)) = (cs.length : Int) + (ps.length : Int) := wrap64_id (by omega) (by omega)
  have e2 : IntKind.i64.wrap (40 + ((cs.length : Int) + (ps.length : Int))) = 40 + ((cs.length : Int) + (ps.length : Int)) := wrap64_id (by omega) (by omega)
  have q1 : ¬ (1620 : Int) < (cs.length : Int) + (ps.length : Int) := by omega
  have q2 : ¬ (1660 : Int) < 40 + ((cs.length : Int) + (ps.length : Int)) := by omega
  obtain ⟨⟨r1, r2, r3⟩, hr⟩ : ∃ r, chainF 9 nx cs 0 0 = r := ⟨_, rfl⟩
  unfold bad6 at hb
  rw [hr] at hb
  simp only [not_or, Decidable.not_not] at hb
  obtain ⟨hla, rfl, rfl, rfl⟩ := hb
  have hla2 : ¬ 1048575 < la := by omega
  have b0 : bits .or .u8 96 (cl / 16) = 96 + cl / 16 := or8_16 6 (cl / 16) (by omega) (by omega) (by omega) (by omega)
  have b1 : IntKind.u8.wrap (cl * 16) = cl % 16 * 16 := by rw [wrapu8_mod]; omega
  have b2 : IntKind.u8.wrap (la / 65536) = la / 65536 := wrapu8_id (by omega) (by omega)
  have b3 : bits .or .u8 (cl % 16 * 16) (la / 65536) = cl % 16 * 16 + la / 65536 := or8_16 _ _ (by omega) (by omega) (by omega) (by omega)
  have b4 : IntKind.u8.wrap (la / 256) = la / 256 % 256 := wrapu8_mod _
  have b5 : IntKind.u8.wrap la = la % 256 := wrapu8_mod _
  have b6 : IntKind.u8.wrap (((cs.length : Int) + (ps.length : Int)) / 256) = ((cs.length : Int) + (ps.length : Int)) / 256 := wrapu8_id (by omega) (by omega)
  have b7 : IntKind.u8.wrap ((cs.length : Int) + (ps.length : Int)) = ((cs.length : Int) + (ps.length : Int)) % 256 := wrapu8_mod _
  obtain ⟨H, hH⟩ : ∃ H, head6 cl la nx ho ((cs.length : Int) + (ps.length : Int)) = H := ⟨_, rfl⟩
  have hHl : H.length = 8 := by rw [← hH]; rfl
  have hHt : H.take 8 = H := List.take_of_length_le (by omega)
  have hHA : [AV.v (.int .u8 (96 + cl / 16)), .v (.int .u8 (cl % 16 * 16 + la / 65536)), .v (.int .u8 (la / 256 % 256)), .v (.int .u8 (la % 256)), .v (.int .u8 (((cs.length : Int) + (ps.length : Int)) / 256)), .v (.int .u8 (((cs.length : Int) + (ps.length : Int)) % 256)), .v (.int .u8 nx), .v (.int .u8 ho)] = B8 H := by rw [← hH]; rfl
  rw [hH]
  have m1 : 40 + cs.length ≤ 549755813888 := by omega
  have m2 : 40 + cs.length + ps.length ≤ 549755813888 := by omega
  have m3 : 40 + cs.length ≤ 8 + (16 + (16 + cs.length)) := by omega
  have m4 : 40 + cs.length + ps.length ≤ 8 + (16 + (16 + (cs.length + ps.length))) := by omega
  have m5 : 8 + (16 + (16 + (cs.length + ps.length))) = 40 + cs.length + ps.length := by omega
  have t1 : ss.take 16 = ss := List.take_of_length_le (by omega)
  have t2 : ds.take 16 = ds := List.take_of_length_le (by omega)
  have t3 : (H ++ ss).take 24 = H ++ ss := List.take_of_length_le (by simp; omega)
  have t4 : (H ++ (ss ++ ds)).take 40 = H ++ (ss ++ ds) := List.take_of_length_le (by simp; omega)
  have t5 : (H ++ (ss ++ (ds ++ cs))).take (40 + cs.length) = H ++ (ss ++ (ds ++ cs)) := List.take_of_length_le (by simp; omega)
  have t6 : H.length + (ss.length + (ds.length + (cs.length + ps.length))) = 40 + cs.length + ps.length := by omega
  unfold wB
  unfold runF
  rw [pvCall_own (fn := Try.f44) rfl Try.func44 rfl (by decide) rfl rfl (by simp)]
  simp -implicitDefEqProofs [hla, hla2, hr, e1, e2, q1, q2, hHA, hHl, hHt, m1, m2, m3, m4, m5, t1, t2, t3, t4, t5, t6, fdiv_nn, b0, b1, b2, b3, b4, b5, b6, b7, IntKind.bits, Nat.testBit_eq_decide_div_mod_eq, ip6A, splice, bc, n0, n1, hcl2, fChain, chainV, hs, hd, B8t16 hs, B8d16 hs, B8t16 hd, B8d16 hd, B8d32 hs, B8g32 hs, B8g16 hd, B8g16 hs]
end Go.Proofs.Ytmdafjegddnecaa

/- The reference's writer of IPv6 as a function of values. -/
namespace Go.Proofs.Ytmdafjegddnecaa
open Go.Pm Go.Wb
set_option linter.unusedVariables false
set_option linter.unusedSimpArgs false
set_option maxRecDepth 1000000
set_option maxHeartbeats 16000000 in
theorem rw6_bad (cl la nx pr ho : Int) (ss ds cs ps : List Int) (cn pn : Bool) (cc pc : Option Nat) (hg : good6 cl la nx pr ho ss ds cs) (hp : ps.length ≤ 500000) (hb : bad6 la nx pr cs) : runF Try.prog KC Dm 100000 1 126 [ip6A cl la nx pr ho ss ds (.sl cn (B8 cs) cs.length cc), .sl pn (B8 ps) ps.length pc] = some (errB 2) := by
  obtain ⟨c0, c1, la0, la1, n0, n1, p0, p1, h0, h1, hs, hd, bs, bd, bc, hcl⟩ := hg
  have hcl2 : cs.length ≤ 1099511627776 := by omega
  have hB : fChain [.v (.int .u8 nx), .sl cn (B8 cs) cs.length cc] = some (chainV nx cs) := by simp [fChain, bc, n0, n1, hcl2]
  have e1 : IntKind.i64.wrap ((cs.length : Int) + (ps.length : Int)) = (cs.length : Int) + (ps.length : Int) := wrap64_id (by omega) (by omega)
  obtain ⟨⟨r1, r2, r3⟩, hr⟩ : ∃ r, chainF 9 nx cs 0 0 = r := ⟨_, rfl⟩
  unfold bad6 at hb
  rw [hr] at hb
  simp only at hb
  unfold errB
  unfold runF
  rw [pvCall_own (fn := Try.f126) rfl Try.func126 rfl (by decide) rfl rfl (by simp)]
  by_cases hla : 1048576 ≤ la
  · have hla2 : 1048575 < la := by omega
    simp -implicitDefEqProofs [hla, hla2, hr, e1, ip6A, splice, bc, n0, n1, hcl2, fChain, chainV, hs, hd, B8t16 hs, B8d16 hs, B8t16 hd, B8d16 hd, B8d32 hs, B8g32 hs, B8g16 hd, B8g16 hs]
  have hla2 : ¬ 1048575 < la := by omega
  by_cases h3 : r3 = 0
  · subst h3
    by_cases h1 : r1 = pr
    · subst h1
      have h2 : ¬ r2 = (cs.length : Int) := by
        rcases hb with h | h | h | h
        · exact absurd h hla
        · exact absurd rfl h
        · exact absurd rfl h
        · exact h
      simp -implicitDefEqProofs [hla, hla2, hr, e1, h2, ip6A, splice, bc, n0, n1, hcl2, fChain, chainV, hs, hd, B8t16 hs, B8d16 hs, B8t16 hd, B8d16 hd, B8d32 hs, B8g32 hs, B8g16 hd, B8g16 hs]
    · have h1n : (r1 != pr) = true := by simp [h1]
      have h1e : (r1 == pr) = false := by simp [h1]
      simp -implicitDefEqProofs [hla, hla2, hr, e1, h1, h1n, h1e, ip6A, splice, bc, n0, n1, hcl2, fChain, chainV, hs, hd, B8t16 hs, B8d16 hs, B8t16 hd, B8d16 hd, B8d32 hs, B8g32 hs, B8g16 hd, B8g16 hs]
  · have h3n : (r3 != 0) = true := by simp [h3]
    have h3e : (r3 == 0) = false := by simp [h3]
    simp -implicitDefEqProofs [hla, hla2, hr, e1, h3, h3n, h3e, ip6A, splice, bc, n0, n1, hcl2, fChain, chainV, hs, hd, B8t16 hs, B8d16 hs, B8t16 hd, B8d16 hd, B8d32 hs, B8g32 hs, B8g16 hd, B8g16 hs]
set_option maxHeartbeats 16000000 in
theorem rw6_long (cl la nx pr ho : Int) (ss ds cs ps : List Int) (cn pn : Bool) (cc pc : Option Nat) (hg : good6 cl la nx pr ho ss ds cs) (hp : ps.length ≤ 500000) (hb : ¬ bad6 la nx pr cs) (hl : 1620 < cs.length + ps.length) : runF Try.prog KC Dm 100000 1 126 [ip6A cl la nx pr ho ss ds (.sl cn (B8 cs) cs.length cc), .sl pn (B8 ps) ps.length pc] = some (errB 3) := by
  obtain ⟨c0, c1, la0, la1, n0, n1, p0, p1, h0, h1, hs, hd, bs, bd, bc, hcl⟩ := hg
  have hcl2 : cs.length ≤ 1099511627776 := by omega
  have hB : fChain [.v (.int .u8 nx), .sl cn (B8 cs) cs.length cc] = some (chainV nx cs) := by simp [fChain, bc, n0, n1, hcl2]
  have e1 : IntKind.i64.wrap ((cs.length : Int) + (ps.length : Int)) = (cs.length : Int) + (ps.length : Int) := wrap64_id (by omega) (by omega)
  have e2 : IntKind.i64.wrap (40 + ((cs.length : Int) + (ps.length : Int))) = 40 + ((cs.length : Int) + (ps.length : Int)) := wrap64_id (by omega) (by omega)
  have q1 : (1620 : Int) < (cs.length : Int) + (ps.length : Int) := by omega
  have q2 : (1660 : Int) < 40 + ((cs.length : Int) + (ps.length : Int)) := by omega
  obtain ⟨⟨r1, r2, r3⟩, hr⟩ : ∃ r, chainF 9 nx cs 0 0 = r := ⟨_, rfl⟩
  unfold bad6 at hb
  rw [hr] at hb
  simp only [not_or, Decidable.not_not] at hb
  obtain ⟨hla, rfl, rfl, rfl⟩ := hb
  have hla2 : ¬ 1048575 < la := by omega
  unfold errB
  unfold runF
  rw [pvCall_own (fn := Try.f126) rfl Try.func126 rfl (by decide) rfl rfl (by simp)]
  simp -implicitDefEqProofs [hla, hla2, hr, e1, e2, q1, q2, ip6A, splice, bc, n0, n1, hcl2, fChain, chainV, hs, hd, B8t16 hs, B8d16 hs, B8t16 hd, B8d16 hd, B8d32 hs, B8g32 hs, B8g16 hd, B8g16 hs]
set_option maxHeartbeats 16000000 in
theorem rw6_ok (cl la nx pr ho : Int) (ss ds cs ps : List Int) (cn pn : Bool) (cc pc : Option Nat) (hg : good6 cl la nx pr ho ss ds cs) (hp : ps.length ≤ 500000) (hb : ¬ bad6 la nx pr cs) (hl : cs.length + ps.length ≤ 1620) : runF Try.prog KC Dm 100000 1 126 [ip6A cl la nx pr ho ss ds (.sl cn (B8 cs) cs.length cc), .sl pn (B8 ps) ps.length pc] = some (wB (head6 cl la nx ho ((cs.length : Int) + (ps.length : Int)) ++ (ss ++ (ds ++ (cs ++ ps))))) := by
  obtain ⟨c0, c1, la0, la1, n0, n1, p0, p1, h0, h1, hs, hd, bs, bd, bc, hcl⟩ := hg
  have hcl2 : cs.length ≤ 1099511627776 := by omega
  have hB : fChain [.v (.int .u8 nx), .sl cn (B8 cs) cs.length cc] = some (chainV nx cs) := by simp [fChain, bc, n0, n1, hcl2]
  have e1 : IntKind.i64.wrap ((cs.length : Int) + (ps.length : Int)) = (cs.length : Int) + (ps.length : Int) := wrap64_id (by omega) (by omega)
  have e2 : IntKind.i64.wrap (40 + ((cs.length : Int) + (ps.length : Int))) = 40 + ((cs.length : Int) + (ps.length : Int)) := wrap64_id (by omega) (by omega)
  have q1 : ¬ (1620 : Int) < (cs.length : Int) + (ps.length : Int) := by omega
  have q2 : ¬ (1660 : Int) < 40 + ((cs.length : Int) + (ps.length : Int)) := by omega
  obtain ⟨⟨r1, r2, r3⟩, hr⟩ : ∃ r, chainF 9 nx cs 0 0 = r := ⟨_, rfl⟩
  unfold bad6 at hb
  rw [hr] at hb
  simp only [not_or, Decidable.not_not] at hb
  obtain ⟨hla, rfl, rfl, rfl⟩ := hb
  have hla2 : ¬ 1048575 < la := by omega
  have v0 : IntKind.u64.wrap cl = cl := wrapu64_id (by omega) (by omega)
  have v1 : IntKind.u64.wrap (cl * 1048576) = cl * 1048576 := wrapu64_id (by omega) (by omega)
  have v2 : IntKind.u64.wrap (1610612736 + cl * 1048576) = 1610612736 + cl * 1048576 := wrapu64_id (by omega) (by omega)
  have v3 : IntKind.u64.wrap la = la := wrapu64_id (by omega) (by omega)
  obtain ⟨F, hF⟩ : ∃ F, 1610612736 + cl * 1048576 + la = F := ⟨_, rfl⟩
  have v4 : IntKind.u64.wrap F = F := wrapu64_id (by omega) (by omega)
  have d0 : F.tdiv 16777216 = 96 + cl / 16 := by rw [Int.tdiv_eq_ediv_of_nonneg (by omega)]; omega
  have d1 : F.tdiv 65536 = F / 65536 := Int.tdiv_eq_ediv_of_nonneg (by omega)
  have d2 : (F / 65536).tmod 256 = cl % 16 * 16 + la / 65536 := by rw [Int.tmod_eq_emod_of_nonneg (by omega)]; omega
  have d3 : F.tdiv 256 = F / 256 := Int.tdiv_eq_ediv_of_nonneg (by omega)
  have d4 : (F / 256).tmod 256 = la / 256 % 256 := by rw [Int.tmod_eq_emod_of_nonneg (by omega)]; omega
  have d5 : F.tmod 256 = la % 256 := by rw [Int.tmod_eq_emod_of_nonneg (by omega)]; omega
  have x0 : IntKind.u64.wrap (96 + cl / 16) = 96 + cl / 16 := wrapu64_id (by omega) (by omega)
  have x1 : IntKind.u64.wrap (F / 65536) = F / 65536 := wrapu64_id (by omega) (by omega)
  have x2 : IntKind.u64.wrap (cl % 16 * 16 + la / 65536) = cl % 16 * 16 + la / 65536 := wrapu64_id (by omega) (by omega)
  have x3 : IntKind.u64.wrap (F / 256) = F / 256 := wrapu64_id (by omega) (by omega)
  have x4 : IntKind.u64.wrap (la / 256 % 256) = la / 256 % 256 := wrapu64_id (by omega) (by omega)
  have x5 : IntKind.u64.wrap (la % 256) = la % 256 := wrapu64_id (by omega) (by omega)
  have y0 : IntKind.u8.wrap (96 + cl / 16) = 96 + cl / 16 := wrapu8_id (by omega) (by omega)
  have y2 : IntKind.u8.wrap (cl % 16 * 16 + la / 65536) = cl % 16 * 16 + la / 65536 := wrapu8_id (by omega) (by omega)
  have y4 : IntKind.u8.wrap (la / 256 % 256) = la / 256 % 256 := wrapu8_id (by omega) (by omega)
  have y5 : IntKind.u8.wrap (la % 256) = la % 256 := wrapu8_id (by omega) (by omega)
  obtain ⟨L, hL⟩ : ∃ L, (cs.length : Int) + (ps.length : Int) = L := ⟨_, rfl⟩
  have z0 : L.tdiv 256 = L / 256 := Int.tdiv_eq_ediv_of_nonneg (by omega)
  have z1 : L.tmod 256 = L % 256 := Int.tmod_eq_emod_of_nonneg (by omega)
  have z2 : IntKind.i64.wrap (L / 256) = L / 256 := wrap64_id (by omega) (by omega)
  have z3 : IntKind.i64.wrap (L % 256) = L % 256 := wrap64_id (by omega) (by omega)
  have z4 : IntKind.u8.wrap (L / 256) = L / 256 := wrapu8_id (by omega) (by omega)
  have z5 : IntKind.u8.wrap (L % 256) = L % 256 := wrapu8_id (by omega) (by omega)
  rw [hL] at e1 e2 q1 q2
  obtain ⟨H, hH⟩ : ∃ H, head6 cl la nx ho L = H := ⟨_, rfl⟩
  have hHl : H.length = 8 := by rw [← hH]; rfl
  have hHt : H.take 8 = H := List.take_of_length_le (by omega)
  have hHA : [AV.v (.int .u8 (96 + cl / 16)), .v (.int .u8 (cl % 16 * 16 + la / 65536)), .v (.int .u8 (la / 256 % 256)), .v (.int .u8 (la % 256)), .v (.int .u8 (L / 256)), .v (.int .u8 (L % 256)), .v (.int .u8 nx), .v (.int .u8 ho)] = B8 H := by rw [← hH]; rfl
  rw [hL, hH]
  unfold wB
  unfold runF
  rw [pvCall_own (fn := Try.f126) rfl Try.func126 rfl (by decide) rfl rfl (by simp)]
  simp -implicitDefEqProofs [hla, hla2, hr, e1, e2, q1, q2, hHA, hHl, hHt, v0, v1, v2, v3, hF, v4, d0, d1, d2, d3, d4, d5, x0, x1, x2, x3, x4, x5, y0, y2, y4, y5, hL, z0, z1, z2, z3, z4, z5, IntKind.bits, Nat.testBit_eq_decide_div_mod_eq, ip6A, splice, bc, n0, n1, hcl2, fChain, chainV, hs, hd, B8t16 hs, B8d16 hs, B8t16 hd, B8d16 hd, B8d32 hs, B8g32 hs, B8g16 hd, B8g16 hs]
  generalize hL1 : loopK _ _ _ _ _ _ _ _ _ ⟨_, _⟩ = R
  obtain ⟨e, t', m', rfl, hk, hm, rfl, v, f11, fm⟩ := loop_met5 hL1 [11, 12, 86, 87, 88, 89, 90, 91, 92, 93, 94, 95, 96] [85, 95]
    (fun j t m => t 12 = .v (.int .i64 (j : Int)) ∧ ∃ v, t 11 = .own 85 v 0 (8 + j) 1 (.whole 5) ∧ m 85 = some ⟨v, B8 (H ++ ss.take j)⟩)
    (fun e t m => e = .exit 0 ∧ ∃ v, t 11 = .own 85 v 0 (8 + 16) 1 (.whole 5) ∧ m 85 = some ⟨v, B8 (H ++ ss)⟩) 16 (by omega) ⟨by simp, 0, by simp, by simp⟩
    (fun j t m hj hk hm ⟨ec, v, e11, em⟩ => by
      have e2 := hk 2 (by decide)
      have em2 := hm 2 (by decide)
      simp at e2 em2
      by_cases h16 : j = 16
      · left
        subst h16
        refine ⟨.exit 0, ?t0, m, by simp, ?a0, ?b0, ?c0, ?d0⟩
        case a0 =>
          simp -implicitDefEqProofs [ec]
          exact rfl
        case b0 =>
          repeat' refine Kept.upd ?_ (by decide) _
          exact hk
        case c0 => exact hm
        case d0 => exact ⟨rfl, v, by simp [e11], by rw [em, List.take_of_length_le (by omega)]⟩
      · right
        have j1 : (j : Int) < 16 := by omega
        have j2 : 8 + j ≤ 549755813887 := by omega
        have j3 : (H ++ ss.take j).take (8 + j) = H ++ ss.take j := List.take_of_length_le (by simp; omega)
        have j4 : (H ++ ss.take j).length = 8 + j := by simp; omega
        have j5 := take_snoc (ss := ss) (j := j) (by omega)
        have j6 : IntKind.i64.wrap ((j : Int) + 1) = ((j + 1 : Nat) : Int) := by rw [wrap64_id (by omega) (by omega)]; omega
        have j8 := cell5 (zs := ss) (j := j) (by omega)
        have j7 : 5 + j ≤ 38 := by omega
        refine ⟨by omega, ?t1, ?m1, ?a1, ?b1, ?c1, ?d1⟩
        case a1 =>
          simp -implicitDefEqProofs [ec, e2, e11, em, em2, j1, j2, j3, j4, j5, j6, j7, j8, splice, hs, hd, B8_snoc']
          constructor
          · exact rfl
          · exact rfl
        case b1 =>
          repeat' refine Kept.upd ?_ (by decide) _
          exact hk
        case c1 =>
          repeat' refine KeptM.upd ?_ (by decide) _
          exact hm
        case d1 => exact ⟨by simp, v + 1, by simp; omega, by simp⟩)
  have f1 := hk 1 (by decide)
  have f2 := hk 2 (by decide)
  have fm2 := hm 2 (by decide)
  simp at f1 f2 fm2 f11
  obtain ⟨H1, hH1⟩ : ∃ H1, H ++ ss = H1 := ⟨_, rfl⟩
  have hH1l : H1.length = 24 := by rw [← hH1]; simp; omega
  rw [hH1] at fm
  simp -implicitDefEqProofs [f1, f2, fm2]
  generalize hL1 : loopK _ _ _ _ _ _ _ _ _ ⟨_, _⟩ = R
  obtain ⟨e, t', m', rfl, hk, hm, rfl, v, f11, fm⟩ := loop_met5 hL1 [11, 13, 97, 98, 99, 100, 101, 102, 103, 104, 105, 106, 107] [85, 106]
    (fun j t m => t 13 = .v (.int .i64 (j : Int)) ∧ ∃ v, t 11 = .own 85 v 0 (24 + j) 1 (.whole 5) ∧ m 85 = some ⟨v, B8 (H1 ++ ds.take j)⟩)
    (fun e t m => e = .exit 2 ∧ ∃ v, t 11 = .own 85 v 0 (24 + 16) 1 (.whole 5) ∧ m 85 = some ⟨v, B8 (H1 ++ ds)⟩) 16 (by omega) ⟨by simp, v, by simp [f11], by simp [fm]⟩
    (fun j t m hj hk hm ⟨ec, v, e11, em⟩ => by
      have e2 := hk 2 (by decide)
      have em2 := hm 2 (by decide)
      simp [f2, fm2] at e2 em2
      by_cases h16 : j = 16
      · left
        subst h16
        refine ⟨.exit 2, ?t0z, m, by simp, ?a0z, ?b0z, ?c0z, ?d0z⟩
        case a0z =>
          simp -implicitDefEqProofs [ec]
          exact rfl
        case b0z =>
          repeat' refine Kept.upd ?_ (by decide) _
          exact hk
        case c0z => exact hm
        case d0z => exact ⟨rfl, v, by simp [e11], by rw [em, List.take_of_length_le (by omega)]⟩
      · right
        have j1 : (j : Int) < 16 := by omega
        have j2 : 24 + j ≤ 549755813887 := by omega
        have j3 : (H1 ++ ds.take j).take (24 + j) = H1 ++ ds.take j := List.take_of_length_le (by simp; omega)
        have j4 : (H1 ++ ds.take j).length = 24 + j := by simp; omega
        have j5 := take_snoc (ss := ds) (j := j) (by omega)
        have j6 : IntKind.i64.wrap ((j : Int) + 1) = ((j + 1 : Nat) : Int) := by rw [wrap64_id (by omega) (by omega)]; omega
        have j8 := cell21 (zs := ds) (j := j) hs (by omega)
        have j7 : 21 + j ≤ 38 := by omega
        refine ⟨by omega, ?t1z, ?m1z, ?a1z, ?b1z, ?c1z, ?d1z⟩
        case a1z =>
          simp -implicitDefEqProofs [ec, e2, e11, em, em2, j1, j2, j3, j4, j5, j6, j7, j8, splice, hs, hd, B8_snoc']
          constructor
          · exact rfl
          · exact rfl
        case b1z =>
          repeat' refine Kept.upd ?_ (by decide) _
          exact hk
        case c1z =>
          repeat' refine KeptM.upd ?_ (by decide) _
          exact hm
        case d1z => exact ⟨by simp, v + 1, by simp; omega, by simp⟩)
  have g1 := hk 1 (by decide)
  have g2 := hk 2 (by decide)
  have gm2 := hm 2 (by decide)
  simp [f1, f2, fm2] at g1 g2 gm2 f11
  obtain ⟨H2, hH2⟩ : ∃ H2, H1 ++ ds = H2 := ⟨_, rfl⟩
  have hH2l : H2.length = 40 := by rw [← hH2]; simp; omega
  rw [hH2] at fm
  have hH2t : H2.take 40 = H2 := List.take_of_length_le (by omega)
  have t5 : (H2 ++ cs).take (40 + cs.length) = H2 ++ cs := List.take_of_length_le (by simp; omega)
  have m1 : 40 + cs.length ≤ 549755813888 := by omega
  have m2 : 40 + (cs.length + ps.length) ≤ 549755813888 := by omega
  have m6 : (H2 ++ (cs ++ ps)).take (40 + (cs.length + ps.length)) = H2 ++ (cs ++ ps) := List.take_of_length_le (by simp; omega)
  have m7 : 8 + (16 + (16 + (cs.length + ps.length))) = 40 + (cs.length + ps.length) := by omega
  have hW : H ++ (ss ++ (ds ++ (cs ++ ps))) = H2 ++ (cs ++ ps) := by rw [← hH2, ← hH1]; simp
  rw [hW]
  simp -implicitDefEqProofs [g1, g2, gm2, f11, fm, hH2l, hH2t, t5, m1, m2, m6, m7, hs, hd, hHl, B8d32 hs, B8g32 hs, B8g16 hd, B8g16 hs, splice, B8d16 hs, B8d16 hd, Nat.add_assoc]
end Go.Proofs.Ytmdafjegddnecaa

/- Contracts of IPv6's writers, of Same and of the page's examples. -/
namespace Go.Proofs.Ytmdafjegddnecaa
open Go.Pm Go.Wb
set_option linter.unusedVariables false
set_option linter.unusedSimpArgs false
set_option maxRecDepth 1000000
abbrev I6 := Int × Int × Int × Int × Int × List Int × List Int × List Int
def asI6c (cl la nx pr ho : Int) (ss ds : List Int) : List AV → Option I6
  | [.sl nn b len cap] => (asB8 b).bind fun cs => if cs.length = len then some (cl, la, nx, pr, ho, ss, ds, cs) else none
  | _ => none
def asI6 : AV → Option I6
  | .agg (.v (.int .u8 cl) :: .v (.int .u32 la) :: .v (.int .u8 nx) :: .v (.int .u8 pr) :: .v (.int .u8 ho) :: rest) =>
    (asB8 (rest.take 16)).bind fun ss => (asB8 ((rest.drop 16).take 16)).bind fun ds => asI6c cl la nx pr ho ss ds (rest.drop 32)
  | _ => none
theorem asI6_eq {x : AV} {r : I6} (h : asI6 x = some r) : ∃ cn cc, x = ip6A r.1 r.2.1 r.2.2.1 r.2.2.2.1 r.2.2.2.2.1 r.2.2.2.2.2.1 r.2.2.2.2.2.2.1 (.sl cn (B8 r.2.2.2.2.2.2.2) r.2.2.2.2.2.2.2.length cc) := by
  unfold asI6 at h
  split at h
  · rename_i cl la nx pr ho rest
    obtain ⟨ss, h1, h⟩ := Option.bind_eq_some_iff.1 h
    obtain ⟨ds, h2, h⟩ := Option.bind_eq_some_iff.1 h
    unfold asI6c at h
    split at h
    · rename_i nn b len cap hr
      obtain ⟨cs, h3, h⟩ := Option.bind_eq_some_iff.1 h
      split at h
      · rename_i hl
        cases h
        subst hl
        have e1 := asB8_eq h1
        have e2 := asB8_eq h2
        have e3 := asB8_eq h3
        subst e3
        refine ⟨nn, cap, ?_⟩
        have : rest = B8 ss ++ (B8 ds ++ [.sl nn (B8 cs) cs.length cap]) := by
          rw [← e1, ← e2, ← hr, ← List.take_append_drop 16 rest]
          simp only [List.take_append_drop]
          conv => lhs; rw [← List.take_append_drop 16 rest]
          congr 1
          conv => lhs; rw [← List.take_append_drop 16 (rest.drop 16)]
          rw [List.drop_drop]
        rw [this]
        rfl
      · cases h
    · cases h
  · cases h
theorem asI6_at {cl la nx pr ho : Int} {ss ds cs : List Int} {len : Nat} (hs : ss.length = 16) (hd : ds.length = 16) (hc : cs.length = len) (nn : Bool) (cap : Option Nat) : asI6 (.agg (.v (.int .u8 cl) :: .v (.int .u32 la) :: .v (.int .u8 nx) :: .v (.int .u8 pr) :: .v (.int .u8 ho) :: (B8 ss ++ (B8 ds ++ [.sl nn (B8 cs) len cap])))) = some (cl, la, nx, pr, ho, ss, ds, cs) := by
  show (asB8 ((B8 ss ++ _).take 16)).bind _ = _
  rw [B8t16 hs, B8d16 hs, B8t16 hd, B8d32 hs, B8d16 hd]
  simp [asI6c, hc]
def fW6 : Fun := fun args => match args.map AV.norm with
  | [t, .sl nn c len cap] => (asI6 t).bind fun t => (asB8 c).bind fun ps => if good6 t.1 t.2.1 t.2.2.1 t.2.2.2.1 t.2.2.2.2.1 t.2.2.2.2.2.1 t.2.2.2.2.2.2.1 t.2.2.2.2.2.2.2 ∧ ps.length = len ∧ len ≤ 500000 then
      some (w6V t.1 t.2.1 t.2.2.1 t.2.2.2.1 t.2.2.2.2.1 t.2.2.2.2.2.1 t.2.2.2.2.2.2.1 t.2.2.2.2.2.2.2 ps) else none
  | _ => none
theorem w6_pure : Pure Try.prog 44 fW6 := ((runF_pure kb_ok follows_mixed dm_ok 100000 1 44).norm).weaken fun args r h => by
  unfold fW6 at h
  generalize args.map AV.norm = args at h ⊢
  split at h
  · rename_i t nn c len cap
    obtain ⟨⟨cl, la, nx, pr, ho, ss, ds, cs⟩, e1, h1⟩ := Option.bind_eq_some_iff.1 h
    obtain ⟨ps, e2, he⟩ := Option.bind_eq_some_iff.1 h1
    clear h h1
    split at he
    case isFalse => cases he
    rename_i hh
    simp only at hh he
    obtain ⟨h1, rfl, h3⟩ := hh
    obtain ⟨cn, cc, rfl⟩ := asI6_eq e1
    obtain rfl := asB8_eq e2
    rw [← he]
    unfold w6V
    split
    · rename_i q; exact pw6_bad cl la nx pr ho ss ds cs ps cn nn cc cap h1 h3 q
    split
    · rename_i q q1; exact pw6_long cl la nx pr ho ss ds cs ps cn nn cc cap h1 h3 q q1
    · rename_i q q1; exact pw6_ok cl la nx pr ho ss ds cs ps cn nn cc cap h1 h3 q (by omega)
  · cases h
theorem rw6_pure : Pure Try.prog 126 fW6 := ((runF_pure kc_ok follows_mixed dm_ok 100000 1 126).norm).weaken fun args r h => by
  unfold fW6 at h
  generalize args.map AV.norm = args at h ⊢
  split at h
  · rename_i t nn c len cap
    obtain ⟨⟨cl, la, nx, pr, ho, ss, ds, cs⟩, e1, h1⟩ := Option.bind_eq_some_iff.1 h
    obtain ⟨ps, e2, he⟩ := Option.bind_eq_some_iff.1 h1
    clear h h1
    split at he
    case isFalse => cases he
    rename_i hh
    simp only at hh he
    obtain ⟨h1, rfl, h3⟩ := hh
    obtain ⟨cn, cc, rfl⟩ := asI6_eq e1
    obtain rfl := asB8_eq e2
    rw [← he]
    unfold w6V
    split
    · rename_i q; exact rw6_bad cl la nx pr ho ss ds cs ps cn nn cc cap h1 h3 q
    split
    · rename_i q q1; exact rw6_long cl la nx pr ho ss ds cs ps cn nn cc cap h1 h3 q q1
    · rename_i q q1; exact rw6_ok cl la nx pr ho ss ds cs ps cn nn cc cap h1 h3 q (by omega)
  · cases h
def like6 (x y : I6) : Prop := x.1 = y.1 ∧ x.2.1 = y.2.1 ∧ x.2.2.1 = y.2.2.1 ∧ x.2.2.2.1 = y.2.2.2.1 ∧ x.2.2.2.2.1 = y.2.2.2.2.1 ∧ x.2.2.2.2.2.1 = y.2.2.2.2.2.1 ∧ x.2.2.2.2.2.2.1 = y.2.2.2.2.2.2.1 ∧ x.2.2.2.2.2.2.2 = y.2.2.2.2.2.2.2
instance (x y : I6) : Decidable (like6 x y) := by unfold like6; infer_instance
theorem like6_self (x : I6) : like6 x x := ⟨rfl, rfl, rfl, rfl, rfl, rfl, rfl, rfl⟩
theorem like6_eq {x y : I6} (h : like6 x y) : x = y := by
  obtain ⟨a, b, c, d, e, f, g, i⟩ := x
  obtain ⟨a', b', c', d', e', f', g', i'⟩ := y
  obtain ⟨h1, h2, h3, h4, h5, h6, h7, h8⟩ := h
  simp only at h1 h2 h3 h4 h5 h6 h7 h8
  subst h1 h2 h3 h4 h5 h6 h7 h8
  rfl
attribute [simp] like6_self
def fSame6 : Fun := fun args => match args.map AV.norm with
  | [a, b] => (asI6 a).bind fun x => (asI6 b).bind fun y => if like6 x y ∧ x.2.2.2.2.2.1.length = 16 ∧ x.2.2.2.2.2.2.1.length = 16 ∧ x.2.2.2.2.2.2.2.length ≤ 500000 then some (.v (.bool true), []) else none
  | _ => none
end Go.Proofs.Ytmdafjegddnecaa
