/- The reference's writer of IPv4 as a function of values. -/
import Derived.Test.YtcbjjkpjbdcakaaJg
namespace Go.Proofs.Ytcbjjkpjbdcakaa
open Go.Pm Go.Wb
set_option linter.unusedVariables false
set_option linter.unusedSimpArgs false
set_option maxRecDepth 1000000
theorem ad4_iff {ss : List Int} (h : ss.length = 16) : (ss = ad4 (ss.take 4)) = (ss.drop 4 = zero12) := by
  match ss, h with
  | [a, b, c, d, e, f, g, i, j, k, l, m, n, o, p, q], _ => simp [ad4, zero12, gb]
set_option maxHeartbeats 16000000 in
theorem rw4_opt (tos id : Int) (df : Bool) (ttl pr : Int) (ss ds os ps : List Int) (on pn : Bool) (oc pc : Option Nat) (hg : good4 tos id ttl pr ss ds os) (hp : ps.length ≤ 500000) (h : ¬ optE os = 0) : runF Try.prog KG Dm 100000 1 31 [ip4A tos id df ttl pr ss ds (.sl on (B8 os) os.length oc), .sl pn (B8 ps) ps.length pc] = some (errC (optE os)) := by
  obtain ⟨c0, c1, d0, d1, t0, t1, p0, p1, hs, hd, bs, bd, bo, hol⟩ := hg
  have hs2 : (ss.drop 4).length = 12 := by simp; omega
  have hd2 : (ds.drop 4).length = 12 := by simp; omega
  have z12 : zero12.length = 12 := rfl
  have ps' : pairOk [.int, .int, .int, .int, .int, .int, .int, .int, .int, .int, .int, .int] (List.drop 4 (List.map (Value.int .u8) ss)) (List.map (Value.int .u8) zero12) = true := by rw [← List.map_drop]; exact pairOk12 hs2 z12
  have pd' : pairOk [.int, .int, .int, .int, .int, .int, .int, .int, .int, .int, .int, .int] (List.drop 4 (List.map (Value.int .u8) ds)) (List.map (Value.int .u8) zero12) = true := by rw [← List.map_drop]; exact pairOk12 hd2 z12
  have es' : eqV (List.drop 4 (List.map (Value.int .u8) ss)) (List.map (Value.int .u8) zero12) = decide (ss.drop 4 = zero12) := by rw [← List.map_drop]; exact eqV_ints (hs2.trans z12.symm)
  have ed' : eqV (List.drop 4 (List.map (Value.int .u8) ds)) (List.map (Value.int .u8) zero12) = decide (ds.drop 4 = zero12) := by rw [← List.map_drop]; exact eqV_ints (hd2.trans z12.symm)
  have ts4 : ss.take 4 = [gb ss 0, gb ss 1, gb ss 2, gb ss 3] := take4_eq (by omega)
  have td4 : ds.take 4 = [gb ds 0, gb ds 1, gb ds 2, gb ds 3] := take4_eq (by omega)
  have as16 : (ad4 (ss.take 4)).length = 16 := rfl
  have ad16 : (ad4 (ds.take 4)).length = 16 := rfl
  have es := eqV_ints (hs.trans as16.symm)
  have ed := eqV_ints (hd.trans ad16.symm)
  have pS := pairOk16 hs as16
  have pD := pairOk16 hd ad16
  have qS := ad4_iff hs
  have qD := ad4_iff hd
  obtain ⟨AS, hAS⟩ : ∃ A, ad4 (ss.take 4) = A := ⟨_, rfl⟩
  obtain ⟨AD, hAD⟩ : ∃ A, ad4 (ds.take 4) = A := ⟨_, rfl⟩
  have hAS2 : ad4 [gb ss 0, gb ss 1, gb ss 2, gb ss 3] = AS := by rw [← ts4]; exact hAS
  have hAD2 : ad4 [gb ds 0, gb ds 1, gb ds 2, gb ds 3] = AD := by rw [← td4]; exact hAD
  rw [hAS] at es pS qS as16
  rw [hAD] at ed pD qD ad16
  have lS : min 4 ss.length = 4 := by omega
  have lD : min 4 ds.length = 4 := by omega
  have hn : (optE os != 0) = true := by simp [h]
  unfold runF errC
  rw [pvCall_own (fn := Try.f31) rfl Try.func31 rfl (by decide) rfl rfl (by simp)]
  simp -implicitDefEqProofs [h, hn, hAS, hAD, es, ed, pS, pD, qS, qD, lS, lD, as16, ad16, fAddr, ip4A, splice, bo, hol, fOpt, hs, hd, B8t16 hs, B8d16 hs, B8t16 hd, B8d16 hd, B8d32 hs, B8g32 hs, B8g16 hd, B8g16 hs, B8d4 hs, B8d4 hd, B8d20 hs, B8t4 hs, B8t4 hd, Nat.testBit_eq_decide_div_mod_eq]
set_option maxHeartbeats 16000000 in
theorem rw4_bad (tos id : Int) (df : Bool) (ttl pr : Int) (ss ds os ps : List Int) (on pn : Bool) (oc pc : Option Nat) (hg : good4 tos id ttl pr ss ds os) (hp : ps.length ≤ 500000) (h : optE os = 0) (hb : bad4 ss ds) : runF Try.prog KG Dm 100000 1 31 [ip4A tos id df ttl pr ss ds (.sl on (B8 os) os.length oc), .sl pn (B8 ps) ps.length pc] = some (errC 2) := by
  obtain ⟨c0, c1, d0, d1, t0, t1, p0, p1, hs, hd, bs, bd, bo, hol⟩ := hg
  have hs2 : (ss.drop 4).length = 12 := by simp; omega
  have hd2 : (ds.drop 4).length = 12 := by simp; omega
  have z12 : zero12.length = 12 := rfl
  have ps' : pairOk [.int, .int, .int, .int, .int, .int, .int, .int, .int, .int, .int, .int] (List.drop 4 (List.map (Value.int .u8) ss)) (List.map (Value.int .u8) zero12) = true := by rw [← List.map_drop]; exact pairOk12 hs2 z12
  have pd' : pairOk [.int, .int, .int, .int, .int, .int, .int, .int, .int, .int, .int, .int] (List.drop 4 (List.map (Value.int .u8) ds)) (List.map (Value.int .u8) zero12) = true := by rw [← List.map_drop]; exact pairOk12 hd2 z12
  have es' : eqV (List.drop 4 (List.map (Value.int .u8) ss)) (List.map (Value.int .u8) zero12) = decide (ss.drop 4 = zero12) := by rw [← List.map_drop]; exact eqV_ints (hs2.trans z12.symm)
  have ed' : eqV (List.drop 4 (List.map (Value.int .u8) ds)) (List.map (Value.int .u8) zero12) = decide (ds.drop 4 = zero12) := by rw [← List.map_drop]; exact eqV_ints (hd2.trans z12.symm)
  have ts4 : ss.take 4 = [gb ss 0, gb ss 1, gb ss 2, gb ss 3] := take4_eq (by omega)
  have td4 : ds.take 4 = [gb ds 0, gb ds 1, gb ds 2, gb ds 3] := take4_eq (by omega)
  have as16 : (ad4 (ss.take 4)).length = 16 := rfl
  have ad16 : (ad4 (ds.take 4)).length = 16 := rfl
  have es := eqV_ints (hs.trans as16.symm)
  have ed := eqV_ints (hd.trans ad16.symm)
  have pS := pairOk16 hs as16
  have pD := pairOk16 hd ad16
  have qS := ad4_iff hs
  have qD := ad4_iff hd
  obtain ⟨AS, hAS⟩ : ∃ A, ad4 (ss.take 4) = A := ⟨_, rfl⟩
  obtain ⟨AD, hAD⟩ : ∃ A, ad4 (ds.take 4) = A := ⟨_, rfl⟩
  have hAS2 : ad4 [gb ss 0, gb ss 1, gb ss 2, gb ss 3] = AS := by rw [← ts4]; exact hAS
  have hAD2 : ad4 [gb ds 0, gb ds 1, gb ds 2, gb ds 3] = AD := by rw [← td4]; exact hAD
  rw [hAS] at es pS qS as16
  rw [hAD] at ed pD qD ad16
  have lS : min 4 ss.length = 4 := by omega
  have lD : min 4 ds.length = 4 := by omega
  have ol := optE_len h
  unfold runF errC
  rw [pvCall_own (fn := Try.f31) rfl Try.func31 rfl (by decide) rfl rfl (by simp)]
  by_cases h1 : ss.drop 4 = zero12
  · have h2 : ¬ ds.drop 4 = zero12 := by
      rcases hb with q | q
      · exact absurd h1 q
      · exact q
    simp -implicitDefEqProofs [h, h1, h2, hAS, hAD, es, ed, pS, pD, qS, qD, lS, lD, as16, ad16, fAddr, ip4A, splice, bo, hol, fOpt, hs, hd, B8t16 hs, B8d16 hs, B8t16 hd, B8d16 hd, B8d32 hs, B8g32 hs, B8g16 hd, B8g16 hs, B8d4 hs, B8d4 hd, B8d20 hs, B8t4 hs, B8t4 hd, Nat.testBit_eq_decide_div_mod_eq]
  · simp -implicitDefEqProofs [h, h1, hAS, hAD, es, ed, pS, pD, qS, qD, lS, lD, as16, ad16, fAddr, ip4A, splice, bo, hol, fOpt, hs, hd, B8t16 hs, B8d16 hs, B8t16 hd, B8d16 hd, B8d32 hs, B8g32 hs, B8g16 hd, B8g16 hs, B8d4 hs, B8d4 hd, B8d20 hs, B8t4 hs, B8t4 hd, Nat.testBit_eq_decide_div_mod_eq]
set_option maxHeartbeats 16000000 in
theorem rw4_long (tos id : Int) (df : Bool) (ttl pr : Int) (ss ds os ps : List Int) (on pn : Bool) (oc pc : Option Nat) (hg : good4 tos id ttl pr ss ds os) (hp : ps.length ≤ 500000) (h : optE os = 0) (hb : ¬ bad4 ss ds) (hl : 1660 < 20 + os.length + ps.length) : runF Try.prog KG Dm 100000 1 31 [ip4A tos id df ttl pr ss ds (.sl on (B8 os) os.length oc), .sl pn (B8 ps) ps.length pc] = some (errC 3) := by
  obtain ⟨c0, c1, d0, d1, t0, t1, p0, p1, hs, hd, bs, bd, bo, hol⟩ := hg
  have hs2 : (ss.drop 4).length = 12 := by simp; omega
  have hd2 : (ds.drop 4).length = 12 := by simp; omega
  have z12 : zero12.length = 12 := rfl
  have ps' : pairOk [.int, .int, .int, .int, .int, .int, .int, .int, .int, .int, .int, .int] (List.drop 4 (List.map (Value.int .u8) ss)) (List.map (Value.int .u8) zero12) = true := by rw [← List.map_drop]; exact pairOk12 hs2 z12
  have pd' : pairOk [.int, .int, .int, .int, .int, .int, .int, .int, .int, .int, .int, .int] (List.drop 4 (List.map (Value.int .u8) ds)) (List.map (Value.int .u8) zero12) = true := by rw [← List.map_drop]; exact pairOk12 hd2 z12
  have es' : eqV (List.drop 4 (List.map (Value.int .u8) ss)) (List.map (Value.int .u8) zero12) = decide (ss.drop 4 = zero12) := by rw [← List.map_drop]; exact eqV_ints (hs2.trans z12.symm)
  have ed' : eqV (List.drop 4 (List.map (Value.int .u8) ds)) (List.map (Value.int .u8) zero12) = decide (ds.drop 4 = zero12) := by rw [← List.map_drop]; exact eqV_ints (hd2.trans z12.symm)
  have ts4 : ss.take 4 = [gb ss 0, gb ss 1, gb ss 2, gb ss 3] := take4_eq (by omega)
  have td4 : ds.take 4 = [gb ds 0, gb ds 1, gb ds 2, gb ds 3] := take4_eq (by omega)
  have as16 : (ad4 (ss.take 4)).length = 16 := rfl
  have ad16 : (ad4 (ds.take 4)).length = 16 := rfl
  have es := eqV_ints (hs.trans as16.symm)
  have ed := eqV_ints (hd.trans ad16.symm)
  have pS := pairOk16 hs as16
  have pD := pairOk16 hd ad16
  have qS := ad4_iff hs
  have qD := ad4_iff hd
  obtain ⟨AS, hAS⟩ : ∃ A, ad4 (ss.take 4) = A := ⟨_, rfl⟩
  obtain ⟨AD, hAD⟩ : ∃ A, ad4 (ds.take 4) = A := ⟨_, rfl⟩
  have hAS2 : ad4 [gb ss 0, gb ss 1, gb ss 2, gb ss 3] = AS := by rw [← ts4]; exact hAS
  have hAD2 : ad4 [gb ds 0, gb ds 1, gb ds 2, gb ds 3] = AD := by rw [← td4]; exact hAD
  rw [hAS] at es pS qS as16
  rw [hAD] at ed pD qD ad16
  have lS : min 4 ss.length = 4 := by omega
  have lD : min 4 ds.length = 4 := by omega
  have ol := optE_len h
  have e1 : IntKind.i64.wrap (20 + (os.length : Int)) = 20 + (os.length : Int) := wrap64_id (by omega) (by omega)
  have e3 : IntKind.i64.wrap (20 + (os.length : Int) + (ps.length : Int)) = 20 + (os.length : Int) + (ps.length : Int) := wrap64_id (by omega) (by omega)
  have q1 : (1660 : Int) < 20 + (os.length : Int) + (ps.length : Int) := by omega
  unfold bad4 at hb
  simp only [not_or, Decidable.not_not] at hb
  obtain ⟨h1, h2⟩ := hb
  unfold runF errC
  rw [pvCall_own (fn := Try.f31) rfl Try.func31 rfl (by decide) rfl rfl (by simp)]
  simp -implicitDefEqProofs [h, e1, e3, q1, h1, h2, hAS, hAD, es, ed, pS, pD, qS, qD, lS, lD, as16, ad16, fAddr, ip4A, splice, bo, hol, fOpt, hs, hd, B8t16 hs, B8d16 hs, B8t16 hd, B8d16 hd, B8d32 hs, B8g32 hs, B8g16 hd, B8g16 hs, B8d4 hs, B8d4 hd, B8d20 hs, B8t4 hs, B8t4 hd, Nat.testBit_eq_decide_div_mod_eq]
set_option maxHeartbeats 64000000 in
theorem rw4_ok (tos id : Int) (df : Bool) (ttl pr : Int) (ss ds os ps : List Int) (on pn : Bool) (oc pc : Option Nat) (hg : good4 tos id ttl pr ss ds os) (hp : ps.length ≤ 500000) (h : optE os = 0) (hb : ¬ bad4 ss ds) (hl : 20 + os.length + ps.length ≤ 1660) : runF Try.prog KG Dm 100000 1 31 [ip4A tos id df ttl pr ss ds (.sl on (B8 os) os.length oc), .sl pn (B8 ps) ps.length pc] = some (wC (putS (head4 tos id df ttl pr ss ds os (20 + (os.length : Int) + (ps.length : Int))) (ofV (head4 tos id df ttl pr ss ds os (20 + (os.length : Int) + (ps.length : Int)))) ++ ps)) := by
  obtain ⟨c0, c1, d0, d1, t0, t1, p0, p1, hs, hd, bs, bd, bo, hol⟩ := hg
  have hs2 : (ss.drop 4).length = 12 := by simp; omega
  have hd2 : (ds.drop 4).length = 12 := by simp; omega
  have z12 : zero12.length = 12 := rfl
  have ps' : pairOk [.int, .int, .int, .int, .int, .int, .int, .int, .int, .int, .int, .int] (List.drop 4 (List.map (Value.int .u8) ss)) (List.map (Value.int .u8) zero12) = true := by rw [← List.map_drop]; exact pairOk12 hs2 z12
  have pd' : pairOk [.int, .int, .int, .int, .int, .int, .int, .int, .int, .int, .int, .int] (List.drop 4 (List.map (Value.int .u8) ds)) (List.map (Value.int .u8) zero12) = true := by rw [← List.map_drop]; exact pairOk12 hd2 z12
  have es' : eqV (List.drop 4 (List.map (Value.int .u8) ss)) (List.map (Value.int .u8) zero12) = decide (ss.drop 4 = zero12) := by rw [← List.map_drop]; exact eqV_ints (hs2.trans z12.symm)
  have ed' : eqV (List.drop 4 (List.map (Value.int .u8) ds)) (List.map (Value.int .u8) zero12) = decide (ds.drop 4 = zero12) := by rw [← List.map_drop]; exact eqV_ints (hd2.trans z12.symm)
  have ts4 : ss.take 4 = [gb ss 0, gb ss 1, gb ss 2, gb ss 3] := take4_eq (by omega)
  have td4 : ds.take 4 = [gb ds 0, gb ds 1, gb ds 2, gb ds 3] := take4_eq (by omega)
  have as16 : (ad4 (ss.take 4)).length = 16 := rfl
  have ad16 : (ad4 (ds.take 4)).length = 16 := rfl
  have es := eqV_ints (hs.trans as16.symm)
  have ed := eqV_ints (hd.trans ad16.symm)
  have pS := pairOk16 hs as16
  have pD := pairOk16 hd ad16
  have qS := ad4_iff hs
  have qD := ad4_iff hd
  obtain ⟨AS, hAS⟩ : ∃ A, ad4 (ss.take 4) = A := ⟨_, rfl⟩
  obtain ⟨AD, hAD⟩ : ∃ A, ad4 (ds.take 4) = A := ⟨_, rfl⟩
  have hAS2 : ad4 [gb ss 0, gb ss 1, gb ss 2, gb ss 3] = AS := by rw [← ts4]; exact hAS
  have hAD2 : ad4 [gb ds 0, gb ds 1, gb ds 2, gb ds 3] = AD := by rw [← td4]; exact hAD
  rw [hAS] at es pS qS as16
  rw [hAD] at ed pD qD ad16
  have lS : min 4 ss.length = 4 := by omega
  have lD : min 4 ds.length = 4 := by omega
  have ol := optE_len h
  have e1 : IntKind.i64.wrap (20 + (os.length : Int)) = 20 + (os.length : Int) := wrap64_id (by omega) (by omega)
  have e3 : IntKind.i64.wrap (20 + (os.length : Int) + (ps.length : Int)) = 20 + (os.length : Int) + (ps.length : Int) := wrap64_id (by omega) (by omega)
  have q1 : ¬ (1660 : Int) < 20 + (os.length : Int) + (ps.length : Int) := by omega
  have e8 : (20 + (os.length : Int)).tdiv 4 = (20 + (os.length : Int)) / 4 := Int.tdiv_eq_ediv_of_nonneg (by omega)
  have e9 : IntKind.i64.wrap ((20 + (os.length : Int)) / 4) = (20 + (os.length : Int)) / 4 := wrap64_id (by omega) (by omega)
  have e10 : IntKind.i64.wrap (64 + (20 + (os.length : Int)) / 4) = 64 + (20 + (os.length : Int)) / 4 := wrap64_id (by omega) (by omega)
  have o2 : (64 + (20 + (os.length : Int)) / 4) % 256 = 64 + (20 + (os.length : Int)) / 4 := by omega
  have T1 : (20 + (os.length : Int) + (ps.length : Int)).tdiv 256 = (20 + (os.length : Int) + (ps.length : Int)) / 256 := Int.tdiv_eq_ediv_of_nonneg (by omega)
  have T2 : (20 + (os.length : Int) + (ps.length : Int)).tmod 256 = (20 + (os.length : Int) + (ps.length : Int)) % 256 := Int.tmod_eq_emod_of_nonneg (by omega)
  have T3 : IntKind.i64.wrap ((20 + (os.length : Int) + (ps.length : Int)) / 256) = (20 + (os.length : Int) + (ps.length : Int)) / 256 := wrap64_id (by omega) (by omega)
  have T4 : IntKind.i64.wrap ((20 + (os.length : Int) + (ps.length : Int)) % 256) = (20 + (os.length : Int) + (ps.length : Int)) % 256 := wrap64_id (by omega) (by omega)
  have T5 : (20 + (os.length : Int) + (ps.length : Int)) % 256 % 256 = (20 + (os.length : Int) + (ps.length : Int)) % 256 := by omega
  have I1 : id.tdiv 256 = id / 256 := Int.tdiv_eq_ediv_of_nonneg (by omega)
  have I2 : id.tmod 256 = id % 256 := Int.tmod_eq_emod_of_nonneg (by omega)
  have I3 : IntKind.u16.wrap (id / 256) = id / 256 := wrapu16_id (by omega) (by omega)
  have I4 : IntKind.u16.wrap (id % 256) = id % 256 := wrapu16_id (by omega) (by omega)
  have I5 : id % 256 % 256 = id % 256 := by omega
  unfold bad4 at hb
  simp only [not_or, Decidable.not_not] at hb
  obtain ⟨h1, h2⟩ := hb
  have U1 : IntKind.u16.wrap 256 = 256 := by decide
  obtain ⟨Z, hZ⟩ : ∃ Z, head4 tos id df ttl pr ss ds os (20 + (os.length : Int) + (ps.length : Int)) = Z := ⟨_, rfl⟩
  have hZl : Z.length = 20 + os.length := by rw [← hZ]; simp [head4]; omega
  have hZb : bytesB Z = true := by
    rw [← hZ]
    have q0 := gb_range bs 0
    have q1 := gb_range bs 1
    have q2 := gb_range bs 2
    have q3 := gb_range bs 3
    have r0 := gb_range bd 0
    have r1 := gb_range bd 1
    have r2 := gb_range bd 2
    have r3 := gb_range bd 3
    unfold head4
    simp only [bytesB_cons, Bool.and_eq_true, decide_eq_true_eq]
    refine ⟨⟨by omega, by omega⟩, ⟨by omega, by omega⟩, ⟨by omega, by omega⟩, ⟨by omega, by omega⟩, ⟨by omega, by omega⟩, ⟨by omega, by omega⟩, ⟨by split <;> omega, by split <;> omega⟩, ⟨by omega, by omega⟩, ⟨by omega, by omega⟩, ⟨by omega, by omega⟩, ⟨by omega, by omega⟩, ⟨by omega, by omega⟩, q0, q1, q2, q3, r0, r1, r2, r3, bo⟩
  have hZr := ofV_range hZb
  obtain ⟨C, hC⟩ : ∃ C, ofV Z = C := ⟨_, rfl⟩
  rw [hC] at hZr
  have o4 : IntKind.i64.wrap C = C := wrap64_id (by omega) (by omega)
  have z1 : Z.take (20 + os.length) = Z := List.take_of_length_le (by omega)
  have z2 : 20 + os.length ≤ 1099511627776 := by omega
  have z3 : 10 ≤ 20 + os.length := by omega
  have z4 : 11 ≤ 20 + os.length := by omega
  have z5 : 12 ≤ 20 + os.length := by omega
  have z6 : 20 + os.length + ps.length ≤ 549755813888 := by omega
  have zm := fun (X Y : List Int) (y : Int) => B8_mid' X Y y
  obtain ⟨Y, hY⟩ : ∃ Y, Z.take 10 ++ (C / 256 % 256 :: Z.drop 11) = Y := ⟨_, rfl⟩
  have hYl : Y.length = 20 + os.length := by rw [← hY]; simp; omega
  obtain ⟨W0, hW0⟩ : ∃ W0, putS Z C = W0 := ⟨_, rfl⟩
  have hY2 : Y.take 11 ++ (C % 256 :: Y.drop 12) = W0 := by
    rw [← hW0, ← hY]
    unfold putS
    have t10 : (Z.take 10).length = 10 := by simp; omega
    have u1 : (Z.take 10).take 11 = Z.take 10 := List.take_of_length_le (by omega)
    have u2 : (Z.take 10).drop 12 = [] := List.drop_of_length_le (by omega)
    rw [List.take_append, List.drop_append, t10, u1, u2]
    simp
  have hWl : W0.length = 20 + os.length := by rw [← hW0]; unfold putS; simp; omega
  have hWt : W0.take (20 + os.length) = W0 := List.take_of_length_le (by omega)
  have e21 : 20 + os.length - 11 = os.length + 9 := by omega
  have z7 : 20 + os.length ≤ 549755813888 := by omega
  have C1 : C.tdiv 256 = C / 256 := Int.tdiv_eq_ediv_of_nonneg (by omega)
  have C2 : C.tmod 256 = C % 256 := Int.tmod_eq_emod_of_nonneg (by omega)
  have C3 : IntKind.u16.wrap (C / 256) = C / 256 := wrapu16_id (by omega) (by omega)
  have C4 : IntKind.u16.wrap (C % 256) = C % 256 := wrapu16_id (by omega) (by omega)
  have C5 : C % 256 % 256 = C % 256 := by omega
  have i10 : (10 : Int) < 20 + (os.length : Int) := by omega
  have i11 : (11 : Int) < 20 + (os.length : Int) := by omega
  rw [hZ, hC, hW0]
  unfold runF wC
  rw [pvCall_own (fn := Try.f31) rfl Try.func31 rfl (by decide) rfl rfl (by simp)]
  cases df with
  | true =>
    have hA : (AV.v (.int .u8 (64 + (20 + (os.length : Int)) / 4)) :: AV.v (.int .u8 (tos)) :: AV.v (.int .u8 ((20 + (os.length : Int) + (ps.length : Int)) / 256 % 256)) :: AV.v (.int .u8 ((20 + (os.length : Int) + (ps.length : Int)) % 256)) :: AV.v (.int .u8 (id / 256 % 256)) :: AV.v (.int .u8 (id % 256)) :: AV.v (.int .u8 (64)) :: AV.v (.int .u8 (0)) :: AV.v (.int .u8 (ttl)) :: AV.v (.int .u8 (pr)) :: AV.v (.int .u8 (0)) :: AV.v (.int .u8 (0)) :: AV.v (.int .u8 (gb ss 0)) :: AV.v (.int .u8 (gb ss 1)) :: AV.v (.int .u8 (gb ss 2)) :: AV.v (.int .u8 (gb ss 3)) :: AV.v (.int .u8 (gb ds 0)) :: AV.v (.int .u8 (gb ds 1)) :: AV.v (.int .u8 (gb ds 2)) :: AV.v (.int .u8 (gb ds 3)) :: B8 os) = B8 Z := by rw [← hZ]; simp [head4, B8c]
    simp -implicitDefEqProofs [hAS2, hAD2, asB8_nil'', asB8_cons'', wrapu8_mod, e1, e3, q1, e8, e9, e10, o2, T1, T2, T3, T4, T5, I1, I2, I3, I4, I5, h, h1, h2, U1, o4, hZl, hZb, hC, z1, z2, z3, z4, z5, z6, zm, fOf, hY, hYl, hY2, hWl, hWt, e21, z7, C1, C2, C3, C4, C5, i10, i11, ts4, td4, B8c, B8n, IntKind.bits, hAS, hAD, es, ed, pS, pD, qS, qD, lS, lD, as16, ad16, fAddr, ip4A, splice, bo, hol, fOpt, hs, hd, B8t16 hs, B8d16 hs, B8t16 hd, B8d16 hd, B8d32 hs, B8g32 hs, B8g16 hd, B8g16 hs, B8d4 hs, B8d4 hd, B8d20 hs, B8t4 hs, B8t4 hd, Nat.testBit_eq_decide_div_mod_eq, hA]
  | false =>
    have hA : (AV.v (.int .u8 (64 + (20 + (os.length : Int)) / 4)) :: AV.v (.int .u8 (tos)) :: AV.v (.int .u8 ((20 + (os.length : Int) + (ps.length : Int)) / 256 % 256)) :: AV.v (.int .u8 ((20 + (os.length : Int) + (ps.length : Int)) % 256)) :: AV.v (.int .u8 (id / 256 % 256)) :: AV.v (.int .u8 (id % 256)) :: AV.v (.int .u8 (0)) :: AV.v (.int .u8 (0)) :: AV.v (.int .u8 (ttl)) :: AV.v (.int .u8 (pr)) :: AV.v (.int .u8 (0)) :: AV.v (.int .u8 (0)) :: AV.v (.int .u8 (gb ss 0)) :: AV.v (.int .u8 (gb ss 1)) :: AV.v (.int .u8 (gb ss 2)) :: AV.v (.int .u8 (gb ss 3)) :: AV.v (.int .u8 (gb ds 0)) :: AV.v (.int .u8 (gb ds 1)) :: AV.v (.int .u8 (gb ds 2)) :: AV.v (.int .u8 (gb ds 3)) :: B8 os) = B8 Z := by rw [← hZ]; simp [head4, B8c]
    simp -implicitDefEqProofs [hAS2, hAD2, asB8_nil'', asB8_cons'', wrapu8_mod, e1, e3, q1, e8, e9, e10, o2, T1, T2, T3, T4, T5, I1, I2, I3, I4, I5, h, h1, h2, U1, o4, hZl, hZb, hC, z1, z2, z3, z4, z5, z6, zm, fOf, hY, hYl, hY2, hWl, hWt, e21, z7, C1, C2, C3, C4, C5, i10, i11, ts4, td4, B8c, B8n, IntKind.bits, hAS, hAD, es, ed, pS, pD, qS, qD, lS, lD, as16, ad16, fAddr, ip4A, splice, bo, hol, fOpt, hs, hd, B8t16 hs, B8d16 hs, B8t16 hd, B8d16 hd, B8d32 hs, B8g32 hs, B8g16 hd, B8g16 hs, B8d4 hs, B8d4 hd, B8d20 hs, B8t4 hs, B8t4 hd, Nat.testBit_eq_decide_div_mod_eq, hA]
end Go.Proofs.Ytcbjjkpjbdcakaa
