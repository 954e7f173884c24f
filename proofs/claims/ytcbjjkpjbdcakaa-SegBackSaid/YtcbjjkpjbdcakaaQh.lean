/- seg.WriteTCP, seg.WriteUDP as functions of values. -/
import Derived.Test.YtcbjjkpjbdcakaaQg
namespace Go.Proofs.Ytcbjjkpjbdcakaa
open Go.Pm
set_option linter.unusedVariables false
set_option linter.unusedSimpArgs false
set_option maxRecDepth 1000000

theorem c3_sealed {D : FuncId → Nat → List Nat} {L d px : Nat} {args : List AV} {m : Mem} : pvCall Try.prog K3 D L d px 52 args m = callBy fSealed m px args := pvCall_by rfl
theorem c3_two {D : FuncId → Nat → List Nat} {L d px : Nat} {args : List AV} {m : Mem} : pvCall Try.prog K3 D L d px 58 args m = callBy fTwo m px args := pvCall_by rfl
theorem k3_sealed : K3 52 = some (.pure fSealed) := rfl
theorem k3_two : K3 58 = some (.pure fTwo) := rfl
attribute [simp] c3_sealed c3_two k3_sealed k3_two fTwo
def tcpA (p0 p1 sq ak re fl wi ur : Int) (o : AV) : AV := .agg [.v (.int .u16 p0), .v (.int .u16 p1), .v (.int .u32 sq), .v (.int .u32 ak), .v (.int .u8 re), .v (.int .u8 fl), .v (.int .u16 wi), .v (.int .u16 ur), o]
theorem wrapu16_mod (x : Int) : IntKind.u16.wrap x = x % 65536 := by simp [IntKind.wrap, IntKind.signed, IntKind.bits]
theorem or16_256 (x y : Int) (x0 : 0 ≤ x) (x1 : x ≤ 255) (y0 : 0 ≤ y) (y1 : y ≤ 255) : bits .or .u16 (x * 256) y = x * 256 + y := or16 x y x0 x1 y0 y1
theorem or16_4096 (x y : Int) (x0 : 0 ≤ x) (x1 : x ≤ 15) (y0 : 0 ≤ y) (y1 : y ≤ 4095) : bits .or .u16 (x * 4096) y = x * 4096 + y := by
  obtain ⟨a, rfl⟩ := Int.eq_ofNat_of_zero_le x0
  obtain ⟨b, rfl⟩ := Int.eq_ofNat_of_zero_le y0
  have h := Nat.two_pow_add_eq_or_of_lt (i := 12) (b := b) (by omega) a
  rw [u16_or _ _ (by omega) (by omega) (by omega) (by omega), show ((a : Int) * 4096).toNat = 2 ^ 12 * a from by omega, Int.toNat_natCast, ← h]
  omega
@[simp] theorem hl8_len (xs : List Int) : (hl8 xs).length = 2 * xs.length := by
  induction xs with
  | nil => rfl
  | cons x xs ih => simp only [hl8, List.length_cons, ih]; omega
theorem hl8_take {xs : List Int} {n : Nat} (h : 2 * xs.length = n) : (hl8 xs).take n = hl8 xs := List.take_of_length_le (by rw [hl8_len]; omega)
theorem hl8_one (c : Int) : hl8 [c] = [c / 256 % 256, c % 256] := rfl
theorem hl8_bytes (xs : List Int) : bytesB (hl8 xs) = true := by
  induction xs with
  | nil => rfl
  | cons x xs ih => simp only [hl8, bytesB_cons, ih, Bool.and_true, Bool.and_eq_true, decide_eq_true_eq]; omega
def tcpHead (p0 p1 sq ak re fl wi ur : Int) (os : List Int) : List Int := hl8 [p0, p1, sq / 65536 % 65536, sq % 65536, ak / 65536 % 65536, ak % 65536, (5 + (os.length : Int) / 4) * 4096 + re * 256 + fl, wi, 0, ur]
def putSum (Z : List Int) (k : Nat) (c : Int) : List Int := Z.take k ++ [c / 256 % 256, c % 256] ++ Z.drop (k + 2)
def tcpW (v6 : Bool) (ss ds : List Int) (Z : List Int) : List Int := putSum Z 16 (ck v6 ss ds 6 Z)
def wR (W : List Int) : AV × List (List AV) := (.tup [.own 0 0 0 W.length 1 (.whole 5), .v (.int .i64 0)], [B8 W])
def errW (e : Int) : AV × List (List AV) := (.tup [.v (.slice none 0 0), .v (.int .i64 e)], [])
set_option maxHeartbeats 8000000 in
theorem pwt_ok (p0 p1 sq ak re fl wi ur : Int) (os ps : List Int) (v6 : Bool) (ss ds : List Int) (on pn : Bool) (oc pc : Option Nat) (r0 : 0 ≤ re) (r1 : re ≤ 15) (f0 : 0 ≤ fl) (f1 : fl ≤ 255) (ho : os.length ≤ 40) (h4 : os.length % 4 = 0) (hp : 20 + os.length + ps.length ≤ 1660)
    (hs : ss.length = 16) (hd : ds.length = 16) (hz : bytesB ps = true) (hoz : bytesB os = true) (bs : bytesB ss = true) (bd : bytesB ds = true) :
    runF Try.prog K3 Dm 100000 1 22 [.v (.bool v6), .agg (B8 ss), .agg (B8 ds), tcpA p0 p1 sq ak re fl wi ur (.sl on (B8 os) os.length oc), .sl pn (B8 ps) ps.length pc] = some (wR (tcpW v6 ss ds (tcpHead p0 p1 sq ak re fl wi ur os ++ (os ++ ps)))) := by
  have e1 : IntKind.i64.wrap (20 + (os.length : Int)) = 20 + (os.length : Int) := wrap64_id (by omega) (by omega)
  have e2 : IntKind.i64.wrap (20 + (os.length : Int) + (ps.length : Int)) = 20 + (os.length : Int) + (ps.length : Int) := wrap64_id (by omega) (by omega)
  have q1 : ¬ (40 : Int) < (os.length : Int) := by omega
  have q2 : (os.length : Int) % 4 = 0 := by omega
  have q3 : ¬ (15 : Int) < re := by omega
  have q4 : ¬ (1660 : Int) < 20 + (os.length : Int) + (ps.length : Int) := by omega
  have t1 : ss.take 16 = ss := List.take_of_length_le (by omega)
  have t2 : ds.take 16 = ds := List.take_of_length_le (by omega)
  have q5 : ((os.length : Int)).tmod 4 = 0 := by rw [Int.tmod_eq_emod_of_nonneg (by omega)]; omega
  have q6 : (20 + (os.length : Int)).tdiv 4 = 5 + (os.length : Int) / 4 := by rw [Int.tdiv_eq_ediv_of_nonneg (by omega)]; omega
  have w1 : (5 + (os.length : Int) / 4) % 65536 = 5 + (os.length : Int) / 4 := by omega
  have w2 : re % 65536 = re := by omega
  have w3 : fl % 65536 = fl := by omega
  have w4 : (5 + (os.length : Int) / 4) * 4096 % 65536 = (5 + (os.length : Int) / 4) * 4096 := by omega
  have w5 : re * 256 % 65536 = re * 256 := by omega
  have e3 : IntKind.i64.wrap (5 + (os.length : Int) / 4) = 5 + (os.length : Int) / 4 := wrap64_id (by omega) (by omega)
  have m1 : 20 + os.length ≤ 549755813888 := by omega
  have m2 : 20 + os.length + ps.length ≤ 549755813888 := by omega
  have m3 : os.length ≤ 549755813868 := by omega
  have b1 : bits .or .u16 ((5 + (os.length : Int) / 4) * 4096) (re * 256) = (5 + (os.length : Int) / 4) * 4096 + re * 256 := or16_4096 _ _ (by omega) (by omega) (by omega) (by omega)
  have b2 : bits .or .u16 ((5 + (os.length : Int) / 4) * 4096 + re * 256) fl = (5 + (os.length : Int) / 4) * 4096 + re * 256 + fl := by
    have := or16_256 ((5 + (os.length : Int) / 4) * 16 + re) fl (by omega) (by omega) (by omega) (by omega)
    rw [show (5 + (os.length : Int) / 4) * 4096 + re * 256 = ((5 + (os.length : Int) / 4) * 16 + re) * 256 from by omega, this]
  obtain ⟨H, hH⟩ : ∃ H, hl8 [p0, p1, sq / 65536 % 65536, sq % 65536, ak / 65536 % 65536, ak % 65536, (5 + (os.length : Int) / 4) * 4096 + re * 256 + fl, wi, 0, ur] = H := ⟨_, rfl⟩
  have hHl : H.length = 20 := by rw [← hH]; rfl
  have hHb : bytesB H = true := by rw [← hH]; exact hl8_bytes _
  have hH2 : H.take 20 = H := List.take_of_length_le (by omega)
  have hH3 : (H ++ os).take (20 + os.length) = H ++ os := List.take_of_length_le (by simp; omega)
  obtain ⟨Z, hZ⟩ : ∃ Z, H ++ (os ++ ps) = Z := ⟨_, rfl⟩
  have hZl : Z.length = 20 + os.length + ps.length := by rw [← hZ]; simp; omega
  have hZb : bytesB Z = true := by rw [← hZ, bytesB_append, bytesB_append, hHb, hz, hoz]; rfl
  have hZt : Z.take (20 + os.length + ps.length) = Z := List.take_of_length_le (by omega)
  have f1 : 16 ≤ 20 + os.length + ps.length := by omega
  have f2 : 20 + os.length + ps.length ≤ 1099511627776 := by omega
  have f3 : min 2 (20 + os.length + ps.length - 16) = 2 := by omega
  have f4 : 16 + (20 + os.length + ps.length - 16) ≤ 20 + os.length + ps.length := by omega
  have f5 : 0 < 20 + os.length + ps.length - 16 := by omega
  have f6 : 16 < 20 + os.length + ps.length := by omega
  have hZ5 : 20 + os.length + ps.length ≤ 500000 := by omega
  have hZW : putSum Z 16 (ck v6 ss ds 6 Z) = tcpW v6 ss ds (tcpHead p0 p1 sq ak re fl wi ur os ++ (os ++ ps)) := by rw [← hZ, ← hH]; rfl
  have hWl : (putSum Z 16 (ck v6 ss ds 6 Z)).length = 20 + os.length + ps.length := by simp [putSum, hZl]; omega
  rw [← hZW]
  unfold runF wR
  rw [hWl]
  rw [pvCall_own (fn := Try.f22) rfl Try.func22 rfl (by decide) rfl rfl (by simp)]
  simp -implicitDefEqProofs [putSum, f1, f2, f3, f4, f5, f6, hl8_one, hH, hHl, hHb, hH2, hH3, hZ, hZl, hZb, hZt, hZ5, hl8_take, e3, m1, m2, m3, Nat.testBit_eq_decide_div_mod_eq, tcpA, splice, IntKind.bits, e1, e2, q1, q2, q3, q4, q5, q6, w1, w2, w3, w4, w5, b1, b2, t1, t2, hs, hd, hz, hoz, bs, bd, wrapu8_mod, wrapu16_mod, fdiv_nn]
set_option maxHeartbeats 8000000 in
theorem pwt_form1 (p0 p1 sq ak re fl wi ur : Int) (os ps : List Int) (v6 : Bool) (ss ds : List Int) (on pn : Bool) (oc pc : Option Nat) (hol : os.length ≤ 1700) (hpl : ps.length ≤ 1700) (ho : 40 < os.length) :
    runF Try.prog K3 Dm 100000 1 22 [.v (.bool v6), .agg (B8 ss), .agg (B8 ds), tcpA p0 p1 sq ak re fl wi ur (.sl on (B8 os) os.length oc), .sl pn (B8 ps) ps.length pc] = some (errW 5) := by
  have e1 : IntKind.i64.wrap (20 + (os.length : Int)) = 20 + (os.length : Int) := wrap64_id (by omega) (by omega)
  have e2 : IntKind.i64.wrap (20 + (os.length : Int) + (ps.length : Int)) = 20 + (os.length : Int) + (ps.length : Int) := wrap64_id (by omega) (by omega)
  have q1 : (40 : Int) < (os.length : Int) := by omega
  unfold runF
  rw [pvCall_own (fn := Try.f22) rfl Try.func22 rfl (by decide) rfl rfl (by simp)]
  simp -implicitDefEqProofs [errW, tcpA, splice, IntKind.bits, e1, e2, q1]
set_option maxHeartbeats 8000000 in
theorem pwt_form2 (p0 p1 sq ak re fl wi ur : Int) (os ps : List Int) (v6 : Bool) (ss ds : List Int) (on pn : Bool) (oc pc : Option Nat) (hol : os.length ≤ 1700) (hpl : ps.length ≤ 1700) (ho : os.length ≤ 40) (h4 : ¬ os.length % 4 = 0) :
    runF Try.prog K3 Dm 100000 1 22 [.v (.bool v6), .agg (B8 ss), .agg (B8 ds), tcpA p0 p1 sq ak re fl wi ur (.sl on (B8 os) os.length oc), .sl pn (B8 ps) ps.length pc] = some (errW 5) := by
  have e1 : IntKind.i64.wrap (20 + (os.length : Int)) = 20 + (os.length : Int) := wrap64_id (by omega) (by omega)
  have e2 : IntKind.i64.wrap (20 + (os.length : Int) + (ps.length : Int)) = 20 + (os.length : Int) + (ps.length : Int) := wrap64_id (by omega) (by omega)
  have q1 : ¬ (40 : Int) < (os.length : Int) := by omega
  have q5 : (0 : Int) < ((os.length : Int)).tmod 4 := by rw [Int.tmod_eq_emod_of_nonneg (by omega)]; omega
  unfold runF
  rw [pvCall_own (fn := Try.f22) rfl Try.func22 rfl (by decide) rfl rfl (by simp)]
  simp -implicitDefEqProofs [errW, tcpA, splice, IntKind.bits, e1, e2, q1, q5]
set_option maxHeartbeats 8000000 in
theorem pwt_form3 (p0 p1 sq ak re fl wi ur : Int) (os ps : List Int) (v6 : Bool) (ss ds : List Int) (on pn : Bool) (oc pc : Option Nat) (hol : os.length ≤ 1700) (hpl : ps.length ≤ 1700) (ho : os.length ≤ 40) (h4 : os.length % 4 = 0) (r1 : 15 < re) :
    runF Try.prog K3 Dm 100000 1 22 [.v (.bool v6), .agg (B8 ss), .agg (B8 ds), tcpA p0 p1 sq ak re fl wi ur (.sl on (B8 os) os.length oc), .sl pn (B8 ps) ps.length pc] = some (errW 5) := by
  have e1 : IntKind.i64.wrap (20 + (os.length : Int)) = 20 + (os.length : Int) := wrap64_id (by omega) (by omega)
  have e2 : IntKind.i64.wrap (20 + (os.length : Int) + (ps.length : Int)) = 20 + (os.length : Int) + (ps.length : Int) := wrap64_id (by omega) (by omega)
  have q1 : ¬ (40 : Int) < (os.length : Int) := by omega
  have q5 : ((os.length : Int)).tmod 4 = 0 := by rw [Int.tmod_eq_emod_of_nonneg (by omega)]; omega
  unfold runF
  rw [pvCall_own (fn := Try.f22) rfl Try.func22 rfl (by decide) rfl rfl (by simp)]
  simp -implicitDefEqProofs [errW, tcpA, splice, IntKind.bits, e1, e2, q1, q5, r1]
set_option maxHeartbeats 8000000 in
theorem pwt_long (p0 p1 sq ak re fl wi ur : Int) (os ps : List Int) (v6 : Bool) (ss ds : List Int) (on pn : Bool) (oc pc : Option Nat) (hol : os.length ≤ 1700) (hpl : ps.length ≤ 1700) (ho : os.length ≤ 40) (h4 : os.length % 4 = 0) (r1 : re ≤ 15) (hp : 1660 < 20 + os.length + ps.length) :
    runF Try.prog K3 Dm 100000 1 22 [.v (.bool v6), .agg (B8 ss), .agg (B8 ds), tcpA p0 p1 sq ak re fl wi ur (.sl on (B8 os) os.length oc), .sl pn (B8 ps) ps.length pc] = some (errW 3) := by
  have e1 : IntKind.i64.wrap (20 + (os.length : Int)) = 20 + (os.length : Int) := wrap64_id (by omega) (by omega)
  have e2 : IntKind.i64.wrap (20 + (os.length : Int) + (ps.length : Int)) = 20 + (os.length : Int) + (ps.length : Int) := wrap64_id (by omega) (by omega)
  have q1 : ¬ (40 : Int) < (os.length : Int) := by omega
  have q5 : ((os.length : Int)).tmod 4 = 0 := by rw [Int.tmod_eq_emod_of_nonneg (by omega)]; omega
  have q3 : ¬ (15 : Int) < re := by omega
  have q4 : (1660 : Int) < 20 + (os.length : Int) + (ps.length : Int) := by omega
  unfold runF
  rw [pvCall_own (fn := Try.f22) rfl Try.func22 rfl (by decide) rfl rfl (by simp)]
  simp -implicitDefEqProofs [errW, tcpA, splice, IntKind.bits, e1, e2, q1, q5, q3, q4]
end Go.Proofs.Ytcbjjkpjbdcakaa
