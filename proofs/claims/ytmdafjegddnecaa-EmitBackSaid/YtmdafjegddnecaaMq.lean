import Derived.Test.YtmdafjegddnecaaQf
/- seg.ReadUDP as a function of values. -/
namespace Go.Proofs.Ytmdafjegddnecaa
open Go.Pm
set_option linter.unusedVariables false
set_option linter.unusedSimpArgs false
set_option maxRecDepth 1000000

def noU : AV := .agg [.v (.int .u16 0), .v (.int .u16 0), .v (.bool false)]
def errU (e : Int) : AV × List (List AV) := (.tup [noU, .v (.slice none 0 0), .v (.int .i64 e)], [])
def udpR (zs : List Int) : AV × List (List AV) := (.tup [.agg [.v (.int .u16 (w16 zs 0)), .v (.int .u16 (w16 zs 2)), .v (.bool (decide (w16 zs 6 = 0)))], .own 0 0 0 (zs.length - 8) 1 (.whole 5), .v (.int .i64 0)], [B8 (zs.drop 8)])
set_option maxHeartbeats 8000000 in
theorem pudp_short (zs : List Int) (v6 : Bool) (ss ds : List Int) (nn : Bool) (cap : Option Nat) (h : zs.length < 8) : runF Try.prog K2 Dm 100000 1 85 [.v (.bool v6), .agg (B8 ss), .agg (B8 ds), .sl nn (B8 zs) zs.length cap] = some (errU 4) := by
  have h1 : (zs.length : Int) < 8 := by omega
  unfold runF errU noU
  rw [pvCall_own (fn := Try.f85) rfl Try.func85 rfl (by decide) rfl rfl (by simp)]
  simp -implicitDefEqProofs [h1, splice]
set_option maxHeartbeats 8000000 in
theorem pudp_form (zs : List Int) (v6 : Bool) (ss ds : List Int) (nn : Bool) (cap : Option Nat) (h20 : 8 ≤ zs.length) (hs : ss.length = 16) (hd : ds.length = 16) (hz : bytesB zs = true) (bs : bytesB ss = true) (bd : bytesB ds = true) (hl : zs.length ≤ 500000) (hn : ¬ w16 zs 4 = zs.length) :
    runF Try.prog K2 Dm 100000 1 85 [.v (.bool v6), .agg (B8 ss), .agg (B8 ds), .sl nn (B8 zs) zs.length cap] = some (errU 5) := by
  have h1 : ¬ (zs.length : Int) < 8 := by omega
  have k1 : (1 : Int) < (zs.length : Int) := by omega
  have k3 : (3 : Int) < (zs.length : Int) := by omega
  have k5 : (5 : Int) < (zs.length : Int) := by omega
  have k7 : (7 : Int) < (zs.length : Int) := by omega
  have k8 : (8 : Int) ≤ (zs.length : Int) := by omega
  have r4 := w16_range (bytesB_iff.1 hz) 4
  have w4 : IntKind.i64.wrap (w16 zs 4) = w16 zs 4 := wrap64_id (by omega) (by omega)
  have wl : IntKind.i64.wrap (zs.length : Int) = zs.length := wrap64_id (by omega) (by omega)
  have l40 : zs.length ≤ 1099511627776 := by omega
  have m1 : zs.length ≤ 549755813896 := by omega
  have m3 : 0 < zs.length := by omega
  have ht : List.take (zs.length - 8) (List.drop 8 zs) = List.drop 8 zs := List.take_of_length_le (by simp)
  have t1 : ss.take 16 = ss := List.take_of_length_le (by omega)
  have t2 : ds.take 16 = ds := List.take_of_length_le (by omega)
  unfold runF
  rw [pvCall_own (fn := Try.f85) rfl Try.func85 rfl (by decide) rfl rfl (by simp)]
  cases v6 <;> simp -implicitDefEqProofs [Nat.testBit_eq_decide_div_mod_eq, h1, splice, k1, k3, k5, k7, k8, h20, w4, wl, hs, hd, hz, bs, bd, hl, l40, t1, t2, m1, m3, ht, errU, noU, udpR, hn]
set_option maxHeartbeats 8000000 in
theorem pudp_v6 (zs : List Int)  (ss ds : List Int) (nn : Bool) (cap : Option Nat) (h20 : 8 ≤ zs.length) (hs : ss.length = 16) (hd : ds.length = 16) (hz : bytesB zs = true) (bs : bytesB ss = true) (bd : bytesB ds = true) (hl : zs.length ≤ 500000) (hn : w16 zs 4 = zs.length) (h6 : w16 zs 6 = 0) :
    runF Try.prog K2 Dm 100000 1 85 [.v (.bool true), .agg (B8 ss), .agg (B8 ds), .sl nn (B8 zs) zs.length cap] = some (errU 6) := by
  have h1 : ¬ (zs.length : Int) < 8 := by omega
  have k1 : (1 : Int) < (zs.length : Int) := by omega
  have k3 : (3 : Int) < (zs.length : Int) := by omega
  have k5 : (5 : Int) < (zs.length : Int) := by omega
  have k7 : (7 : Int) < (zs.length : Int) := by omega
  have k8 : (8 : Int) ≤ (zs.length : Int) := by omega
  have r4 := w16_range (bytesB_iff.1 hz) 4
  have w4 : IntKind.i64.wrap (w16 zs 4) = w16 zs 4 := wrap64_id (by omega) (by omega)
  have wl : IntKind.i64.wrap (zs.length : Int) = zs.length := wrap64_id (by omega) (by omega)
  have l40 : zs.length ≤ 1099511627776 := by omega
  have m1 : zs.length ≤ 549755813896 := by omega
  have m3 : 0 < zs.length := by omega
  have ht : List.take (zs.length - 8) (List.drop 8 zs) = List.drop 8 zs := List.take_of_length_le (by simp)
  have t1 : ss.take 16 = ss := List.take_of_length_le (by omega)
  have t2 : ds.take 16 = ds := List.take_of_length_le (by omega)
  unfold runF
  rw [pvCall_own (fn := Try.f85) rfl Try.func85 rfl (by decide) rfl rfl (by simp)]
  simp -implicitDefEqProofs [Nat.testBit_eq_decide_div_mod_eq, h1, splice, k1, k3, k5, k7, k8, h20, w4, wl, hs, hd, hz, bs, bd, hl, l40, t1, t2, m1, m3, ht, errU, noU, udpR, hn, h6]
set_option maxHeartbeats 8000000 in
theorem pudp_none (zs : List Int)  (ss ds : List Int) (nn : Bool) (cap : Option Nat) (h20 : 8 ≤ zs.length) (hs : ss.length = 16) (hd : ds.length = 16) (hz : bytesB zs = true) (bs : bytesB ss = true) (bd : bytesB ds = true) (hl : zs.length ≤ 500000) (hn : w16 zs 4 = zs.length) (h6 : w16 zs 6 = 0) :
    runF Try.prog K2 Dm 100000 1 85 [.v (.bool false), .agg (B8 ss), .agg (B8 ds), .sl nn (B8 zs) zs.length cap] = some (udpR zs) := by
  have h1 : ¬ (zs.length : Int) < 8 := by omega
  have k1 : (1 : Int) < (zs.length : Int) := by omega
  have k3 : (3 : Int) < (zs.length : Int) := by omega
  have k5 : (5 : Int) < (zs.length : Int) := by omega
  have k7 : (7 : Int) < (zs.length : Int) := by omega
  have k8 : (8 : Int) ≤ (zs.length : Int) := by omega
  have r4 := w16_range (bytesB_iff.1 hz) 4
  have w4 : IntKind.i64.wrap (w16 zs 4) = w16 zs 4 := wrap64_id (by omega) (by omega)
  have wl : IntKind.i64.wrap (zs.length : Int) = zs.length := wrap64_id (by omega) (by omega)
  have l40 : zs.length ≤ 1099511627776 := by omega
  have m1 : zs.length ≤ 549755813896 := by omega
  have m3 : 0 < zs.length := by omega
  have ht : List.take (zs.length - 8) (List.drop 8 zs) = List.drop 8 zs := List.take_of_length_le (by simp)
  have t1 : ss.take 16 = ss := List.take_of_length_le (by omega)
  have t2 : ds.take 16 = ds := List.take_of_length_le (by omega)
  unfold runF
  rw [pvCall_own (fn := Try.f85) rfl Try.func85 rfl (by decide) rfl rfl (by simp)]
  simp -implicitDefEqProofs [Nat.testBit_eq_decide_div_mod_eq, h1, splice, k1, k3, k5, k7, k8, h20, w4, wl, hs, hd, hz, bs, bd, hl, l40, t1, t2, m1, m3, ht, errU, noU, udpR, hn, h6]
set_option maxHeartbeats 8000000 in
theorem pudp_ok (zs : List Int) (v6 : Bool) (ss ds : List Int) (nn : Bool) (cap : Option Nat) (h20 : 8 ≤ zs.length) (hs : ss.length = 16) (hd : ds.length = 16) (hz : bytesB zs = true) (bs : bytesB ss = true) (bd : bytesB ds = true) (hl : zs.length ≤ 500000) (hn : w16 zs 4 = zs.length) (h6 : ¬ w16 zs 6 = 0) (hck : ck v6 ss ds 17 zs = 0) :
    runF Try.prog K2 Dm 100000 1 85 [.v (.bool v6), .agg (B8 ss), .agg (B8 ds), .sl nn (B8 zs) zs.length cap] = some (udpR zs) := by
  have h1 : ¬ (zs.length : Int) < 8 := by omega
  have k1 : (1 : Int) < (zs.length : Int) := by omega
  have k3 : (3 : Int) < (zs.length : Int) := by omega
  have k5 : (5 : Int) < (zs.length : Int) := by omega
  have k7 : (7 : Int) < (zs.length : Int) := by omega
  have k8 : (8 : Int) ≤ (zs.length : Int) := by omega
  have r4 := w16_range (bytesB_iff.1 hz) 4
  have w4 : IntKind.i64.wrap (w16 zs 4) = w16 zs 4 := wrap64_id (by omega) (by omega)
  have wl : IntKind.i64.wrap (zs.length : Int) = zs.length := wrap64_id (by omega) (by omega)
  have b6 : (w16 zs 6 == 0) = false := by simp [h6]
  have l40 : zs.length ≤ 1099511627776 := by omega
  have m1 : zs.length ≤ 549755813896 := by omega
  have m3 : 0 < zs.length := by omega
  have ht : List.take (zs.length - 8) (List.drop 8 zs) = List.drop 8 zs := List.take_of_length_le (by simp)
  have t1 : ss.take 16 = ss := List.take_of_length_le (by omega)
  have t2 : ds.take 16 = ds := List.take_of_length_le (by omega)
  unfold runF
  rw [pvCall_own (fn := Try.f85) rfl Try.func85 rfl (by decide) rfl rfl (by simp)]
  simp -implicitDefEqProofs [Nat.testBit_eq_decide_div_mod_eq, h1, splice, k1, k3, k5, k7, k8, h20, w4, wl, hs, hd, hz, bs, bd, hl, l40, t1, t2, m1, m3, ht, errU, noU, udpR, b6, hn, h6, hck]
set_option maxHeartbeats 8000000 in
theorem pudp_sum (zs : List Int) (v6 : Bool) (ss ds : List Int) (nn : Bool) (cap : Option Nat) (h20 : 8 ≤ zs.length) (hs : ss.length = 16) (hd : ds.length = 16) (hz : bytesB zs = true) (bs : bytesB ss = true) (bd : bytesB ds = true) (hl : zs.length ≤ 500000) (hn : w16 zs 4 = zs.length) (h6 : ¬ w16 zs 6 = 0) (hck : ¬ ck v6 ss ds 17 zs = 0) :
    runF Try.prog K2 Dm 100000 1 85 [.v (.bool v6), .agg (B8 ss), .agg (B8 ds), .sl nn (B8 zs) zs.length cap] = some (errU 6) := by
  have h1 : ¬ (zs.length : Int) < 8 := by omega
  have k1 : (1 : Int) < (zs.length : Int) := by omega
  have k3 : (3 : Int) < (zs.length : Int) := by omega
  have k5 : (5 : Int) < (zs.length : Int) := by omega
  have k7 : (7 : Int) < (zs.length : Int) := by omega
  have k8 : (8 : Int) ≤ (zs.length : Int) := by omega
  have r4 := w16_range (bytesB_iff.1 hz) 4
  have w4 : IntKind.i64.wrap (w16 zs 4) = w16 zs 4 := wrap64_id (by omega) (by omega)
  have wl : IntKind.i64.wrap (zs.length : Int) = zs.length := wrap64_id (by omega) (by omega)
  have b6 : (w16 zs 6 == 0) = false := by simp [h6]
  have l40 : zs.length ≤ 1099511627776 := by omega
  have m1 : zs.length ≤ 549755813896 := by omega
  have m3 : 0 < zs.length := by omega
  have ht : List.take (zs.length - 8) (List.drop 8 zs) = List.drop 8 zs := List.take_of_length_le (by simp)
  have t1 : ss.take 16 = ss := List.take_of_length_le (by omega)
  have t2 : ds.take 16 = ds := List.take_of_length_le (by omega)
  unfold runF
  rw [pvCall_own (fn := Try.f85) rfl Try.func85 rfl (by decide) rfl rfl (by simp)]
  simp -implicitDefEqProofs [Nat.testBit_eq_decide_div_mod_eq, h1, splice, k1, k3, k5, k7, k8, h20, w4, wl, hs, hd, hz, bs, bd, hl, l40, t1, t2, m1, m3, ht, errU, noU, udpR, b6, hn, h6, hck]
def udpV (v6 : Bool) (ss ds zs : List Int) : AV × List (List AV) :=
  if zs.length < 8 then errU 4 else if w16 zs 4 = zs.length then (if w16 zs 6 = 0 then (if v6 = true then errU 6 else udpR zs) else if ck v6 ss ds 17 zs = 0 then udpR zs else errU 6) else errU 5
def fUDP : Fun
  | [.v (.bool v6), .agg a, .agg b, .sl nn c len cap] => (asB8 a).bind fun ss => (asB8 b).bind fun ds => (asB8 c).bind fun zs => if goodIn ss ds zs len then some (udpV v6 ss ds zs) else none
  | _ => none
theorem udp_pure : Pure Try.prog 85 fUDP := (runF_pure k2_ok follows_mixed dm_ok 100000 1 85).weaken fun args r h => by
  unfold fUDP at h
  split at h
  · rename_i v6 a b nn c len cap
    obtain ⟨ss, e1, h1⟩ := Option.bind_eq_some_iff.1 h
    obtain ⟨ds, e2, h2⟩ := Option.bind_eq_some_iff.1 h1
    obtain ⟨zs, e3, he⟩ := Option.bind_eq_some_iff.1 h2
    clear h h1 h2
    split at he
    case isFalse => cases he
    rename_i hh
    obtain ⟨rfl, hl, h1, h2, h3, h4, h5⟩ := hh
    obtain rfl := asB8_eq e1
    obtain rfl := asB8_eq e2
    obtain rfl := asB8_eq e3
    rw [← he]
    unfold udpV
    split
    · rename_i q; exact pudp_short zs v6 ss ds nn cap q
    split
    · rename_i q0 q
      split
      · rename_i q6
        cases v6 with
        | true => exact pudp_v6 zs ss ds nn cap (by omega) h1 h2 h3 h4 h5 hl q q6
        | false => exact pudp_none zs ss ds nn cap (by omega) h1 h2 h3 h4 h5 hl q q6
      · rename_i q6
        split
        · rename_i qc; exact pudp_ok zs v6 ss ds nn cap (by omega) h1 h2 h3 h4 h5 hl q q6 qc
        · rename_i qc; exact pudp_sum zs v6 ss ds nn cap (by omega) h1 h2 h3 h4 h5 hl q q6 qc
    · rename_i q0 q; exact pudp_form zs v6 ss ds nn cap (by omega) h1 h2 h3 h4 h5 hl q
  · cases h
def K3 : Nat → Option Con
  | 166 => some fTwo
  | 128 => some fTCP
  | 85 => some fUDP
  | f => K2 f
theorem k3_ok : KOk Try.prog K3 := fun f F h => by
  unfold K3 at h
  split at h
  · cases h; exact ⟨two_pure, _, Try.func166, rfl, by decide⟩
  · cases h; exact ⟨tcp_pure, _, Try.func128, rfl, by decide⟩
  · cases h; exact ⟨udp_pure, _, Try.func85, rfl, by decide⟩
  · exact k2_ok f F h
end Go.Proofs.Ytmdafjegddnecaa

/- seg.WriteTCP, seg.WriteUDP as functions of values. -/
namespace Go.Proofs.Ytmdafjegddnecaa
open Go.Pm
set_option linter.unusedVariables false
set_option linter.unusedSimpArgs false
set_option maxRecDepth 1000000

theorem c3_sealed {D : FuncId → Nat → List Nat} {L d px : Nat} {args : List AV} {m : Mem} : pvCall Try.prog K3 D L d px 136 args m = callBy fSealed m px args := pvCall_by rfl
theorem c3_two {D : FuncId → Nat → List Nat} {L d px : Nat} {args : List AV} {m : Mem} : pvCall Try.prog K3 D L d px 166 args m = callBy fTwo m px args := pvCall_by rfl
theorem k3_sealed : K3 136 = some (.pure fSealed) := rfl
theorem k3_two : K3 166 = some (.pure fTwo) := rfl
attribute [simp] c3_sealed c3_two k3_sealed k3_two fTwo
def tcpA (p0 p1 sq ak re fl wi ur : Int) (o : AV) : AV := .agg [.v (.int .u16 p0), .v (.int .u16 p1), .v (.int .u32 sq), .v (.int .u32 ak), .v (.int .u8 re), .v (.int .u8 fl), .v (.int .u16 wi), .v (.int .u16 ur), o]
theorem wrapu16_mod (x : Int) : IntKind.u16.wrap x = x % 65536 := by simp [IntKind.wrap, IntKind.signed, IntKind.bits]
theorem or16_256 (x y : Int) (x0 : 0 ≤ x) (x1 : x ≤ 255) (y0 : 0 ≤ y) (y1 : y ≤ 255) : bits .or .u16 (x * 256) y = x * 256 + y := or16 x y x0 x1 y0 y1
theorem or16_4096 (x y : Int) (x0 : 0 ≤ x) (x1 : x ≤ 15) (y0 : 0 ≤ y) (y1 : y ≤ 4095) : bits .or .u16 (x * 4096) y = x * 4096 + y := by
  obtain ⟨a, rfl⟩ := Int.eq_ofNat_of_zero_le x0
  obtain ⟨b, rfl⟩ := Int.eq_ofNat_of_zero_le y0
  have h := Nat.two_pow_add_eq_or_of_lt (i := 12) (b := b) (by omega) a
  rw [u16_or _ _ (by omega) (by omega) (by omega) (by omega), show ((a : Int) * 4096).toNat = 2 ^ 12 * a from by omega, Int.toNat_natCast, ← h]
  omega
@[simp] theorem hl8_len (xs : List Int) : (hl8 xs).length = 2 * xs.length := by
  induction xs with
  | nil => rfl
  | cons x xs ih => simp only [hl8, List.length_cons, ih]; omega
theorem hl8_take {xs : List Int} {n : Nat} (h : 2 * xs.length = n) : (hl8 xs).take n = hl8 xs := List.take_of_length_le (by rw [hl8_len]; omega)
theorem hl8_one (c : Int) : hl8 [c] = [c / 256 % 256, c % 256] := rfl
theorem hl8_bytes (xs : List Int) : bytesB (hl8 xs) = true := by
  induction xs with
  | nil => rfl
  | cons x xs ih => simp only [hl8, bytesB_cons, ih, Bool.and_true, Bool.and_eq_true, decide_eq_true_eq]; omega
def tcpHead (p0 p1 sq ak re fl wi ur : Int) (os : List Int) : List Int := hl8 [p0, p1, sq / 65536 % 65536, sq % 65536, ak / 65536 % 65536, ak % 65536, (5 + (os.length : Int) / 4) * 4096 + re * 256 + fl, wi, 0, ur]
def putSum (Z : List Int) (k : Nat) (c : Int) : List Int := Z.take k ++ [c / 256 % 256, c % 256] ++ Z.drop (k + 2)
def tcpW (v6 : Bool) (ss ds : List Int) (Z : List Int) : List Int := putSum Z 16 (ck v6 ss ds 6 Z)
def wR (W : List Int) : AV × List (List AV) := (.tup [.own 0 0 0 W.length 1 (.whole 5), .v (.int .i64 0)], [B8 W])
def errW (e : Int) : AV × List (List AV) := (.tup [.v (.slice none 0 0), .v (.int .i64 e)], [])
end Go.Proofs.Ytmdafjegddnecaa

/- seg.WriteUDP as a function of values; contracts of both writers. -/
namespace Go.Proofs.Ytmdafjegddnecaa
open Go.Pm
set_option linter.unusedVariables false
set_option linter.unusedSimpArgs false
set_option maxRecDepth 1000000

def udpA (p0 p1 : Int) (no : Bool) : AV := .agg [.v (.int .u16 p0), .v (.int .u16 p1), .v (.bool no)]
def udpHead (p0 p1 : Int) (ps : List Int) : List Int := hl8 [p0, p1, 8 + (ps.length : Int), 0]
def udpC (c : Int) : Int := if c = 0 then 65535 else c
def udpW (v6 : Bool) (ss ds Z : List Int) : List Int := putSum Z 6 (udpC (ck v6 ss ds 17 Z))
set_option maxHeartbeats 8000000 in
theorem pwu_ok (p0 p1 : Int) (ps : List Int) (v6 : Bool) (ss ds : List Int) (pn : Bool) (pc : Option Nat) (hp : 8 + ps.length ≤ 1660)
    (hs : ss.length = 16) (hd : ds.length = 16) (hz : bytesB ps = true) (bs : bytesB ss = true) (bd : bytesB ds = true) :
    runF Try.prog K3 Dm 100000 1 134 [.v (.bool v6), .agg (B8 ss), .agg (B8 ds), udpA p0 p1 false, .sl pn (B8 ps) ps.length pc] = some (wR (udpW v6 ss ds (udpHead p0 p1 ps ++ ps))) := by
  have e1 : IntKind.i64.wrap (8 + (ps.length : Int)) = 8 + (ps.length : Int) := wrap64_id (by omega) (by omega)
  have q4 : ¬ (1660 : Int) < 8 + (ps.length : Int) := by omega
  have t1 : ss.take 16 = ss := List.take_of_length_le (by omega)
  have t2 : ds.take 16 = ds := List.take_of_length_le (by omega)
  have w1 : (8 + (ps.length : Int)) % 65536 = 8 + (ps.length : Int) := by omega
  obtain ⟨H, hH⟩ : ∃ H, hl8 [p0, p1, 8 + (ps.length : Int), 0] = H := ⟨_, rfl⟩
  have hHl : H.length = 8 := by rw [← hH]; rfl
  have hHb : bytesB H = true := by rw [← hH]; exact hl8_bytes _
  have hH2 : H.take 8 = H := List.take_of_length_le (by omega)
  obtain ⟨Z, hZ⟩ : ∃ Z, H ++ ps = Z := ⟨_, rfl⟩
  have hZl : Z.length = 8 + ps.length := by rw [← hZ]; simp; omega
  have hZb : bytesB Z = true := by rw [← hZ, bytesB_append, hHb, hz]; rfl
  have hZt : Z.take (8 + ps.length) = Z := List.take_of_length_le (by omega)
  have f1 : 6 ≤ 8 + ps.length := by omega
  have f2 : 8 + ps.length ≤ 1099511627776 := by omega
  have f3 : min 2 (8 + ps.length - 6) = 2 := by omega
  have f4 : 6 + (8 + ps.length - 6) ≤ 8 + ps.length := by omega
  have f5 : 0 < 8 + ps.length - 6 := by omega
  have f6 : 6 < 8 + ps.length := by omega
  have f7 : 8 + ps.length ≤ 549755813888 := by omega
  have hZ5 : 8 + ps.length ≤ 500000 := by omega
  have hZW : putSum Z 6 (udpC (ck v6 ss ds 17 Z)) = udpW v6 ss ds (udpHead p0 p1 ps ++ ps) := by rw [← hZ, ← hH]; rfl
  have hWl : (putSum Z 6 (udpC (ck v6 ss ds 17 Z))).length = 8 + ps.length := by simp [putSum, hZl]; omega
  rw [← hZW]
  unfold runF wR
  rw [hWl]
  rw [pvCall_own (fn := Try.f134) rfl Try.func134 rfl (by decide) rfl rfl (by simp)]
  by_cases hc : ck v6 ss ds 17 Z = 0 <;> simp -implicitDefEqProofs [hc, udpC, putSum, udpA, f1, f2, f3, f4, f5, f6, f7, hl8_one, hH, hHl, hHb, hH2, hZ, hZl, hZb, hZt, hZ5, Nat.testBit_eq_decide_div_mod_eq, splice, IntKind.bits, e1, q4, t1, t2, hs, hd, hz, bs, bd, wrapu8_mod, wrapu16_mod, fdiv_nn, w1]
set_option maxHeartbeats 8000000 in
theorem pwu_none (p0 p1 : Int) (ps : List Int) (ss ds : List Int) (pn : Bool) (pc : Option Nat) (hp : 8 + ps.length ≤ 1660)
    (hs : ss.length = 16) (hd : ds.length = 16) (hz : bytesB ps = true) (bs : bytesB ss = true) (bd : bytesB ds = true) :
    runF Try.prog K3 Dm 100000 1 134 [.v (.bool false), .agg (B8 ss), .agg (B8 ds), udpA p0 p1 true, .sl pn (B8 ps) ps.length pc] = some (wR (udpHead p0 p1 ps ++ ps)) := by
  have e1 : IntKind.i64.wrap (8 + (ps.length : Int)) = 8 + (ps.length : Int) := wrap64_id (by omega) (by omega)
  have q4 : ¬ (1660 : Int) < 8 + (ps.length : Int) := by omega
  have t1 : ss.take 16 = ss := List.take_of_length_le (by omega)
  have t2 : ds.take 16 = ds := List.take_of_length_le (by omega)
  have w1 : (8 + (ps.length : Int)) % 65536 = 8 + (ps.length : Int) := by omega
  obtain ⟨H, hH⟩ : ∃ H, hl8 [p0, p1, 8 + (ps.length : Int), 0] = H := ⟨_, rfl⟩
  have hHl : H.length = 8 := by rw [← hH]; rfl
  have hHb : bytesB H = true := by rw [← hH]; exact hl8_bytes _
  have hH2 : H.take 8 = H := List.take_of_length_le (by omega)
  obtain ⟨Z, hZ⟩ : ∃ Z, H ++ ps = Z := ⟨_, rfl⟩
  have hZl : Z.length = 8 + ps.length := by rw [← hZ]; simp; omega
  have hZb : bytesB Z = true := by rw [← hZ, bytesB_append, hHb, hz]; rfl
  have hZt : Z.take (8 + ps.length) = Z := List.take_of_length_le (by omega)
  have f1 : 6 ≤ 8 + ps.length := by omega
  have f2 : 8 + ps.length ≤ 1099511627776 := by omega
  have f3 : min 2 (8 + ps.length - 6) = 2 := by omega
  have f4 : 6 + (8 + ps.length - 6) ≤ 8 + ps.length := by omega
  have f5 : 0 < 8 + ps.length - 6 := by omega
  have f6 : 6 < 8 + ps.length := by omega
  have f7 : 8 + ps.length ≤ 549755813888 := by omega
  have hZ5 : 8 + ps.length ≤ 500000 := by omega
  have hZW : Z = udpHead p0 p1 ps ++ ps := by rw [← hZ, ← hH]; rfl
  rw [← hZW]
  unfold runF wR
  rw [hZl]
  rw [pvCall_own (fn := Try.f134) rfl Try.func134 rfl (by decide) rfl rfl (by simp)]
  simp -implicitDefEqProofs [udpA, f1, f2, f3, f4, f5, f6, f7, hl8_one, hH, hHl, hHb, hH2, hZ, hZl, hZb, hZt, hZ5, Nat.testBit_eq_decide_div_mod_eq, splice, IntKind.bits, e1, q4, t1, t2, hs, hd, hz, bs, bd, wrapu8_mod, wrapu16_mod, fdiv_nn, w1]
set_option maxHeartbeats 8000000 in
theorem pwu_arg (p0 p1 : Int) (ps : List Int)  (ss ds : List Int) (pn : Bool) (pc : Option Nat) (hpl : ps.length ≤ 1700)  :
    runF Try.prog K3 Dm 100000 1 134 [.v (.bool true), .agg (B8 ss), .agg (B8 ds), udpA p0 p1 true, .sl pn (B8 ps) ps.length pc] = some (errW 2) := by
  have e1 : IntKind.i64.wrap (8 + (ps.length : Int)) = 8 + (ps.length : Int) := wrap64_id (by omega) (by omega)
  unfold runF
  rw [pvCall_own (fn := Try.f134) rfl Try.func134 rfl (by decide) rfl rfl (by simp)]
  simp -implicitDefEqProofs [errW, udpA, splice, IntKind.bits, e1, hpl]
set_option maxHeartbeats 8000000 in
theorem pwu_long (p0 p1 : Int) (ps : List Int) (v6 : Bool) (ss ds : List Int) (pn : Bool) (pc : Option Nat) (hpl : ps.length ≤ 1700) (hp : 1660 < 8 + ps.length) :
    runF Try.prog K3 Dm 100000 1 134 [.v (.bool v6), .agg (B8 ss), .agg (B8 ds), udpA p0 p1 false, .sl pn (B8 ps) ps.length pc] = some (errW 3) := by
  have e1 : IntKind.i64.wrap (8 + (ps.length : Int)) = 8 + (ps.length : Int) := wrap64_id (by omega) (by omega)
  have q4 : (1660 : Int) < 8 + (ps.length : Int) := by omega
  unfold runF
  rw [pvCall_own (fn := Try.f134) rfl Try.func134 rfl (by decide) rfl rfl (by simp)]
  simp -implicitDefEqProofs [errW, udpA, splice, IntKind.bits, e1, q4]
set_option maxHeartbeats 8000000 in
theorem pwu_long2 (p0 p1 : Int) (ps : List Int)  (ss ds : List Int) (pn : Bool) (pc : Option Nat) (hpl : ps.length ≤ 1700) (hp : 1660 < 8 + ps.length) :
    runF Try.prog K3 Dm 100000 1 134 [.v (.bool false), .agg (B8 ss), .agg (B8 ds), udpA p0 p1 true, .sl pn (B8 ps) ps.length pc] = some (errW 3) := by
  have e1 : IntKind.i64.wrap (8 + (ps.length : Int)) = 8 + (ps.length : Int) := wrap64_id (by omega) (by omega)
  have q4 : (1660 : Int) < 8 + (ps.length : Int) := by omega
  unfold runF
  rw [pvCall_own (fn := Try.f134) rfl Try.func134 rfl (by decide) rfl rfl (by simp)]
  simp -implicitDefEqProofs [errW, udpA, splice, IntKind.bits, e1, q4]
def asTcp : AV → Option (Int × Int × Int × Int × Int × Int × Int × Int × List Int)
  | .agg [.v (.int .u16 p0), .v (.int .u16 p1), .v (.int .u32 sq), .v (.int .u32 ak), .v (.int .u8 re), .v (.int .u8 fl), .v (.int .u16 wi), .v (.int .u16 ur), .sl on o ol oc] =>
    (asB8 o).bind fun os => if os.length = ol then some (p0, p1, sq, ak, re, fl, wi, ur, os) else none
  | _ => none
theorem asTcp_eq {x : AV} {r} (h : asTcp x = some r) : ∃ on oc, x = tcpA r.1 r.2.1 r.2.2.1 r.2.2.2.1 r.2.2.2.2.1 r.2.2.2.2.2.1 r.2.2.2.2.2.2.1 r.2.2.2.2.2.2.2.1 (.sl on (B8 r.2.2.2.2.2.2.2.2) r.2.2.2.2.2.2.2.2.length oc) := by
  unfold asTcp at h
  split at h
  · rename_i p0 p1 sq ak re fl wi ur on o ol oc
    obtain ⟨os, e, he⟩ := Option.bind_eq_some_iff.1 h
    clear h
    split at he
    case isFalse => cases he
    rename_i hl
    subst hl
    cases he
    obtain rfl := asB8_eq e
    exact ⟨on, oc, rfl⟩
  · cases h
def wtcpV (v6 : Bool) (ss ds : List Int) (p0 p1 sq ak re fl wi ur : Int) (os ps : List Int) : AV × List (List AV) :=
  if 40 < os.length then errW 5 else if ¬ os.length % 4 = 0 then errW 5 else if 15 < re then errW 5 else if 1660 < 20 + os.length + ps.length then errW 3 else wR (tcpW v6 ss ds (tcpHead p0 p1 sq ak re fl wi ur os ++ (os ++ ps)))
def goodW (ss ds ps : List Int) (len : Nat) : Prop := ps.length = len ∧ len ≤ 1700 ∧ ss.length = 16 ∧ ds.length = 16 ∧ bytesB ps = true ∧ bytesB ss = true ∧ bytesB ds = true
instance (ss ds zs : List Int) (len : Nat) : Decidable (goodW ss ds zs len) := by unfold goodW; infer_instance
def goodT (re fl : Int) (os : List Int) : Prop := os.length ≤ 1700 ∧ 0 ≤ re ∧ re ≤ 255 ∧ 0 ≤ fl ∧ fl ≤ 255 ∧ bytesB os = true
instance (re fl : Int) (os : List Int) : Decidable (goodT re fl os) := by unfold goodT; infer_instance
def fWTCP : Fun
  | [.v (.bool v6), .agg a, .agg b, t, .sl nn c len cap] => (asB8 a).bind fun ss => (asB8 b).bind fun ds => (asTcp t).bind fun t => (asB8 c).bind fun ps =>
      if goodW ss ds ps len ∧ goodT t.2.2.2.2.1 t.2.2.2.2.2.1 t.2.2.2.2.2.2.2.2 then some (wtcpV v6 ss ds t.1 t.2.1 t.2.2.1 t.2.2.2.1 t.2.2.2.2.1 t.2.2.2.2.2.1 t.2.2.2.2.2.2.1 t.2.2.2.2.2.2.2.1 t.2.2.2.2.2.2.2.2 ps) else none
  | _ => none
def wudpV (v6 : Bool) (ss ds : List Int) (p0 p1 : Int) (no : Bool) (ps : List Int) : AV × List (List AV) :=
  if no = true ∧ v6 = true then errW 2 else if 1660 < 8 + ps.length then errW 3 else if no = true then wR (udpHead p0 p1 ps ++ ps) else wR (udpW v6 ss ds (udpHead p0 p1 ps ++ ps))
def fWUDP : Fun
  | [.v (.bool v6), .agg a, .agg b, .agg [.v (.int .u16 p0), .v (.int .u16 p1), .v (.bool no)], .sl nn c len cap] => (asB8 a).bind fun ss => (asB8 b).bind fun ds => (asB8 c).bind fun ps =>
      if goodW ss ds ps len then some (wudpV v6 ss ds p0 p1 no ps) else none
  | _ => none
theorem wudp_pure : Pure Try.prog 134 fWUDP := (runF_pure k3_ok follows_mixed dm_ok 100000 1 134).weaken fun args r h => by
  unfold fWUDP at h
  split at h
  · rename_i v6 a b p0 p1 no nn c len cap
    obtain ⟨ss, e1, h1⟩ := Option.bind_eq_some_iff.1 h
    obtain ⟨ds, e2, h2⟩ := Option.bind_eq_some_iff.1 h1
    obtain ⟨ps, e3, he⟩ := Option.bind_eq_some_iff.1 h2
    clear h h1 h2
    split at he
    case isFalse => cases he
    rename_i hh
    obtain ⟨rfl, hl, h1, h2, h3, h4, h5⟩ := hh
    obtain rfl := asB8_eq e1
    obtain rfl := asB8_eq e2
    obtain rfl := asB8_eq e3
    rw [← he]
    unfold wudpV
    cases no with
    | true =>
      cases v6 with
      | true => rw [if_pos ⟨rfl, rfl⟩]; exact pwu_arg p0 p1 ps ss ds nn cap hl
      | false =>
        rw [if_neg (by simp)]
        split
        · rename_i q; exact pwu_long2 p0 p1 ps ss ds nn cap hl q
        · rename_i q; rw [if_pos rfl]; exact pwu_none p0 p1 ps ss ds nn cap (by omega) h1 h2 h3 h4 h5
    | false =>
      rw [if_neg (by simp)]
      split
      · rename_i q; exact pwu_long p0 p1 ps v6 ss ds nn cap hl q
      · rename_i q; rw [if_neg (by simp)]; exact pwu_ok p0 p1 ps v6 ss ds nn cap (by omega) h1 h2 h3 h4 h5
  · cases h
end Go.Proofs.Ytmdafjegddnecaa
