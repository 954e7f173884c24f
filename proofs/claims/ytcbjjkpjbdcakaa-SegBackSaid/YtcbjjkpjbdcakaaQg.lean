/- seg.ReadUDP as a function of values. -/
import Derived.Test.YtcbjjkpjbdcakaaQf
namespace Go.Proofs.Ytcbjjkpjbdcakaa
open Go.Pm
set_option linter.unusedVariables false
set_option linter.unusedSimpArgs false
set_option maxRecDepth 1000000

def noU : AV := .agg [.v (.int .u16 0), .v (.int .u16 0), .v (.bool false)]
def errU (e : Int) : AV × List (List AV) := (.tup [noU, .v (.slice none 0 0), .v (.int .i64 e)], [])
def udpR (zs : List Int) : AV × List (List AV) := (.tup [.agg [.v (.int .u16 (w16 zs 0)), .v (.int .u16 (w16 zs 2)), .v (.bool (decide (w16 zs 6 = 0)))], .own 0 0 0 (zs.length - 8) 1 (.whole 5), .v (.int .i64 0)], [B8 (zs.drop 8)])
set_option maxHeartbeats 8000000 in
theorem pudp_short (zs : List Int) (v6 : Bool) (ss ds : List Int) (nn : Bool) (cap : Option Nat) (h : zs.length < 8) : runF Try.prog K2 Dm 100000 1 18 [.v (.bool v6), .agg (B8 ss), .agg (B8 ds), .sl nn (B8 zs) zs.length cap] = some (errU 4) := by
  have h1 : (zs.length : Int) < 8 := by omega
  unfold runF errU noU
  rw [pvCall_own (fn := Try.f18) rfl Try.func18 rfl (by decide) rfl rfl (by simp)]
  simp -implicitDefEqProofs [h1, splice]
set_option maxHeartbeats 8000000 in
theorem pudp_form (zs : List Int) (v6 : Bool) (ss ds : List Int) (nn : Bool) (cap : Option Nat) (h20 : 8 ≤ zs.length) (hs : ss.length = 16) (hd : ds.length = 16) (hz : bytesB zs = true) (bs : bytesB ss = true) (bd : bytesB ds = true) (hl : zs.length ≤ 500000) (hn : ¬ w16 zs 4 = zs.length) :
    runF Try.prog K2 Dm 100000 1 18 [.v (.bool v6), .agg (B8 ss), .agg (B8 ds), .sl nn (B8 zs) zs.length cap] = some (errU 5) := by
  have h1 : ¬ (zs.length : Int) < 8 := by omega
  have k1 : (1 : Int) < (zs.length : Int) := by omega
  have k3 : (3 : Int) < (zs.length : Int) := by omega
  have k5 : (5 : Int) < (zs.length : Int) := by omega
  have k7 : (7 : Int) < (zs.length : Int) := by omega
  have k8 : (8 : Int) ≤ (zs.length : Int) := by omega
  have r4 := w16_range (bytesB_iff.1 hz) 4
  have w4 : IntKind.i64.wrap (w16 zs 4) = w16 zs 4 := wrap64_id (by omega) (by omega)
  have wl : IntKind.i64.wrap (zs.length : Int) = zs.length := wrap64_id (by omega) (by omega)
  have l40 : zs.length ≤ 1099511627776 := by omega
  have m1 : zs.length ≤ 549755813896 := by omega
  have m3 : 0 < zs.length := by omega
  have ht : List.take (zs.length - 8) (List.drop 8 zs) = List.drop 8 zs := List.take_of_length_le (by simp)
  have t1 : ss.take 16 = ss := List.take_of_length_le (by omega)
  have t2 : ds.take 16 = ds := List.take_of_length_le (by omega)
  unfold runF
  rw [pvCall_own (fn := Try.f18) rfl Try.func18 rfl (by decide) rfl rfl (by simp)]
  cases v6 <;> simp -implicitDefEqProofs [Nat.testBit_eq_decide_div_mod_eq, h1, splice, k1, k3, k5, k7, k8, h20, w4, wl, hs, hd, hz, bs, bd, hl, l40, t1, t2, m1, m3, ht, errU, noU, udpR, hn]
set_option maxHeartbeats 8000000 in
theorem pudp_v6 (zs : List Int)  (ss ds : List Int) (nn : Bool) (cap : Option Nat) (h20 : 8 ≤ zs.length) (hs : ss.length = 16) (hd : ds.length = 16) (hz : bytesB zs = true) (bs : bytesB ss = true) (bd : bytesB ds = true) (hl : zs.length ≤ 500000) (hn : w16 zs 4 = zs.length) (h6 : w16 zs 6 = 0) :
    runF Try.prog K2 Dm 100000 1 18 [.v (.bool true), .agg (B8 ss), .agg (B8 ds), .sl nn (B8 zs) zs.length cap] = some (errU 6) := by
  have h1 : ¬ (zs.length : Int) < 8 := by omega
  have k1 : (1 : Int) < (zs.length : Int) := by omega
  have k3 : (3 : Int) < (zs.length : Int) := by omega
  have k5 : (5 : Int) < (zs.length : Int) := by omega
  have k7 : (7 : Int) < (zs.length : Int) := by omega
  have k8 : (8 : Int) ≤ (zs.length : Int) := by omega
  have r4 := w16_range (bytesB_iff.1 hz) 4
  have w4 : IntKind.i64.wrap (w16 zs 4) = w16 zs 4 := wrap64_id (by omega) (by omega)
  have wl : IntKind.i64.wrap (zs.length : Int) = zs.length := wrap64_id (by omega) (by omega)
  have l40 : zs.length ≤ 1099511627776 := by omega
  have m1 : zs.length ≤ 549755813896 := by omega
  have m3 : 0 < zs.length := by omega
  have ht : List.take (zs.length - 8) (List.drop 8 zs) = List.drop 8 zs := List.take_of_length_le (by simp)
  have t1 : ss.take 16 = ss := List.take_of_length_le (by omega)
  have t2 : ds.take 16 = ds := List.take_of_length_le (by omega)
  unfold runF
  rw [pvCall_own (fn := Try.f18) rfl Try.func18 rfl (by decide) rfl rfl (by simp)]
  simp -implicitDefEqProofs [Nat.testBit_eq_decide_div_mod_eq, h1, splice, k1, k3, k5, k7, k8, h20, w4, wl, hs, hd, hz, bs, bd, hl, l40, t1, t2, m1, m3, ht, errU, noU, udpR, hn, h6]
set_option maxHeartbeats 8000000 in
theorem pudp_none (zs : List Int)  (ss ds : List Int) (nn : Bool) (cap : Option Nat) (h20 : 8 ≤ zs.length) (hs : ss.length = 16) (hd : ds.length = 16) (hz : bytesB zs = true) (bs : bytesB ss = true) (bd : bytesB ds = true) (hl : zs.length ≤ 500000) (hn : w16 zs 4 = zs.length) (h6 : w16 zs 6 = 0) :
    runF Try.prog K2 Dm 100000 1 18 [.v (.bool false), .agg (B8 ss), .agg (B8 ds), .sl nn (B8 zs) zs.length cap] = some (udpR zs) := by
  have h1 : ¬ (zs.length : Int) < 8 := by omega
  have k1 : (1 : Int) < (zs.length : Int) := by omega
  have k3 : (3 : Int) < (zs.length : Int) := by omega
  have k5 : (5 : Int) < (zs.length : Int) := by omega
  have k7 : (7 : Int) < (zs.length : Int) := by omega
  have k8 : (8 : Int) ≤ (zs.length : Int) := by omega
  have r4 := w16_range (bytesB_iff.1 hz) 4
  have w4 : IntKind.i64.wrap (w16 zs 4) = w16 zs 4 := wrap64_id (by omega) (by omega)
  have wl : IntKind.i64.wrap (zs.length : Int) = zs.length := wrap64_id (by omega) (by omega)
  have l40 : zs.length ≤ 1099511627776 := by omega
  have m1 : zs.length ≤ 549755813896 := by omega
  have m3 : 0 < zs.length := by omega
  have ht : List.take (zs.length - 8) (List.drop 8 zs) = List.drop 8 zs := List.take_of_length_le (by simp)
  have t1 : ss.take 16 = ss := List.take_of_length_le (by omega)
  have t2 : ds.take 16 = ds := List.take_of_length_le (by omega)
  unfold runF
  rw [pvCall_own (fn := Try.f18) rfl Try.func18 rfl (by decide) rfl rfl (by simp)]
  simp -implicitDefEqProofs [Nat.testBit_eq_decide_div_mod_eq, h1, splice, k1, k3, k5, k7, k8, h20, w4, wl, hs, hd, hz, bs, bd, hl, l40, t1, t2, m1, m3, ht, errU, noU, udpR, hn, h6]
set_option maxHeartbeats 8000000 in
theorem pudp_ok (zs : List Int) (v6 : Bool) (ss ds : List Int) (nn : Bool) (cap : Option Nat) (h20 : 8 ≤ zs.length) (hs : ss.length = 16) (hd : ds.length = 16) (hz : bytesB zs = true) (bs : bytesB ss = true) (bd : bytesB ds = true) (hl : zs.length ≤ 500000) (hn : w16 zs 4 = zs.length) (h6 : ¬ w16 zs 6 = 0) (hck : ck v6 ss ds 17 zs = 0) :
    runF Try.prog K2 Dm 100000 1 18 [.v (.bool v6), .agg (B8 ss), .agg (B8 ds), .sl nn (B8 zs) zs.length cap] = some (udpR zs) := by
  have h1 : ¬ (zs.length : Int) < 8 := by omega
  have k1 : (1 : Int) < (zs.length : Int) := by omega
  have k3 : (3 : Int) < (zs.length : Int) := by omega
  have k5 : (5 : Int) < (zs.length : Int) := by omega
  have k7 : (7 : Int) < (zs.length : Int) := by omega
  have k8 : (8 : Int) ≤ (zs.length : Int) := by omega
  have r4 := w16_range (bytesB_iff.1 hz) 4
  have w4 : IntKind.i64.wrap (w16 zs 4) = w16 zs 4 := wrap64_id (by omega) (by omega)
  have wl : IntKind.i64.wrap (zs.length : Int) = zs.length := wrap64_id (by omega) (by omega)
  have b6 : (w16 zs 6 == 0) = false := by simp [h6]
  have l40 : zs.length ≤ 1099511627776 := by omega
  have m1 : zs.length ≤ 549755813896 := by omega
  have m3 : 0 < zs.length := by omega
  have ht : List.take (zs.length - 8) (List.drop 8 zs) = List.drop 8 zs := List.take_of_length_le (by simp)
  have t1 : ss.take 16 = ss := List.take_of_length_le (by omega)
  have t2 : ds.take 16 = ds := List.take_of_length_le (by omega)
  unfold runF
  rw [pvCall_own (fn := Try.f18) rfl Try.func18 rfl (by decide) rfl rfl (by simp)]
  simp -implicitDefEqProofs [Nat.testBit_eq_decide_div_mod_eq, h1, splice, k1, k3, k5, k7, k8, h20, w4, wl, hs, hd, hz, bs, bd, hl, l40, t1, t2, m1, m3, ht, errU, noU, udpR, b6, hn, h6, hck]
set_option maxHeartbeats 8000000 in
theorem pudp_sum (zs : List Int) (v6 : Bool) (ss ds : List Int) (nn : Bool) (cap : Option Nat) (h20 : 8 ≤ zs.length) (hs : ss.length = 16) (hd : ds.length = 16) (hz : bytesB zs = true) (bs : bytesB ss = true) (bd : bytesB ds = true) (hl : zs.length ≤ 500000) (hn : w16 zs 4 = zs.length) (h6 : ¬ w16 zs 6 = 0) (hck : ¬ ck v6 ss ds 17 zs = 0) :
    runF Try.prog K2 Dm 100000 1 18 [.v (.bool v6), .agg (B8 ss), .agg (B8 ds), .sl nn (B8 zs) zs.length cap] = some (errU 6) := by
  have h1 : ¬ (zs.length : Int) < 8 := by omega
  have k1 : (1 : Int) < (zs.length : Int) := by omega
  have k3 : (3 : Int) < (zs.length : Int) := by omega
  have k5 : (5 : Int) < (zs.length : Int) := by omega
  have k7 : (7 : Int) < (zs.length : Int) := by omega
  have k8 : (8 : Int) ≤ (zs.length : Int) := by omega
  have r4 := w16_range (bytesB_iff.1 hz) 4
  have w4 : IntKind.i64.wrap (w16 zs 4) = w16 zs 4 := wrap64_id (by omega) (by omega)
  have wl : IntKind.i64.wrap (zs.length : Int) = zs.length := wrap64_id (by omega) (by omega)
  have b6 : (w16 zs 6 == 0) = false := by simp [h6]
  have l40 : zs.length ≤ 1099511627776 := by omega
  have m1 : zs.length ≤ 549755813896 := by omega
  have m3 : 0 < zs.length := by omega
  have ht : List.take (zs.length - 8) (List.drop 8 zs) = List.drop 8 zs := List.take_of_length_le (by simp)
  have t1 : ss.take 16 = ss := List.take_of_length_le (by omega)
  have t2 : ds.take 16 = ds := List.take_of_length_le (by omega)
  unfold runF
  rw [pvCall_own (fn := Try.f18) rfl Try.func18 rfl (by decide) rfl rfl (by simp)]
  simp -implicitDefEqProofs [Nat.testBit_eq_decide_div_mod_eq, h1, splice, k1, k3, k5, k7, k8, h20, w4, wl, hs, hd, hz, bs, bd, hl, l40, t1, t2, m1, m3, ht, errU, noU, udpR, b6, hn, h6, hck]
def udpV (v6 : Bool) (ss ds zs : List Int) : AV × List (List AV) :=
  if zs.length < 8 then errU 4 else if w16 zs 4 = zs.length then (if w16 zs 6 = 0 then (if v6 = true then errU 6 else udpR zs) else if ck v6 ss ds 17 zs = 0 then udpR zs else errU 6) else errU 5
def fUDP : Fun
  | [.v (.bool v6), .agg a, .agg b, .sl nn c len cap] => (asB8 a).bind fun ss => (asB8 b).bind fun ds => (asB8 c).bind fun zs => if goodIn ss ds zs len then some (udpV v6 ss ds zs) else none
  | _ => none
theorem udp_pure : Pure Try.prog 18 fUDP := (runF_pure k2_ok follows_mixed dm_ok 100000 1 18).weaken fun args r h => by
  unfold fUDP at h
  split at h
  · rename_i v6 a b nn c len cap
    obtain ⟨ss, e1, h1⟩ := Option.bind_eq_some_iff.1 h
    obtain ⟨ds, e2, h2⟩ := Option.bind_eq_some_iff.1 h1
    obtain ⟨zs, e3, he⟩ := Option.bind_eq_some_iff.1 h2
    clear h h1 h2
    split at he
    case isFalse => cases he
    rename_i hh
    obtain ⟨rfl, hl, h1, h2, h3, h4, h5⟩ := hh
    obtain rfl := asB8_eq e1
    obtain rfl := asB8_eq e2
    obtain rfl := asB8_eq e3
    rw [← he]
    unfold udpV
    split
    · rename_i q; exact pudp_short zs v6 ss ds nn cap q
    split
    · rename_i q0 q
      split
      · rename_i q6
        cases v6 with
        | true => exact pudp_v6 zs ss ds nn cap (by omega) h1 h2 h3 h4 h5 hl q q6
        | false => exact pudp_none zs ss ds nn cap (by omega) h1 h2 h3 h4 h5 hl q q6
      · rename_i q6
        split
        · rename_i qc; exact pudp_ok zs v6 ss ds nn cap (by omega) h1 h2 h3 h4 h5 hl q q6 qc
        · rename_i qc; exact pudp_sum zs v6 ss ds nn cap (by omega) h1 h2 h3 h4 h5 hl q q6 qc
    · rename_i q0 q; exact pudp_form zs v6 ss ds nn cap (by omega) h1 h2 h3 h4 h5 hl q
  · cases h
def K3 : Nat → Option Con
  | 58 => some fTwo
  | 15 => some fTCP
  | 18 => some fUDP
  | f => K2 f
theorem k3_ok : KOk Try.prog K3 := fun f F h => by
  unfold K3 at h
  split at h
  · cases h; exact ⟨two_pure, _, Try.func58, rfl, by decide⟩
  · cases h; exact ⟨tcp_pure, _, Try.func15, rfl, by decide⟩
  · cases h; exact ⟨udp_pure, _, Try.func18, rfl, by decide⟩
  · exact k2_ok f F h
end Go.Proofs.Ytcbjjkpjbdcakaa
