/- icmp.Read and the reference's as functions of values. -/
import Derived.Test.YtcbjjkpjbdcakaaVf
import Derived.Test.YtcbjjkpjbdcakaaVd
namespace Go.Proofs.Ytcbjjkpjbdcakaa
open Go.Pm Go.Wb
set_option linter.unusedVariables false
set_option linter.unusedSimpArgs false
set_option maxRecDepth 1000000
noncomputable def KR : Nat → Option Con
  | 43 => some fWithin
  | 45 => some fWithin
  | 75 => some fSk
  | 76 => some fSk
  | 48 => some fIse
  | 49 => some fIse
  | _ => none
theorem kr_ok : KOk Try.prog KR := fun f F h => by
  unfold KR at h
  split at h
  · cases h; exact ⟨within_pure, _, Try.func43, rfl, by decide⟩
  · cases h; exact ⟨rwithin_pure, _, Try.func45, rfl, by decide⟩
  · cases h; exact ⟨sk_pure, _, Try.func75, rfl, by decide⟩
  · cases h; exact ⟨rsk_pure, _, Try.func76, rfl, by decide⟩
  · cases h; exact ⟨ise_pure, _, Try.func48, rfl, by decide⟩
  · cases h; exact ⟨rise_pure, _, Try.func49, rfl, by decide⟩
  · cases h
section
variable {D : FuncId → Nat → List Nat} {L d px : Nat} {args : List AV} {m : Mem}
theorem ckr_within : pvCall Try.prog KR D L d px 43 args m = callBy fWithin m px args := pvCall_by rfl
theorem ckr_rwithin : pvCall Try.prog KR D L d px 45 args m = callBy fWithin m px args := pvCall_by rfl
theorem ckr_sealed : pvCall Try.prog KR D L d px 75 args m = callBy fSk m px args := pvCall_by rfl
theorem ckr_right : pvCall Try.prog KR D L d px 76 args m = callBy fSk m px args := pvCall_by rfl
theorem ckr_ise : pvCall Try.prog KR D L d px 48 args m = callBy fIse m px args := pvCall_by rfl
theorem ckr_rise : pvCall Try.prog KR D L d px 49 args m = callBy fIse m px args := pvCall_by rfl
end
theorem ekr_within : KR 43 = some (.pure fWithin) := rfl
theorem ekr_rwithin : KR 45 = some (.pure fWithin) := rfl
theorem ekr_sealed : KR 75 = some (.pure fSk) := rfl
theorem ekr_right : KR 76 = some (.pure fSk) := rfl
theorem ekr_ise : KR 48 = some (.pure fIse) := rfl
theorem ekr_rise : KR 49 = some (.pure fIse) := rfl
attribute [simp] ckr_within ekr_within ckr_rwithin ekr_rwithin ckr_sealed ekr_sealed ckr_right ekr_right ckr_ise ekr_ise ckr_rise ekr_rise
def repA (k c : Int) (v6 : Bool) (pr : Int) (ss ds : List Int) (sp dp : Int) : AV := .agg (.v (.int .u8 k) :: .v (.int .u8 c) :: .v (.bool v6) :: .v (.int .u8 pr) :: (B8 ss ++ (B8 ds ++ [.v (.int .u16 sp), .v (.int .u16 dp)])))
def noRep : AV := repA 0 0 false 0 t16 t16 0 0
def errR (e : Int) : AV × List (List AV) := (.tup [noRep, .v (.int .i64 e)], [])
def rdE (v6 : Bool) (ss ds zs : List Int) : Int := if zs.length < 8 then 4 else if ¬ skV v6 ss ds zs = 0 then 6 else if isE v6 (gb zs 0) = false then 10 else wiE v6 (zs.drop 8)
def rdT (v6 : Bool) (ss ds zs : List Int) : AV := if rdE v6 ss ds zs = 0 then repA (gb zs 0) (gb zs 1) v6 (hdP v6 (zs.drop 8)) (hdS v6 (zs.drop 8)) (hdD v6 (zs.drop 8)) (w16 (zs.drop 8) (hdN v6 (zs.drop 8) + 2)) (w16 (zs.drop 8) (hdN v6 (zs.drop 8))) else noRep
def rdV (v6 : Bool) (ss ds zs : List Int) : AV × List (List AV) := (.tup [rdT v6 ss ds zs, .v (.int .i64 (rdE v6 ss ds zs))], [])
theorem wiE_hd {v6 : Bool} {zs : List Int} (h : wiE v6 zs = 0) : hdE v6 zs = 0 := by
  unfold wiE at h
  split at h
  · rename_i q; exact absurd h q
  · rename_i q; simpa using q
theorem hdSD_len {v6 : Bool} {zs : List Int} (h : hdE v6 zs = 0) : (hdS v6 zs).length = 16 ∧ (hdD v6 zs).length = 16 := by
  cases v6 with
  | false => exact ⟨rfl, rfl⟩
  | true =>
    have hl := hd6_len h
    constructor
    · show ((zs.drop 24).take 16).length = 16; simp; omega
    · show ((zs.drop 8).take 16).length = 16; simp; omega
set_option maxHeartbeats 16000000 in
theorem read_run (v6 : Bool) (ss ds zs : List Int) (nn : Bool) (cap : Option Nat) (hg : goodM ss ds zs zs.length) : runF Try.prog KR Dm 100000 1 46 [.v (.bool v6), .agg (B8 ss), .agg (B8 ds), .sl nn (B8 zs) zs.length cap] = some (rdV v6 ss ds zs) := by
  obtain ⟨_, hl, hs, hd, hz, bs, bd⟩ := id hg
  have t1 : ss.take 16 = ss := List.take_of_length_le (by omega)
  have t2 : ds.take 16 = ds := List.take_of_length_le (by omega)
  unfold runF rdV rdT rdE
  rw [pvCall_own (fn := Try.f46) rfl Try.func46 rfl (by decide) rfl rfl (by simp)]
  by_cases h8 : zs.length < 8
  · have i8 : (zs.length : Int) < 8 := by omega
    simp -implicitDefEqProofs [h8, i8, noRep, repA, hs, hd, t16, B8vc, B8vn, splice]
  have i8 : ¬ (zs.length : Int) < 8 := by omega
  rw [if_neg h8]
  by_cases hk : skV v6 ss ds zs = 0
  case neg =>
    have hkn : (skV v6 ss ds zs != 0) = true := by simp [hk]
    have hke : (skV v6 ss ds zs == 0) = false := by simp [hk]
    simp -implicitDefEqProofs [i8, hg, hk, hkn, hke, fSk, t1, t2, noRep, repA, hs, hd, t16, B8vc, B8vn, splice]
  have a0 := B8_at00 zs (by omega)
  have a1 := B8_at0 zs 1 (by omega)
  have l0 : 0 < zs.length := by omega
  have i0 : (0 : Int) < (zs.length : Int) := by omega
  have l1 : 1 < zs.length := by omega
  have i1 : (1 : Int) < (zs.length : Int) := by omega
  have g0 := (gb_range hz 0).1
  by_cases he : isE v6 (gb zs 0) = false
  · simp -implicitDefEqProofs [i8, hg, hk, he, a0, l0, i0, g0, fSk, fIse, t1, t2, noRep, repA, hs, hd, t16, B8vc, B8vn, splice]
  have he : isE v6 (gb zs 0) = true := by simpa using he
  have k1 : 8 ≤ zs.length := by omega
  have k2 : (8 : Int) ≤ (zs.length : Int) := by omega
  have k3 : (zs.drop 8).length = zs.length - 8 := by simp
  have k4 : zs.length - 8 ≤ 500000 := by omega
  have k5 : (zs.drop 8).take (zs.length - 8) = zs.drop 8 := List.take_of_length_le (by simp)
  have k6 : bytesB (zs.drop 8) = true := bytesB_drop hz 8
  by_cases hw : wiE v6 (zs.drop 8) = 0
  case neg =>
    have hwn : (wiE v6 (zs.drop 8) != 0) = true := by simp [hw]
    have hwe : (wiE v6 (zs.drop 8) == 0) = false := by simp [hw]
    have hwT : wiT v6 (zs.drop 8) = noTup := by unfold wiT; rw [if_neg hw]
    simp -implicitDefEqProofs [i8, hg, hk, he, a0, l0, i0, g0, k1, k2, k3, k4, k5, k6, fSk, fIse, fWithin, t1, t2, splice, hw, hwn, hwe, hwT, noTup, tupA, noRep, repA, hs, hd, t16, B8vc, B8vn]
  have hwT : wiT v6 (zs.drop 8) = tupA v6 (hdP v6 (zs.drop 8)) (hdS v6 (zs.drop 8)) (hdD v6 (zs.drop 8)) (w16 (zs.drop 8) (hdN v6 (zs.drop 8) + 2)) (w16 (zs.drop 8) (hdN v6 (zs.drop 8))) := by unfold wiT; rw [if_pos hw]
  obtain ⟨hS, hE⟩ := hdSD_len (wiE_hd hw)
  generalize hdS v6 (zs.drop 8) = S at *
  generalize hdD v6 (zs.drop 8) = E at *
  generalize hdP v6 (zs.drop 8) = p at *
  generalize w16 (zs.drop 8) (hdN v6 (zs.drop 8) + 2) = sp at *
  generalize w16 (zs.drop 8) (hdN v6 (zs.drop 8)) = dp at *
  simp -implicitDefEqProofs [i8, hg, hk, he, a0, l0, i0, g0, k1, k2, k3, k4, k5, k6, fSk, fIse, fWithin, t1, t2, splice, a1, l1, i1, hw, hwT, tupA, noRep, repA, hs, hd, hS, hE, B8t16 hS, B8d16 hS, B8t16 hE, B8d16 hE, B8t33 hS, B8t17 hE, B8d32 hS, B8d32 hE, B8t32 hS, B8d33 hS, B8d17 hE, B8d34 hS, B8d18 hE, B8t34 hS, B8t18 hE, -B8_append]
set_option maxHeartbeats 16000000 in
theorem rread_run (v6 : Bool) (ss ds zs : List Int) (nn : Bool) (cap : Option Nat) (hg : goodM ss ds zs zs.length) : runF Try.prog KR Dm 100000 1 47 [.v (.bool v6), .agg (B8 ss), .agg (B8 ds), .sl nn (B8 zs) zs.length cap] = some (rdV v6 ss ds zs) := by
  obtain ⟨_, hl, hs, hd, hz, bs, bd⟩ := id hg
  have t1 : ss.take 16 = ss := List.take_of_length_le (by omega)
  have t2 : ds.take 16 = ds := List.take_of_length_le (by omega)
  unfold runF rdV rdT rdE
  rw [pvCall_own (fn := Try.f47) rfl Try.func47 rfl (by decide) rfl rfl (by simp)]
  by_cases h8 : zs.length < 8
  · have i8 : (zs.length : Int) < 8 := by omega
    simp -implicitDefEqProofs [h8, i8, noRep, repA, hs, hd, t16, B8vc, B8vn, splice]
  have i8 : ¬ (zs.length : Int) < 8 := by omega
  rw [if_neg h8]
  by_cases hk : skV v6 ss ds zs = 0
  case neg =>
    have hkn : (skV v6 ss ds zs != 0) = true := by simp [hk]
    have hke : (skV v6 ss ds zs == 0) = false := by simp [hk]
    simp -implicitDefEqProofs [i8, hg, hk, hkn, hke, fSk, t1, t2, noRep, repA, hs, hd, t16, B8vc, B8vn, splice]
  have a0 := B8_at00 zs (by omega)
  have a1 := B8_at0 zs 1 (by omega)
  have l0 : 0 < zs.length := by omega
  have i0 : (0 : Int) < (zs.length : Int) := by omega
  have l1 : 1 < zs.length := by omega
  have i1 : (1 : Int) < (zs.length : Int) := by omega
  have g0 := (gb_range hz 0).1
  by_cases he : isE v6 (gb zs 0) = false
  · simp -implicitDefEqProofs [i8, hg, hk, he, a0, l0, i0, g0, fSk, fIse, t1, t2, noRep, repA, hs, hd, t16, B8vc, B8vn, splice]
  have he : isE v6 (gb zs 0) = true := by simpa using he
  have k1 : 8 ≤ zs.length := by omega
  have k2 : (8 : Int) ≤ (zs.length : Int) := by omega
  have k3 : (zs.drop 8).length = zs.length - 8 := by simp
  have k4 : zs.length - 8 ≤ 500000 := by omega
  have k5 : (zs.drop 8).take (zs.length - 8) = zs.drop 8 := List.take_of_length_le (by simp)
  have k6 : bytesB (zs.drop 8) = true := bytesB_drop hz 8
  by_cases hw : wiE v6 (zs.drop 8) = 0
  case neg =>
    have hwn : (wiE v6 (zs.drop 8) != 0) = true := by simp [hw]
    have hwe : (wiE v6 (zs.drop 8) == 0) = false := by simp [hw]
    have hwT : wiT v6 (zs.drop 8) = noTup := by unfold wiT; rw [if_neg hw]
    simp -implicitDefEqProofs [i8, hg, hk, he, a0, l0, i0, g0, k1, k2, k3, k4, k5, k6, fSk, fIse, fWithin, t1, t2, splice, hw, hwn, hwe, hwT, noTup, tupA, noRep, repA, hs, hd, t16, B8vc, B8vn]
  have hwT : wiT v6 (zs.drop 8) = tupA v6 (hdP v6 (zs.drop 8)) (hdS v6 (zs.drop 8)) (hdD v6 (zs.drop 8)) (w16 (zs.drop 8) (hdN v6 (zs.drop 8) + 2)) (w16 (zs.drop 8) (hdN v6 (zs.drop 8))) := by unfold wiT; rw [if_pos hw]
  obtain ⟨hS, hE⟩ := hdSD_len (wiE_hd hw)
  generalize hdS v6 (zs.drop 8) = S at *
  generalize hdD v6 (zs.drop 8) = E at *
  generalize hdP v6 (zs.drop 8) = p at *
  generalize w16 (zs.drop 8) (hdN v6 (zs.drop 8) + 2) = sp at *
  generalize w16 (zs.drop 8) (hdN v6 (zs.drop 8)) = dp at *
  simp -implicitDefEqProofs [i8, hg, hk, he, a0, l0, i0, g0, k1, k2, k3, k4, k5, k6, fSk, fIse, fWithin, t1, t2, splice, a1, l1, i1, hw, hwT, tupA, noRep, repA, hs, hd, hS, hE, B8t16 hS, B8d16 hS, B8t16 hE, B8d16 hE, B8t33 hS, B8t17 hE, B8d32 hS, B8d32 hE, B8t32 hS, B8d33 hS, B8d17 hE, B8d34 hS, B8d18 hE, B8t34 hS, B8t18 hE, -B8_append]
def fRead : Fun
  | [.v (.bool v6), .agg a, .agg b, .sl nn c len cap] => (asB8 a).bind fun ss => (asB8 b).bind fun ds => (asB8 c).bind fun zs => if goodM ss ds zs len then some (rdV v6 ss ds zs) else none
  | _ => none
theorem read_pure : Pure Try.prog 46 fRead := (runF_pure kr_ok follows_mixed dm_ok 100000 1 46).weaken fun args r h => by
  unfold fRead at h
  split at h
  · rename_i v6 a b nn c len cap
    obtain ⟨ss, e1, h1⟩ := Option.bind_eq_some_iff.1 h
    obtain ⟨ds, e2, h2⟩ := Option.bind_eq_some_iff.1 h1
    obtain ⟨zs, e3, he⟩ := Option.bind_eq_some_iff.1 h2
    clear h h1 h2
    split at he
    case isFalse => cases he
    rename_i hh
    obtain rfl := hh.1
    obtain rfl := asB8_eq e1
    obtain rfl := asB8_eq e2
    obtain rfl := asB8_eq e3
    rw [← he]
    exact read_run v6 ss ds zs nn cap hh
  · cases h
theorem rread_pure : Pure Try.prog 47 fRead := (runF_pure kr_ok follows_mixed dm_ok 100000 1 47).weaken fun args r h => by
  unfold fRead at h
  split at h
  · rename_i v6 a b nn c len cap
    obtain ⟨ss, e1, h1⟩ := Option.bind_eq_some_iff.1 h
    obtain ⟨ds, e2, h2⟩ := Option.bind_eq_some_iff.1 h1
    obtain ⟨zs, e3, he⟩ := Option.bind_eq_some_iff.1 h2
    clear h h1 h2
    split at he
    case isFalse => cases he
    rename_i hh
    obtain rfl := hh.1
    obtain rfl := asB8_eq e1
    obtain rfl := asB8_eq e2
    obtain rfl := asB8_eq e3
    rw [← he]
    exact rread_run v6 ss ds zs nn cap hh
  · cases h
end Go.Proofs.Ytcbjjkpjbdcakaa

