import Derived.Test.YtmdafjegddnecaaMu
/- The checksums of layer 37 as functions of values. -/
namespace Go.Proofs.Ytmdafjegddnecaa
open Go.Pm Go.Wb
set_option linter.unusedVariables false
set_option linter.unusedSimpArgs false
set_option maxRecDepth 1000000
set_option maxHeartbeats 4000000 in
theorem asealed_run (v6 : Bool) (ss ds zs : List Int) (nn : Bool) (cap : Option Nat) (hg : goodM ss ds zs zs.length) : runF Try.prog KN Dm 100000 1 95 [.v (.bool v6), .agg (B8 ss), .agg (B8 ds), .sl nn (B8 zs) zs.length cap] = some (.v (.int .u16 (skV v6 ss ds zs)), []) := by
  obtain ⟨_, hl, hs, hd, hz, bs, bd⟩ := hg
  have l40 : zs.length ≤ 1099511627776 := by omega
  have l64 : (zs.length : Int) ≤ 9223372036854775807 := by omega
  have t1 : ss.take 16 = ss := List.take_of_length_le (by omega)
  have t2 : ds.take 16 = ds := List.take_of_length_le (by omega)
  have p := sumTo_range (s := 0) (o := false) (Int.le_refl 0) (phead_b (v6 := true) (pr := 58) (n := (zs.length : Int)) (bytesB_iff.1 bs) (bytesB_iff.1 bd) (by omega) (by omega))
  have q := sumTo_range (s := 0) (o := false) (Int.le_refl 0) (bytesB_iff.1 hz)
  have r := sumTo_range (o := false) p.1 (bytesB_iff.1 hz)
  unfold runF skV ck ofV
  rw [pvCall_own (fn := Try.f95) rfl Try.func95 rfl (by decide) rfl rfl (by simp)]
  cases v6 with
  | true => simp -implicitDefEqProofs [fPse, fAdd, fEnd, hs, hd, hz, bs, bd, l40, l64, t1, t2, p, r, splice]
  | false => simp -implicitDefEqProofs [fPse, fAdd, fEnd, hz, hs, hd, t1, t2, l40, q, splice]
theorem asealed_pure : Pure Try.prog 95 fSk := (runF_pure kn_ok follows_mixed dm_ok 100000 1 95).weaken fun args r h => by
  unfold fSk at h
  split at h
  · rename_i v6 a b nn c len cap
    obtain ⟨ss, e1, h1⟩ := Option.bind_eq_some_iff.1 h
    obtain ⟨ds, e2, h2⟩ := Option.bind_eq_some_iff.1 h1
    obtain ⟨zs, e3, he⟩ := Option.bind_eq_some_iff.1 h2
    clear h h1 h2
    split at he
    case isFalse => cases he
    rename_i hh
    obtain rfl := hh.1
    obtain rfl := asB8_eq e1
    obtain rfl := asB8_eq e2
    obtain rfl := asB8_eq e3
    rw [← he]
    exact asealed_run v6 ss ds zs nn cap hh
  · cases h
set_option maxHeartbeats 4000000 in
theorem aright_run (v6 : Bool) (ss ds zs : List Int) (nn : Bool) (cap : Option Nat) (hg : goodM ss ds zs zs.length) : runF Try.prog KN Dm 100000 1 96 [.v (.bool v6), .agg (B8 ss), .agg (B8 ds), .sl nn (B8 zs) zs.length cap] = some (.v (.int .u16 (skV v6 ss ds zs)), []) := by
  obtain ⟨_, hl, hs, hd, hz, bs, bd⟩ := hg
  have l40 : zs.length ≤ 1099511627776 := by omega
  have l64 : (zs.length : Int) ≤ 9223372036854775807 := by omega
  have t1 : ss.take 16 = ss := List.take_of_length_le (by omega)
  have t2 : ds.take 16 = ds := List.take_of_length_le (by omega)
  have p := sumTo_range (s := 0) (o := false) (Int.le_refl 0) (phead_b (v6 := true) (pr := 58) (n := (zs.length : Int)) (bytesB_iff.1 bs) (bytesB_iff.1 bd) (by omega) (by omega))
  have q := sumTo_range (s := 0) (o := false) (Int.le_refl 0) (bytesB_iff.1 hz)
  have r := sumTo_range (o := false) p.1 (bytesB_iff.1 hz)
  unfold runF skV
  rw [pvCall_own (fn := Try.f96) rfl Try.func96 rfl (by decide) rfl rfl (by simp)]
  cases v6 with
  | true => simp -implicitDefEqProofs [fSealed, fCk, fOf, hs, hd, hz, bs, bd, l40, l64, t1, t2, p, r, splice]
  | false => simp -implicitDefEqProofs [fSealed, fCk, fOf, hz, hs, hd, t1, t2, l40, q, splice]
theorem aright_pure : Pure Try.prog 96 fSk := (runF_pure kn_ok follows_mixed dm_ok 100000 1 96).weaken fun args r h => by
  unfold fSk at h
  split at h
  · rename_i v6 a b nn c len cap
    obtain ⟨ss, e1, h1⟩ := Option.bind_eq_some_iff.1 h
    obtain ⟨ds, e2, h2⟩ := Option.bind_eq_some_iff.1 h1
    obtain ⟨zs, e3, he⟩ := Option.bind_eq_some_iff.1 h2
    clear h h1 h2
    split at he
    case isFalse => cases he
    rename_i hh
    obtain rfl := hh.1
    obtain rfl := asB8_eq e1
    obtain rfl := asB8_eq e2
    obtain rfl := asB8_eq e3
    rw [← he]
    exact aright_run v6 ss ds zs nn cap hh
  · cases h
end Go.Proofs.Ytmdafjegddnecaa

/- Echoes: both readers as functions of values. -/
namespace Go.Proofs.Ytmdafjegddnecaa
open Go.Pm Go.Wb
set_option linter.unusedVariables false
set_option linter.unusedSimpArgs false
set_option maxRecDepth 1000000
set_option maxHeartbeats 4000000 in
theorem aclone_run (zs : List Int) (cap : Option Nat) (hl : zs.length ≤ 500000) : runF Try.prog K0 Dm 100000 1 66 [.sl true (B8 zs) zs.length cap] = some (.own 0 0 0 zs.length 1 (.whole 5), [B8 zs]) := by
  have l5 : zs.length ≤ 549755813888 := by omega
  have l7 : zs.take zs.length = zs := List.take_length
  unfold runF
  rw [pvCall_own (fn := Try.f66) rfl Try.func66 rfl (by decide) rfl rfl (by simp)]
  simp -implicitDefEqProofs [l5, l7, splice]
def fAClone : Fun
  | [.sl true b len cap] => (asB8 b).bind fun zs => if zs.length = len ∧ len ≤ 500000 then some (.own 0 0 0 len 1 (.whole 5), [B8 zs]) else none
  | _ => none
theorem aclone_pure : Pure Try.prog 66 fAClone := (runF_pure k0_ok follows_mixed dm_ok 100000 1 66).weaken fun args r h => by
  unfold fAClone at h
  split at h
  · rename_i b len cap
    obtain ⟨zs, hz, he⟩ := Option.bind_eq_some_iff.1 h
    clear h
    split at he
    case isFalse => cases he
    rename_i hh
    obtain ⟨rfl, h1⟩ := hh
    obtain rfl := asB8_eq hz
    rw [← he]
    exact aclone_run zs cap h1
  · cases h
noncomputable def KZ : Nat → Option Con
  | 95 => some fSk
  | 96 => some fSk
  | 97 => some fNum
  | 66 => some fAClone
  | _ => none
theorem kz_ok : KOk Try.prog KZ := fun f F h => by
  unfold KZ at h
  split at h
  · cases h; exact ⟨asealed_pure, _, Try.func95, rfl, by decide⟩
  · cases h; exact ⟨aright_pure, _, Try.func96, rfl, by decide⟩
  · cases h; exact ⟨num_pure, _, Try.func97, rfl, by decide⟩
  · cases h; exact ⟨aclone_pure, _, Try.func66, rfl, by decide⟩
  · cases h
section
variable {D : FuncId → Nat → List Nat} {L d px : Nat} {args : List AV} {m : Mem}
theorem ckz_asealed : pvCall Try.prog KZ D L d px 95 args m = callBy fSk m px args := pvCall_by rfl
theorem ckz_aright : pvCall Try.prog KZ D L d px 96 args m = callBy fSk m px args := pvCall_by rfl
theorem ckz_num : pvCall Try.prog KZ D L d px 97 args m = callBy fNum m px args := pvCall_by rfl
theorem ckz_aclone : pvCall Try.prog KZ D L d px 66 args m = callBy fAClone m px args := pvCall_by rfl
end
theorem ekz_asealed : KZ 95 = some (.pure fSk) := rfl
theorem ekz_aright : KZ 96 = some (.pure fSk) := rfl
theorem ekz_num : KZ 97 = some (.pure fNum) := rfl
theorem ekz_aclone : KZ 66 = some (.pure fAClone) := rfl
attribute [simp] ckz_asealed ekz_asealed ckz_aright ekz_aright ckz_num ekz_num ckz_aclone ekz_aclone
def askK (v6 : Bool) : Int := if v6 = true then 128 else 8
def repK (v6 : Bool) : Int := if v6 = true then 129 else 0
def echA (re : Bool) (id nu : Int) (x : AV) : AV := .agg [.v (.bool re), .v (.int .u16 id), .v (.int .u16 nu), x]
def noEch : AV := echA false 0 0 (.v (.slice none 0 0))
def errE (e : Int) : AV × List (List AV) := (.tup [noEch, .v (.int .i64 e)], [])
def ecE (v6 : Bool) (ss ds zs : List Int) : Int := if zs.length < 8 then 4 else if ¬ skV v6 ss ds zs = 0 then 6 else if ¬ gb zs 0 = askK v6 ∧ ¬ gb zs 0 = repK v6 then 10 else if ¬ gb zs 1 = 0 then 5 else 0
def ecV (v6 : Bool) (ss ds zs : List Int) : AV × List (List AV) := if ecE v6 ss ds zs = 0 then (.tup [echA (decide (gb zs 0 = repK v6)) (w16 zs 4) (w16 zs 6) (.own 0 0 0 (zs.length - 8) 1 (.whole 5)), .v (.int .i64 0)], [B8 (zs.drop 8)]) else errE (ecE v6 ss ds zs)
end Go.Proofs.Ytmdafjegddnecaa
