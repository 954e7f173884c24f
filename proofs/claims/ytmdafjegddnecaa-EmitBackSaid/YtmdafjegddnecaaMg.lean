import Derived.Test.YtmdafjegddnecaaMu
/- The checksums of layer 37 as functions of values. -/
namespace Go.Proofs.Ytmdafjegddnecaa
open Go.Pm Go.Wb
set_option linter.unusedVariables false
set_option linter.unusedSimpArgs false
set_option maxRecDepth 1000000
set_option maxHeartbeats 4000000 in
theorem asealed_run (v6 : Bool) (ss ds zs : List Int) (nn : Bool) (cap : Option Nat) (hg : goodM ss ds zs zs.length) : runF Try.prog KN Dm 100000 1 95 [.v (.bool v6), .agg (B8 ss), .agg (B8 ds), .sl nn (B8 zs) zs.length cap] = some (.v (.int .u16 (skV v6 ss ds zs)), []) := by
  obtain ⟨_, hl, hs, hd, hz, bs, bd⟩ := hg
  have l40 : zs.length ≤ 1099511627776 := by omega
  have l64 : (zs.length : Int) ≤ 9223372036854775807 := by omega
  have t1 : ss.take 16 = ss := List.take_of_length_le (by omega)
  have t2 : ds.take 16 = ds := List.take_of_length_le (by omega)
  have p := sumTo_range (s := 0) (o := false) (Int.le_refl 0) (phead_b (v6 := true) (pr := 58) (n := (zs.length : Int)) (bytesB_iff.1 bs) (bytesB_iff.1 bd) (by omega) (by omega))
  have q := sumTo_range (s := 0) (o := false) (Int.le_refl 0) (bytesB_iff.1 hz)
  have r := sumTo_range (o := false) p.1 (bytesB_iff.1 hz)
  unfold runF skV ck ofV
  rw [pvCall_own (fn := Try.f95) rfl Try.func95 rfl (by decide) rfl rfl (by simp)]
  cases v6 with
  | true => simp -implicitDefEqProofs [fPse, fAdd, fEnd, hs, hd, hz, bs, bd, l40, l64, t1, t2, p, r, splice]
  | false => simp -implicitDefEqProofs [fPse, fAdd, fEnd, hz, hs, hd, t1, t2, l40, q, splice]
theorem asealed_pure : Pure Try.prog 95 fSk := (runF_pure kn_ok follows_mixed dm_ok 100000 1 95).weaken fun args r h => by
  unfold fSk at h
  split at h
  · rename_i v6 a b nn c len cap
    obtain ⟨ss, e1, h1⟩ := Option.bind_eq_some_iff.1 h
    obtain ⟨ds, e2, h2⟩ := Option.bind_eq_some_iff.1 h1
    obtain ⟨zs, e3, he⟩ := Option.bind_eq_some_iff.1 h2
    clear h h1 h2
    split at he
    case isFalse => cases he
    rename_i hh
    obtain rfl := hh.1
    obtain rfl := asB8_eq e1
    obtain rfl := asB8_eq e2
    obtain rfl := asB8_eq e3
    rw [← he]
    exact asealed_run v6 ss ds zs nn cap hh
  · cases h
set_option maxHeartbeats 4000000 in
theorem aright_run (v6 : Bool) (ss ds zs : List Int) (nn : Bool) (cap : Option Nat) (hg : goodM ss ds zs zs.length) : runF Try.prog KN Dm 100000 1 96 [.v (.bool v6), .agg (B8 ss), .agg (B8 ds), .sl nn (B8 zs) zs.length cap] = some (.v (.int .u16 (skV v6 ss ds zs)), []) := by
  obtain ⟨_, hl, hs, hd, hz, bs, bd⟩ := hg
  have l40 : zs.length ≤ 1099511627776 := by omega
  have l64 : (zs.length : Int) ≤ 9223372036854775807 := by omega
  have t1 : ss.take 16 = ss := List.take_of_length_le (by omega)
  have t2 : ds.take 16 = ds := List.take_of_length_le (by omega)
  have p := sumTo_range (s := 0) (o := false) (Int.le_refl 0) (phead_b (v6 := true) (pr := 58) (n := (zs.length : Int)) (bytesB_iff.1 bs) (bytesB_iff.1 bd) (by omega) (by omega))
  have q := sumTo_range (s := 0) (o := false) (Int.le_refl 0) (bytesB_iff.1 hz)
  have r := sumTo_range (o := false) p.1 (bytesB_iff.1 hz)
  unfold runF skV
  rw [pvCall_own (fn := Try.f96) rfl Try.func96 rfl (by decide) rfl rfl (by simp)]
  cases v6 with
  | true => simp -implicitDefEqProofs [fSealed, fCk, fOf, hs, hd, hz, bs, bd, l40, l64, t1, t2, p, r, splice]
  | false => simp -implicitDefEqProofs [fSealed, fCk, fOf, hz, hs, hd, t1, t2, l40, q, splice]
theorem aright_pure : Pure Try.prog 96 fSk := (runF_pure kn_ok follows_mixed dm_ok 100000 1 96).weaken fun args r h => by
  unfold fSk at h
  split at h
  · rename_i v6 a b nn c len cap
    obtain ⟨ss, e1, h1⟩ := Option.bind_eq_some_iff.1 h
    obtain ⟨ds, e2, h2⟩ := Option.bind_eq_some_iff.1 h1
    obtain ⟨zs, e3, he⟩ := Option.bind_eq_some_iff.1 h2
    clear h h1 h2
    split at he
    case isFalse => cases he
    rename_i hh
    obtain rfl := hh.1
    obtain rfl := asB8_eq e1
    obtain rfl := asB8_eq e2
    obtain rfl := asB8_eq e3
    rw [← he]
    exact aright_run v6 ss ds zs nn cap hh
  · cases h
end Go.Proofs.Ytmdafjegddnecaa

/- Echoes: both readers as functions of values. -/
namespace Go.Proofs.Ytmdafjegddnecaa
open Go.Pm Go.Wb
set_option linter.unusedVariables false
set_option linter.unusedSimpArgs false
set_option maxRecDepth 1000000
set_option maxHeartbeats 4000000 in
theorem aclone_run (zs : List Int) (cap : Option Nat) (hl : zs.length ≤ 500000) : runF Try.prog K0 Dm 100000 1 66 [.sl true (B8 zs) zs.length cap] = some (.own 0 0 0 zs.length 1 (.whole 5), [B8 zs]) := by
  have l5 : zs.length ≤ 549755813888 := by omega
  have l7 : zs.take zs.length = zs := List.take_length
  unfold runF
  rw [pvCall_own (fn := Try.f66) rfl Try.func66 rfl (by decide) rfl rfl (by simp)]
  simp -implicitDefEqProofs [l5, l7, splice]
def fAClone : Fun
  | [.sl true b len cap] => (asB8 b).bind fun zs => if zs.length = len ∧ len ≤ 500000 then some (.own 0 0 0 len 1 (.whole 5), [B8 zs]) else none
  | _ => none
theorem aclone_pure : Pure Try.prog 66 fAClone := (runF_pure k0_ok follows_mixed dm_ok 100000 1 66).weaken fun args r h => by
  unfold fAClone at h
  split at h
  · rename_i b len cap
    obtain ⟨zs, hz, he⟩ := Option.bind_eq_some_iff.1 h
    clear h
    split at he
    case isFalse => cases he
    rename_i hh
    obtain ⟨rfl, h1⟩ := hh
    obtain rfl := asB8_eq hz
    rw [← he]
    exact aclone_run zs cap h1
  · cases h
noncomputable def KZ : Nat → Option Con
  | 95 => some fSk
  | 96 => some fSk
  | 97 => some fNum
  | 66 => some fAClone
  | _ => none
theorem kz_ok : KOk Try.prog KZ := fun f F h => by
  unfold KZ at h
  split at h
  · cases h; exact ⟨asealed_pure, _, Try.func95, rfl, by decide⟩
  · cases h; exact ⟨aright_pure, _, Try.func96, rfl, by decide⟩
  · cases h; exact ⟨num_pure, _, Try.func97, rfl, by decide⟩
  · cases h; exact ⟨aclone_pure, _, Try.func66, rfl, by decide⟩
  · cases h
section
variable {D : FuncId → Nat → List Nat} {L d px : Nat} {args : List AV} {m : Mem}
theorem ckz_asealed : pvCall Try.prog KZ D L d px 95 args m = callBy fSk m px args := pvCall_by rfl
theorem ckz_aright : pvCall Try.prog KZ D L d px 96 args m = callBy fSk m px args := pvCall_by rfl
theorem ckz_num : pvCall Try.prog KZ D L d px 97 args m = callBy fNum m px args := pvCall_by rfl
theorem ckz_aclone : pvCall Try.prog KZ D L d px 66 args m = callBy fAClone m px args := pvCall_by rfl
end
theorem ekz_asealed : KZ 95 = some (.pure fSk) := rfl
theorem ekz_aright : KZ 96 = some (.pure fSk) := rfl
theorem ekz_num : KZ 97 = some (.pure fNum) := rfl
theorem ekz_aclone : KZ 66 = some (.pure fAClone) := rfl
attribute [simp] ckz_asealed ekz_asealed ckz_aright ekz_aright ckz_num ekz_num ckz_aclone ekz_aclone
def askK (v6 : Bool) : Int := if v6 = true then 128 else 8
def repK (v6 : Bool) : Int := if v6 = true then 129 else 0
def echA (re : Bool) (id nu : Int) (x : AV) : AV := .agg [.v (.bool re), .v (.int .u16 id), .v (.int .u16 nu), x]
def noEch : AV := echA false 0 0 (.v (.slice none 0 0))
def errE (e : Int) : AV × List (List AV) := (.tup [noEch, .v (.int .i64 e)], [])
def ecE (v6 : Bool) (ss ds zs : List Int) : Int := if zs.length < 8 then 4 else if ¬ skV v6 ss ds zs = 0 then 6 else if ¬ gb zs 0 = askK v6 ∧ ¬ gb zs 0 = repK v6 then 10 else if ¬ gb zs 1 = 0 then 5 else 0
def ecV (v6 : Bool) (ss ds zs : List Int) : AV × List (List AV) := if ecE v6 ss ds zs = 0 then (.tup [echA (decide (gb zs 0 = repK v6)) (w16 zs 4) (w16 zs 6) (.own 0 0 0 (zs.length - 8) 1 (.whole 5)), .v (.int .i64 0)], [B8 (zs.drop 8)]) else errE (ecE v6 ss ds zs)
end Go.Proofs.Ytmdafjegddnecaa

/- Echoes: answer.Read as a function of values. -/
namespace Go.Proofs.Ytmdafjegddnecaa
open Go.Pm Go.Wb
set_option linter.unusedVariables false
set_option linter.unusedSimpArgs false
set_option maxRecDepth 1000000
theorem orw (zs : List Int) (i : Nat) (hz : bytesB zs = true) : bits .or .u16 (IntKind.u16.wrap (IntKind.u16.wrap (gb zs i) * 256)) (IntKind.u16.wrap (gb zs (i + 1))) = w16 zs i := by
  have g := gb_range hz i
  have k := gb_range hz (i + 1)
  rw [wrapu16_id (x := gb zs i) (by omega) (by omega), wrapu16_id (x := gb zs (i + 1)) (by omega) (by omega), wrapu16_id (by omega) (by omega)]
  exact or16 _ _ (by omega) (by omega) (by omega) (by omega)
set_option maxHeartbeats 32000000 in
theorem aread_run (v6 : Bool) (ss ds zs : List Int) (nn : Bool) (cap : Option Nat) (hg : goodM ss ds zs zs.length) : runF Try.prog KZ Dm 100000 3 38 [.v (.bool v6), .agg (B8 ss), .agg (B8 ds), .sl nn (B8 zs) zs.length cap] = some (ecV v6 ss ds zs) := by
  have hof := fun (px : Nat) (args : List AV) (m : Mem) (hl : args.length ≤ 8) => pvCall_own (P := Try.prog) (K := KZ) (D := Dm) (L := 100000) (d := 1) (px := px) (args := args) (m := m) (f := 94) (fn := Try.f94) rfl Try.func94 rfl (by decide) rfl rfl hl
  have hve := fun (px : Nat) (args : List AV) (m : Mem) (hl : args.length ≤ Try.f141.ntmps) => pvCall_own (P := Try.prog) (K := KZ) (D := Dm) (L := 100000) (d := 0) (px := px) (args := args) (m := m) (f := 141) (fn := Try.f141) rfl Try.func141 rfl (by decide) rfl rfl hl
  obtain ⟨_, hl, hs, hd, hz, bs, bd⟩ := id hg
  have t1 : ss.take 16 = ss := List.take_of_length_le (by omega)
  have t2 : ds.take 16 = ds := List.take_of_length_le (by omega)
  unfold runF ecV ecE
  rw [pvCall_own (fn := Try.f38) rfl Try.func38 rfl (by decide) rfl rfl (by simp)]
  by_cases h8 : zs.length < 8
  · have i8 : (zs.length : Int) < 8 := by omega
    cases v6 with
    | true => simp -implicitDefEqProofs [hof, hve, h8, i8, hs, hd, t1, t2, errE, noEch, echA, splice]
    | false => simp -implicitDefEqProofs [hof, hve, h8, i8, hs, hd, t1, t2, errE, noEch, echA, splice]
  have i8 : ¬ (zs.length : Int) < 8 := by omega
  by_cases hk : skV v6 ss ds zs = 0
  case neg =>
    have hkn : (skV v6 ss ds zs != 0) = true := by simp [hk]
    have hke : (skV v6 ss ds zs == 0) = false := by simp [hk]
    cases v6 with
    | true => simp -implicitDefEqProofs [hof, hve, h8, i8, hg, hk, hkn, hke, fSk, hs, hd, t1, t2, errE, noEch, echA, splice]
    | false => simp -implicitDefEqProofs [hof, hve, h8, i8, hg, hk, hkn, hke, fSk, hs, hd, t1, t2, errE, noEch, echA, splice]
  have a0 := B8_at00 zs (by omega)
  have a1 := B8_at0 zs 1 (by omega)
  have l0 : 0 < zs.length := by omega
  have i0 : (0 : Int) < (zs.length : Int) := by omega
  have l1 : 1 < zs.length := by omega
  have i1 : (1 : Int) < (zs.length : Int) := by omega
  have a4 := B8_at0 zs 4 (by omega)
  have a5 := B8_at0 zs 5 (by omega)
  have a6 := B8_at0 zs 6 (by omega)
  have a7 := B8_at0 zs 7 (by omega)
  have l4 : 4 < zs.length := by omega
  have l5 : 5 < zs.length := by omega
  have l6 : 6 < zs.length := by omega
  have l7 : 7 < zs.length := by omega
  have i4 : (4 : Int) < (zs.length : Int) := by omega
  have i5 : (5 : Int) < (zs.length : Int) := by omega
  have i6 : (6 : Int) < (zs.length : Int) := by omega
  have i7 : (7 : Int) < (zs.length : Int) := by omega
  have k1 : 8 ≤ zs.length := by omega
  have k2 : (8 : Int) ≤ (zs.length : Int) := by omega
  have k3 : (zs.drop 8).length = zs.length - 8 := by simp
  have k4 : zs.length - 8 ≤ 500000 := by omega
  have k5 : (zs.drop 8).take (zs.length - 8) = zs.drop 8 := List.take_of_length_le (by simp)
  have k6 : 0 < zs.length := by omega
  have or1 := orw zs 4 hz
  have or2 := orw zs 6 hz
  cases v6 with
  | true =>
    by_cases ha : gb zs 0 = 128
    case neg =>
      have n1 : (gb zs 0 != 128) = true := by simp [ha]
      have n1e : (gb zs 0 == 128) = false := by simp [ha]
      by_cases hr : gb zs 0 = 129
      case neg =>
        have n2 : (gb zs 0 != 129) = true := by simp [hr]
        simp -implicitDefEqProofs [hof, hve, h8, i8, hg, hk, a0, l0, i0, a1, l1, i1, fSk, hs, hd, t1, t2, askK, repK, errE, noEch, echA, splice, ha, hr, n1, n1e, n2]
      by_cases h1 : gb zs 1 = 0
      case neg =>
        have m1 : (gb zs 1 != 0) = true := by simp [h1]
        have m1e : (gb zs 1 == 0) = false := by simp [h1]
        simp -implicitDefEqProofs [hof, hve, h8, i8, hg, hk, a0, l0, i0, a1, l1, i1, fSk, hs, hd, t1, t2, askK, repK, errE, noEch, echA, splice, hr, h1, m1, m1e]
      simp -implicitDefEqProofs [hof, hve, h8, i8, hg, hk, a0, l0, i0, a1, l1, i1, fSk, hs, hd, t1, t2, askK, repK, errE, noEch, echA, splice, hr, h1, a4, a5, a6, a7, l4, l5, l6, l7, i4, i5, i6, i7, k1, k2, k3, k4, k5, k6, fAClone, or1, or2, IntKind.bits, Nat.testBit_eq_decide_div_mod_eq]
    by_cases h1 : gb zs 1 = 0
    case neg =>
      have m1 : (gb zs 1 != 0) = true := by simp [h1]
      have m1e : (gb zs 1 == 0) = false := by simp [h1]
      simp -implicitDefEqProofs [hof, hve, h8, i8, hg, hk, a0, l0, i0, a1, l1, i1, fSk, hs, hd, t1, t2, askK, repK, errE, noEch, echA, splice, ha, h1, m1, m1e]
    simp -implicitDefEqProofs [hof, hve, h8, i8, hg, hk, a0, l0, i0, a1, l1, i1, fSk, hs, hd, t1, t2, askK, repK, errE, noEch, echA, splice, ha, h1, a4, a5, a6, a7, l4, l5, l6, l7, i4, i5, i6, i7, k1, k2, k3, k4, k5, k6, fAClone, or1, or2, IntKind.bits, Nat.testBit_eq_decide_div_mod_eq]
  | false =>
    by_cases ha : gb zs 0 = 8
    case neg =>
      have n1 : (gb zs 0 != 8) = true := by simp [ha]
      have n1e : (gb zs 0 == 8) = false := by simp [ha]
      by_cases hr : gb zs 0 = 0
      case neg =>
        have n2 : (gb zs 0 != 0) = true := by simp [hr]
        simp -implicitDefEqProofs [hof, hve, h8, i8, hg, hk, a0, l0, i0, a1, l1, i1, fSk, hs, hd, t1, t2, askK, repK, errE, noEch, echA, splice, ha, hr, n1, n1e, n2]
      by_cases h1 : gb zs 1 = 0
      case neg =>
        have m1 : (gb zs 1 != 0) = true := by simp [h1]
        have m1e : (gb zs 1 == 0) = false := by simp [h1]
        simp -implicitDefEqProofs [hof, hve, h8, i8, hg, hk, a0, l0, i0, a1, l1, i1, fSk, hs, hd, t1, t2, askK, repK, errE, noEch, echA, splice, hr, h1, m1, m1e]
      simp -implicitDefEqProofs [hof, hve, h8, i8, hg, hk, a0, l0, i0, a1, l1, i1, fSk, hs, hd, t1, t2, askK, repK, errE, noEch, echA, splice, hr, h1, a4, a5, a6, a7, l4, l5, l6, l7, i4, i5, i6, i7, k1, k2, k3, k4, k5, k6, fAClone, or1, or2, IntKind.bits, Nat.testBit_eq_decide_div_mod_eq]
    by_cases h1 : gb zs 1 = 0
    case neg =>
      have m1 : (gb zs 1 != 0) = true := by simp [h1]
      have m1e : (gb zs 1 == 0) = false := by simp [h1]
      simp -implicitDefEqProofs [hof, hve, h8, i8, hg, hk, a0, l0, i0, a1, l1, i1, fSk, hs, hd, t1, t2, askK, repK, errE, noEch, echA, splice, ha, h1, m1, m1e]
    simp -implicitDefEqProofs [hof, hve, h8, i8, hg, hk, a0, l0, i0, a1, l1, i1, fSk, hs, hd, t1, t2, askK, repK, errE, noEch, echA, splice, ha, h1, a4, a5, a6, a7, l4, l5, l6, l7, i4, i5, i6, i7, k1, k2, k3, k4, k5, k6, fAClone, or1, or2, IntKind.bits, Nat.testBit_eq_decide_div_mod_eq]
end Go.Proofs.Ytmdafjegddnecaa

/- Echoes: the reference's Read as a function of values. -/
namespace Go.Proofs.Ytmdafjegddnecaa
open Go.Pm Go.Wb
set_option linter.unusedVariables false
set_option linter.unusedSimpArgs false
set_option maxRecDepth 1000000
def fARead : Fun
  | [.v (.bool v6), .agg a, .agg b, .sl nn c len cap] => (asB8 a).bind fun ss => (asB8 b).bind fun ds => (asB8 c).bind fun zs => if goodM ss ds zs len then some (ecV v6 ss ds zs) else none
  | _ => none
theorem aread_pure : Pure Try.prog 38 fARead := (runF_pure kz_ok follows_mixed dm_ok 100000 3 38).weaken fun args r h => by
  unfold fARead at h
  split at h
  · rename_i v6 a b nn c len cap
    obtain ⟨ss, e1, h1⟩ := Option.bind_eq_some_iff.1 h
    obtain ⟨ds, e2, h2⟩ := Option.bind_eq_some_iff.1 h1
    obtain ⟨zs, e3, he⟩ := Option.bind_eq_some_iff.1 h2
    clear h h1 h2
    split at he
    case isFalse => cases he
    rename_i hh
    obtain rfl := hh.1
    obtain rfl := asB8_eq e1
    obtain rfl := asB8_eq e2
    obtain rfl := asB8_eq e3
    rw [← he]
    exact aread_run v6 ss ds zs nn cap hh
  · cases h
set_option maxHeartbeats 16000000 in
theorem arread_run (v6 : Bool) (ss ds zs : List Int) (nn : Bool) (cap : Option Nat) (hg : goodM ss ds zs zs.length) : runF Try.prog KZ Dm 100000 1 39 [.v (.bool v6), .agg (B8 ss), .agg (B8 ds), .sl nn (B8 zs) zs.length cap] = some (ecV v6 ss ds zs) := by
  obtain ⟨_, hl, hs, hd, hz, bs, bd⟩ := id hg
  have t1 : ss.take 16 = ss := List.take_of_length_le (by omega)
  have t2 : ds.take 16 = ds := List.take_of_length_le (by omega)
  unfold runF ecV ecE
  rw [pvCall_own (fn := Try.f39) rfl Try.func39 rfl (by decide) rfl rfl (by simp)]
  by_cases h8 : zs.length < 8
  · have i8 : (zs.length : Int) < 8 := by omega
    simp -implicitDefEqProofs [h8, i8, hs, hd, t1, t2, errE, noEch, echA, splice]
  have i8 : ¬ (zs.length : Int) < 8 := by omega
  by_cases hk : skV v6 ss ds zs = 0
  case neg =>
    have hkn : (skV v6 ss ds zs != 0) = true := by simp [hk]
    have hke : (skV v6 ss ds zs == 0) = false := by simp [hk]
    simp -implicitDefEqProofs [h8, i8, hg, hk, hkn, hke, fSk, hs, hd, t1, t2, errE, noEch, echA, splice]
  have a0 := B8_at00 zs (by omega)
  have a1 := B8_at0 zs 1 (by omega)
  have l0 : 0 < zs.length := by omega
  have i0 : (0 : Int) < (zs.length : Int) := by omega
  have l1 : 1 < zs.length := by omega
  have i1 : (1 : Int) < (zs.length : Int) := by omega
  have i5 : (5 : Int) < (zs.length : Int) := by omega
  have i7 : (7 : Int) < (zs.length : Int) := by omega
  have k1 : 8 ≤ zs.length := by omega
  have k2 : (8 : Int) ≤ (zs.length : Int) := by omega
  have k3 : (zs.drop 8).length = zs.length - 8 := by simp
  have k4 : zs.length - 8 ≤ 549755813888 := by omega
  have k5 : (zs.drop 8).take (zs.length - 8) = zs.drop 8 := List.take_of_length_le (by simp)
  have k6 : zs.length ≤ 1099511627776 := by omega
  have w0 := w16_range (bytesB_iff.1 hz) 4
  have w1 := w16_range (bytesB_iff.1 hz) 6
  have e0 : IntKind.u16.wrap (w16 zs 4) = w16 zs 4 := wrapu16_id (by omega) (by omega)
  have e1 : IntKind.u16.wrap (w16 zs 6) = w16 zs 6 := wrapu16_id (by omega) (by omega)
  have g1 := gb_range hz 1
  have hp : (0 < gb zs 1) = ¬ gb zs 1 = 0 := by apply propext; omega
  cases v6 with
  | true =>
    by_cases ha : gb zs 0 = 128
    case neg =>
      have xa : (gb zs 0 == 128) = false := by simp [ha]
      by_cases hr : gb zs 0 = 129
      case neg =>
        have xr : (gb zs 0 == 129) = false := by simp [hr]
        simp -implicitDefEqProofs [h8, i8, hg, hk, a0, l0, i0, a1, l1, i1, fSk, fNum, hz, hs, hd, t1, t2, hp, askK, repK, errE, noEch, echA, splice, ha, hr, xa, xr]
      by_cases h1 : gb zs 1 = 0
      case neg => simp -implicitDefEqProofs [h8, i8, hg, hk, a0, l0, i0, a1, l1, i1, fSk, fNum, hz, hs, hd, t1, t2, hp, askK, repK, errE, noEch, echA, splice, hr, h1]
      simp -implicitDefEqProofs [h8, i8, hg, hk, a0, l0, i0, a1, l1, i1, fSk, fNum, hz, hs, hd, t1, t2, hp, askK, repK, errE, noEch, echA, splice, hr, h1, i5, i7, k1, k2, k3, k4, k5, k6, e0, e1]
    by_cases h1 : gb zs 1 = 0
    case neg => simp -implicitDefEqProofs [h8, i8, hg, hk, a0, l0, i0, a1, l1, i1, fSk, fNum, hz, hs, hd, t1, t2, hp, askK, repK, errE, noEch, echA, splice, ha, h1]
    simp -implicitDefEqProofs [h8, i8, hg, hk, a0, l0, i0, a1, l1, i1, fSk, fNum, hz, hs, hd, t1, t2, hp, askK, repK, errE, noEch, echA, splice, ha, h1, i5, i7, k1, k2, k3, k4, k5, k6, e0, e1]
  | false =>
    by_cases ha : gb zs 0 = 8
    case neg =>
      have xa : (gb zs 0 == 8) = false := by simp [ha]
      by_cases hr : gb zs 0 = 0
      case neg =>
        have xr : (gb zs 0 == 0) = false := by simp [hr]
        simp -implicitDefEqProofs [h8, i8, hg, hk, a0, l0, i0, a1, l1, i1, fSk, fNum, hz, hs, hd, t1, t2, hp, askK, repK, errE, noEch, echA, splice, ha, hr, xa, xr]
      by_cases h1 : gb zs 1 = 0
      case neg => simp -implicitDefEqProofs [h8, i8, hg, hk, a0, l0, i0, a1, l1, i1, fSk, fNum, hz, hs, hd, t1, t2, hp, askK, repK, errE, noEch, echA, splice, hr, h1]
      simp -implicitDefEqProofs [h8, i8, hg, hk, a0, l0, i0, a1, l1, i1, fSk, fNum, hz, hs, hd, t1, t2, hp, askK, repK, errE, noEch, echA, splice, hr, h1, i5, i7, k1, k2, k3, k4, k5, k6, e0, e1]
    by_cases h1 : gb zs 1 = 0
    case neg => simp -implicitDefEqProofs [h8, i8, hg, hk, a0, l0, i0, a1, l1, i1, fSk, fNum, hz, hs, hd, t1, t2, hp, askK, repK, errE, noEch, echA, splice, ha, h1]
    simp -implicitDefEqProofs [h8, i8, hg, hk, a0, l0, i0, a1, l1, i1, fSk, fNum, hz, hs, hd, t1, t2, hp, askK, repK, errE, noEch, echA, splice, ha, h1, i5, i7, k1, k2, k3, k4, k5, k6, e0, e1]
theorem arread_pure : Pure Try.prog 39 fARead := (runF_pure kz_ok follows_mixed dm_ok 100000 1 39).weaken fun args r h => by
  unfold fARead at h
  split at h
  · rename_i v6 a b nn c len cap
    obtain ⟨ss, e1, h1⟩ := Option.bind_eq_some_iff.1 h
    obtain ⟨ds, e2, h2⟩ := Option.bind_eq_some_iff.1 h1
    obtain ⟨zs, e3, he⟩ := Option.bind_eq_some_iff.1 h2
    clear h h1 h2
    split at he
    case isFalse => cases he
    rename_i hh
    obtain rfl := hh.1
    obtain rfl := asB8_eq e1
    obtain rfl := asB8_eq e2
    obtain rfl := asB8_eq e3
    rw [← he]
    exact arread_run v6 ss ds zs nn cap hh
  · cases h
end Go.Proofs.Ytmdafjegddnecaa

/- Echoes: both writers as functions of values. -/
namespace Go.Proofs.Ytmdafjegddnecaa
open Go.Pm Go.Wb
set_option linter.unusedVariables false
set_option linter.unusedSimpArgs false
set_option maxRecDepth 1000000
theorem emem0_at (zs : List Int) (n : Nat) : mem0 zs n = if n = 0 then some ⟨0, B8 zs⟩ else none := rfl
@[simp] theorem ew64_m1 : IntKind.i64.wrap (-1) = -1 := by decide
theorem etdiv_nn {x y : Int} (h : 0 ≤ x) : x.tdiv y = x / y := Int.tdiv_eq_ediv_of_nonneg h
theorem etmod_nn {x y : Int} (h : 0 ≤ x) : x.tmod y = x % y := Int.tmod_eq_emod_of_nonneg h
theorem eB8_snoc (zs : List Int) (x : Int) : B8 zs ++ [.v (.int .u8 x)] = B8 (zs ++ [x]) := by simp [B8]
theorem etk1 (zs : List Int) (a : Int) : (zs ++ [a]).take (zs.length + 1) = zs ++ [a] := List.take_of_length_le (by simp)
theorem etk2 (zs : List Int) (a b : Int) : (zs ++ [a, b]).take (zs.length + 1 + 1) = zs ++ [a, b] := List.take_of_length_le (by simp)
set_option maxHeartbeats 8000000 in
theorem elay_run (zs : List Int) (n : Int) (h0 : 0 ≤ n) (h1 : n < 4294967296) (hl : zs.length ≤ 500000) : (pvCall Try.prog K0 Dm 100000 1 1 98 (.own 0 0 0 zs.length 1 (.whole 5) :: [.v (.int .u32 n), .v (.int .i64 2)]) (mem0 zs)).bind (outApp 5) = some (zs ++ [n / 256 % 256, n % 256]) := by
  have l1 : zs.length ≤ 549755813887 := by omega
  have l2 : zs.length ≤ 549755813886 := by omega
  have d1 : 0 ≤ n / 256 := by omega
  have e0 : IntKind.u32.wrap n = n := wrapu32_id (by omega) (by omega)
  have e1 : IntKind.u32.wrap (n / 256) = n / 256 := wrapu32_id (by omega) (by omega)
  have e4 : IntKind.u32.wrap (n % 256) = n % 256 := wrapu32_id (by omega) (by omega)
  have e5 : IntKind.u32.wrap (n / 256 % 256) = n / 256 % 256 := wrapu32_id (by omega) (by omega)
  rw [pvCall_own (fn := Try.f98) rfl Try.func98 rfl (by decide) rfl rfl (by simp)]
  simp -implicitDefEqProofs [d1, e0, e1, e4, e5, etdiv_nn, etmod_nn, wrapu8_mod, fdiv_nn, emem0_at, l1, l2, etk1, etk2, eB8_snoc, h0, loopK_pos, splice, IntKind.bits, outApp]
def fELay : App := fun zs xs => match xs with
  | [.v (.int .u32 n), .v (.int .i64 2)] => if 0 ≤ n ∧ n < 4294967296 ∧ zs.length ≤ 500000 then some [n / 256 % 256, n % 256] else none
  | _ => none
theorem elay_app : AppOk Try.prog 98 5 fELay := app_of_run k0_ok follows_mixed dm_ok 100000 1 98 fun zs xs ys h => by
  unfold fELay at h
  split at h
  · split at h
    · rename_i hh; cases h; exact elay_run zs _ hh.1 hh.2.1 hh.2.2
    · cases h
  · cases h
noncomputable def KAW : Nat → Option Con
  | 98 => some (.app 5 fELay)
  | 95 => some fSk
  | 96 => some fSk
  | _ => none
theorem kaw_ok : KOk Try.prog KAW := fun f F h => by
  unfold KAW at h
  split at h
  · cases h; exact ⟨elay_app, _, Try.func98, rfl, by decide⟩
  · cases h; exact ⟨asealed_pure, _, Try.func95, rfl, by decide⟩
  · cases h; exact ⟨aright_pure, _, Try.func96, rfl, by decide⟩
  · cases h
section
variable {D : FuncId → Nat → List Nat} {L d px : Nat} {args : List AV} {m : Mem}
theorem ckaw_lay : pvCall Try.prog KAW D L d px 98 args m = appK m (appE 5 fELay m px args) := pvCall_app rfl
theorem ckaw_asealed : pvCall Try.prog KAW D L d px 95 args m = callBy fSk m px args := pvCall_by rfl
theorem ckaw_aright : pvCall Try.prog KAW D L d px 96 args m = callBy fSk m px args := pvCall_by rfl
end
theorem ekaw_lay : KAW 98 = some (.app 5 fELay) := rfl
theorem ekaw_asealed : KAW 95 = some (.pure fSk) := rfl
theorem ekaw_aright : KAW 96 = some (.pure fSk) := rfl
attribute [simp] ckaw_lay ckaw_asealed ckaw_aright ekaw_lay ekaw_asealed ekaw_aright
theorem eskV_range {v6 : Bool} {ss ds zs : List Int} (hz : bytesB zs = true) (bs : bytesB ss = true) (bd : bytesB ds = true) : 0 ≤ skV v6 ss ds zs ∧ skV v6 ss ds zs ≤ 65535 := by
  cases v6 with
  | false => exact ofV_range hz
  | true => exact ck_range (bytesB_iff.1 hz) (sumTo_range (s := 0) (o := false) (Int.le_refl 0) (phead_b (v6 := true) (pr := 58) (n := (zs.length : Int)) (bytesB_iff.1 bs) (bytesB_iff.1 bd) (by omega) (by omega))).1
def ewE (e : Int) : AV × List (List AV) := (.tup [.v (.slice none 0 0), .v (.int .i64 e)], [])
def ewC (W : List Int) : AV × List (List AV) := (.tup [.own 0 0 0 W.length 1 (.whole 5), .v (.int .i64 0)], [B8 W])
/-- An echo's number of kind. -/
def kdK (v6 re : Bool) : Int := if re = true then repK v6 else askK v6
/-- An echo's words and data. -/
def ewX (id nu : Int) (ps : List Int) : List Int := id / 256 :: id % 256 :: nu / 256 :: nu % 256 :: ps
/-- A message with its checksum's place full. -/
def ewM (k K : Int) (X : List Int) : List Int := k :: 0 :: K / 256 :: K % 256 :: X
def ewV (v6 : Bool) (ss ds : List Int) (re : Bool) (id nu : Int) (ps : List Int) : AV × List (List AV) := if 1652 < ps.length then ewE 3 else ewC (ewM (kdK v6 re) (skV v6 ss ds (kdK v6 re :: 0 :: 0 :: 0 :: ewX id nu ps)) (ewX id nu ps))
def goodE (id nu : Int) (ss ds ps : List Int) (len : Nat) : Prop := ps.length = len ∧ len ≤ 500000 ∧ ss.length = 16 ∧ ds.length = 16 ∧ bytesB ps = true ∧ bytesB ss = true ∧ bytesB ds = true ∧ 0 ≤ id ∧ id ≤ 65535 ∧ 0 ≤ nu ∧ nu ≤ 65535
instance (id nu : Int) (ss ds ps : List Int) (len : Nat) : Decidable (goodE id nu ss ds ps len) := by unfold goodE; infer_instance
def fAWrite : Fun
  | [.v (.bool v6), .agg a, .agg b, .agg [.v (.bool re), .v (.int .u16 id), .v (.int .u16 nu), .sl nn d len cap]] => (asB8 a).bind fun ss => (asB8 b).bind fun ds => (asB8 d).bind fun ps => if goodE id nu ss ds ps len then some (ewV v6 ss ds re id nu ps) else none
  | _ => none
set_option maxHeartbeats 32000000 in
theorem awrite_run (v6 : Bool) (ss ds : List Int) (re : Bool) (id nu : Int) (ps : List Int) (nn : Bool) (cap : Option Nat) (hg : goodE id nu ss ds ps ps.length) : runF Try.prog KAW Dm 100000 3 40 [.v (.bool v6), .agg (B8 ss), .agg (B8 ds), .agg [.v (.bool re), .v (.int .u16 id), .v (.int .u16 nu), .sl nn (B8 ps) ps.length cap]] = some (ewV v6 ss ds re id nu ps) := by
  have hof := fun (px : Nat) (args : List AV) (m : Mem) (hl : args.length ≤ 8) => pvCall_own (P := Try.prog) (K := KAW) (D := Dm) (L := 100000) (d := 1) (px := px) (args := args) (m := m) (f := 94) (fn := Try.f94) rfl Try.func94 rfl (by decide) rfl rfl hl
  have hve := fun (px : Nat) (args : List AV) (m : Mem) (hl : args.length ≤ Try.f141.ntmps) => pvCall_own (P := Try.prog) (K := KAW) (D := Dm) (L := 100000) (d := 0) (px := px) (args := args) (m := m) (f := 141) (fn := Try.f141) rfl Try.func141 rfl (by decide) rfl rfl hl
  obtain ⟨_, hl, hs, hd, hz, bs, bd, a0, a1, b0, b1⟩ := hg
  have t1 : ss.take 16 = ss := List.take_of_length_le (by omega)
  have t2 : ds.take 16 = ds := List.take_of_length_le (by omega)
  have z1 : IntKind.i64.wrap (8 + (ps.length : Int)) = 8 + (ps.length : Int) := wrap64_id (by omega) (by omega)
  unfold runF ewV
  rw [pvCall_own (fn := Try.f40) rfl Try.func40 rfl (by decide) rfl rfl (by simp)]
  by_cases h3 : 1652 < ps.length
  · have i3 : (1660 : Int) < 8 + (ps.length : Int) := by omega
    have j3 : (1652 : Int) < (ps.length : Int) := by omega
    simp -implicitDefEqProofs [t1, t2, hs, hd, ewE, splice, z1, h3, i3, j3]
  have i3 : ¬ (1660 : Int) < 8 + (ps.length : Int) := by omega
  have j3 : ¬ (1652 : Int) < (ps.length : Int) := by omega
  have q1 : (ewX id nu ps).length = 4 + ps.length := by simp [ewX]; omega
  have q2 : bytesB (ewX id nu ps) = true := by
    unfold ewX
    simp only [bytesB_cons, hz, Bool.and_true, Bool.and_eq_true, decide_eq_true_eq]
    omega
  have q3 : ps.length ≤ 549755813888 := by omega
  have q3a : ps.length ≤ 549755813884 := by omega
  have q3b : ps.length ≤ 549755813880 := by omega
  have q4 : 4 + ps.length ≤ 549755813888 := by omega
  have q5 : 4 + 4 + ps.length ≤ 549755813888 := by omega
  have q6 : 8 + ps.length ≤ 549755813888 := by omega
  have q7 : 4 + (4 + ps.length) ≤ 549755813888 := by omega
  have q8 : ps.take ps.length = ps := List.take_length
  have q9 : (ewX id nu ps).take (4 + ps.length) = ewX id nu ps := List.take_of_length_le (by omega)
  have m1 : id / 256 % 256 = id / 256 := by omega
  have m2 : nu / 256 % 256 = nu / 256 := by omega
  have m3 : id.fdiv 256 = id / 256 := Int.fdiv_eq_ediv_of_nonneg _ (by omega)
  have m4 : nu.fdiv 256 = nu / 256 := Int.fdiv_eq_ediv_of_nonneg _ (by omega)
  have m5 : IntKind.u8.wrap (id / 256) = id / 256 := wrapu8_id (by omega) (by omega)
  have m6 : IntKind.u8.wrap (nu / 256) = nu / 256 := wrapu8_id (by omega) (by omega)
  have m7 : IntKind.u8.wrap id = id % 256 := by simp [IntKind.wrap, IntKind.signed, IntKind.bits]
  have m8 : IntKind.u8.wrap nu = nu % 256 := by simp [IntKind.wrap, IntKind.signed, IntKind.bits]
  have m9 : IntKind.u32.wrap id = id := wrapu32_id (by omega) (by omega)
  have m10 : IntKind.u32.wrap nu = nu := wrapu32_id (by omega) (by omega)
  have m11 : IntKind.u16.wrap (id / 256) = id / 256 := wrapu16_id (by omega) (by omega)
  have m12 : IntKind.u16.wrap (nu / 256) = nu / 256 := wrapu16_id (by omega) (by omega)
  have m13 : id < 4294967296 := by omega
  have m14 : nu < 4294967296 := by omega
  have hF : AV.v (.int .u8 (id / 256)) :: AV.v (.int .u8 (id % 256)) :: AV.v (.int .u8 (nu / 256)) :: AV.v (.int .u8 (nu % 256)) :: B8 ps = B8 (ewX id nu ps) := rfl
  have hX : [id / 256, id % 256, nu / 256, nu % 256] ++ ps = ewX id nu ps := rfl
  have hX2 : id / 256 :: id % 256 :: nu / 256 :: nu % 256 :: ps = ewX id nu ps := rfl
  generalize ewX id nu ps = X at *
  have q10 : 4 + (4 + ps.length) = 8 + ps.length := by omega
  have q11 : (2 : Int) < 8 + (ps.length : Int) := by omega
  have q12 : (3 : Int) < 8 + (ps.length : Int) := by omega
  have tX : ∀ a b c d : AV, (a :: b :: c :: d :: B8 X).take (8 + ps.length) = a :: b :: c :: d :: B8 X := fun _ _ _ _ => List.take_of_length_le (by simp [q1]; omega)
  have tY : ∀ a b c d : AV, (a :: b :: c :: d :: B8 ps).take (4 + ps.length) = a :: b :: c :: d :: B8 ps := fun _ _ _ _ => List.take_of_length_le (by simp; omega)
  have hgm : ∀ k : Int, 0 ≤ k → k ≤ 255 → goodM ss ds (k :: 0 :: 0 :: 0 :: X) (8 + ps.length) := fun k k0 k1 => ⟨by simp [q1]; omega, by omega, hs, hd, by simp only [bytesB_cons, q2]; simp [k0, k1], bs, bd⟩
  obtain rfl | rfl : v6 = true ∨ v6 = false := by cases v6 <;> simp
  all_goals obtain rfl | rfl : re = true ∨ re = false := by cases re <;> simp
  · have hgk := hgm 129 (by decide) (by decide)
    have hK := eskV_range (v6 := true) hgk.2.2.2.2.1 bs bd
    have hk : kdK true true = 129 := rfl
    generalize hKe : skV true ss ds (129 :: 0 :: 0 :: 0 :: X) = K at *
    have r1 : K.fdiv 256 = K / 256 := Int.fdiv_eq_ediv_of_nonneg _ (by omega)
    have r2 : K.tdiv 256 = K / 256 := Int.tdiv_eq_ediv_of_nonneg (by omega)
    have r3 : K.tmod 256 = K % 256 := Int.tmod_eq_emod_of_nonneg (by omega)
    have r4 : IntKind.u8.wrap (K / 256) = K / 256 := wrapu8_id (by omega) (by omega)
    have r5 : IntKind.u8.wrap (K % 256) = K % 256 := wrapu8_id (by omega) (by omega)
    have r6 : IntKind.u8.wrap K = K % 256 := by simp [IntKind.wrap, IntKind.signed, IntKind.bits]
    have r7 : IntKind.u16.wrap (K / 256) = K / 256 := wrapu16_id (by omega) (by omega)
    have r8 : IntKind.u16.wrap (K % 256) = K % 256 := wrapu16_id (by omega) (by omega)
    simp -implicitDefEqProofs [hof, hve, fSk, hk, t1, t2, hs, hd, splice, z1, h3, i3, j3, q1, q2, q3, q3a, q3b, q4, q5, q6, q7, q8, q9, q10, q11, q12, m1, m2, m3, m4, m5, m6, m7, m8, m9, m10, m11, m12, m13, m14, a0, b0, hKe, hX, hX2, hF, tX, tY, hgk, r1, r2, r3, r4, r5, r6, r7, r8, ewC, ewM, fELay, appE, asB8_nil'', asB8_cons'', IntKind.bits, Nat.testBit_eq_decide_div_mod_eq]
    all_goals exact ⟨by omega, rfl⟩
  · have hgk := hgm 128 (by decide) (by decide)
    have hK := eskV_range (v6 := true) hgk.2.2.2.2.1 bs bd
    have hk : kdK true false = 128 := rfl
    generalize hKe : skV true ss ds (128 :: 0 :: 0 :: 0 :: X) = K at *
    have r1 : K.fdiv 256 = K / 256 := Int.fdiv_eq_ediv_of_nonneg _ (by omega)
    have r2 : K.tdiv 256 = K / 256 := Int.tdiv_eq_ediv_of_nonneg (by omega)
    have r3 : K.tmod 256 = K % 256 := Int.tmod_eq_emod_of_nonneg (by omega)
    have r4 : IntKind.u8.wrap (K / 256) = K / 256 := wrapu8_id (by omega) (by omega)
    have r5 : IntKind.u8.wrap (K % 256) = K % 256 := wrapu8_id (by omega) (by omega)
    have r6 : IntKind.u8.wrap K = K % 256 := by simp [IntKind.wrap, IntKind.signed, IntKind.bits]
    have r7 : IntKind.u16.wrap (K / 256) = K / 256 := wrapu16_id (by omega) (by omega)
    have r8 : IntKind.u16.wrap (K % 256) = K % 256 := wrapu16_id (by omega) (by omega)
    simp -implicitDefEqProofs [hof, hve, fSk, hk, t1, t2, hs, hd, splice, z1, h3, i3, j3, q1, q2, q3, q3a, q3b, q4, q5, q6, q7, q8, q9, q10, q11, q12, m1, m2, m3, m4, m5, m6, m7, m8, m9, m10, m11, m12, m13, m14, a0, b0, hKe, hX, hX2, hF, tX, tY, hgk, r1, r2, r3, r4, r5, r6, r7, r8, ewC, ewM, fELay, appE, asB8_nil'', asB8_cons'', IntKind.bits, Nat.testBit_eq_decide_div_mod_eq]
    all_goals exact ⟨by omega, rfl⟩
  · have hgk := hgm 0 (by decide) (by decide)
    have hK := eskV_range (v6 := false) hgk.2.2.2.2.1 bs bd
    have hk : kdK false true = 0 := rfl
    generalize hKe : skV false ss ds (0 :: 0 :: 0 :: 0 :: X) = K at *
    have r1 : K.fdiv 256 = K / 256 := Int.fdiv_eq_ediv_of_nonneg _ (by omega)
    have r2 : K.tdiv 256 = K / 256 := Int.tdiv_eq_ediv_of_nonneg (by omega)
    have r3 : K.tmod 256 = K % 256 := Int.tmod_eq_emod_of_nonneg (by omega)
    have r4 : IntKind.u8.wrap (K / 256) = K / 256 := wrapu8_id (by omega) (by omega)
    have r5 : IntKind.u8.wrap (K % 256) = K % 256 := wrapu8_id (by omega) (by omega)
    have r6 : IntKind.u8.wrap K = K % 256 := by simp [IntKind.wrap, IntKind.signed, IntKind.bits]
    have r7 : IntKind.u16.wrap (K / 256) = K / 256 := wrapu16_id (by omega) (by omega)
    have r8 : IntKind.u16.wrap (K % 256) = K % 256 := wrapu16_id (by omega) (by omega)
    simp -implicitDefEqProofs [hof, hve, fSk, hk, t1, t2, hs, hd, splice, z1, h3, i3, j3, q1, q2, q3, q3a, q3b, q4, q5, q6, q7, q8, q9, q10, q11, q12, m1, m2, m3, m4, m5, m6, m7, m8, m9, m10, m11, m12, m13, m14, a0, b0, hKe, hX, hX2, hF, tX, tY, hgk, r1, r2, r3, r4, r5, r6, r7, r8, ewC, ewM, fELay, appE, asB8_nil'', asB8_cons'', IntKind.bits, Nat.testBit_eq_decide_div_mod_eq]
    all_goals exact ⟨by omega, rfl⟩
  · have hgk := hgm 8 (by decide) (by decide)
    have hK := eskV_range (v6 := false) hgk.2.2.2.2.1 bs bd
    have hk : kdK false false = 8 := rfl
    generalize hKe : skV false ss ds (8 :: 0 :: 0 :: 0 :: X) = K at *
    have r1 : K.fdiv 256 = K / 256 := Int.fdiv_eq_ediv_of_nonneg _ (by omega)
    have r2 : K.tdiv 256 = K / 256 := Int.tdiv_eq_ediv_of_nonneg (by omega)
    have r3 : K.tmod 256 = K % 256 := Int.tmod_eq_emod_of_nonneg (by omega)
    have r4 : IntKind.u8.wrap (K / 256) = K / 256 := wrapu8_id (by omega) (by omega)
    have r5 : IntKind.u8.wrap (K % 256) = K % 256 := wrapu8_id (by omega) (by omega)
    have r6 : IntKind.u8.wrap K = K % 256 := by simp [IntKind.wrap, IntKind.signed, IntKind.bits]
    have r7 : IntKind.u16.wrap (K / 256) = K / 256 := wrapu16_id (by omega) (by omega)
    have r8 : IntKind.u16.wrap (K % 256) = K % 256 := wrapu16_id (by omega) (by omega)
    simp -implicitDefEqProofs [hof, hve, fSk, hk, t1, t2, hs, hd, splice, z1, h3, i3, j3, q1, q2, q3, q3a, q3b, q4, q5, q6, q7, q8, q9, q10, q11, q12, m1, m2, m3, m4, m5, m6, m7, m8, m9, m10, m11, m12, m13, m14, a0, b0, hKe, hX, hX2, hF, tX, tY, hgk, r1, r2, r3, r4, r5, r6, r7, r8, ewC, ewM, fELay, appE, asB8_nil'', asB8_cons'', IntKind.bits, Nat.testBit_eq_decide_div_mod_eq]
    all_goals exact ⟨by omega, rfl⟩
set_option maxHeartbeats 32000000 in
theorem arwrite_run (v6 : Bool) (ss ds : List Int) (re : Bool) (id nu : Int) (ps : List Int) (nn : Bool) (cap : Option Nat) (hg : goodE id nu ss ds ps ps.length) : runF Try.prog KAW Dm 100000 1 41 [.v (.bool v6), .agg (B8 ss), .agg (B8 ds), .agg [.v (.bool re), .v (.int .u16 id), .v (.int .u16 nu), .sl nn (B8 ps) ps.length cap]] = some (ewV v6 ss ds re id nu ps) := by
  obtain ⟨_, hl, hs, hd, hz, bs, bd, a0, a1, b0, b1⟩ := hg
  have t1 : ss.take 16 = ss := List.take_of_length_le (by omega)
  have t2 : ds.take 16 = ds := List.take_of_length_le (by omega)
  have z1 : IntKind.i64.wrap (8 + (ps.length : Int)) = 8 + (ps.length : Int) := wrap64_id (by omega) (by omega)
  unfold runF ewV
  rw [pvCall_own (fn := Try.f41) rfl Try.func41 rfl (by decide) rfl rfl (by simp)]
  by_cases h3 : 1652 < ps.length
  · have i3 : (1660 : Int) < 8 + (ps.length : Int) := by omega
    have j3 : (1652 : Int) < (ps.length : Int) := by omega
    simp -implicitDefEqProofs [t1, t2, hs, hd, ewE, splice, z1, h3, i3, j3]
  have i3 : ¬ (1660 : Int) < 8 + (ps.length : Int) := by omega
  have j3 : ¬ (1652 : Int) < (ps.length : Int) := by omega
  have q1 : (ewX id nu ps).length = 4 + ps.length := by simp [ewX]; omega
  have q2 : bytesB (ewX id nu ps) = true := by
    unfold ewX
    simp only [bytesB_cons, hz, Bool.and_true, Bool.and_eq_true, decide_eq_true_eq]
    omega
  have q3 : ps.length ≤ 549755813888 := by omega
  have q3a : ps.length ≤ 549755813884 := by omega
  have q3b : ps.length ≤ 549755813880 := by omega
  have q4 : 4 + ps.length ≤ 549755813888 := by omega
  have q5 : 4 + 4 + ps.length ≤ 549755813888 := by omega
  have q6 : 8 + ps.length ≤ 549755813888 := by omega
  have q7 : 4 + (4 + ps.length) ≤ 549755813888 := by omega
  have q8 : ps.take ps.length = ps := List.take_length
  have q9 : (ewX id nu ps).take (4 + ps.length) = ewX id nu ps := List.take_of_length_le (by omega)
  have m1 : id / 256 % 256 = id / 256 := by omega
  have m2 : nu / 256 % 256 = nu / 256 := by omega
  have m3 : id.fdiv 256 = id / 256 := Int.fdiv_eq_ediv_of_nonneg _ (by omega)
  have m4 : nu.fdiv 256 = nu / 256 := Int.fdiv_eq_ediv_of_nonneg _ (by omega)
  have m5 : IntKind.u8.wrap (id / 256) = id / 256 := wrapu8_id (by omega) (by omega)
  have m6 : IntKind.u8.wrap (nu / 256) = nu / 256 := wrapu8_id (by omega) (by omega)
  have m7 : IntKind.u8.wrap id = id % 256 := by simp [IntKind.wrap, IntKind.signed, IntKind.bits]
  have m8 : IntKind.u8.wrap nu = nu % 256 := by simp [IntKind.wrap, IntKind.signed, IntKind.bits]
  have m9 : IntKind.u32.wrap id = id := wrapu32_id (by omega) (by omega)
  have m10 : IntKind.u32.wrap nu = nu := wrapu32_id (by omega) (by omega)
  have m11 : IntKind.u16.wrap (id / 256) = id / 256 := wrapu16_id (by omega) (by omega)
  have m12 : IntKind.u16.wrap (nu / 256) = nu / 256 := wrapu16_id (by omega) (by omega)
  have m13 : id < 4294967296 := by omega
  have m14 : nu < 4294967296 := by omega
  have hF : AV.v (.int .u8 (id / 256)) :: AV.v (.int .u8 (id % 256)) :: AV.v (.int .u8 (nu / 256)) :: AV.v (.int .u8 (nu % 256)) :: B8 ps = B8 (ewX id nu ps) := rfl
  have hX : [id / 256, id % 256, nu / 256, nu % 256] ++ ps = ewX id nu ps := rfl
  have hX2 : id / 256 :: id % 256 :: nu / 256 :: nu % 256 :: ps = ewX id nu ps := rfl
  generalize ewX id nu ps = X at *
  have q10 : 4 + (4 + ps.length) = 8 + ps.length := by omega
  have q11 : (2 : Int) < 8 + (ps.length : Int) := by omega
  have q12 : (3 : Int) < 8 + (ps.length : Int) := by omega
  have tX : ∀ a b c d : AV, (a :: b :: c :: d :: B8 X).take (8 + ps.length) = a :: b :: c :: d :: B8 X := fun _ _ _ _ => List.take_of_length_le (by simp [q1]; omega)
  have tY : ∀ a b c d : AV, (a :: b :: c :: d :: B8 ps).take (4 + ps.length) = a :: b :: c :: d :: B8 ps := fun _ _ _ _ => List.take_of_length_le (by simp; omega)
  have hgm : ∀ k : Int, 0 ≤ k → k ≤ 255 → goodM ss ds (k :: 0 :: 0 :: 0 :: X) (8 + ps.length) := fun k k0 k1 => ⟨by simp [q1]; omega, by omega, hs, hd, by simp only [bytesB_cons, q2]; simp [k0, k1], bs, bd⟩
  obtain rfl | rfl : v6 = true ∨ v6 = false := by cases v6 <;> simp
  all_goals obtain rfl | rfl : re = true ∨ re = false := by cases re <;> simp
  · have hgk := hgm 129 (by decide) (by decide)
    have hK := eskV_range (v6 := true) hgk.2.2.2.2.1 bs bd
    have hk : kdK true true = 129 := rfl
    generalize hKe : skV true ss ds (129 :: 0 :: 0 :: 0 :: X) = K at *
    have r1 : K.fdiv 256 = K / 256 := Int.fdiv_eq_ediv_of_nonneg _ (by omega)
    have r2 : K.tdiv 256 = K / 256 := Int.tdiv_eq_ediv_of_nonneg (by omega)
    have r3 : K.tmod 256 = K % 256 := Int.tmod_eq_emod_of_nonneg (by omega)
    have r4 : IntKind.u8.wrap (K / 256) = K / 256 := wrapu8_id (by omega) (by omega)
    have r5 : IntKind.u8.wrap (K % 256) = K % 256 := wrapu8_id (by omega) (by omega)
    have r6 : IntKind.u8.wrap K = K % 256 := by simp [IntKind.wrap, IntKind.signed, IntKind.bits]
    have r7 : IntKind.u16.wrap (K / 256) = K / 256 := wrapu16_id (by omega) (by omega)
    have r8 : IntKind.u16.wrap (K % 256) = K % 256 := wrapu16_id (by omega) (by omega)
    simp -implicitDefEqProofs [fSk, hk, t1, t2, hs, hd, splice, z1, h3, i3, j3, q1, q2, q3, q3a, q3b, q4, q5, q6, q7, q8, q9, q10, q11, q12, m1, m2, m3, m4, m5, m6, m7, m8, m9, m10, m11, m12, m13, m14, a0, b0, hKe, hX, hX2, hF, tX, tY, hgk, r1, r2, r3, r4, r5, r6, r7, r8, ewC, ewM, fELay, appE, asB8_nil'', asB8_cons'', IntKind.bits, Nat.testBit_eq_decide_div_mod_eq]
    all_goals exact ⟨by omega, rfl⟩
  · have hgk := hgm 128 (by decide) (by decide)
    have hK := eskV_range (v6 := true) hgk.2.2.2.2.1 bs bd
    have hk : kdK true false = 128 := rfl
    generalize hKe : skV true ss ds (128 :: 0 :: 0 :: 0 :: X) = K at *
    have r1 : K.fdiv 256 = K / 256 := Int.fdiv_eq_ediv_of_nonneg _ (by omega)
    have r2 : K.tdiv 256 = K / 256 := Int.tdiv_eq_ediv_of_nonneg (by omega)
    have r3 : K.tmod 256 = K % 256 := Int.tmod_eq_emod_of_nonneg (by omega)
    have r4 : IntKind.u8.wrap (K / 256) = K / 256 := wrapu8_id (by omega) (by omega)
    have r5 : IntKind.u8.wrap (K % 256) = K % 256 := wrapu8_id (by omega) (by omega)
    have r6 : IntKind.u8.wrap K = K % 256 := by simp [IntKind.wrap, IntKind.signed, IntKind.bits]
    have r7 : IntKind.u16.wrap (K / 256) = K / 256 := wrapu16_id (by omega) (by omega)
    have r8 : IntKind.u16.wrap (K % 256) = K % 256 := wrapu16_id (by omega) (by omega)
    simp -implicitDefEqProofs [fSk, hk, t1, t2, hs, hd, splice, z1, h3, i3, j3, q1, q2, q3, q3a, q3b, q4, q5, q6, q7, q8, q9, q10, q11, q12, m1, m2, m3, m4, m5, m6, m7, m8, m9, m10, m11, m12, m13, m14, a0, b0, hKe, hX, hX2, hF, tX, tY, hgk, r1, r2, r3, r4, r5, r6, r7, r8, ewC, ewM, fELay, appE, asB8_nil'', asB8_cons'', IntKind.bits, Nat.testBit_eq_decide_div_mod_eq]
    all_goals exact ⟨by omega, rfl⟩
  · have hgk := hgm 0 (by decide) (by decide)
    have hK := eskV_range (v6 := false) hgk.2.2.2.2.1 bs bd
    have hk : kdK false true = 0 := rfl
    generalize hKe : skV false ss ds (0 :: 0 :: 0 :: 0 :: X) = K at *
    have r1 : K.fdiv 256 = K / 256 := Int.fdiv_eq_ediv_of_nonneg _ (by omega)
    have r2 : K.tdiv 256 = K / 256 := Int.tdiv_eq_ediv_of_nonneg (by omega)
    have r3 : K.tmod 256 = K % 256 := Int.tmod_eq_emod_of_nonneg (by omega)
    have r4 : IntKind.u8.wrap (K / 256) = K / 256 := wrapu8_id (by omega) (by omega)
    have r5 : IntKind.u8.wrap (K % 256) = K % 256 := wrapu8_id (by omega) (by omega)
    have r6 : IntKind.u8.wrap K = K % 256 := by simp [IntKind.wrap, IntKind.signed, IntKind.bits]
    have r7 : IntKind.u16.wrap (K / 256) = K / 256 := wrapu16_id (by omega) (by omega)
    have r8 : IntKind.u16.wrap (K % 256) = K % 256 := wrapu16_id (by omega) (by omega)
    simp -implicitDefEqProofs [fSk, hk, t1, t2, hs, hd, splice, z1, h3, i3, j3, q1, q2, q3, q3a, q3b, q4, q5, q6, q7, q8, q9, q10, q11, q12, m1, m2, m3, m4, m5, m6, m7, m8, m9, m10, m11, m12, m13, m14, a0, b0, hKe, hX, hX2, hF, tX, tY, hgk, r1, r2, r3, r4, r5, r6, r7, r8, ewC, ewM, fELay, appE, asB8_nil'', asB8_cons'', IntKind.bits, Nat.testBit_eq_decide_div_mod_eq]
    all_goals exact ⟨by omega, rfl⟩
  · have hgk := hgm 8 (by decide) (by decide)
    have hK := eskV_range (v6 := false) hgk.2.2.2.2.1 bs bd
    have hk : kdK false false = 8 := rfl
    generalize hKe : skV false ss ds (8 :: 0 :: 0 :: 0 :: X) = K at *
    have r1 : K.fdiv 256 = K / 256 := Int.fdiv_eq_ediv_of_nonneg _ (by omega)
    have r2 : K.tdiv 256 = K / 256 := Int.tdiv_eq_ediv_of_nonneg (by omega)
    have r3 : K.tmod 256 = K % 256 := Int.tmod_eq_emod_of_nonneg (by omega)
    have r4 : IntKind.u8.wrap (K / 256) = K / 256 := wrapu8_id (by omega) (by omega)
    have r5 : IntKind.u8.wrap (K % 256) = K % 256 := wrapu8_id (by omega) (by omega)
    have r6 : IntKind.u8.wrap K = K % 256 := by simp [IntKind.wrap, IntKind.signed, IntKind.bits]
    have r7 : IntKind.u16.wrap (K / 256) = K / 256 := wrapu16_id (by omega) (by omega)
    have r8 : IntKind.u16.wrap (K % 256) = K % 256 := wrapu16_id (by omega) (by omega)
    simp -implicitDefEqProofs [fSk, hk, t1, t2, hs, hd, splice, z1, h3, i3, j3, q1, q2, q3, q3a, q3b, q4, q5, q6, q7, q8, q9, q10, q11, q12, m1, m2, m3, m4, m5, m6, m7, m8, m9, m10, m11, m12, m13, m14, a0, b0, hKe, hX, hX2, hF, tX, tY, hgk, r1, r2, r3, r4, r5, r6, r7, r8, ewC, ewM, fELay, appE, asB8_nil'', asB8_cons'', IntKind.bits, Nat.testBit_eq_decide_div_mod_eq]
    all_goals exact ⟨by omega, rfl⟩
theorem awrite_pure : Pure Try.prog 40 fAWrite := (runF_pure kaw_ok follows_mixed dm_ok 100000 3 40).weaken fun args r h => by
  unfold fAWrite at h
  split at h
  · rename_i v6 a b re id nu nn d len cap
    obtain ⟨ss, e1, h1⟩ := Option.bind_eq_some_iff.1 h
    obtain ⟨ds, e2, h2⟩ := Option.bind_eq_some_iff.1 h1
    obtain ⟨ps, e4, he⟩ := Option.bind_eq_some_iff.1 h2
    clear h h1 h2
    split at he
    case isFalse => cases he
    rename_i hh
    obtain rfl := hh.1
    obtain rfl := asB8_eq e1
    obtain rfl := asB8_eq e2
    obtain rfl := asB8_eq e4
    rw [← he]
    exact awrite_run v6 ss ds re id nu ps nn cap hh
  · cases h
theorem arwrite_pure : Pure Try.prog 41 fAWrite := (runF_pure kaw_ok follows_mixed dm_ok 100000 1 41).weaken fun args r h => by
  unfold fAWrite at h
  split at h
  · rename_i v6 a b re id nu nn d len cap
    obtain ⟨ss, e1, h1⟩ := Option.bind_eq_some_iff.1 h
    obtain ⟨ds, e2, h2⟩ := Option.bind_eq_some_iff.1 h1
    obtain ⟨ps, e4, he⟩ := Option.bind_eq_some_iff.1 h2
    clear h h1 h2
    split at he
    case isFalse => cases he
    rename_i hh
    obtain rfl := hh.1
    obtain rfl := asB8_eq e1
    obtain rfl := asB8_eq e2
    obtain rfl := asB8_eq e4
    rw [← he]
    exact arwrite_run v6 ss ds re id nu ps nn cap hh
  · cases h
end Go.Proofs.Ytmdafjegddnecaa
